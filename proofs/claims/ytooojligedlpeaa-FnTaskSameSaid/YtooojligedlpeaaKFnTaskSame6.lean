-- Written by pack.py (ours): the claim's texts, cut down to what its theorem reaches.
import Derived.Test.YtooojligedlpeaaKFnTaskSame5
section
namespace Go.Proofs.Ytooojligedlpeaa.G
open Go.RowKit Go.Proofs.YtooojligedlpeaaW.PrintWords Go.Proofs.YtooojligedlpeaaW.PrintLast Go.Proofs.YtooojligedlpeaaW.PrintMore
attribute [local go_sem] max2_int min2_int max_two min_two max_three min_three max_four min_four
set_option linter.unusedVariables false
set_option linter.unusedSimpArgs false
def spec_l2Has.l0 : Nat → List Int → Int → Int → Option (Bool)
  | 0, _, _, _ => none
  | k + 1, x0, x1, x5 => if x5 < (x0.length : Int) then (if 0 ≤ x5 then (if (rd x0 x5) = x1 then (some true) else (spec_l2Has.l0 k x0 x1 (wrap64 (x5 + 1)))) else (none)) else (some false)
def spec_l2Has.f (k : Nat) (l0 : List Int) (a1 : Int) : Option (Bool) := spec_l2Has.l0 k l0 a1 0
set_option maxHeartbeats 8000000 in
set_option maxRecDepth 100000 in
theorem spec_l2Has.calls (k : Nat) (A0 : Option Addr) (c0 : Nat) (l0 : List Int) (a1 : Int) (r : Bool) (w : World) (hr0 : Kd.C (Kd.int .i64) w A0 l0.length l0) (hc0 : l0.length ≤ c0) (h : spec_l2Has.f k l0 a1 = some r) :
    Calls Try.prog 118 #[.slice A0 l0.length c0, .int .i64 a1] w fun e w' => e = .returned (.bool r) ∧ Drawn0 w w' := by
  have HR0 := Aside0.mk hr0
  have HC0 := Aside0.mk hc0
  clear hr0 hc0
  have H : (spec_l2Has.l0 k l0 a1 0) = some r := h
  clear h
  have H' := Aside0.mk H
  clear H
  go_enter Try.func118, Try.ntmps118
  go_wp2
  go_loopg [5] k (fun kq v5 w' => ∃ (x5_1 : Int), v5 = .int .i64 x5_1 ∧ Aside0 (spec_l2Has.l0 kq l0 a1 x5_1 = some r) ∧ Aside0 (kq ≤ k) ∧ Drawn0 w w')
  case atStart => exact ⟨(0), (by first | rfl | (simp; done) | (simp [*]; done)), H', ⟨Nat.le_refl _⟩, by repeat (first | exact Drawn0.refl _ | apply Drawn0.step)⟩
  case round =>
    clear H'
    try clear c1
    try clear p2
    obtain ⟨x5_1, rfl, HA, HK1, ⟨m1, rfl⟩⟩ := hrel
    cases gk with
    | zero => exact absurd HA.out (by simp [spec_l2Has.l0])
    | succ k1 =>
      have H := HA.out
      clear HA
      simp only [spec_l2Has.l0] at H
      by_cases c3 : x5_1 < (l0.length : Int)
      · rw [if_pos c3] at H
        have c3b0 : decide (x5_1 < (l0.length : Int)) = true := decide_eq_true c3
        clear c3
        by_cases c4 : 0 ≤ x5_1
        · rw [if_pos c4] at H
          have c4b0 : decide (0 ≤ x5_1) = true := decide_eq_true c4
          clear c4
          by_cases c5 : (rd l0 x5_1) = a1
          · rw [if_pos c5] at H
            have c5b0 : ((rd l0 x5_1) == a1) = true := beq_iff_eq.mpr c5
            have c5b1 : ((rd l0 x5_1) != a1) = false := bne_eq_false_iff_eq.mpr c5
            clear c5
            obtain rfl := Option.some.inj H
            have p547 : 0 ≤ (x5_1 : Int) := of_decide_eq_true (by first | (with_reducible assumption) | assumption)
            have q547 : x5_1 < (l0.length : Int) := of_decide_eq_true (by first | (with_reducible assumption) | assumption)
            obtain ⟨ad547, e547, hx547_0⟩ := Kd.at_int HR0.out x5_1 p547 q547
            cases e547
            replace p547 := eq_true p547
            replace q547 := eq_true q547
            go_wp2
            go_ret
            exact ⟨by first | rfl | (simp; done) | (simp [*]; done), by repeat (first | exact Drawn0.refl _ | apply Drawn0.step)⟩
          · rw [if_neg c5] at H
            have c5b0 : ((rd l0 x5_1) == a1) = false := beq_eq_false_iff_ne.mpr c5
            have c5b1 : ((rd l0 x5_1) != a1) = true := bne_iff_ne.mpr c5
            have H' := Aside0.mk H
            clear H
            have p547 : 0 ≤ (x5_1 : Int) := of_decide_eq_true (by first | (with_reducible assumption) | assumption)
            have q547 : x5_1 < (l0.length : Int) := of_decide_eq_true (by first | (with_reducible assumption) | assumption)
            obtain ⟨ad547, e547, hx547_0⟩ := Kd.at_int HR0.out x5_1 p547 q547
            cases e547
            replace p547 := eq_true p547
            replace q547 := eq_true q547
            go_wp2
            go_roundg k1
            case measure => have := HK1.out; omega
            case rel => exact ⟨(wrap64 (x5_1 + 1)), (by first | rfl | (simp; done) | (simp [*]; done)), H', ⟨by have := HK1.out; omega⟩, by repeat (first | exact Drawn0.refl _ | apply Drawn0.step)⟩
        · rw [if_neg c4] at H
          exact absurd H (by simp)
      · rw [if_neg c3] at H
        have c3b0 : decide (x5_1 < (l0.length : Int)) = false := decide_eq_false c3
        clear c3
        obtain rfl := Option.some.inj H
        go_wp2
        go_ret
        exact ⟨by first | rfl | (simp; done) | (simp [*]; done), by repeat (first | exact Drawn0.refl _ | apply Drawn0.step)⟩
def spec_l2Uses.l0 : Nat → List (S49) → List Int → Int → Option (List Int)
  | 0, _, _, _ => none
  | k + 1, x0, x3, x4 => if x4 < (x0.length : Int) then (if 0 ≤ x4 then ((spec_l2Has.f k x3 ((rd_T49 x0 x4).f0)).bind fun t552 => (if t552 = true then (spec_l2Uses.l0 k x0 x3 (wrap64 (x4 + 1))) else (if x3.length < 17592186044416 then (spec_l2Uses.l0 k x0 (x3 ++ [(rd_T49 x0 x4).f0]) (wrap64 (x4 + 1))) else (none)))) else (none)) else (some x3)
def spec_l2Uses.f (k : Nat) (l0 : List (S49)) : Option (List Int) := spec_l2Uses.l0 k l0 (([] : List Int)) 0
set_option maxHeartbeats 8000000 in
set_option maxRecDepth 100000 in
theorem spec_l2Uses.calls (k : Nat) (A0 : Option Addr) (c0 : Nat) (l0 : List (S49)) (r : List Int) (w : World) (hr0 : Kd.C k49 w A0 l0.length l0) (hc0 : l0.length ≤ c0) (h : spec_l2Uses.f k l0 = some r) :
    Calls Try.prog 83 #[.slice A0 l0.length c0] w fun e w' => ∃ v0_ : Value, e = .returned (v0_) ∧ Kd.R (Kd.int .i64) 3 w' w.heap.size (fun _ => True) v0_ r ∧ Below w.heap.size w w' := by
  have HR0 := Aside0.mk hr0
  have HC0 := Aside0.mk hc0
  clear hr0 hc0
  have HB := Aside0.mk (Below.refl w.heap.size w)
  have H : (spec_l2Uses.l0 k l0 (([] : List Int)) 0) = some r := h
  clear h
  obtain ⟨y548, hy548⟩ : ∃ y_ : List Int, y_ = (([] : List Int)) := ⟨_, rfl⟩
  replace H : (spec_l2Uses.l0 k l0 y548 0) = some r := by first | (rw [hy548]; with_reducible exact H) | (have H2_ := (Option.bind_some _ _).symm.trans H; rw [hy548]; with_reducible exact H2_) | (have H2_ := (Option.bind_some _ _).symm.trans H; with_reducible exact H2_) | with_reducible exact H | (rw [hy548]; exact H) | exact H
  have Ny548 := Aside0.mk hy548
  clear hy548
  have H' := Aside0.mk H
  clear H
  go_enter Try.func83, Try.ntmps83
  go_wp2_with (first | ((with_reducible refine gate_dst (N := 5) rfl ?_); refine Kd.R_lit (Kd.int .i64) _ 3 ?hg (N := 5) ?hd (xs := ([] : List Int)) (inner := []) (ok := fun _ => True) (okp := fun _ => True) ?hr ?hp (fun _ hk => hk) trivial (Below.refl _ _) (Nat.le_refl _) (by simp) ?_; (case hd => rfl); (case hg => rfl); (case hr => first | (go_simp; done) | (go_simp; rfl)); (case hp => exact (Reps.none _ _)); intro v549 w2 ho3 hb hg_ hnew_; clear hg_ hnew_; (first | rw [← Ny548.out] at ho3 | (simp only [Int.reduceToNat] at ho3; rw [← Ny548.out] at ho3)); have n0_ := Aside0.mk (Kd.R_lower ho3 (below_size (by repeat (first | (with_reducible first | exact HB.out | apply below_alloc | apply pw_below_drewN | apply below_drew1) | exact HB.out)))); have n1_ := Aside0.mk (below_step (by repeat (first | (with_reducible first | exact HB.out | apply below_alloc | apply pw_below_drewN | apply below_drew1) | exact HB.out)) hb); clear HB; have HO550 := n0_; have HB := n1_; clear n0_ n1_; clear hb ho3))
  go_loopg [3, 4] k (fun kq v3 v4 w' => ∃ (x3_1 : List Int) (x4_1 : Int), v4 = .int .i64 x4_1 ∧ Aside0 (spec_l2Uses.l0 kq l0 x3_1 x4_1 = some r) ∧ Aside0 (kq ≤ k) ∧ Aside0 (Kd.R (Kd.int .i64) 3 w' w.heap.size (fun _ => True) v3 x3_1) ∧ Aside0 (Below w.heap.size w w'))
  case atStart => exact ⟨(y548), (0), (by first | rfl | (simp; done) | (simp [*]; done)), H', ⟨Nat.le_refl _⟩, ⟨by (with_reducible repeat (first | apply Kd.R_alloc | apply Kd.R_drewN | apply Kd.R_drew)); exact HO550.out⟩, ⟨by repeat (first | (with_reducible first | exact HB.out | apply below_alloc | apply pw_below_drewN | apply below_drew1) | exact HB.out)⟩⟩
  case round =>
    clear H'
    try clear p2
    obtain ⟨x3_1, x4_1, rfl, HA, HK1, HO_3, HB⟩ := hrel
    cases gk with
    | zero => exact absurd HA.out (by simp [spec_l2Uses.l0])
    | succ k1 =>
      have H := HA.out
      clear HA
      simp only [spec_l2Uses.l0] at H
      by_cases c4 : x4_1 < (l0.length : Int)
      · rw [if_pos c4] at H
        have c4b0 : decide (x4_1 < (l0.length : Int)) = true := decide_eq_true c4
        clear c4
        by_cases c5 : 0 ≤ x4_1
        · rw [if_pos c5] at H
          have c5b0 : decide (0 ≤ x4_1) = true := decide_eq_true c5
          clear c5
          replace H := Option.bind_eq_some_iff.mp H
          obtain ⟨t552, A60, H⟩ := H
          replace H : (if t552 = true then (spec_l2Uses.l0 k1 l0 x3_1 (wrap64 (x4_1 + 1))) else (if x3_1.length < 17592186044416 then (spec_l2Uses.l0 k1 l0 (x3_1 ++ [(rd_T49 l0 x4_1).f0]) (wrap64 (x4_1 + 1))) else (none))) = some r := H
          have A6 := Aside0.mk A60
          clear A60
          by_cases c7 : t552 = true
          · subst c7
            have H1 : (spec_l2Uses.l0 k1 l0 x3_1 (wrap64 (x4_1 + 1))) = some r := by rw [if_pos rfl] at H; exact H
            clear H
            have H := H1
            clear H1
            have H' := Aside0.mk H
            clear H
            have p551 : 0 ≤ (x4_1 : Int) := of_decide_eq_true (by first | (with_reducible assumption) | assumption)
            have q551 : x4_1 < (l0.length : Int) := of_decide_eq_true (by first | (with_reducible assumption) | assumption)
            obtain ⟨ad551, e551, hx551_0, hx551_1⟩ := at_T49 HR0.out x4_1 p551 q551
            cases e551
            replace hx551_0 := (HB.out.cell (World.block_lt_of_cell? w _ hx551_0)).trans hx551_0
            replace hx551_1 := (HB.out.cell (World.block_lt_of_cell? w _ hx551_1)).trans hx551_1
            replace p551 := eq_true p551
            replace q551 := eq_true q551
            obtain ⟨Ao8, co8, eo8⟩ := Kd.R_slice HO_3.out
            subst eo8
            go_wp2_with (first | ((with_reducible refine gate_callee (f := 118) rfl ?_); refine goesL_ (some 18) rfl rfl Try.func118 (by kernel_rfl) rfl #[.slice Ao8 x3_1.length co8, .int .i64 ((rd_T49 l0 x4_1).f0)] rfl (by (try simp only [List.map_toArray, List.map_cons, List.map_nil]); first | done | rfl | (simp only [List.length_drop, List.length_take]; rfl)) ?_; (with_reducible refine (spec_l2Has.calls k1 _ _ x3_1 ((rd_T49 l0 x4_1).f0) true _ ?side1 ?side2 A6.out).mono ?_); (case side1 => repeat (first | exact (Kd.R_reads' HO_3.out).2.2 | (with_reducible refine Kd.C_alloc ?_ _) | (with_reducible refine Kd.C_drewN ?_ _) | (with_reducible refine Kd.C_drew ?_))); (case side2 => exact (Kd.R_reads' HO_3.out).2.1); rintro e w' ⟨rfl, ⟨nd, rfl⟩⟩; refine ⟨_, rfl, ?_⟩))
            go_roundg k1
            case measure => have := HK1.out; omega
            case rel => exact ⟨(x3_1), (wrap64 (x4_1 + 1)), (by first | rfl | (simp; done) | (simp [*]; done)), H', ⟨by have := HK1.out; omega⟩, ⟨by (with_reducible repeat (first | apply Kd.R_alloc | apply Kd.R_drewN | apply Kd.R_drew)); exact HO_3.out⟩, ⟨by repeat (first | (with_reducible first | exact HB.out | apply below_alloc | apply pw_below_drewN | apply below_drew1) | exact HB.out)⟩⟩
          · replace c7 := Bool.eq_false_iff.mpr c7
            subst c7
            have H1 : (if x3_1.length < 17592186044416 then (spec_l2Uses.l0 k1 l0 (x3_1 ++ [(rd_T49 l0 x4_1).f0]) (wrap64 (x4_1 + 1))) else (none)) = some r := by rw [if_neg (show ¬ (false = true) by decide)] at H; exact H
            clear H
            have H := H1
            clear H1
            by_cases c9 : x3_1.length < 17592186044416
            · rw [if_pos c9] at H
              have LMc9 := Aside0.mk c9
              clear c9
              obtain ⟨y554, hy554⟩ : ∃ y_ : List Int, y_ = (x3_1 ++ [(rd_T49 l0 x4_1).f0]) := ⟨_, rfl⟩
              replace H : (spec_l2Uses.l0 k1 l0 y554 (wrap64 (x4_1 + 1))) = some r := by first | (rw [hy554]; with_reducible exact H) | (have H2_ := (Option.bind_some _ _).symm.trans H; rw [hy554]; with_reducible exact H2_) | (have H2_ := (Option.bind_some _ _).symm.trans H; with_reducible exact H2_) | with_reducible exact H | (rw [hy554]; exact H) | exact H
              have Ny554 := Aside0.mk hy554
              clear hy554
              have H' := Aside0.mk H
              clear H
              have p551 : 0 ≤ (x4_1 : Int) := of_decide_eq_true (by first | (with_reducible assumption) | assumption)
              have q551 : x4_1 < (l0.length : Int) := of_decide_eq_true (by first | (with_reducible assumption) | assumption)
              obtain ⟨ad551, e551, hx551_0, hx551_1⟩ := at_T49 HR0.out x4_1 p551 q551
              cases e551
              replace hx551_0 := (HB.out.cell (World.block_lt_of_cell? w _ hx551_0)).trans hx551_0
              replace hx551_1 := (HB.out.cell (World.block_lt_of_cell? w _ hx551_1)).trans hx551_1
              replace p551 := eq_true p551
              replace q551 := eq_true q551
              obtain ⟨Ao10, co10, eo10⟩ := Kd.R_slice HO_3.out
              subst eo10
              go_wp2_with (first | ((with_reducible refine gate_callee (f := 118) rfl ?_); refine goesL_ (some 18) rfl rfl Try.func118 (by kernel_rfl) rfl #[.slice Ao10 x3_1.length co10, .int .i64 ((rd_T49 l0 x4_1).f0)] rfl (by (try simp only [List.map_toArray, List.map_cons, List.map_nil]); first | done | rfl | (simp only [List.length_drop, List.length_take]; rfl)) ?_; (with_reducible refine (spec_l2Has.calls k1 _ _ x3_1 ((rd_T49 l0 x4_1).f0) false _ ?side1 ?side2 A6.out).mono ?_); (case side1 => repeat (first | exact (Kd.R_reads' HO_3.out).2.2 | (with_reducible refine Kd.C_alloc ?_ _) | (with_reducible refine Kd.C_drewN ?_ _) | (with_reducible refine Kd.C_drew ?_))); (case side2 => exact (Kd.R_reads' HO_3.out).2.1); rintro e w' ⟨rfl, ⟨nd, rfl⟩⟩; refine ⟨_, rfl, ?_⟩; have p553 : 0 ≤ (x4_1 : Int) := of_decide_eq_true (by first | (with_reducible assumption) | assumption); have q553 : x4_1 < (l0.length : Int) := of_decide_eq_true (by first | (with_reducible assumption) | assumption); obtain ⟨ad553, e553, hx553_0, hx553_1⟩ := at_T49 HR0.out x4_1 p553 q553; obtain rfl : ad551 = ad553 := (by injection e553); replace hx553_0 := (HB.out.cell (World.block_lt_of_cell? w _ hx553_0)).trans hx553_0; replace hx553_1 := (HB.out.cell (World.block_lt_of_cell? w _ hx553_1)).trans hx553_1; replace p553 := eq_true p553; replace q553 := eq_true q553) | ((with_reducible refine gate_builtin (b := .append) (xs := #[.tmp 20, .tmp 26]) rfl ?_); at_builtin; refine Kd.R_append (Kd.int .i64) (w0 := w) w.heap.size rfl (.tmp 20) (.tmp 26) 28 3 (.int .i64 0) 8 rfl Try.underlying28 info3 rfl (by decide) (by omega) (.slice Ao10 x3_1.length co10) x3_1 ((rd_T49 l0 x4_1).f0) [.int .i64 ((rd_T49 l0 x4_1).f0)] (fun _ => True) (fun _ => False) rfl rfl ?aP (fun _ hk => hk.elim) ?aF ?aO ?aB ?aS ?aL ?_; (case aP => exact rfl); (case aB => exact (by repeat (first | (with_reducible first | exact HB.out | apply below_alloc | apply pw_below_drewN | apply below_drew1) | exact HB.out))); (case aF => exact (fun _ _ => trivial)); (case aO => exact (by (with_reducible repeat (first | apply Kd.R_alloc | apply Kd.R_drewN | apply Kd.R_drew)); exact HO_3.out)); (case aS => exact (below_size (by repeat (first | (with_reducible first | exact HB.out | apply below_alloc | apply pw_below_drewN | apply below_drew1) | exact HB.out)))); (case aL => have := LMc9.out; omega); intro v555 w11 ho hb hg hat; rw [← Ny554.out] at ho; have n0_ := Aside0.mk (hb); have n1_ := Aside0.mk (ho); clear HB; clear HO_3; have HB := n0_; have HO556 := n1_; clear n0_ n1_; clear ho hb hg hat))
              go_roundg k1
              case measure => have := HK1.out; omega
              case rel => exact ⟨(y554), (wrap64 (x4_1 + 1)), (by first | rfl | (simp; done) | (simp [*]; done)), H', ⟨by have := HK1.out; omega⟩, ⟨by (with_reducible repeat (first | apply Kd.R_alloc | apply Kd.R_drewN | apply Kd.R_drew)); exact HO556.out⟩, ⟨by repeat (first | (with_reducible first | exact HB.out | apply below_alloc | apply pw_below_drewN | apply below_drew1) | exact HB.out)⟩⟩
            · rw [if_neg c9] at H
              exact absurd H (by simp)
        · rw [if_neg c5] at H
          exact absurd H (by simp)
      · rw [if_neg c4] at H
        have c4b0 : decide (x4_1 < (l0.length : Int)) = false := decide_eq_false c4
        clear c4
        obtain rfl := Option.some.inj H
        go_wp2
        go_ret
        exact ⟨_, by first | rfl | (simp [errW_none, errW_some] <;> rfl) | (simp [*, errW_none, errW_some] <;> rfl), by (with_reducible repeat (first | apply Kd.R_alloc | apply Kd.R_drewN | apply Kd.R_drew)); exact HO_3.out, by repeat (first | (with_reducible first | exact HB.out | apply below_alloc | apply pw_below_drewN | apply below_drew1) | exact HB.out)⟩
def spec_TaskUses.f (k : Nat) (a0_0 : Int) (a0_1 : Int) (l0_2 : List (S25)) (l1 : List Int) : Option (List Int × Bool) := (spec_TaskFetches.f k a0_0 a0_1 l0_2 l1).bind fun bt558 => ((spec_l2Uses.f k bt558.1).bind fun t562 => (some (t562, bt558.2)))
set_option maxHeartbeats 8000000 in
set_option maxRecDepth 100000 in
theorem spec_TaskUses.calls (k : Nat) (a0_0 : Int) (a0_1 : Int) (A0_2 : Option Addr) (c0_2 : Nat) (l0_2 : List (S25)) (A1 : Option Addr) (c1 : Nat) (l1 : List Int) (r1 : List Int) (r2 : Bool) (w : World) (hr0_2 : Kd.C k25 w A0_2 l0_2.length l0_2) (hc0_2 : l0_2.length ≤ c0_2) (hr1 : Kd.C (Kd.int .i64) w A1 l1.length l1) (hc1 : l1.length ≤ c1) (h : spec_TaskUses.f k a0_0 a0_1 l0_2 l1 = some (r1, r2)) :
    Calls Try.prog 39 #[.agg #[.int .i64 a0_0, .int .i64 a0_1, .slice A0_2 l0_2.length c0_2], .slice A1 l1.length c1] w fun e w' => ∃ v0_ : Value, e = .returned (.tuple #[v0_, .bool r2]) ∧ Kd.R (Kd.int .i64) 3 w' w.heap.size (fun _ => True) v0_ r1 ∧ Below w.heap.size w w' := by
  have hu25 := Try.underlying25
  have HR0_2 := Aside0.mk hr0_2
  have HC0_2 := Aside0.mk hc0_2
  clear hr0_2 hc0_2
  have HR1 := Aside0.mk hr1
  have HC1 := Aside0.mk hc1
  clear hr1 hc1
  have HB := Aside0.mk (Below.refl w.heap.size w)
  have H : ((spec_TaskFetches.f k a0_0 a0_1 l0_2 l1).bind fun bt558 => ((spec_l2Uses.f k bt558.1).bind fun t562 => (some (t562, bt558.2)))) = some (r1, r2) := h
  clear h
  replace H := Option.bind_eq_some_iff.mp H
  obtain ⟨⟨t558, t561⟩, A30, H⟩ := H
  replace H : ((spec_l2Uses.f k t558).bind fun t562 => (some (t562, t561))) = some (r1, r2) := H
  have A3 := Aside0.mk A30
  clear A30
  replace H := Option.bind_eq_some_iff.mp H
  obtain ⟨t562, A40, H⟩ := H
  replace H : (some (t562, t561)) = some (r1, r2) := H
  have A4 := Aside0.mk A40
  clear A40
  simp only [Option.some.injEq, Prod.mk.injEq] at H
  obtain ⟨rfl, rfl⟩ := H
  go_enter Try.func39, Try.ntmps39
  go_wp2_with (first | ((with_reducible refine gate_dst (N := 2) rfl ?_); refine box_event ?hg (N := 2) ?hd (cs := #[.int .i64 a0_0, .int .i64 a0_1, .slice A0_2 l0_2.length c0_2]) (t := 25) ?hr ?_; (case hd => rfl); (case hg => rfl); (case hr => first | (go_simp; done) | (go_simp; rfl)); intro gb557 hg w5 hbox hb; have n0_ := Aside0.mk (below_step (by repeat (first | (with_reducible first | exact HB.out | apply below_alloc | apply pw_below_drewN | apply below_drew1) | exact HB.out)) hb); have n1_ := Aside0.mk (hbox); have n2_ := Aside0.mk ((by rw [hg]; exact (below_size (by repeat (first | (with_reducible first | exact HB.out | apply below_alloc | apply pw_below_drewN | apply below_drew1) | exact HB.out))) : w.heap.size ≤ gb557)); have n3_ := Aside0.mk ((by rw [hg]; exact (below_size (by repeat (first | (with_reducible first | exact HB.out | apply below_alloc | apply pw_below_drewN | apply below_drew1) | exact HB.out))) : w.heap.size ≤ gb557)); clear HB; have HB := n0_; have BK557 := n1_; have GW557 := n2_; have GE557 := n3_; clear n0_ n1_ n2_ n3_; clear hb hbox hg; have hcz6_0 : w5.cell? ⟨gb557, 0, none⟩ = some (.int .i64 a0_0) := (blk_cell BK557.out 0).trans rfl; have hcz6_1 : w5.cell? ⟨gb557, 1, none⟩ = some (.int .i64 a0_1) := (blk_cell BK557.out 1).trans rfl; have hcz6_2 : w5.cell? ⟨gb557, 2, none⟩ = some (.slice A0_2 l0_2.length c0_2) := (blk_cell BK557.out 2).trans rfl; have hfz6_0 := blk_frozen BK557.out 0; have hfz6_1 := blk_frozen BK557.out 1; have hfz6_2 := blk_frozen BK557.out 2) | ((with_reducible refine gate_callee (f := 30) rfl ?_); refine goesL_ (some 11) rfl rfl Try.func30 (by kernel_rfl) rfl #[.agg #[.int .i64 a0_0, .int .i64 a0_1, .slice A0_2 l0_2.length c0_2], .slice A1 l1.length c1] rfl (by (try simp only [List.map_toArray, List.map_cons, List.map_nil]); first | done | rfl | (simp only [List.length_drop, List.length_take]; rfl)) ?_; (with_reducible refine (spec_TaskFetches.calls k a0_0 a0_1 _ _ l0_2 _ _ l1 t558 t561 _ ?side1 ?side2 ?side3 ?side4 A3.out).mono ?_); (case side1 => repeat (first | exact (Kd.C_below HR0_2.out HB.out) | (with_reducible refine Kd.C_alloc ?_ _) | (with_reducible refine Kd.C_drewN ?_ _) | (with_reducible refine Kd.C_drew ?_))); (case side2 => exact HC0_2.out); (case side3 => repeat (first | exact (Kd.C_below HR1.out HB.out) | (with_reducible refine Kd.C_alloc ?_ _) | (with_reducible refine Kd.C_drewN ?_ _) | (with_reducible refine Kd.C_drew ?_))); (case side4 => exact HC1.out); rintro e w7 ⟨v559, rfl, ho0, hb⟩; refine ⟨_, rfl, ?_⟩; have n0_ := Aside0.mk (Kd.R_lower ho0 (below_size (by repeat (first | (with_reducible first | exact HB.out | apply below_alloc | apply pw_below_drewN | apply below_drew1 | refine below_set ?_ GE557.out) | exact HB.out)))); have n1_ := Aside0.mk (blk_below (g := gb557) (o := .cells #[.int .i64 a0_0, .int .i64 a0_1, .slice A0_2 l0_2.length c0_2] 25 (0, 0)) (by (with_reducible repeat (first | refine blk_drewN ?_ _ | refine blk_drew ?_ | refine blk_alloc ?_ _)); exact BK557.out) hb); have n2_ := Aside0.mk (below_step (by repeat (first | (with_reducible first | exact HB.out | apply below_alloc | apply pw_below_drewN | apply below_drew1 | refine below_set ?_ GE557.out) | exact HB.out)) hb); clear BK557; clear HB; have HO560 := n0_; have BK557 := n1_; have HB := n2_; clear n0_ n1_ n2_; (try clear hb); (try clear hb2); (try clear hk); (try clear hi); (try clear ho0); obtain ⟨Ao8, co8, eo8⟩ := Kd.R_slice HO560.out; subst eo8) | ((with_reducible refine gate_callee (f := 83) rfl ?_); refine goesL_ (some 15) rfl rfl Try.func83 (by kernel_rfl) rfl #[.slice Ao8 t558.length co8] rfl (by (try simp only [List.map_toArray, List.map_cons, List.map_nil]); first | done | rfl | (simp only [List.length_drop, List.length_take]; rfl)) ?_; (with_reducible refine (spec_l2Uses.calls k _ _ t558 t562 _ ?side1 ?side2 A4.out).mono ?_); (case side1 => repeat (first | exact (Kd.R_reads' HO560.out).2.2 | (with_reducible refine Kd.C_alloc ?_ _) | (with_reducible refine Kd.C_drewN ?_ _) | (with_reducible refine Kd.C_drew ?_))); (case side2 => exact (Kd.R_reads' HO560.out).2.1); rintro e w9 ⟨v563, rfl, ho0, hb⟩; refine ⟨_, rfl, ?_⟩; have n0_ := Aside0.mk (Kd.R_below (by (with_reducible repeat (first | apply Kd.R_alloc | apply Kd.R_drewN | apply Kd.R_drew)); exact HO560.out) hb); have n1_ := Aside0.mk (Kd.R_lower ho0 (below_size (by repeat (first | (with_reducible first | exact HB.out | apply below_alloc | apply pw_below_drewN | apply below_drew1 | refine below_set ?_ GE557.out) | exact HB.out)))); have n2_ := Aside0.mk (blk_below (g := gb557) (o := .cells #[.int .i64 a0_0, .int .i64 a0_1, .slice A0_2 l0_2.length c0_2] 25 (0, 0)) (by (with_reducible repeat (first | refine blk_drewN ?_ _ | refine blk_drew ?_ | refine blk_alloc ?_ _)); exact BK557.out) hb); have n3_ := Aside0.mk (below_step (by repeat (first | (with_reducible first | exact HB.out | apply below_alloc | apply pw_below_drewN | apply below_drew1 | refine below_set ?_ GE557.out) | exact HB.out)) hb); clear HO560; clear BK557; clear HB; have HO560 := n0_; have HO564 := n1_; have BK557 := n2_; have HB := n3_; clear n0_ n1_ n2_ n3_; (try clear hb); (try clear hb2); (try clear hk); (try clear hi); (try clear ho0)))
  go_ret2
  exact ⟨_, by first | rfl | (simp [errW_none, errW_some] <;> rfl) | (simp [*, errW_none, errW_some] <;> rfl), by (with_reducible repeat (first | apply Kd.R_alloc | apply Kd.R_drewN | apply Kd.R_drew)); exact HO564.out, by repeat (first | (with_reducible first | exact HB.out | apply below_alloc | apply pw_below_drewN | apply below_drew1 | refine below_set ?_ GE557.out) | exact HB.out)⟩
def spec_TaskSame.l0 : Nat → List Int → List Int → List Int → Bool → Int → Option (Bool)
  | 0, _, _, _, _, _ => none
  | k + 1, x1, x2, x7, x8, x9 => if x9 < (x7.length : Int) then (if 0 ≤ x9 then ((spec_l2Of.f x1 (rd x7 x9)).bind fun t572 => ((spec_l2Of.f x2 (rd x7 x9)).bind fun t574 => (if t572 = t574 then (spec_TaskSame.l0 k x1 x2 x7 x8 (wrap64 (x9 + 1))) else (some false)))) else (none)) else (if x8 = true then ((spec_l2Values.f k x2).bind fun t570 => (some t570)) else (some false))
def spec_TaskSame.f (k : Nat) (a0_0 : Int) (a0_1 : Int) (l0_2 : List (S25)) (l1 : List Int) (l2 : List Int) : Option (Bool) := (spec_TaskUses.f k a0_0 a0_1 l0_2 l1).bind fun bt566 => (spec_TaskSame.l0 k l1 l2 bt566.1 bt566.2 0)
set_option maxHeartbeats 8000000 in
set_option maxRecDepth 100000 in
theorem spec_TaskSame.calls (k : Nat) (a0_0 : Int) (a0_1 : Int) (A0_2 : Option Addr) (c0_2 : Nat) (l0_2 : List (S25)) (A1 : Option Addr) (c1 : Nat) (l1 : List Int) (A2 : Option Addr) (c2 : Nat) (l2 : List Int) (r : Bool) (w : World) (hr0_2 : Kd.C k25 w A0_2 l0_2.length l0_2) (hc0_2 : l0_2.length ≤ c0_2) (hr1 : Kd.C (Kd.int .i64) w A1 l1.length l1) (hc1 : l1.length ≤ c1) (hr2 : Kd.C (Kd.int .i64) w A2 l2.length l2) (hc2 : l2.length ≤ c2) (h : spec_TaskSame.f k a0_0 a0_1 l0_2 l1 l2 = some r) :
    Calls Try.prog 32 #[.agg #[.int .i64 a0_0, .int .i64 a0_1, .slice A0_2 l0_2.length c0_2], .slice A1 l1.length c1, .slice A2 l2.length c2] w fun e w' => e = .returned (.bool r) ∧ Below w.heap.size w w' := by
  have hu25 := Try.underlying25
  have HR0_2 := Aside0.mk hr0_2
  have HC0_2 := Aside0.mk hc0_2
  clear hr0_2 hc0_2
  have HR1 := Aside0.mk hr1
  have HC1 := Aside0.mk hc1
  clear hr1 hc1
  have HR2 := Aside0.mk hr2
  have HC2 := Aside0.mk hc2
  clear hr2 hc2
  have HB := Aside0.mk (Below.refl w.heap.size w)
  have H : ((spec_TaskUses.f k a0_0 a0_1 l0_2 l1).bind fun bt566 => (spec_TaskSame.l0 k l1 l2 bt566.1 bt566.2 0)) = some r := h
  clear h
  replace H := Option.bind_eq_some_iff.mp H
  obtain ⟨⟨t566, t569⟩, A40, H⟩ := H
  replace H : (spec_TaskSame.l0 k l1 l2 t566 t569 0) = some r := H
  have A4 := Aside0.mk A40
  clear A40
  have H' := Aside0.mk H
  clear H
  go_enter Try.func32, Try.ntmps32
  go_wp2_with (first | ((with_reducible refine gate_dst (N := 3) rfl ?_); refine box_event ?hg (N := 3) ?hd (cs := #[.int .i64 a0_0, .int .i64 a0_1, .slice A0_2 l0_2.length c0_2]) (t := 25) ?hr ?_; (case hd => rfl); (case hg => rfl); (case hr => first | (go_simp; done) | (go_simp; rfl)); intro gb565 hg w5 hbox hb; have n0_ := Aside0.mk (below_step (by repeat (first | (with_reducible first | exact HB.out | apply below_alloc | apply pw_below_drewN | apply below_drew1) | exact HB.out)) hb); have n1_ := Aside0.mk (hbox); have n2_ := Aside0.mk ((by rw [hg]; exact (below_size (by repeat (first | (with_reducible first | exact HB.out | apply below_alloc | apply pw_below_drewN | apply below_drew1) | exact HB.out))) : w.heap.size ≤ gb565)); have n3_ := Aside0.mk ((by rw [hg]; exact (below_size (by repeat (first | (with_reducible first | exact HB.out | apply below_alloc | apply pw_below_drewN | apply below_drew1) | exact HB.out))) : w.heap.size ≤ gb565)); clear HB; have HB := n0_; have BK565 := n1_; have GW565 := n2_; have GE565 := n3_; clear n0_ n1_ n2_ n3_; clear hb hbox hg; have hcz6_0 : w5.cell? ⟨gb565, 0, none⟩ = some (.int .i64 a0_0) := (blk_cell BK565.out 0).trans rfl; have hcz6_1 : w5.cell? ⟨gb565, 1, none⟩ = some (.int .i64 a0_1) := (blk_cell BK565.out 1).trans rfl; have hcz6_2 : w5.cell? ⟨gb565, 2, none⟩ = some (.slice A0_2 l0_2.length c0_2) := (blk_cell BK565.out 2).trans rfl; have hfz6_0 := blk_frozen BK565.out 0; have hfz6_1 := blk_frozen BK565.out 1; have hfz6_2 := blk_frozen BK565.out 2) | (go_at_call 39; (with_reducible refine (spec_TaskUses.calls k a0_0 a0_1 _ _ l0_2 _ _ l1 t566 t569 _ ?side1 ?side2 ?side3 ?side4 A4.out).mono ?_); (case side1 => repeat (first | exact (Kd.C_below HR0_2.out HB.out) | (with_reducible refine Kd.C_alloc ?_ _) | (with_reducible refine Kd.C_drewN ?_ _) | (with_reducible refine Kd.C_drew ?_))); (case side2 => exact HC0_2.out); (case side3 => repeat (first | exact (Kd.C_below HR1.out HB.out) | (with_reducible refine Kd.C_alloc ?_ _) | (with_reducible refine Kd.C_drewN ?_ _) | (with_reducible refine Kd.C_drew ?_))); (case side4 => exact HC1.out); rintro e w7 ⟨v567, rfl, ho0, hb⟩; have n0_ := Aside0.mk (Kd.R_lower ho0 (below_size (by repeat (first | (with_reducible first | exact HB.out | apply below_alloc | apply pw_below_drewN | apply below_drew1 | refine below_set ?_ GE565.out) | exact HB.out)))); have n1_ := Aside0.mk (blk_below (g := gb565) (o := .cells #[.int .i64 a0_0, .int .i64 a0_1, .slice A0_2 l0_2.length c0_2] 25 (0, 0)) (by (with_reducible repeat (first | refine blk_drewN ?_ _ | refine blk_drew ?_ | refine blk_alloc ?_ _)); exact BK565.out) hb); have n2_ := Aside0.mk (below_step (by repeat (first | (with_reducible first | exact HB.out | apply below_alloc | apply pw_below_drewN | apply below_drew1 | refine below_set ?_ GE565.out) | exact HB.out)) hb); clear BK565; clear HB; have HO568 := n0_; have BK565 := n1_; have HB := n2_; clear n0_ n1_ n2_; (try clear hb); (try clear hb2); (try clear hk); (try clear hi); (try clear ho0)))
  repeat (go_quiet (first | ((with_reducible refine gate_dst (N := 3) rfl ?_); refine box_event ?hg (N := 3) ?hd (cs := #[.int .i64 a0_0, .int .i64 a0_1, .slice A0_2 l0_2.length c0_2]) (t := 25) ?hr ?_; (case hd => rfl); (case hg => rfl); (case hr => first | (go_simp; done) | (go_simp; rfl)); intro gb565 hg w5 hbox hb; have n0_ := Aside0.mk (below_step (by repeat (first | (with_reducible first | exact HB.out | apply below_alloc | apply pw_below_drewN | apply below_drew1) | exact HB.out)) hb); have n1_ := Aside0.mk (hbox); have n2_ := Aside0.mk ((by rw [hg]; exact (below_size (by repeat (first | (with_reducible first | exact HB.out | apply below_alloc | apply pw_below_drewN | apply below_drew1) | exact HB.out))) : w.heap.size ≤ gb565)); have n3_ := Aside0.mk ((by rw [hg]; exact (below_size (by repeat (first | (with_reducible first | exact HB.out | apply below_alloc | apply pw_below_drewN | apply below_drew1) | exact HB.out))) : w.heap.size ≤ gb565)); clear HB; have HB := n0_; have BK565 := n1_; have GW565 := n2_; have GE565 := n3_; clear n0_ n1_ n2_ n3_; clear hb hbox hg; have hcz6_0 : w5.cell? ⟨gb565, 0, none⟩ = some (.int .i64 a0_0) := (blk_cell BK565.out 0).trans rfl; have hcz6_1 : w5.cell? ⟨gb565, 1, none⟩ = some (.int .i64 a0_1) := (blk_cell BK565.out 1).trans rfl; have hcz6_2 : w5.cell? ⟨gb565, 2, none⟩ = some (.slice A0_2 l0_2.length c0_2) := (blk_cell BK565.out 2).trans rfl; have hfz6_0 := blk_frozen BK565.out 0; have hfz6_1 := blk_frozen BK565.out 1; have hfz6_2 := blk_frozen BK565.out 2) | (go_at_call 39; (with_reducible refine (spec_TaskUses.calls k a0_0 a0_1 _ _ l0_2 _ _ l1 t566 t569 _ ?side1 ?side2 ?side3 ?side4 A4.out).mono ?_); (case side1 => repeat (first | exact (Kd.C_below HR0_2.out HB.out) | (with_reducible refine Kd.C_alloc ?_ _) | (with_reducible refine Kd.C_drewN ?_ _) | (with_reducible refine Kd.C_drew ?_))); (case side2 => exact HC0_2.out); (case side3 => repeat (first | exact (Kd.C_below HR1.out HB.out) | (with_reducible refine Kd.C_alloc ?_ _) | (with_reducible refine Kd.C_drewN ?_ _) | (with_reducible refine Kd.C_drew ?_))); (case side4 => exact HC1.out); rintro e w7 ⟨v567, rfl, ho0, hb⟩; have n0_ := Aside0.mk (Kd.R_lower ho0 (below_size (by repeat (first | (with_reducible first | exact HB.out | apply below_alloc | apply pw_below_drewN | apply below_drew1 | refine below_set ?_ GE565.out) | exact HB.out)))); have n1_ := Aside0.mk (blk_below (g := gb565) (o := .cells #[.int .i64 a0_0, .int .i64 a0_1, .slice A0_2 l0_2.length c0_2] 25 (0, 0)) (by (with_reducible repeat (first | refine blk_drewN ?_ _ | refine blk_drew ?_ | refine blk_alloc ?_ _)); exact BK565.out) hb); have n2_ := Aside0.mk (below_step (by repeat (first | (with_reducible first | exact HB.out | apply below_alloc | apply pw_below_drewN | apply below_drew1 | refine below_set ?_ GE565.out) | exact HB.out)) hb); clear BK565; clear HB; have HO568 := n0_; have BK565 := n1_; have HB := n2_; clear n0_ n1_ n2_; (try clear hb); (try clear hb2); (try clear hk); (try clear hi); (try clear ho0))); try go_wp2_with (first | ((with_reducible refine gate_dst (N := 3) rfl ?_); refine box_event ?hg (N := 3) ?hd (cs := #[.int .i64 a0_0, .int .i64 a0_1, .slice A0_2 l0_2.length c0_2]) (t := 25) ?hr ?_; (case hd => rfl); (case hg => rfl); (case hr => first | (go_simp; done) | (go_simp; rfl)); intro gb565 hg w5 hbox hb; have n0_ := Aside0.mk (below_step (by repeat (first | (with_reducible first | exact HB.out | apply below_alloc | apply pw_below_drewN | apply below_drew1) | exact HB.out)) hb); have n1_ := Aside0.mk (hbox); have n2_ := Aside0.mk ((by rw [hg]; exact (below_size (by repeat (first | (with_reducible first | exact HB.out | apply below_alloc | apply pw_below_drewN | apply below_drew1) | exact HB.out))) : w.heap.size ≤ gb565)); have n3_ := Aside0.mk ((by rw [hg]; exact (below_size (by repeat (first | (with_reducible first | exact HB.out | apply below_alloc | apply pw_below_drewN | apply below_drew1) | exact HB.out))) : w.heap.size ≤ gb565)); clear HB; have HB := n0_; have BK565 := n1_; have GW565 := n2_; have GE565 := n3_; clear n0_ n1_ n2_ n3_; clear hb hbox hg; have hcz6_0 : w5.cell? ⟨gb565, 0, none⟩ = some (.int .i64 a0_0) := (blk_cell BK565.out 0).trans rfl; have hcz6_1 : w5.cell? ⟨gb565, 1, none⟩ = some (.int .i64 a0_1) := (blk_cell BK565.out 1).trans rfl; have hcz6_2 : w5.cell? ⟨gb565, 2, none⟩ = some (.slice A0_2 l0_2.length c0_2) := (blk_cell BK565.out 2).trans rfl; have hfz6_0 := blk_frozen BK565.out 0; have hfz6_1 := blk_frozen BK565.out 1; have hfz6_2 := blk_frozen BK565.out 2) | (go_at_call 39; (with_reducible refine (spec_TaskUses.calls k a0_0 a0_1 _ _ l0_2 _ _ l1 t566 t569 _ ?side1 ?side2 ?side3 ?side4 A4.out).mono ?_); (case side1 => repeat (first | exact (Kd.C_below HR0_2.out HB.out) | (with_reducible refine Kd.C_alloc ?_ _) | (with_reducible refine Kd.C_drewN ?_ _) | (with_reducible refine Kd.C_drew ?_))); (case side2 => exact HC0_2.out); (case side3 => repeat (first | exact (Kd.C_below HR1.out HB.out) | (with_reducible refine Kd.C_alloc ?_ _) | (with_reducible refine Kd.C_drewN ?_ _) | (with_reducible refine Kd.C_drew ?_))); (case side4 => exact HC1.out); rintro e w7 ⟨v567, rfl, ho0, hb⟩; have n0_ := Aside0.mk (Kd.R_lower ho0 (below_size (by repeat (first | (with_reducible first | exact HB.out | apply below_alloc | apply pw_below_drewN | apply below_drew1 | refine below_set ?_ GE565.out) | exact HB.out)))); have n1_ := Aside0.mk (blk_below (g := gb565) (o := .cells #[.int .i64 a0_0, .int .i64 a0_1, .slice A0_2 l0_2.length c0_2] 25 (0, 0)) (by (with_reducible repeat (first | refine blk_drewN ?_ _ | refine blk_drew ?_ | refine blk_alloc ?_ _)); exact BK565.out) hb); have n2_ := Aside0.mk (below_step (by repeat (first | (with_reducible first | exact HB.out | apply below_alloc | apply pw_below_drewN | apply below_drew1 | refine below_set ?_ GE565.out) | exact HB.out)) hb); clear BK565; clear HB; have HO568 := n0_; have BK565 := n1_; have HB := n2_; clear n0_ n1_ n2_; (try clear hb); (try clear hb2); (try clear hk); (try clear hi); (try clear ho0))))
  go_loopg [9] k (fun kq v9 w' => ∃ (x9_1 : Int), v9 = .int .i64 x9_1 ∧ Aside0 (spec_TaskSame.l0 kq l1 l2 t566 t569 x9_1 = some r) ∧ Aside0 (kq ≤ k) ∧ Aside0 (Kd.R (Kd.int .i64) 3 w' w.heap.size (fun _ => True) v567 t566) ∧ Aside0 (w'.heap[gb565]? = some (.cells #[.int .i64 a0_0, .int .i64 a0_1, (.slice A0_2 l0_2.length c0_2)] 25 (0, 0))) ∧ Aside0 (Below w.heap.size w w'))
  case atStart => exact ⟨(0), (by first | rfl | (simp; done) | (simp [*]; done)), H', ⟨Nat.le_refl _⟩, ⟨by (with_reducible repeat (first | apply Kd.R_alloc | apply Kd.R_drewN | apply Kd.R_drew)); exact HO568.out⟩, ⟨by (with_reducible repeat (first | refine blk_drewN ?_ _ | refine blk_drew ?_ | refine blk_alloc ?_ _)); exact BK565.out⟩, ⟨by repeat (first | (with_reducible first | exact HB.out | apply below_alloc | apply pw_below_drewN | apply below_drew1 | refine below_set ?_ GE565.out) | exact HB.out)⟩⟩
  case round =>
    clear H'
    try clear c1
    try clear c2
    try clear p2
    try clear c3
    try clear hcz6_0
    try clear hcz6_1
    try clear hcz6_2
    try clear hfz6_0
    try clear hfz6_1
    try clear hfz6_2
    obtain ⟨x9_1, rfl, HA, HK1, HO_7, BK565, HB⟩ := hrel
    cases gk with
    | zero => exact absurd HA.out (by simp [spec_TaskSame.l0])
    | succ k1 =>
      have H := HA.out
      clear HA
      simp only [spec_TaskSame.l0] at H
      by_cases c8 : x9_1 < (t566.length : Int)
      · rw [if_pos c8] at H
        have c8b0 : decide (x9_1 < (t566.length : Int)) = true := decide_eq_true c8
        clear c8
        by_cases c9 : 0 ≤ x9_1
        · rw [if_pos c9] at H
          have c9b0 : decide (0 ≤ x9_1) = true := decide_eq_true c9
          clear c9
          replace H := Option.bind_eq_some_iff.mp H
          obtain ⟨t572, A100, H⟩ := H
          replace H : ((spec_l2Of.f l2 (rd t566 x9_1)).bind fun t574 => (if t572 = t574 then (spec_TaskSame.l0 k1 l1 l2 t566 t569 (wrap64 (x9_1 + 1))) else (some false))) = some r := H
          have A10 := Aside0.mk A100
          clear A100
          replace H := Option.bind_eq_some_iff.mp H
          obtain ⟨t574, A110, H⟩ := H
          replace H : (if t572 = t574 then (spec_TaskSame.l0 k1 l1 l2 t566 t569 (wrap64 (x9_1 + 1))) else (some false)) = some r := H
          have A11 := Aside0.mk A110
          clear A110
          by_cases c12 : t572 = t574
          · rw [if_pos c12] at H
            have c12b0 : (t572 == t574) = true := beq_iff_eq.mpr c12
            have c12b1 : (t572 != t574) = false := bne_eq_false_iff_eq.mpr c12
            clear c12
            have H' := Aside0.mk H
            clear H
            obtain ⟨Ao13, co13, eo13⟩ := Kd.R_slice HO_7.out
            subst eo13
            have p571 : 0 ≤ (x9_1 : Int) := of_decide_eq_true (by first | (with_reducible assumption) | assumption)
            have q571 : x9_1 < (t566.length : Int) := of_decide_eq_true (by first | (with_reducible assumption) | assumption)
            obtain ⟨ad571, e571, hx571_0⟩ := Kd.at_int (Kd.R_reads' HO_7.out).2.2 x9_1 p571 q571
            cases e571
            replace p571 := eq_true p571
            replace q571 := eq_true q571
            go_wp2_with (first | (go_at_call 77; (with_reducible refine (spec_l2Of.calls _ _ l1 (rd t566 x9_1) t572 _ ?side1 ?side2 A10.out).mono ?_); (case side1 => repeat (first | exact (Kd.C_below HR1.out HB.out) | (with_reducible refine Kd.C_alloc ?_ _) | (with_reducible refine Kd.C_drewN ?_ _) | (with_reducible refine Kd.C_drew ?_))); (case side2 => exact HC1.out); rintro e w' ⟨rfl, ⟨nd, rfl⟩⟩; (try first | exact ⟨rfl, _, World.drewN_drewN _ _ _⟩ | exact ⟨rfl, _, Eq.trans (World.drewN_drewN _ _ _) (congrArg (World.drewN _) (Nat.add_assoc _ _ _))⟩); have p573 : 0 ≤ (x9_1 : Int) := of_decide_eq_true (by first | (with_reducible assumption) | assumption); have q573 : x9_1 < (t566.length : Int) := of_decide_eq_true (by first | (with_reducible assumption) | assumption); obtain ⟨ad573, e573, hx573_0⟩ := Kd.at_int (Kd.R_reads' HO_7.out).2.2 x9_1 p573 q573; obtain rfl : ad571 = ad573 := (by injection e573); replace p573 := eq_true p573; replace q573 := eq_true q573) | (go_at_call 77; (with_reducible refine (spec_l2Of.calls _ _ l2 (rd t566 x9_1) t574 _ ?side1 ?side2 A11.out).mono ?_); (case side1 => repeat (first | exact (Kd.C_below HR2.out (by repeat (first | (with_reducible first | exact HB.out | apply below_alloc | apply pw_below_drewN | apply below_drew1 | refine below_set ?_ GE565.out) | exact HB.out))) | (with_reducible refine Kd.C_alloc ?_ _) | (with_reducible refine Kd.C_drewN ?_ _) | (with_reducible refine Kd.C_drew ?_))); (case side2 => exact HC2.out); rintro e w' ⟨rfl, ⟨nd, rfl⟩⟩; (try first | exact ⟨rfl, _, World.drewN_drewN _ _ _⟩ | exact ⟨rfl, _, Eq.trans (World.drewN_drewN _ _ _) (congrArg (World.drewN _) (Nat.add_assoc _ _ _))⟩)))
            repeat (go_quiet (first | (go_at_call 77; (with_reducible refine (spec_l2Of.calls _ _ l1 (rd t566 x9_1) t572 _ ?side1 ?side2 A10.out).mono ?_); (case side1 => repeat (first | exact (Kd.C_below HR1.out HB.out) | (with_reducible refine Kd.C_alloc ?_ _) | (with_reducible refine Kd.C_drewN ?_ _) | (with_reducible refine Kd.C_drew ?_))); (case side2 => exact HC1.out); rintro e w' ⟨rfl, ⟨nd, rfl⟩⟩; (try first | exact ⟨rfl, _, World.drewN_drewN _ _ _⟩ | exact ⟨rfl, _, Eq.trans (World.drewN_drewN _ _ _) (congrArg (World.drewN _) (Nat.add_assoc _ _ _))⟩); have p573 : 0 ≤ (x9_1 : Int) := of_decide_eq_true (by first | (with_reducible assumption) | assumption); have q573 : x9_1 < (t566.length : Int) := of_decide_eq_true (by first | (with_reducible assumption) | assumption); obtain ⟨ad573, e573, hx573_0⟩ := Kd.at_int (Kd.R_reads' HO_7.out).2.2 x9_1 p573 q573; obtain rfl : ad571 = ad573 := (by injection e573); replace p573 := eq_true p573; replace q573 := eq_true q573) | (go_at_call 77; (with_reducible refine (spec_l2Of.calls _ _ l2 (rd t566 x9_1) t574 _ ?side1 ?side2 A11.out).mono ?_); (case side1 => repeat (first | exact (Kd.C_below HR2.out (by repeat (first | (with_reducible first | exact HB.out | apply below_alloc | apply pw_below_drewN | apply below_drew1 | refine below_set ?_ GE565.out) | exact HB.out))) | (with_reducible refine Kd.C_alloc ?_ _) | (with_reducible refine Kd.C_drewN ?_ _) | (with_reducible refine Kd.C_drew ?_))); (case side2 => exact HC2.out); rintro e w' ⟨rfl, ⟨nd, rfl⟩⟩; (try first | exact ⟨rfl, _, World.drewN_drewN _ _ _⟩ | exact ⟨rfl, _, Eq.trans (World.drewN_drewN _ _ _) (congrArg (World.drewN _) (Nat.add_assoc _ _ _))⟩))); try go_wp2_with (first | (go_at_call 77; (with_reducible refine (spec_l2Of.calls _ _ l1 (rd t566 x9_1) t572 _ ?side1 ?side2 A10.out).mono ?_); (case side1 => repeat (first | exact (Kd.C_below HR1.out HB.out) | (with_reducible refine Kd.C_alloc ?_ _) | (with_reducible refine Kd.C_drewN ?_ _) | (with_reducible refine Kd.C_drew ?_))); (case side2 => exact HC1.out); rintro e w' ⟨rfl, ⟨nd, rfl⟩⟩; (try first | exact ⟨rfl, _, World.drewN_drewN _ _ _⟩ | exact ⟨rfl, _, Eq.trans (World.drewN_drewN _ _ _) (congrArg (World.drewN _) (Nat.add_assoc _ _ _))⟩); have p573 : 0 ≤ (x9_1 : Int) := of_decide_eq_true (by first | (with_reducible assumption) | assumption); have q573 : x9_1 < (t566.length : Int) := of_decide_eq_true (by first | (with_reducible assumption) | assumption); obtain ⟨ad573, e573, hx573_0⟩ := Kd.at_int (Kd.R_reads' HO_7.out).2.2 x9_1 p573 q573; obtain rfl : ad571 = ad573 := (by injection e573); replace p573 := eq_true p573; replace q573 := eq_true q573) | (go_at_call 77; (with_reducible refine (spec_l2Of.calls _ _ l2 (rd t566 x9_1) t574 _ ?side1 ?side2 A11.out).mono ?_); (case side1 => repeat (first | exact (Kd.C_below HR2.out (by repeat (first | (with_reducible first | exact HB.out | apply below_alloc | apply pw_below_drewN | apply below_drew1 | refine below_set ?_ GE565.out) | exact HB.out))) | (with_reducible refine Kd.C_alloc ?_ _) | (with_reducible refine Kd.C_drewN ?_ _) | (with_reducible refine Kd.C_drew ?_))); (case side2 => exact HC2.out); rintro e w' ⟨rfl, ⟨nd, rfl⟩⟩; (try first | exact ⟨rfl, _, World.drewN_drewN _ _ _⟩ | exact ⟨rfl, _, Eq.trans (World.drewN_drewN _ _ _) (congrArg (World.drewN _) (Nat.add_assoc _ _ _))⟩))))
            go_roundg k1
            case measure => have := HK1.out; omega
            case rel => exact ⟨(wrap64 (x9_1 + 1)), (by first | rfl | (simp; done) | (simp [*]; done)), H', ⟨by have := HK1.out; omega⟩, ⟨by (with_reducible repeat (first | apply Kd.R_alloc | apply Kd.R_drewN | apply Kd.R_drew)); exact HO_7.out⟩, ⟨by (with_reducible repeat (first | refine blk_drewN ?_ _ | refine blk_drew ?_ | refine blk_alloc ?_ _)); exact BK565.out⟩, ⟨by repeat (first | (with_reducible first | exact HB.out | apply below_alloc | apply pw_below_drewN | apply below_drew1 | refine below_set ?_ GE565.out) | exact HB.out)⟩⟩
          · rw [if_neg c12] at H
            have c12b0 : (t572 == t574) = false := beq_eq_false_iff_ne.mpr c12
            have c12b1 : (t572 != t574) = true := bne_iff_ne.mpr c12
            obtain rfl := Option.some.inj H
            obtain ⟨Ao14, co14, eo14⟩ := Kd.R_slice HO_7.out
            subst eo14
            have p571 : 0 ≤ (x9_1 : Int) := of_decide_eq_true (by first | (with_reducible assumption) | assumption)
            have q571 : x9_1 < (t566.length : Int) := of_decide_eq_true (by first | (with_reducible assumption) | assumption)
            obtain ⟨ad571, e571, hx571_0⟩ := Kd.at_int (Kd.R_reads' HO_7.out).2.2 x9_1 p571 q571
            cases e571
            replace p571 := eq_true p571
            replace q571 := eq_true q571
            go_wp2_with (first | (go_at_call 77; (with_reducible refine (spec_l2Of.calls _ _ l1 (rd t566 x9_1) t572 _ ?side1 ?side2 A10.out).mono ?_); (case side1 => repeat (first | exact (Kd.C_below HR1.out HB.out) | (with_reducible refine Kd.C_alloc ?_ _) | (with_reducible refine Kd.C_drewN ?_ _) | (with_reducible refine Kd.C_drew ?_))); (case side2 => exact HC1.out); rintro e w' ⟨rfl, ⟨nd, rfl⟩⟩; (try first | exact ⟨rfl, _, World.drewN_drewN _ _ _⟩ | exact ⟨rfl, _, Eq.trans (World.drewN_drewN _ _ _) (congrArg (World.drewN _) (Nat.add_assoc _ _ _))⟩); have p573 : 0 ≤ (x9_1 : Int) := of_decide_eq_true (by first | (with_reducible assumption) | assumption); have q573 : x9_1 < (t566.length : Int) := of_decide_eq_true (by first | (with_reducible assumption) | assumption); obtain ⟨ad573, e573, hx573_0⟩ := Kd.at_int (Kd.R_reads' HO_7.out).2.2 x9_1 p573 q573; obtain rfl : ad571 = ad573 := (by injection e573); replace p573 := eq_true p573; replace q573 := eq_true q573) | (go_at_call 77; (with_reducible refine (spec_l2Of.calls _ _ l2 (rd t566 x9_1) t574 _ ?side1 ?side2 A11.out).mono ?_); (case side1 => repeat (first | exact (Kd.C_below HR2.out (by repeat (first | (with_reducible first | exact HB.out | apply below_alloc | apply pw_below_drewN | apply below_drew1 | refine below_set ?_ GE565.out) | exact HB.out))) | (with_reducible refine Kd.C_alloc ?_ _) | (with_reducible refine Kd.C_drewN ?_ _) | (with_reducible refine Kd.C_drew ?_))); (case side2 => exact HC2.out); rintro e w' ⟨rfl, ⟨nd, rfl⟩⟩; (try first | exact ⟨rfl, _, World.drewN_drewN _ _ _⟩ | exact ⟨rfl, _, Eq.trans (World.drewN_drewN _ _ _) (congrArg (World.drewN _) (Nat.add_assoc _ _ _))⟩)))
            repeat (go_quiet (first | (go_at_call 77; (with_reducible refine (spec_l2Of.calls _ _ l1 (rd t566 x9_1) t572 _ ?side1 ?side2 A10.out).mono ?_); (case side1 => repeat (first | exact (Kd.C_below HR1.out HB.out) | (with_reducible refine Kd.C_alloc ?_ _) | (with_reducible refine Kd.C_drewN ?_ _) | (with_reducible refine Kd.C_drew ?_))); (case side2 => exact HC1.out); rintro e w' ⟨rfl, ⟨nd, rfl⟩⟩; (try first | exact ⟨rfl, _, World.drewN_drewN _ _ _⟩ | exact ⟨rfl, _, Eq.trans (World.drewN_drewN _ _ _) (congrArg (World.drewN _) (Nat.add_assoc _ _ _))⟩); have p573 : 0 ≤ (x9_1 : Int) := of_decide_eq_true (by first | (with_reducible assumption) | assumption); have q573 : x9_1 < (t566.length : Int) := of_decide_eq_true (by first | (with_reducible assumption) | assumption); obtain ⟨ad573, e573, hx573_0⟩ := Kd.at_int (Kd.R_reads' HO_7.out).2.2 x9_1 p573 q573; obtain rfl : ad571 = ad573 := (by injection e573); replace p573 := eq_true p573; replace q573 := eq_true q573) | (go_at_call 77; (with_reducible refine (spec_l2Of.calls _ _ l2 (rd t566 x9_1) t574 _ ?side1 ?side2 A11.out).mono ?_); (case side1 => repeat (first | exact (Kd.C_below HR2.out (by repeat (first | (with_reducible first | exact HB.out | apply below_alloc | apply pw_below_drewN | apply below_drew1 | refine below_set ?_ GE565.out) | exact HB.out))) | (with_reducible refine Kd.C_alloc ?_ _) | (with_reducible refine Kd.C_drewN ?_ _) | (with_reducible refine Kd.C_drew ?_))); (case side2 => exact HC2.out); rintro e w' ⟨rfl, ⟨nd, rfl⟩⟩; (try first | exact ⟨rfl, _, World.drewN_drewN _ _ _⟩ | exact ⟨rfl, _, Eq.trans (World.drewN_drewN _ _ _) (congrArg (World.drewN _) (Nat.add_assoc _ _ _))⟩))); try go_wp2_with (first | (go_at_call 77; (with_reducible refine (spec_l2Of.calls _ _ l1 (rd t566 x9_1) t572 _ ?side1 ?side2 A10.out).mono ?_); (case side1 => repeat (first | exact (Kd.C_below HR1.out HB.out) | (with_reducible refine Kd.C_alloc ?_ _) | (with_reducible refine Kd.C_drewN ?_ _) | (with_reducible refine Kd.C_drew ?_))); (case side2 => exact HC1.out); rintro e w' ⟨rfl, ⟨nd, rfl⟩⟩; (try first | exact ⟨rfl, _, World.drewN_drewN _ _ _⟩ | exact ⟨rfl, _, Eq.trans (World.drewN_drewN _ _ _) (congrArg (World.drewN _) (Nat.add_assoc _ _ _))⟩); have p573 : 0 ≤ (x9_1 : Int) := of_decide_eq_true (by first | (with_reducible assumption) | assumption); have q573 : x9_1 < (t566.length : Int) := of_decide_eq_true (by first | (with_reducible assumption) | assumption); obtain ⟨ad573, e573, hx573_0⟩ := Kd.at_int (Kd.R_reads' HO_7.out).2.2 x9_1 p573 q573; obtain rfl : ad571 = ad573 := (by injection e573); replace p573 := eq_true p573; replace q573 := eq_true q573) | (go_at_call 77; (with_reducible refine (spec_l2Of.calls _ _ l2 (rd t566 x9_1) t574 _ ?side1 ?side2 A11.out).mono ?_); (case side1 => repeat (first | exact (Kd.C_below HR2.out (by repeat (first | (with_reducible first | exact HB.out | apply below_alloc | apply pw_below_drewN | apply below_drew1 | refine below_set ?_ GE565.out) | exact HB.out))) | (with_reducible refine Kd.C_alloc ?_ _) | (with_reducible refine Kd.C_drewN ?_ _) | (with_reducible refine Kd.C_drew ?_))); (case side2 => exact HC2.out); rintro e w' ⟨rfl, ⟨nd, rfl⟩⟩; (try first | exact ⟨rfl, _, World.drewN_drewN _ _ _⟩ | exact ⟨rfl, _, Eq.trans (World.drewN_drewN _ _ _) (congrArg (World.drewN _) (Nat.add_assoc _ _ _))⟩))))
            go_ret
            exact ⟨by first | rfl | (simp [errW_none, errW_some] <;> rfl) | (simp [*, errW_none, errW_some] <;> rfl), by repeat (first | (with_reducible first | exact HB.out | apply below_alloc | apply pw_below_drewN | apply below_drew1 | refine below_set ?_ GE565.out) | exact HB.out)⟩
        · rw [if_neg c9] at H
          exact absurd H (by simp)
      · rw [if_neg c8] at H
        have c8b0 : decide (x9_1 < (t566.length : Int)) = false := decide_eq_false c8
        clear c8
        by_cases c15 : t569 = true
        · subst c15
          have H1 : ((spec_l2Values.f k1 l2).bind fun t570 => (some t570)) = some r := by rw [if_pos rfl] at H; exact H
          clear H
          have H := H1
          clear H1
          replace H := Option.bind_eq_some_iff.mp H
          obtain ⟨t570, A160, H⟩ := H
          replace H : (some t570) = some r := H
          have A16 := Aside0.mk A160
          clear A160
          obtain rfl := Option.some.inj H
          obtain ⟨Ao17, co17, eo17⟩ := Kd.R_slice HO_7.out
          subst eo17
          go_wp2_with (first | (go_at_call 70; (with_reducible refine (spec_l2Values.calls k1 _ _ l2 t570 _ ?side1 ?side2 A16.out).mono ?_); (case side1 => repeat (first | exact (Kd.C_below HR2.out HB.out) | (with_reducible refine Kd.C_alloc ?_ _) | (with_reducible refine Kd.C_drewN ?_ _) | (with_reducible refine Kd.C_drew ?_))); (case side2 => exact HC2.out); rintro e w' ⟨rfl, ⟨nd, rfl⟩⟩; (try first | exact ⟨rfl, _, World.drewN_drewN _ _ _⟩ | exact ⟨rfl, _, Eq.trans (World.drewN_drewN _ _ _) (congrArg (World.drewN _) (Nat.add_assoc _ _ _))⟩)))
          repeat (go_quiet (first | (go_at_call 70; (with_reducible refine (spec_l2Values.calls k1 _ _ l2 t570 _ ?side1 ?side2 A16.out).mono ?_); (case side1 => repeat (first | exact (Kd.C_below HR2.out HB.out) | (with_reducible refine Kd.C_alloc ?_ _) | (with_reducible refine Kd.C_drewN ?_ _) | (with_reducible refine Kd.C_drew ?_))); (case side2 => exact HC2.out); rintro e w' ⟨rfl, ⟨nd, rfl⟩⟩; (try first | exact ⟨rfl, _, World.drewN_drewN _ _ _⟩ | exact ⟨rfl, _, Eq.trans (World.drewN_drewN _ _ _) (congrArg (World.drewN _) (Nat.add_assoc _ _ _))⟩))); try go_wp2_with (first | (go_at_call 70; (with_reducible refine (spec_l2Values.calls k1 _ _ l2 t570 _ ?side1 ?side2 A16.out).mono ?_); (case side1 => repeat (first | exact (Kd.C_below HR2.out HB.out) | (with_reducible refine Kd.C_alloc ?_ _) | (with_reducible refine Kd.C_drewN ?_ _) | (with_reducible refine Kd.C_drew ?_))); (case side2 => exact HC2.out); rintro e w' ⟨rfl, ⟨nd, rfl⟩⟩; (try first | exact ⟨rfl, _, World.drewN_drewN _ _ _⟩ | exact ⟨rfl, _, Eq.trans (World.drewN_drewN _ _ _) (congrArg (World.drewN _) (Nat.add_assoc _ _ _))⟩))))
          go_ret
          exact ⟨by first | rfl | (simp [errW_none, errW_some] <;> rfl) | (simp [*, errW_none, errW_some] <;> rfl), by repeat (first | (with_reducible first | exact HB.out | apply below_alloc | apply pw_below_drewN | apply below_drew1 | refine below_set ?_ GE565.out) | exact HB.out)⟩
        · replace c15 := Bool.eq_false_iff.mpr c15
          subst c15
          have H1 : (some false) = some r := by rw [if_neg (show ¬ (false = true) by decide)] at H; exact H
          clear H
          have H := H1
          clear H1
          obtain rfl := Option.some.inj H
          obtain ⟨Ao18, co18, eo18⟩ := Kd.R_slice HO_7.out
          subst eo18
          go_wp2
          repeat (go_quiet (fail); try go_wp2)
          go_ret
          exact ⟨by first | rfl | (simp [errW_none, errW_some] <;> rfl) | (simp [*, errW_none, errW_some] <;> rfl), by repeat (first | (with_reducible first | exact HB.out | apply below_alloc | apply pw_below_drewN | apply below_drew1 | refine below_set ?_ GE565.out) | exact HB.out)⟩
end Go.Proofs.Ytooojligedlpeaa.G
end
section
namespace Go.Proofs.Ytooojligedlpeaa.G
open Go.RowKit Go.Proofs.YtooojligedlpeaaW.PrintWords Go.Proofs.YtooojligedlpeaaW.PrintLast Go.Proofs.YtooojligedlpeaaW.PrintMore
attribute [local go_sem] max2_int min2_int max_two min_two max_three min_three max_four min_four
set_option linter.unusedVariables false
set_option linter.unusedSimpArgs false
mutual
def spec_l91More.l0 : Nat → List Int → Int → List Int → Int → Option (List Int × Int)
  | 0, _, _, _, _ => none
  | k + 1, x5, x6, x1000, x1001 => if x6 > 0 then (spec_l91More.j1 k x5 x6 (decide ((x5.length : Int) > 0)) x1000 x1001) else (spec_l91More.j1 k x5 x6 false x1000 x1001)
def spec_l91More.j1 : Nat → List Int → Int → Bool → List Int → Int → Option (List Int × Int)
  | 0, _, _, _, _, _ => none
  | k + 1, x5, x6, x18, x1000, x1001 => if x18 = true then ((spec_l6Rd_pick.f k x1000 x1001 (x5.length : Int)).bind fun bt712 => ((spec_l6Rd_pick.f k x1000 bt712.2 4).bind fun bt714 => (if 0 ≤ bt712.1 then (if bt712.1 < (x5.length : Int) then (spec_l91More.l0 k (x5.set (bt712.1 : Int).toNat bt714.1) (wrap64 (x6 - 1)) x1000 bt714.2) else (none)) else (none)))) else (some (x5, x1001))
end
def spec_l91More.f (k : Nat) (s0_0 : List Int) (s0_1 : Int) (l1 : List Int) : Option (List Int × Int) := (some (([] : List Int) : List Int)).bind fun y704 => (if y704.length + l1.length < 17592186044416 then ((spec_l6Rd_pick.f k s0_0 s0_1 3).bind fun bt710 => (spec_l91More.l0 k (y704 ++ l1) bt710.1 s0_0 bt710.2)) else (none))
set_option maxHeartbeats 8000000 in
set_option maxRecDepth 100000 in
theorem spec_l91More.calls (k : Nat) (g : Nat) (s0_0 : List Int) (s0_1 : Int) (A1 : Option Addr) (c1 : Nat) (l1 : List Int) (r1 : List Int) (r2 : Int) (w0 w : World) (hI : IsS125 w0 w g s0_0 s0_1) (hB : Below w0.heap.size w0 w) (hr1 : Kd.C (Kd.int .i64) w A1 l1.length l1) (hc1 : l1.length ≤ c1) (hf1 : ∀ ad, A1 = some ad → 0 < l1.length → ad.block ≠ g) (h : spec_l91More.f k s0_0 s0_1 l1 = some (r1, r2)) :
    Calls Try.prog 84 #[.pointer (some ⟨g, 0, none⟩), .slice A1 l1.length c1] w fun e w' => ∃ v0_ : Value, e = .returned (v0_) ∧ Kd.R (Kd.int .i64) 3 w' w.heap.size (fun _ => True) v0_ r1 ∧ IsS125 w0 w' g s0_0 r2 ∧ Below w0.heap.size w0 w' ∧ KeepBut w w' g none := by
  have HR1 := Aside0.mk hr1
  have HC1 := Aside0.mk hc1
  clear hr1 hc1
  have HI0 := Aside0.mk hI
  have HK := Aside0.mk (KeepBut.refl w g none)
  have HL := Aside0.mk hB.size
  clear hI
  have HW0 := Aside0.mk hB.size
  have HB := Aside0.mk hB
  clear hB
  have H : ((some (([] : List Int) : List Int)).bind fun y704 => (if y704.length + l1.length < 17592186044416 then ((spec_l6Rd_pick.f k s0_0 s0_1 3).bind fun bt710 => (spec_l91More.l0 k (y704 ++ l1) bt710.1 s0_0 bt710.2)) else (none))) = some (r1, r2) := h
  clear h
  obtain ⟨y704, hy704⟩ : ∃ y_ : List Int, y_ = (([] : List Int)) := ⟨_, rfl⟩
  replace H : (if y704.length + l1.length < 17592186044416 then ((spec_l6Rd_pick.f k s0_0 s0_1 3).bind fun bt710 => (spec_l91More.l0 k (y704 ++ l1) bt710.1 s0_0 bt710.2)) else (none)) = some (r1, r2) := by first | (rw [hy704]; with_reducible exact H) | (have H2_ := (Option.bind_some _ _).symm.trans H; rw [hy704]; with_reducible exact H2_) | (have H2_ := (Option.bind_some _ _).symm.trans H; with_reducible exact H2_) | with_reducible exact H | (rw [hy704]; exact H) | exact H
  have Ny704 := Aside0.mk hy704
  clear hy704
  by_cases c3 : y704.length + l1.length < 17592186044416
  · rw [if_pos c3] at H
    have LMc3 := Aside0.mk c3
    clear c3
    obtain ⟨y707, hy707⟩ : ∃ y_ : List Int, y_ = (y704 ++ l1) := ⟨_, rfl⟩
    replace H : ((spec_l6Rd_pick.f k s0_0 s0_1 3).bind fun bt710 => (spec_l91More.l0 k y707 bt710.1 s0_0 bt710.2)) = some (r1, r2) := by first | (rw [hy707]; with_reducible exact H) | (have H2_ := (Option.bind_some _ _).symm.trans H; rw [hy707]; with_reducible exact H2_) | (have H2_ := (Option.bind_some _ _).symm.trans H; with_reducible exact H2_) | with_reducible exact H | (rw [hy707]; exact H) | exact H
    have Ny707 := Aside0.mk hy707
    clear hy707
    replace H := Option.bind_eq_some_iff.mp H
    obtain ⟨⟨t710, t711⟩, A40, H⟩ := H
    replace H : (spec_l91More.l0 k y707 t710 s0_0 t711) = some (r1, r2) := H
    have A4 := Aside0.mk A40
    clear A40
    have H' := Aside0.mk H
    clear H
    go_enter Try.func84, Try.ntmps84
    go_wp2_with (first | ((with_reducible refine gate_dst (N := 7) rfl ?_); (try (refine gate_guard (by rfl) ?_; dsimp only)); refine Kd.R_lit (Kd.int .i64) _ 3 ?hg (N := 7) ?hd (xs := ([] : List Int)) (inner := []) (ok := fun _ => True) (okp := fun _ => True) ?hr ?hp (fun _ hk => hk) trivial (Below.refl _ _) (Nat.le_refl _) (by simp) ?_; (case hd => rfl); (case hg => rfl); (case hr => first | (go_simp; done) | (go_simp; rfl)); (case hp => exact (Reps.none _ _)); intro v705 w5 ho6 hb hg_ hnew_; clear hg_ hnew_; (first | rw [← Ny704.out] at ho6 | (simp only [Int.reduceToNat] at ho6; rw [← Ny704.out] at ho6)); have n0_ := Aside0.mk (Kd.R_lower ho6 (keep_size (w := w) (g := g) (row := none) (by repeat (first | (with_reducible first | exact HK.out | apply KeepBut.set_ | apply keep_drewN | apply keep_drew | apply keep_alloc) | exact HK.out)))); have n1_ := Aside0.mk (IsS125.below (by repeat (first | (with_reducible first | exact HI0.out | apply IsS125.alloc | apply IsS125.drewN | apply IsS125.drew | apply IsS125.set_1) | exact HI0.out)) hb); have n2_ := Aside0.mk (KeepBut.trans (by repeat (first | (with_reducible first | exact HK.out | apply KeepBut.set_ | apply keep_drewN | apply keep_drew | apply keep_alloc) | exact HK.out)) (KeepBut.of_below hb g none) (.inl rfl)); have n3_ := Aside0.mk (below_step (by repeat (first | (with_reducible first | exact HB.out | apply below_alloc | apply pw_below_drewN | apply below_drew1 | refine below_set ?_ (IsS125.ge HI0.out)) | exact HB.out)) hb); clear HI0; clear HK; clear HB; have HO706 := n0_; have HI0 := n1_; have HK := n2_; have HB := n3_; clear n0_ n1_ n2_ n3_; clear hb ho6) | ((with_reducible refine gate_builtin (b := .append) (xs := #[.tmp 7, .tmp 8]) rfl ?_); (try (refine gate_guard (by rfl) ?_; dsimp only)); at_builtin; refine Kd.R_append_rows (Kd.int .i64) w.heap.size rfl (.tmp 7) (.tmp 8) 28 3 (.int .i64 0) 8 rfl Try.underlying28 info3 rfl (by decide) (by omega) v705 y704 l1 _ _ _ (fun _ => True) (fun _ => False) rfl rfl ?aO ?aR (fun _ _ h => h) (fun _ h => h.elim) ?aF (Below.refl _ _) ?aS ?aL ?_; (case aR => exact Kd.C_keep 0 HR1.out (by repeat (first | (with_reducible first | exact HK.out | apply KeepBut.set_ | apply keep_drewN | apply keep_drew | apply keep_alloc) | exact HK.out)) hf1); (case aF => exact (fun _ _ => trivial)); (case aO => exact (by (with_reducible repeat (first | apply Kd.R_alloc | apply Kd.R_drewN | apply Kd.R_drew)); exact HO706.out)); (case aS => exact (keep_size (w := w) (g := g) (row := none) (by repeat (first | (with_reducible first | exact HK.out | apply KeepBut.set_ | apply keep_drewN | apply keep_drew | apply keep_alloc) | exact HK.out)))); (case aL => have := LMc3.out; omega); intro v708 w7 ho hb hg hat; rw [← Ny707.out] at ho; have n0_ := Aside0.mk (IsS125.grown (by repeat (first | (with_reducible first | exact HI0.out | apply IsS125.alloc | apply IsS125.drewN | apply IsS125.drew | apply IsS125.set_1) | exact HI0.out)) hg (IsS125.own_ne HI0.out HO706.out (by decide))); have n1_ := Aside0.mk (below_weaken (by repeat (first | (with_reducible first | exact HB.out | apply below_alloc | apply pw_below_drewN | apply below_drew1 | refine below_set ?_ (IsS125.ge HI0.out)) | exact HB.out)) HL.out hb); have n2_ := Aside0.mk (KeepBut.trans (by repeat (first | (with_reducible first | exact HK.out | apply KeepBut.set_ | apply keep_drewN | apply keep_drew | apply keep_alloc) | exact HK.out)) (KeepBut.of_grown hg g) (Kd.R_base2 HO706.out)); have n3_ := Aside0.mk (ho); clear HI0; clear HB; clear HK; clear HO706; have HI0 := n0_; have HB := n1_; have HK := n2_; have HO709 := n3_; clear n0_ n1_ n2_ n3_; clear ho hb hg hat) | ((with_reducible refine gate_callee (f := 86) rfl ?_); refine goesL_ (some 11) rfl rfl Try.func86 (by kernel_rfl) rfl #[.pointer (some ⟨g, 0, none⟩), .int .i64 3] rfl (by (try simp only [List.map_toArray, List.map_cons, List.map_nil]); first | done | rfl | (simp only [List.length_drop, List.length_take]; rfl)) ?_; (with_reducible refine (spec_l6Rd_pick.calls k g s0_0 s0_1 3 t710 t711 w0 _ ?side1 ?side2 A4.out).mono ?_); (case side1 => repeat (first | (with_reducible first | exact HI0.out | apply IsS125.alloc | apply IsS125.drewN | apply IsS125.drew | apply IsS125.set_1) | exact HI0.out)); (case side2 => repeat (first | (with_reducible first | exact HB.out | apply below_alloc | apply pw_below_drewN | apply below_drew1 | refine below_set ?_ (IsS125.ge HI0.out)) | exact HB.out)); rintro e w8 ⟨rfl, hi, hb, hk⟩; refine ⟨_, rfl, ?_⟩; have n0_ := Aside0.mk (Kd.R_mono (Kd.R_keep (IsS125.apart (show IsS125 w0 _ g s0_0 s0_1 from by repeat (first | (with_reducible first | exact HI0.out | apply IsS125.alloc | apply IsS125.drewN | apply IsS125.drew | apply IsS125.set_1) | exact HI0.out)) (by (with_reducible repeat (first | apply Kd.R_alloc | apply Kd.R_drewN | apply Kd.R_drew)); exact HO709.out) (by decide)) hk (fun _ h => h.2)) (fun _ h => h.1)); have n1_ := Aside0.mk (KeepBut.trans (by repeat (first | (with_reducible first | exact HK.out | apply KeepBut.set_ | apply keep_drewN | apply keep_drew | apply keep_alloc) | exact HK.out)) hk (.inl rfl)); have n2_ := Aside0.mk (hb); have n3_ := Aside0.mk (hi); clear HO709; clear HK; clear HB; clear HI0; have HO709 := n0_; have HK := n1_; have HB := n2_; have HI0 := n3_; clear n0_ n1_ n2_ n3_; (try clear hb); (try clear hb2); (try clear hk); (try clear hi)))
    go_loopg [6] k (fun kq v6 w' => ∃ (x5_1 : List Int) (x6_1 : Int) (x1001_1 : Int), v6 = .int .i64 x6_1 ∧ Aside0 (spec_l91More.l0 kq x5_1 x6_1 s0_0 x1001_1 = some (r1, r2)) ∧ Aside0 (kq ≤ k) ∧ Aside0 (Kd.R (Kd.int .i64) 3 w' w.heap.size (fun _ => True) v708 x5_1) ∧ Aside0 (IsS125 w0 w' g s0_0 x1001_1) ∧ Aside0 (KeepBut w w' g none) ∧ Aside0 (Below w0.heap.size w0 w'))
    case atStart => exact ⟨(y707), (t710), (t711), (by first | rfl | (simp; done) | (simp [*]; done)), H', ⟨Nat.le_refl _⟩, ⟨by (with_reducible repeat (first | apply Kd.R_alloc | apply Kd.R_drewN | apply Kd.R_drew)); exact HO709.out⟩, ⟨by repeat (first | (with_reducible first | exact HI0.out | apply IsS125.alloc | apply IsS125.drewN | apply IsS125.drew | apply IsS125.set_1) | exact HI0.out)⟩, ⟨by repeat (first | (with_reducible first | exact HK.out | apply KeepBut.set_ | apply keep_drewN | apply keep_drew | apply keep_alloc) | exact HK.out)⟩, ⟨by repeat (first | (with_reducible first | exact HB.out | apply below_alloc | apply pw_below_drewN | apply below_drew1 | refine below_set ?_ (IsS125.ge HI0.out)) | exact HB.out)⟩⟩
    case round =>
      clear H'
      try clear c1
      try clear p2
      try clear c3
      try clear c8
      obtain ⟨x5_1, x6_1, x1001_1, rfl, HA, HK1, HO_5, HI0, HK, HB⟩ := hrel
      cases gk with
      | zero => exact absurd HA.out (by simp [spec_l91More.l0])
      | succ k1 =>
        have H := HA.out
        clear HA
        simp only [spec_l91More.l0] at H
        have HC9 := Aside0.mk H
        clear H
        go_upto_region 3 with (fail)
        go_cut [18] (fun v18 wc => ∃ (kq : Nat) (x18_8 : Bool), v18 = .bool x18_8 ∧ Aside0 (spec_l91More.j1 kq x5_1 x6_1 x18_8 s0_0 x1001_1 = some (r1, r2)) ∧ Aside0 (kq ≤ k1) ∧ Aside0 (Kd.R (Kd.int .i64) 3 wc w.heap.size (fun _ => True) v708 x5_1) ∧ Aside0 (IsS125 w0 wc g s0_0 x1001_1) ∧ Aside0 (KeepBut w wc g none) ∧ Aside0 (Below w0.heap.size w0 wc))
        case first =>
          have H := HC9.out
          clear HC9
          by_cases c10 : x6_1 > 0
          · rw [if_pos c10] at H
            have c10b0 : decide (0 < x6_1) = true := decide_eq_true c10
            clear c10
            (first | rw [c10b0] | (simp only [i64_w, i32_w]; rw [c10b0]) | skip)
            have H' := Aside0.mk H
            clear H
            obtain ⟨Ao11, co11, eo11⟩ := Kd.R_slice HO_5.out
            subst eo11
            go_wp2
            go_meet
            case rel => exact ⟨_, (decide ((x5_1.length : Int) > 0)), (by first | rfl | (simp; done) | (simp [*]; done)), H', ⟨by have := HK1.out; first | omega | exact Nat.le_refl _⟩, ⟨by (with_reducible repeat (first | apply Kd.R_alloc | apply Kd.R_drewN | apply Kd.R_drew)); exact HO_5.out⟩, ⟨by repeat (first | (with_reducible first | exact HI0.out | apply IsS125.alloc | apply IsS125.drewN | apply IsS125.drew | apply IsS125.set_1) | exact HI0.out)⟩, ⟨by repeat (first | (with_reducible first | exact HK.out | apply KeepBut.set_ | apply keep_drewN | apply keep_drew | apply keep_alloc) | exact HK.out)⟩, ⟨by repeat (first | (with_reducible first | exact HB.out | apply below_alloc | apply pw_below_drewN | apply below_drew1 | refine below_set ?_ (IsS125.ge HI0.out)) | exact HB.out)⟩⟩
          · rw [if_neg c10] at H
            have c10b0 : decide (0 < x6_1) = false := decide_eq_false c10
            clear c10
            (first | rw [c10b0] | (simp only [i64_w, i32_w]; rw [c10b0]) | skip)
            have H' := Aside0.mk H
            clear H
            go_wp2
            go_meet
            case rel => exact ⟨_, (false), (by first | rfl | (simp; done) | (simp [*]; done)), H', ⟨by have := HK1.out; first | omega | exact Nat.le_refl _⟩, ⟨by (with_reducible repeat (first | apply Kd.R_alloc | apply Kd.R_drewN | apply Kd.R_drew)); exact HO_5.out⟩, ⟨by repeat (first | (with_reducible first | exact HI0.out | apply IsS125.alloc | apply IsS125.drewN | apply IsS125.drew | apply IsS125.set_1) | exact HI0.out)⟩, ⟨by repeat (first | (with_reducible first | exact HK.out | apply KeepBut.set_ | apply keep_drewN | apply keep_drew | apply keep_alloc) | exact HK.out)⟩, ⟨by repeat (first | (with_reducible first | exact HB.out | apply below_alloc | apply pw_below_drewN | apply below_drew1 | refine below_set ?_ (IsS125.ge HI0.out)) | exact HB.out)⟩⟩
        case rest =>
          clear HC9
          try clear c1
          try clear p2
          try clear c3
          try clear c8
          try clear c10
          try clear c10b0
          try clear p2
          obtain ⟨kq, x18_8, rfl, HA, HJ8, HO_5, HI0, HK, HB⟩ := hcut
          cases kq with
          | zero => exact absurd HA.out (by simp [spec_l91More.j1])
          | succ kj8 =>
            have H := HA.out
            clear HA
            simp only [spec_l91More.j1] at H
            by_cases c12 : x18_8 = true
            · subst c12
              have H1 : ((spec_l6Rd_pick.f kj8 s0_0 x1001_1 (x5_1.length : Int)).bind fun bt712 => ((spec_l6Rd_pick.f kj8 s0_0 bt712.2 4).bind fun bt714 => (if 0 ≤ bt712.1 then (if bt712.1 < (x5_1.length : Int) then (spec_l91More.l0 kj8 (x5_1.set (bt712.1 : Int).toNat bt714.1) (wrap64 (x6_1 - 1)) s0_0 bt714.2) else (none)) else (none)))) = some (r1, r2) := by rw [if_pos rfl] at H; exact H
              clear H
              have H := H1
              clear H1
              replace H := Option.bind_eq_some_iff.mp H
              obtain ⟨⟨t712, t713⟩, A130, H⟩ := H
              replace H : ((spec_l6Rd_pick.f kj8 s0_0 t713 4).bind fun bt714 => (if 0 ≤ t712 then (if t712 < (x5_1.length : Int) then (spec_l91More.l0 kj8 (x5_1.set (t712 : Int).toNat bt714.1) (wrap64 (x6_1 - 1)) s0_0 bt714.2) else (none)) else (none))) = some (r1, r2) := H
              have A13 := Aside0.mk A130
              clear A130
              replace H := Option.bind_eq_some_iff.mp H
              obtain ⟨⟨t714, t715⟩, A140, H⟩ := H
              replace H : (if 0 ≤ t712 then (if t712 < (x5_1.length : Int) then (spec_l91More.l0 kj8 (x5_1.set (t712 : Int).toNat t714) (wrap64 (x6_1 - 1)) s0_0 t715) else (none)) else (none)) = some (r1, r2) := H
              have A14 := Aside0.mk A140
              clear A140
              by_cases c15 : 0 ≤ t712
              · rw [if_pos c15] at H
                have c15b0 : decide (0 ≤ t712) = true := decide_eq_true c15
                clear c15
                by_cases c16 : t712 < (x5_1.length : Int)
                · rw [if_pos c16] at H
                  have c16b0 : decide (t712 < (x5_1.length : Int)) = true := decide_eq_true c16
                  clear c16
                  obtain ⟨y716, hy716⟩ : ∃ y_ : List Int, y_ = (x5_1.set (t712 : Int).toNat t714) := ⟨_, rfl⟩
                  replace H : (spec_l91More.l0 kj8 y716 (wrap64 (x6_1 - 1)) s0_0 t715) = some (r1, r2) := by first | (rw [hy716]; with_reducible exact H) | (have H2_ := (Option.bind_some _ _).symm.trans H; rw [hy716]; with_reducible exact H2_) | (have H2_ := (Option.bind_some _ _).symm.trans H; with_reducible exact H2_) | with_reducible exact H | (rw [hy716]; exact H) | exact H
                  have Ny716 := Aside0.mk hy716
                  clear hy716
                  have H' := Aside0.mk H
                  clear H
                  obtain ⟨Ao18, co18, eo18⟩ := Kd.R_slice HO_5.out
                  subst eo18
                  go_wp2_with (first | ((with_reducible refine gate_callee (f := 86) rfl ?_); refine goesL_ (some 25) rfl rfl Try.func86 (by kernel_rfl) rfl #[.pointer (some ⟨g, 0, none⟩), .int .i64 (x5_1.length : Int)] rfl (by (try simp only [List.map_toArray, List.map_cons, List.map_nil]); first | done | rfl | (simp only [List.length_drop, List.length_take]; rfl)) ?_; (with_reducible refine (spec_l6Rd_pick.calls kj8 g s0_0 x1001_1 (x5_1.length : Int) t712 t713 w0 _ ?side1 ?side2 A13.out).mono ?_); (case side1 => repeat (first | (with_reducible first | exact HI0.out | apply IsS125.alloc | apply IsS125.drewN | apply IsS125.drew | apply IsS125.set_1) | exact HI0.out)); (case side2 => repeat (first | (with_reducible first | exact HB.out | apply below_alloc | apply pw_below_drewN | apply below_drew1 | refine below_set ?_ (IsS125.ge HI0.out)) | exact HB.out)); rintro e w19 ⟨rfl, hi, hb, hk⟩; refine ⟨_, rfl, ?_⟩; have n0_ := Aside0.mk (Kd.R_mono (Kd.R_keep (IsS125.apart (show IsS125 w0 _ g s0_0 x1001_1 from by repeat (first | (with_reducible first | exact HI0.out | apply IsS125.alloc | apply IsS125.drewN | apply IsS125.drew | apply IsS125.set_1) | exact HI0.out)) (by (with_reducible repeat (first | apply Kd.R_alloc | apply Kd.R_drewN | apply Kd.R_drew)); exact HO_5.out) (by decide)) hk (fun _ h => h.2)) (fun _ h => h.1)); have n1_ := Aside0.mk (KeepBut.trans (by repeat (first | (with_reducible first | exact HK.out | apply KeepBut.set_ | apply keep_drewN | apply keep_drew | apply keep_alloc) | exact HK.out)) hk (.inl rfl)); have n2_ := Aside0.mk (hb); have n3_ := Aside0.mk (hi); clear HO_5; clear HK; clear HB; clear HI0; have HO_5 := n0_; have HK := n1_; have HB := n2_; have HI0 := n3_; clear n0_ n1_ n2_ n3_; (try clear hb); (try clear hb2); (try clear hk); (try clear hi)) | ((with_reducible refine gate_callee (f := 86) rfl ?_); refine goesL_ (some 27) rfl rfl Try.func86 (by kernel_rfl) rfl #[.pointer (some ⟨g, 0, none⟩), .int .i64 4] rfl (by (try simp only [List.map_toArray, List.map_cons, List.map_nil]); first | done | rfl | (simp only [List.length_drop, List.length_take]; rfl)) ?_; (with_reducible refine (spec_l6Rd_pick.calls kj8 g s0_0 t713 4 t714 t715 w0 _ ?side1 ?side2 A14.out).mono ?_); (case side1 => repeat (first | (with_reducible first | exact HI0.out | apply IsS125.alloc | apply IsS125.drewN | apply IsS125.drew | apply IsS125.set_1) | exact HI0.out)); (case side2 => repeat (first | (with_reducible first | exact HB.out | apply below_alloc | apply pw_below_drewN | apply below_drew1 | refine below_set ?_ (IsS125.ge HI0.out)) | exact HB.out)); rintro e w20 ⟨rfl, hi, hb, hk⟩; refine ⟨_, rfl, ?_⟩; have n0_ := Aside0.mk (Kd.R_mono (Kd.R_keep (IsS125.apart (show IsS125 w0 _ g s0_0 t713 from by repeat (first | (with_reducible first | exact HI0.out | apply IsS125.alloc | apply IsS125.drewN | apply IsS125.drew | apply IsS125.set_1) | exact HI0.out)) (by (with_reducible repeat (first | apply Kd.R_alloc | apply Kd.R_drewN | apply Kd.R_drew)); exact HO_5.out) (by decide)) hk (fun _ h => h.2)) (fun _ h => h.1)); have n1_ := Aside0.mk (KeepBut.trans (by repeat (first | (with_reducible first | exact HK.out | apply KeepBut.set_ | apply keep_drewN | apply keep_drew | apply keep_alloc) | exact HK.out)) hk (.inl rfl)); have n2_ := Aside0.mk (hb); have n3_ := Aside0.mk (hi); clear HO_5; clear HK; clear HB; clear HI0; have HO_5 := n0_; have HK := n1_; have HB := n2_; have HI0 := n3_; clear n0_ n1_ n2_ n3_; (try clear hb); (try clear hb2); (try clear hk); (try clear hi); have p17 : 0 ≤ (t712 : Int) := of_decide_eq_true (by first | (with_reducible assumption) | assumption); have q17 : (t712 : Int) < ((x5_1.length : Int) : Int) := of_decide_eq_true (by first | (with_reducible assumption) | assumption); obtain ⟨go17, co17, eo17, gb17, gl17, cl17, HG17⟩ := Kd.R_form HO_5.out (by omega); (first | cases eo17 | (injection eo17 with ea_ en_ ec_; (first | subst ea_ | (injection ea_ with ea_; subst ea_)); subst ec_; clear en_)); have GB17 := Aside0.mk gb17; have GG17 := Aside0.mk HG17; clear gb17 gl17 HG17; obtain ⟨hx17_0, hf17_0⟩ := Kd.R_celln 0 HO_5.out (t712 : Int) p17 q17; replace p17 := eq_true p17; replace q17 := eq_true q17; obtain ⟨hy21_, hz21_⟩ := Kd.R_celln 0 HO_5.out (t712 : Int) (of_decide_eq_true (by first | (with_reducible assumption) | assumption)) (of_decide_eq_true (by first | (with_reducible assumption) | assumption)); have HP21 := Kd.R_putg HO_5.out (t712 : Int) t714) | ((with_reducible refine gate_store (t := 3) (p := 28) rfl ?_); refine store_event (t := 3) (p := 28) (v := ?vo_w22) (w1 := (w20.setCell ⟨go17, (t712 : Int).toNat, none⟩ (.int .i64 t714))) ?hg ?ho ?hn ?hr ?_; (case ho => rfl); (case hg => rfl); (case hn => rfl); (case hr => first | (go_simp; done) | (go_simp; rfl)); intro w22 hw; have hg : w20.grownBy w22 (some go17) := (by rw [hw]; exact HP21.2); have hp_ : Kd.R (Kd.int .i64) 3 w22 w.heap.size (fun _ => True) (.slice (some ⟨go17, 0, none⟩) x5_1.length co18) y716 := (by rw [hw, Ny716.out]; exact HP21.1); clear HP21; have n0_ := Aside0.mk (hp_); have n1_ := Aside0.mk (IsS125.grown (by repeat (first | (with_reducible first | exact HI0.out | apply IsS125.alloc | apply IsS125.drewN | apply IsS125.drew | apply IsS125.set_1) | exact HI0.out)) hg (IsS125.own_ne HI0.out HO_5.out (by decide))); have n2_ := Aside0.mk ((by rw [hw]; exact below_set (HB.out) (Nat.le_trans HL.out GB17.out) : Below w0.heap.size w0 w22)); have n3_ := Aside0.mk (KeepBut.trans (by repeat (first | (with_reducible first | exact HK.out | apply KeepBut.set_ | apply keep_drewN | apply keep_drew | apply keep_alloc) | exact HK.out)) (KeepBut.of_grown hg g) (Kd.R_base2 HO_5.out)); clear HO_5; clear HI0; clear HB; clear HK; have HO_5 := n0_; have HI0 := n1_; have HB := n2_; have HK := n3_; clear n0_ n1_ n2_ n3_; clear hg hw hp_))
                  go_roundg kj8
                  case measure => have := HK1.out; have := HJ8.out; omega
                  case rel => exact ⟨(y716), (wrap64 (x6_1 - 1)), (t715), (by first | rfl | (simp; done) | (simp [*]; done)), H', ⟨by have := HK1.out; have := HJ8.out; omega⟩, ⟨by (with_reducible repeat (first | apply Kd.R_alloc | apply Kd.R_drewN | apply Kd.R_drew)); exact HO_5.out⟩, ⟨by repeat (first | (with_reducible first | exact HI0.out | apply IsS125.alloc | apply IsS125.drewN | apply IsS125.drew | apply IsS125.set_1) | exact HI0.out)⟩, ⟨by repeat (first | (with_reducible first | exact HK.out | apply KeepBut.set_ | apply keep_drewN | apply keep_drew | apply keep_alloc) | exact HK.out)⟩, ⟨by repeat (first | (with_reducible first | exact HB.out | apply below_alloc | apply pw_below_drewN | apply below_drew1 | refine below_set ?_ (IsS125.ge HI0.out)) | exact HB.out)⟩⟩
                · rw [if_neg c16] at H
                  exact absurd H (by simp)
              · rw [if_neg c15] at H
                exact absurd H (by simp)
            · replace c12 := Bool.eq_false_iff.mpr c12
              subst c12
              have H1 : (some (x5_1, x1001_1)) = some (r1, r2) := by rw [if_neg (show ¬ (false = true) by decide)] at H; exact H
              clear H
              have H := H1
              clear H1
              simp only [Option.some.injEq, Prod.mk.injEq] at H
              obtain ⟨rfl, rfl⟩ := H
              go_wp2
              go_ret
              exact ⟨_, by first | rfl | (simp [errW_none, errW_some] <;> rfl) | (simp [*, errW_none, errW_some] <;> rfl), by (with_reducible repeat (first | apply Kd.R_alloc | apply Kd.R_drewN | apply Kd.R_drew)); exact HO_5.out, by repeat (first | (with_reducible first | exact HI0.out | apply IsS125.alloc | apply IsS125.drewN | apply IsS125.drew | apply IsS125.set_1) | exact HI0.out), by repeat (first | (with_reducible first | exact HB.out | apply below_alloc | apply pw_below_drewN | apply below_drew1 | refine below_set ?_ (IsS125.ge HI0.out)) | exact HB.out), by repeat (first | (with_reducible first | exact HK.out | apply KeepBut.set_ | apply keep_drewN | apply keep_drew | apply keep_alloc) | exact HK.out)⟩
  · rw [if_neg c3] at H
    exact absurd H (by simp)
def spec_DrawTaskSame.f (k : Nat) (l0 : List Int) : Option (Int × Int × (List (S25)) × List Int × List Int) := (spec_l6Open.f l0).bind fun bt718 => ((spec_l91Any.f k bt718.1 bt718.2).bind fun bt721 => ((spec_l91Values.f k bt718.1 bt721.2.2.2).bind fun bt728 => ((spec_l91More.f k bt718.1 bt728.2 bt728.1).bind fun bt732 => (some (bt721.1, bt721.2.1, bt721.2.2.1, bt728.1, bt732.1)))))
set_option maxHeartbeats 8000000 in
set_option maxRecDepth 100000 in
theorem spec_DrawTaskSame.calls (k : Nat) (A0 : Option Addr) (c0 : Nat) (l0 : List Int) (r1 : Int) (r2 : Int) (r3 : List (S25)) (r4 : List Int) (r5 : List Int) (w : World) (hr0 : Kd.C (Kd.int .u8) w A0 l0.length l0) (hc0 : l0.length ≤ c0) (h : spec_DrawTaskSame.f k l0 = some (r1, r2, r3, r4, r5)) :
    Calls Try.prog 41 #[.slice A0 l0.length c0] w fun e w' => ∃ v2_ v3_ v4_ : Value, e = .returned (.tuple #[.agg #[.int .i64 r1, .int .i64 r2, v2_], v3_, v4_]) ∧ Kd.N k25 25 w' w.heap.size (fun k_ => (w.heap.size ≤ k_) ∧ some k_ ≠ (v3_ : Value).ownBlock ∧ some k_ ≠ (v4_ : Value).ownBlock) v2_ r3 ∧ Kd.R (Kd.int .i64) 3 w' w.heap.size (fun k_ => (w.heap.size ≤ k_) ∧ some k_ ≠ (v4_ : Value).ownBlock) v3_ r4 ∧ Kd.R (Kd.int .i64) 3 w' w.heap.size (fun k_ => (w.heap.size ≤ k_) ∧ some k_ ≠ (v3_ : Value).ownBlock) v4_ r5 ∧ Below w.heap.size w w' := by
  have hu25 := Try.underlying25
  have HR0 := Aside0.mk hr0
  have HC0 := Aside0.mk hc0
  clear hr0 hc0
  have HB := Aside0.mk (Below.refl w.heap.size w)
  have H : ((spec_l6Open.f l0).bind fun bt718 => ((spec_l91Any.f k bt718.1 bt718.2).bind fun bt721 => ((spec_l91Values.f k bt718.1 bt721.2.2.2).bind fun bt728 => ((spec_l91More.f k bt718.1 bt728.2 bt728.1).bind fun bt732 => (some (bt721.1, bt721.2.1, bt721.2.2.1, bt728.1, bt732.1)))))) = some (r1, r2, r3, r4, r5) := h
  clear h
  replace H := Option.bind_eq_some_iff.mp H
  obtain ⟨⟨t718, t719⟩, A20, H⟩ := H
  replace H : ((spec_l91Any.f k t718 t719).bind fun bt721 => ((spec_l91Values.f k t718 bt721.2.2.2).bind fun bt728 => ((spec_l91More.f k t718 bt728.2 bt728.1).bind fun bt732 => (some (bt721.1, bt721.2.1, bt721.2.2.1, bt728.1, bt732.1))))) = some (r1, r2, r3, r4, r5) := H
  have A2 := Aside0.mk A20
  clear A20
  replace H := Option.bind_eq_some_iff.mp H
  obtain ⟨⟨t721, t722, t723, t726⟩, A30, H⟩ := H
  replace H : ((spec_l91Values.f k t718 t726).bind fun bt728 => ((spec_l91More.f k t718 bt728.2 bt728.1).bind fun bt732 => (some (t721, t722, t723, bt728.1, bt732.1)))) = some (r1, r2, r3, r4, r5) := H
  have A3 := Aside0.mk A30
  clear A30
  replace H := Option.bind_eq_some_iff.mp H
  obtain ⟨⟨t728, t731⟩, A40, H⟩ := H
  replace H : ((spec_l91More.f k t718 t731 t728).bind fun bt732 => (some (t721, t722, t723, t728, bt732.1))) = some (r1, r2, r3, r4, r5) := H
  have A4 := Aside0.mk A40
  clear A40
  replace H := Option.bind_eq_some_iff.mp H
  obtain ⟨⟨t732, t735⟩, A50, H⟩ := H
  replace H : (some (t721, t722, t723, t728, t732)) = some (r1, r2, r3, r4, r5) := H
  have A5 := Aside0.mk A50
  clear A50
  simp only [Option.some.injEq, Prod.mk.injEq] at H
  obtain ⟨rfl, rfl, rfl, rfl, rfl⟩ := H
  go_enter Try.func41, Try.ntmps41
  go_wp2_with (first | ((with_reducible refine gate_dst (N := 2) rfl ?_); refine box_event ?hg (N := 2) ?hd (cs := #[.int .i64 0, .int .i64 0, .slice none 0 0]) (t := 25) ?hr ?_; (case hd => rfl); (case hg => rfl); (case hr => first | (go_simp; done) | (go_simp; rfl)); intro gb717 hg w6 hbox hb; have n0_ := Aside0.mk (below_step (by repeat (first | (with_reducible first | exact HB.out | apply below_alloc | apply pw_below_drewN | apply below_drew1) | exact HB.out)) hb); have n1_ := Aside0.mk (hbox); have n2_ := Aside0.mk ((by rw [hg]; exact (below_size (by repeat (first | (with_reducible first | exact HB.out | apply below_alloc | apply pw_below_drewN | apply below_drew1) | exact HB.out))) : w.heap.size ≤ gb717)); have n3_ := Aside0.mk ((by rw [hg]; exact (below_size (by repeat (first | (with_reducible first | exact HB.out | apply below_alloc | apply pw_below_drewN | apply below_drew1) | exact HB.out))) : w.heap.size ≤ gb717)); clear HB; have HB := n0_; have BK717 := n1_; have GW717 := n2_; have GE717 := n3_; clear n0_ n1_ n2_ n3_; clear hb hbox hg) | ((with_reducible refine gate_callee (f := 62) rfl ?_); refine goesL_ (some 10) rfl rfl Try.func62 (by kernel_rfl) rfl #[.slice A0 l0.length c0] rfl (by (try simp only [List.map_toArray, List.map_cons, List.map_nil]); first | done | rfl | (simp only [List.length_drop, List.length_take]; rfl)) ?_; (with_reducible refine (spec_l6Open.calls _ _ l0 t718 t719 w _ ?side1 ?side2 ?side3 A2.out).mono ?_); (case side1 => repeat (first | (with_reducible first | exact HB.out | apply below_alloc | apply pw_below_drewN | apply below_drew1 | refine below_set ?_ GE717.out) | exact HB.out)); (case side2 => exact HR0.out); (case side3 => exact HC0.out); rintro e w7 ⟨g720, rfl, hi, hb, hb2⟩; refine ⟨_, rfl, ?_⟩; have n0_ := Aside0.mk (blk_below (g := gb717) (o := .cells #[.int .i64 0, .int .i64 0, .slice none 0 0] 25 (0, 0)) (by (with_reducible repeat (first | refine blk_drewN ?_ _ | refine blk_drew ?_ | refine blk_alloc ?_ _)); exact BK717.out) hb2); have n1_ := Aside0.mk (hb); have n2_ := Aside0.mk (hi); have n3_ := Aside0.mk (IsS125.ne_blk hi (blk_below (g := gb717) (o := .cells #[.int .i64 0, .int .i64 0, .slice none 0 0] 25 (0, 0)) (by (with_reducible repeat (first | refine blk_drewN ?_ _ | refine blk_drew ?_ | refine blk_alloc ?_ _)); exact BK717.out) hb2) (by decide)); have n4_ := Aside0.mk (Ne.symm (IsS125.ne_blk hi (blk_below (g := gb717) (o := .cells #[.int .i64 0, .int .i64 0, .slice none 0 0] 25 (0, 0)) (by (with_reducible repeat (first | refine blk_drewN ?_ _ | refine blk_drew ?_ | refine blk_alloc ?_ _)); exact BK717.out) hb2) (by decide))); clear BK717; clear HB; have BK717 := n0_; have HB := n1_; have HI720 := n2_; have NB720_717 := n3_; have NB717_720 := n4_; clear n0_ n1_ n2_ n3_ n4_; (try clear hb); (try clear hb2); (try clear hk); (try clear hi)) | ((with_reducible refine gate_callee (f := 63) rfl ?_); refine goesL_ (some 12) rfl rfl Try.func63 (by kernel_rfl) rfl #[.pointer (some ⟨g720, 0, none⟩)] rfl (by (try simp only [List.map_toArray, List.map_cons, List.map_nil]); first | done | rfl | (simp only [List.length_drop, List.length_take]; rfl)) ?_; (with_reducible refine (spec_l91Any.calls k g720 t718 t719 t721 t722 t723 t726 w _ ?side1 ?side2 A3.out).mono ?_); (case side1 => repeat (first | (with_reducible first | exact HI720.out | apply IsS125.alloc | apply IsS125.drewN | apply IsS125.drew | apply IsS125.set_1 | refine IsS125.far ?_ NB720_717.out _) | exact HI720.out)); (case side2 => repeat (first | (with_reducible first | exact HB.out | apply below_alloc | apply pw_below_drewN | apply below_drew1 | refine below_set ?_ (IsS125.ge HI720.out) | refine below_set ?_ GE717.out) | exact HB.out)); rintro e w8 ⟨v724, rfl, ho0, hi, hb, hk⟩; refine ⟨_, rfl, ?_⟩; have n0_ := Aside0.mk (KeepBut.blk hk (g' := gb717) (o := .cells #[.int .i64 0, .int .i64 0, .slice none 0 0] 25 (0, 0)) (by (with_reducible repeat (first | refine blk_drewN ?_ _ | refine blk_drew ?_ | refine blk_alloc ?_ _)); exact BK717.out) NB717_720.out (by simp)); have n1_ := Aside0.mk (Kd.N_lower (Kd.N_mono (ok' := fun k_ => (w.heap.size ≤ k_) ∧ k_ ≠ gb717 ∧ k_ ≠ g720) ho0 (fun k_ hk_ => ⟨(Nat.le_trans (below_size (by repeat (first | (with_reducible first | exact HB.out | apply below_alloc | apply pw_below_drewN | apply below_drew1 | refine below_set ?_ (IsS125.ge HI720.out) | refine below_set ?_ GE717.out) | exact HB.out))) hk_), (Kd.freshB (g := gb717) (o := .cells #[.int .i64 0, .int .i64 0, .slice none 0 0] 25 (0, 0)) (by (with_reducible repeat (first | refine blk_drewN ?_ _ | refine blk_drew ?_ | refine blk_alloc ?_ _)); exact BK717.out) k_ hk_), (IsS125.fresh (by repeat (first | (with_reducible first | exact HI720.out | apply IsS125.alloc | apply IsS125.drewN | apply IsS125.drew | apply IsS125.set_1 | refine IsS125.far ?_ NB720_717.out _) | exact HI720.out)) k_ hk_)⟩)) (below_size (by repeat (first | (with_reducible first | exact HB.out | apply below_alloc | apply pw_below_drewN | apply below_drew1 | refine below_set ?_ (IsS125.ge HI720.out) | refine below_set ?_ GE717.out) | exact HB.out)))); have n2_ := Aside0.mk (hb); have n3_ := Aside0.mk (hi); clear BK717; clear HB; clear HI720; have BK717 := n0_; have HO725 := n1_; have HB := n2_; have HI720 := n3_; clear n0_ n1_ n2_ n3_; (try clear hb); (try clear hb2); (try clear hk); (try clear hi); (try clear ho0)) | ((with_reducible refine gate_dst (N := 6) rfl ?_); refine box_event ?hg (N := 6) ?hd (cs := #[.int .i64 0, .int .i64 0, .slice none 0 0]) (t := 25) ?hr ?_; (case hd => rfl); (case hg => rfl); (case hr => first | (go_simp; done) | (go_simp; rfl)); intro gb727 hg w9 hbox hb; have n0_ := Aside0.mk (Kd.N_below (Kd.N_elderB (by (with_reducible repeat (first | apply Kd.N_alloc | apply Kd.N_drewN | apply Kd.N_drew)); exact HO725.out) gb727 (Nat.le_of_eq hg.symm)) hb); have n1_ := Aside0.mk (blk_below (g := gb717) (o := .cells #[.int .i64 0, .int .i64 0, .slice none 0 0] 25 (0, 0)) (by (with_reducible repeat (first | refine blk_drewN ?_ _ | refine blk_drew ?_ | refine blk_alloc ?_ _)); exact BK717.out) hb); have n2_ := Aside0.mk (IsS125.below (by repeat (first | (with_reducible first | exact HI720.out | apply IsS125.alloc | apply IsS125.drewN | apply IsS125.drew | apply IsS125.set_1 | refine IsS125.far ?_ NB720_717.out _) | exact HI720.out)) hb); have n3_ := Aside0.mk (below_step (by repeat (first | (with_reducible first | exact HB.out | apply below_alloc | apply pw_below_drewN | apply below_drew1 | refine below_set ?_ (IsS125.ge HI720.out) | refine below_set ?_ GE717.out) | exact HB.out)) hb); have n4_ := Aside0.mk (hbox); have n5_ := Aside0.mk ((by rw [hg]; exact (below_size (by repeat (first | (with_reducible first | exact HB.out | apply below_alloc | apply pw_below_drewN | apply below_drew1 | refine below_set ?_ (IsS125.ge HI720.out) | refine below_set ?_ GE717.out) | exact HB.out))) : w.heap.size ≤ gb727)); have n6_ := Aside0.mk ((by rw [hg]; exact (below_size (by repeat (first | (with_reducible first | exact HB.out | apply below_alloc | apply pw_below_drewN | apply below_drew1 | refine below_set ?_ (IsS125.ge HI720.out) | refine below_set ?_ GE717.out) | exact HB.out))) : w.heap.size ≤ gb727)); have n7_ := Aside0.mk ((by rw [hg]; exact Nat.ne_of_lt (blk_lt (g := gb717) (o := .cells #[.int .i64 0, .int .i64 0, .slice none 0 0] 25 (0, 0)) (by (with_reducible repeat (first | refine blk_drewN ?_ _ | refine blk_drew ?_ | refine blk_alloc ?_ _)); exact BK717.out)) : gb717 ≠ gb727)); have n8_ := Aside0.mk ((by rw [hg]; exact Nat.ne_of_gt (blk_lt (g := gb717) (o := .cells #[.int .i64 0, .int .i64 0, .slice none 0 0] 25 (0, 0)) (by (with_reducible repeat (first | refine blk_drewN ?_ _ | refine blk_drew ?_ | refine blk_alloc ?_ _)); exact BK717.out)) : gb727 ≠ gb717)); have n9_ := Aside0.mk ((by rw [hg]; exact Nat.ne_of_lt (IsS125.lt (show IsS125 w _ g720 t718 t726 from by repeat (first | (with_reducible first | exact HI720.out | apply IsS125.alloc | apply IsS125.drewN | apply IsS125.drew | apply IsS125.set_1 | refine IsS125.far ?_ NB720_717.out _) | exact HI720.out))) : g720 ≠ gb727)); have n10_ := Aside0.mk ((by rw [hg]; exact Nat.ne_of_gt (IsS125.lt (show IsS125 w _ g720 t718 t726 from by repeat (first | (with_reducible first | exact HI720.out | apply IsS125.alloc | apply IsS125.drewN | apply IsS125.drew | apply IsS125.set_1 | refine IsS125.far ?_ NB720_717.out _) | exact HI720.out))) : gb727 ≠ g720)); clear HO725; clear BK717; clear HI720; clear HB; have HO725 := n0_; have BK717 := n1_; have HI720 := n2_; have HB := n3_; have BK727 := n4_; have GW727 := n5_; have GE727 := n6_; have NB717_727 := n7_; have NB727_717 := n8_; have NB720_727 := n9_; have NB727_720 := n10_; clear n0_ n1_ n2_ n3_ n4_ n5_ n6_ n7_ n8_ n9_ n10_; clear hb hbox hg; have hnb10 := NB727_717.out; have hnc10 := NB717_727.out; have hnb11 := NB727_720.out; have hnc11 := NB720_727.out; have hcz12_0 : w9.cell? ⟨gb727, 0, none⟩ = some (.int .i64 0) := (blk_cell BK727.out 0).trans rfl; have hcz12_1 : w9.cell? ⟨gb727, 1, none⟩ = some (.int .i64 0) := (blk_cell BK727.out 1).trans rfl; have hcz12_2 : w9.cell? ⟨gb727, 2, none⟩ = some (.slice none 0 0) := (blk_cell BK727.out 2).trans rfl; have hfz12_0 := blk_frozen BK727.out 0; have hfz12_1 := blk_frozen BK727.out 1; have hfz12_2 := blk_frozen BK727.out 2; obtain ⟨Ao13, co13, eo13⟩ := Kd.N_slice HO725.out; subst eo13) | ((with_reducible refine gate_callee (f := 76) rfl ?_); refine goesL_ (some 14) rfl rfl Try.func76 (by kernel_rfl) rfl #[.pointer (some ⟨g720, 0, none⟩)] rfl (by (try simp only [List.map_toArray, List.map_cons, List.map_nil]); first | done | rfl | (simp only [List.length_drop, List.length_take]; rfl)) ?_; (with_reducible refine (spec_l91Values.calls k g720 t718 t726 t728 t731 w _ ?side1 ?side2 A4.out).mono ?_); (case side1 => repeat (first | (with_reducible first | exact HI720.out | apply IsS125.alloc | apply IsS125.drewN | apply IsS125.drew | apply IsS125.set_1 | refine IsS125.far ?_ NB720_717.out _ | refine IsS125.far ?_ NB720_727.out _) | exact HI720.out)); (case side2 => repeat (first | (with_reducible first | exact HB.out | apply below_alloc | apply pw_below_drewN | apply below_drew1 | refine below_set ?_ (IsS125.ge HI720.out) | refine below_set ?_ GE717.out | refine below_set ?_ GE727.out) | exact HB.out)); rintro e w14 ⟨v729, rfl, ho0, hi, hb, hk⟩; refine ⟨_, rfl, ?_⟩; have n0_ := Aside0.mk (KeepBut.blk hk (g' := gb717) (o := .cells #[.int .i64 0, .int .i64 0, .slice none 0 0] 25 (0, 0)) (by (with_reducible repeat (first | refine blk_drewN ?_ _ | refine blk_drew ?_ | refine blk_alloc ?_ _)); refine blk_far ?_ NB717_727.out _; (with_reducible repeat (first | refine blk_drewN ?_ _ | refine blk_drew ?_ | refine blk_alloc ?_ _)); refine blk_far ?_ NB717_727.out _; (with_reducible repeat (first | refine blk_drewN ?_ _ | refine blk_drew ?_ | refine blk_alloc ?_ _)); refine blk_far ?_ NB717_727.out _; (with_reducible repeat (first | refine blk_drewN ?_ _ | refine blk_drew ?_ | refine blk_alloc ?_ _)); exact BK717.out) NB717_720.out (by simp)); have n1_ := Aside0.mk (Kd.N_mono (Kd.N_told (Kd.N_oldK (Kd.N_mono (ok := fun k_ => ((((w.heap.size ≤ k_)) ∧ (k_ ≠ gb717 ∧ k_ ≠ g720)) ∧ k_ ≠ gb727)) (by (with_reducible repeat (first | apply Kd.N_alloc | apply Kd.N_drewN | apply Kd.N_drew)); exact (Kd.N_mono (Kd.N_far (p := ⟨gb727, 2, none⟩) (Kd.N_far (p := ⟨gb727, 1, none⟩) (Kd.N_far (p := ⟨gb727, 0, none⟩) (Kd.N_mono HO725.out (fun k_ hk => (⟨hk, hk.2⟩ : _ ∧ k_ ≠ gb727))) (fun _ hk => hk.2) (.int .i64 t721)) (fun _ hk => hk.2) (.int .i64 t722)) (fun _ hk => hk.2) (.slice Ao13 t723.length co13)) (fun _ h_ => h_.1))) (fun k_ hk_ => (⟨hk_, hk_.1.2.2⟩ : _ ∧ k_ ≠ g720))) hk) (Kd.R_base ho0)) (fun _ h_ => h_.1)); have n2_ := Aside0.mk (KeepBut.blk hk (g' := gb727) (o := .cells #[.int .i64 t721, .int .i64 t722, .slice Ao13 t723.length co13] 25 (0, 0)) (by (with_reducible repeat (first | refine blk_drewN ?_ _ | refine blk_drew ?_ | refine blk_alloc ?_ _)); refine blk_put (cs := #[.int .i64 t721, .int .i64 t722, .slice none 0 0]) ?_ 2 _ rfl; (with_reducible repeat (first | refine blk_drewN ?_ _ | refine blk_drew ?_ | refine blk_alloc ?_ _)); refine blk_put (cs := #[.int .i64 t721, .int .i64 0, .slice none 0 0]) ?_ 1 _ rfl; (with_reducible repeat (first | refine blk_drewN ?_ _ | refine blk_drew ?_ | refine blk_alloc ?_ _)); refine blk_put (cs := #[.int .i64 0, .int .i64 0, .slice none 0 0]) ?_ 0 _ rfl; (with_reducible repeat (first | refine blk_drewN ?_ _ | refine blk_drew ?_ | refine blk_alloc ?_ _)); exact BK727.out) NB727_720.out (by simp)); have n3_ := Aside0.mk (Kd.R_lower (Kd.R_newM (M := fun k_ => (w.heap.size ≤ k_)) ho0 (below_size (by repeat (first | (with_reducible first | exact HB.out | apply below_alloc | apply pw_below_drewN | apply below_drew1 | refine below_set ?_ (IsS125.ge HI720.out) | refine below_set ?_ GE717.out | refine below_set ?_ GE727.out) | exact HB.out))) (fun k_ h_ => h_)) (below_size (by repeat (first | (with_reducible first | exact HB.out | apply below_alloc | apply pw_below_drewN | apply below_drew1 | refine below_set ?_ (IsS125.ge HI720.out) | refine below_set ?_ GE717.out | refine below_set ?_ GE727.out) | exact HB.out)))); have n4_ := Aside0.mk (hb); have n5_ := Aside0.mk (hi); clear BK717; clear HO725; clear BK727; clear HB; clear HI720; have BK717 := n0_; have HO725 := n1_; have BK727 := n2_; have HO730 := n3_; have HB := n4_; have HI720 := n5_; clear n0_ n1_ n2_ n3_ n4_ n5_; (try clear hb); (try clear hb2); (try clear hk); (try clear hi); (try clear ho0); obtain ⟨Ao15, co15, eo15⟩ := Kd.R_slice HO730.out; subst eo15) | ((with_reducible refine gate_callee (f := 84) rfl ?_); refine goesL_ (some 17) rfl rfl Try.func84 (by kernel_rfl) rfl #[.pointer (some ⟨g720, 0, none⟩), .slice Ao15 t728.length co15] rfl (by (try simp only [List.map_toArray, List.map_cons, List.map_nil]); first | done | rfl | (simp only [List.length_drop, List.length_take]; rfl)) ?_; (with_reducible refine (spec_l91More.calls k g720 t718 t731 _ _ t728 t732 t735 w _ ?side1 ?side2 ?side3 ?side4 ?side5 A5.out).mono ?_); (case side1 => repeat (first | (with_reducible first | exact HI720.out | apply IsS125.alloc | apply IsS125.drewN | apply IsS125.drew | apply IsS125.set_1 | refine IsS125.far ?_ NB720_717.out _ | refine IsS125.far ?_ NB720_727.out _) | exact HI720.out)); (case side2 => repeat (first | (with_reducible first | exact HB.out | apply below_alloc | apply pw_below_drewN | apply below_drew1 | refine below_set ?_ (IsS125.ge HI720.out) | refine below_set ?_ GE717.out | refine below_set ?_ GE727.out) | exact HB.out)); (case side3 => repeat (first | exact (Kd.R_reads' HO730.out).2.2 | (with_reducible refine Kd.C_alloc ?_ _) | (with_reducible refine Kd.C_drewN ?_ _) | (with_reducible refine Kd.C_drew ?_))); (case side4 => exact (Kd.R_reads' HO730.out).2.1); (case side5 => exact far_slice (IsS125.own_ne HI720.out HO730.out (by decide))); rintro e w16 ⟨v733, rfl, ho0, hi, hb, hk⟩; refine ⟨_, rfl, ?_⟩; have n0_ := Aside0.mk (KeepBut.blk hk (g' := gb717) (o := .cells #[.int .i64 0, .int .i64 0, .slice none 0 0] 25 (0, 0)) (by (with_reducible repeat (first | refine blk_drewN ?_ _ | refine blk_drew ?_ | refine blk_alloc ?_ _)); exact BK717.out) NB717_720.out (by simp)); have n1_ := Aside0.mk (Kd.N_mono (Kd.N_told (Kd.N_oldK (Kd.N_mono (ok := fun k_ => (((((w.heap.size ≤ k_)) ∧ (k_ ≠ gb717 ∧ k_ ≠ g720)) ∧ k_ ≠ gb727) ∧ some k_ ≠ (.slice Ao15 t728.length co15 : Value).ownBlock)) (by (with_reducible repeat (first | apply Kd.N_alloc | apply Kd.N_drewN | apply Kd.N_drew)); exact HO725.out) (fun k_ hk_ => (⟨hk_, hk_.1.1.2.2⟩ : _ ∧ k_ ≠ g720))) hk) (Kd.R_base ho0)) (fun _ h_ => h_.1)); have n2_ := Aside0.mk (KeepBut.blk hk (g' := gb727) (o := .cells #[.int .i64 t721, .int .i64 t722, .slice Ao13 t723.length co13] 25 (0, 0)) (by (with_reducible repeat (first | refine blk_drewN ?_ _ | refine blk_drew ?_ | refine blk_alloc ?_ _)); exact BK727.out) NB727_720.out (by simp)); have n3_ := Aside0.mk (Kd.R_mono (Kd.R_told (Kd.R_oldK (IsS125.apart (show IsS125 w _ g720 t718 t731 from by repeat (first | (with_reducible first | exact HI720.out | apply IsS125.alloc | apply IsS125.drewN | apply IsS125.drew | apply IsS125.set_1 | refine IsS125.far ?_ NB720_717.out _ | refine IsS125.far ?_ NB720_727.out _) | exact HI720.out)) (by (with_reducible repeat (first | apply Kd.R_alloc | apply Kd.R_drewN | apply Kd.R_drew)); exact HO730.out) (by decide)) hk) (Kd.R_base ho0)) (fun _ h_ => h_.1)); have n4_ := Aside0.mk (Kd.R_lower (Kd.R_new' (Kd.R_newM (M := fun k_ => (w.heap.size ≤ k_)) ho0 (below_size (by repeat (first | (with_reducible first | exact HB.out | apply below_alloc | apply pw_below_drewN | apply below_drew1 | refine below_set ?_ (IsS125.ge HI720.out) | refine below_set ?_ GE717.out | refine below_set ?_ GE727.out) | exact HB.out))) (fun k_ h_ => h_)) (Kd.R_lt (by (with_reducible repeat (first | apply Kd.R_alloc | apply Kd.R_drewN | apply Kd.R_drew)); exact HO730.out))) (below_size (by repeat (first | (with_reducible first | exact HB.out | apply below_alloc | apply pw_below_drewN | apply below_drew1 | refine below_set ?_ (IsS125.ge HI720.out) | refine below_set ?_ GE717.out | refine below_set ?_ GE727.out) | exact HB.out)))); have n5_ := Aside0.mk (hb); have n6_ := Aside0.mk (hi); clear BK717; clear HO725; clear BK727; clear HO730; clear HB; clear HI720; have BK717 := n0_; have HO725 := n1_; have BK727 := n2_; have HO730 := n3_; have HO734 := n4_; have HB := n5_; have HI720 := n6_; clear n0_ n1_ n2_ n3_ n4_ n5_ n6_; (try clear hb); (try clear hb2); (try clear hk); (try clear hi); (try clear ho0); have hcz17_0 : w16.cell? ⟨gb727, 0, none⟩ = some (.int .i64 t721) := (blk_cell BK727.out 0).trans rfl; have hcz17_1 : w16.cell? ⟨gb727, 1, none⟩ = some (.int .i64 t722) := (blk_cell BK727.out 1).trans rfl; have hcz17_2 : w16.cell? ⟨gb727, 2, none⟩ = some (.slice Ao13 t723.length co13) := (blk_cell BK727.out 2).trans rfl; have hfz17_0 := blk_frozen BK727.out 0; have hfz17_1 := blk_frozen BK727.out 1; have hfz17_2 := blk_frozen BK727.out 2; have hnb18 := NB717_720.out; have hnc18 := NB720_717.out; have hcz19_0 : w16.cell? ⟨gb717, 0, none⟩ = some (.int .i64 0) := (blk_cell BK717.out 0).trans rfl; have hcz19_1 : w16.cell? ⟨gb717, 1, none⟩ = some (.int .i64 0) := (blk_cell BK717.out 1).trans rfl; have hcz19_2 : w16.cell? ⟨gb717, 2, none⟩ = some (.slice none 0 0) := (blk_cell BK717.out 2).trans rfl; have hfz19_0 := blk_frozen BK717.out 0; have hfz19_1 := blk_frozen BK717.out 1; have hfz19_2 := blk_frozen BK717.out 2))
  refine bodyPost_ret (results_ctt rfl _ _ gb717 25 #[.int .i64 t721, .int .i64 t722, .slice Ao13 t723.length co13] (0, 0) _ rfl (by (with_reducible repeat (first | refine blk_drewN ?_ _ | refine blk_drew ?_ | refine blk_alloc ?_ _)); refine blk_put (cs := #[.int .i64 t721, .int .i64 t722, .slice none 0 0]) ?_ 2 _ rfl; (with_reducible repeat (first | refine blk_drewN ?_ _ | refine blk_drew ?_ | refine blk_alloc ?_ _)); refine blk_put (cs := #[.int .i64 t721, .int .i64 0, .slice none 0 0]) ?_ 1 _ rfl; (with_reducible repeat (first | refine blk_drewN ?_ _ | refine blk_drew ?_ | refine blk_alloc ?_ _)); refine blk_put (cs := #[.int .i64 0, .int .i64 0, .slice none 0 0]) ?_ 0 _ rfl; (with_reducible repeat (first | refine blk_drewN ?_ _ | refine blk_drew ?_ | refine blk_alloc ?_ _)); exact BK717.out) Try.underlying25 rfl (by kernel_rfl)) rfl ?_
  exact ⟨_, _, _, by first | rfl | (simp [errW_none, errW_some] <;> rfl) | (simp [*, errW_none, errW_some] <;> rfl), by (with_reducible repeat (first | apply Kd.N_alloc | apply Kd.N_drewN | apply Kd.N_drew)); exact Kd.N_mono (Kd.N_far (p := ⟨gb717, 2, none⟩) (Kd.N_far (p := ⟨gb717, 1, none⟩) (Kd.N_far (p := ⟨gb717, 0, none⟩) (Kd.N_mono HO725.out (fun k_ hk => (⟨hk, hk.1.1.1.2.1⟩ : _ ∧ k_ ≠ gb717))) (fun _ hk => hk.2) (.int .i64 t721)) (fun _ hk => hk.2) (.int .i64 t722)) (fun _ hk => hk.2) (.slice Ao13 t723.length co13)) (fun _ hk => ⟨hk.1.1.1.1.1, ⟨hk.1.1.2, hk.1.2⟩⟩), by (with_reducible repeat (first | apply Kd.R_alloc | apply Kd.R_drewN | apply Kd.R_drew)); exact Kd.R_mono (Kd.R_far (p := ⟨gb717, 2, none⟩) (Kd.R_far (p := ⟨gb717, 1, none⟩) (Kd.R_far (p := ⟨gb717, 0, none⟩) (Kd.R_types HO730.out BK717.out (by decide)) (fun _ hk => hk.2) (.int .i64 t721)) (fun _ hk => hk.2) (.int .i64 t722)) (fun _ hk => hk.2) (.slice Ao13 t723.length co13)) (fun _ hk => ⟨hk.1.1.1, hk.1.2⟩), by (with_reducible repeat (first | apply Kd.R_alloc | apply Kd.R_drewN | apply Kd.R_drew)); exact Kd.R_mono (Kd.R_far (p := ⟨gb717, 2, none⟩) (Kd.R_far (p := ⟨gb717, 1, none⟩) (Kd.R_far (p := ⟨gb717, 0, none⟩) (Kd.R_types HO734.out BK717.out (by decide)) (fun _ hk => hk.2) (.int .i64 t721)) (fun _ hk => hk.2) (.int .i64 t722)) (fun _ hk => hk.2) (.slice Ao13 t723.length co13)) (fun _ hk => ⟨hk.1.1.1, hk.1.2⟩), by repeat (first | (with_reducible first | exact HB.out | apply below_alloc | apply pw_below_drewN | apply below_drew1 | refine below_set ?_ (IsS125.ge HI720.out) | refine below_set ?_ GE717.out | refine below_set ?_ GE727.out) | exact HB.out)⟩
def laws_FnTaskSame.f (k : Nat) (l0 : List Int) : Option (Bool) := if (l0.length : Int) > 1048576 then (some true) else ((spec_DrawTaskSame.f k l0).bind fun bt736 => ((impl_TaskSame.f k bt736.1 bt736.2.1 bt736.2.2.1 bt736.2.2.2.1 bt736.2.2.2.2).bind fun t748 => ((spec_TaskSame.f k bt736.1 bt736.2.1 bt736.2.2.1 bt736.2.2.2.1 bt736.2.2.2.2).bind fun t749 => (if (t748 != t749) = true then (none) else ((impl_TaskValue.f k bt736.1 bt736.2.1 bt736.2.2.1 bt736.2.2.2.1).bind fun bt750 => ((impl_TaskValue.f k bt736.1 bt736.2.1 bt736.2.2.1 bt736.2.2.2.2).bind fun bt752 => ((impl_TaskFetches.f k bt736.1 bt736.2.1 bt736.2.2.1 bt736.2.2.2.1).bind fun bt754 => ((impl_TaskFetches.f k bt736.1 bt736.2.1 bt736.2.2.1 bt736.2.2.2.2).bind fun bt758 => (if t748 = true then (if bt752.2 = true then (if bt750.1 = bt752.1 then ((laws_brFetches.f k bt754.1 bt758.1).bind fun t762 => (some t762)) else (none)) else (none)) else (some true))))))))))
set_option maxHeartbeats 8000000 in
set_option maxRecDepth 100000 in
theorem laws_FnTaskSame.calls (k : Nat) (A0 : Option Addr) (c0 : Nat) (l0 : List Int) (r : Bool) (w : World) (hr0 : Kd.C (Kd.int .u8) w A0 l0.length l0) (hc0 : l0.length ≤ c0) (h : laws_FnTaskSame.f k l0 = some r) :
    Calls Try.prog 10 #[.slice A0 l0.length c0] w fun e w' => e = .returned (.bool r) ∧ Below w.heap.size w w' := by
  have hu25 := Try.underlying25
  have HR0 := Aside0.mk hr0
  have HC0 := Aside0.mk hc0
  clear hr0 hc0
  have HB := Aside0.mk (Below.refl w.heap.size w)
  have H : (if (l0.length : Int) > 1048576 then (some true) else ((spec_DrawTaskSame.f k l0).bind fun bt736 => ((impl_TaskSame.f k bt736.1 bt736.2.1 bt736.2.2.1 bt736.2.2.2.1 bt736.2.2.2.2).bind fun t748 => ((spec_TaskSame.f k bt736.1 bt736.2.1 bt736.2.2.1 bt736.2.2.2.1 bt736.2.2.2.2).bind fun t749 => (if (t748 != t749) = true then (none) else ((impl_TaskValue.f k bt736.1 bt736.2.1 bt736.2.2.1 bt736.2.2.2.1).bind fun bt750 => ((impl_TaskValue.f k bt736.1 bt736.2.1 bt736.2.2.1 bt736.2.2.2.2).bind fun bt752 => ((impl_TaskFetches.f k bt736.1 bt736.2.1 bt736.2.2.1 bt736.2.2.2.1).bind fun bt754 => ((impl_TaskFetches.f k bt736.1 bt736.2.1 bt736.2.2.1 bt736.2.2.2.2).bind fun bt758 => (if t748 = true then (if bt752.2 = true then (if bt750.1 = bt752.1 then ((laws_brFetches.f k bt754.1 bt758.1).bind fun t762 => (some t762)) else (none)) else (none)) else (some true))))))))))) = some r := h
  clear h
  by_cases c2 : (l0.length : Int) > 1048576
  · rw [if_pos c2] at H
    have c2b0 : decide (1048576 < (l0.length : Int)) = true := decide_eq_true c2
    have c2b1 : decide (1048576 < l0.length) = true := decide_eq_true (by omega)
    clear c2
    obtain rfl := Option.some.inj H
    go_enter Try.func10, Try.ntmps10
    go_wp2
    go_ret
    exact ⟨by first | rfl | (simp [errW_none, errW_some] <;> rfl) | (simp [*, errW_none, errW_some] <;> rfl), by repeat (first | (with_reducible first | exact HB.out | apply below_alloc | apply pw_below_drewN | apply below_drew1) | exact HB.out)⟩
  · rw [if_neg c2] at H
    have c2b0 : decide (1048576 < (l0.length : Int)) = false := decide_eq_false c2
    have c2b1 : decide (1048576 < l0.length) = false := decide_eq_false (by omega)
    clear c2
    replace H := Option.bind_eq_some_iff.mp H
    obtain ⟨⟨t736, t737, t738, t741, t744⟩, A30, H⟩ := H
    replace H : ((impl_TaskSame.f k t736 t737 t738 t741 t744).bind fun t748 => ((spec_TaskSame.f k t736 t737 t738 t741 t744).bind fun t749 => (if (t748 != t749) = true then (none) else ((impl_TaskValue.f k t736 t737 t738 t741).bind fun bt750 => ((impl_TaskValue.f k t736 t737 t738 t744).bind fun bt752 => ((impl_TaskFetches.f k t736 t737 t738 t741).bind fun bt754 => ((impl_TaskFetches.f k t736 t737 t738 t744).bind fun bt758 => (if t748 = true then (if bt752.2 = true then (if bt750.1 = bt752.1 then ((laws_brFetches.f k bt754.1 bt758.1).bind fun t762 => (some t762)) else (none)) else (none)) else (some true))))))))) = some r := H
    have A3 := Aside0.mk A30
    clear A30
    replace H := Option.bind_eq_some_iff.mp H
    obtain ⟨t748, A40, H⟩ := H
    replace H : ((spec_TaskSame.f k t736 t737 t738 t741 t744).bind fun t749 => (if (t748 != t749) = true then (none) else ((impl_TaskValue.f k t736 t737 t738 t741).bind fun bt750 => ((impl_TaskValue.f k t736 t737 t738 t744).bind fun bt752 => ((impl_TaskFetches.f k t736 t737 t738 t741).bind fun bt754 => ((impl_TaskFetches.f k t736 t737 t738 t744).bind fun bt758 => (if t748 = true then (if bt752.2 = true then (if bt750.1 = bt752.1 then ((laws_brFetches.f k bt754.1 bt758.1).bind fun t762 => (some t762)) else (none)) else (none)) else (some true)))))))) = some r := H
    have A4 := Aside0.mk A40
    clear A40
    replace H := Option.bind_eq_some_iff.mp H
    obtain ⟨t749, A50, H⟩ := H
    replace H : (if (t748 != t749) = true then (none) else ((impl_TaskValue.f k t736 t737 t738 t741).bind fun bt750 => ((impl_TaskValue.f k t736 t737 t738 t744).bind fun bt752 => ((impl_TaskFetches.f k t736 t737 t738 t741).bind fun bt754 => ((impl_TaskFetches.f k t736 t737 t738 t744).bind fun bt758 => (if t748 = true then (if bt752.2 = true then (if bt750.1 = bt752.1 then ((laws_brFetches.f k bt754.1 bt758.1).bind fun t762 => (some t762)) else (none)) else (none)) else (some true))))))) = some r := H
    have A5 := Aside0.mk A50
    clear A50
    by_cases c6 : (t748 != t749) = true
    · rw [if_pos c6] at H
      exact absurd H (by simp)
    · rw [if_neg c6] at H
      have c6b0 : (t748 != t749) = false := by simpa using c6
      (try (have c6b1 : decide (t748 = t749) = true := by simpa using c6))
      (try (have c6b2 : (t748 == t749) = true := by simpa using c6))
      clear c6
      replace H := Option.bind_eq_some_iff.mp H
      obtain ⟨⟨t750, t751⟩, A70, H⟩ := H
      replace H : ((impl_TaskValue.f k t736 t737 t738 t744).bind fun bt752 => ((impl_TaskFetches.f k t736 t737 t738 t741).bind fun bt754 => ((impl_TaskFetches.f k t736 t737 t738 t744).bind fun bt758 => (if t748 = true then (if bt752.2 = true then (if t750 = bt752.1 then ((laws_brFetches.f k bt754.1 bt758.1).bind fun t762 => (some t762)) else (none)) else (none)) else (some true))))) = some r := H
      have A7 := Aside0.mk A70
      clear A70
      replace H := Option.bind_eq_some_iff.mp H
      obtain ⟨⟨t752, t753⟩, A80, H⟩ := H
      replace H : ((impl_TaskFetches.f k t736 t737 t738 t741).bind fun bt754 => ((impl_TaskFetches.f k t736 t737 t738 t744).bind fun bt758 => (if t748 = true then (if t753 = true then (if t750 = t752 then ((laws_brFetches.f k bt754.1 bt758.1).bind fun t762 => (some t762)) else (none)) else (none)) else (some true)))) = some r := H
      have A8 := Aside0.mk A80
      clear A80
      replace H := Option.bind_eq_some_iff.mp H
      obtain ⟨⟨t754, t757⟩, A90, H⟩ := H
      replace H : ((impl_TaskFetches.f k t736 t737 t738 t744).bind fun bt758 => (if t748 = true then (if t753 = true then (if t750 = t752 then ((laws_brFetches.f k t754 bt758.1).bind fun t762 => (some t762)) else (none)) else (none)) else (some true))) = some r := H
      have A9 := Aside0.mk A90
      clear A90
      replace H := Option.bind_eq_some_iff.mp H
      obtain ⟨⟨t758, t761⟩, A100, H⟩ := H
      replace H : (if t748 = true then (if t753 = true then (if t750 = t752 then ((laws_brFetches.f k t754 t758).bind fun t762 => (some t762)) else (none)) else (none)) else (some true)) = some r := H
      have A10 := Aside0.mk A100
      clear A100
      by_cases c11 : t748 = true
      · subst c11
        have H1 : (if t753 = true then (if t750 = t752 then ((laws_brFetches.f k t754 t758).bind fun t762 => (some t762)) else (none)) else (none)) = some r := by rw [if_pos rfl] at H; exact H
        clear H
        have H := H1
        clear H1
        by_cases c12 : t753 = true
        · subst c12
          have H1 : (if t750 = t752 then ((laws_brFetches.f k t754 t758).bind fun t762 => (some t762)) else (none)) = some r := by rw [if_pos rfl] at H; exact H
          clear H
          have H := H1
          clear H1
          by_cases c13 : t750 = t752
          · rw [if_pos c13] at H
            have c13b0 : (t750 == t752) = true := beq_iff_eq.mpr c13
            have c13b1 : (t750 != t752) = false := bne_eq_false_iff_eq.mpr c13
            clear c13
            replace H := Option.bind_eq_some_iff.mp H
            obtain ⟨t762, A140, H⟩ := H
            replace H : (some t762) = some r := H
            have A14 := Aside0.mk A140
            clear A140
            obtain rfl := Option.some.inj H
            go_enter Try.func10, Try.ntmps10
            go_wp2_with (first | ((with_reducible refine gate_callee (f := 41) rfl ?_); refine goesL_ (some 21) rfl rfl Try.func41 (by kernel_rfl) rfl #[.slice A0 l0.length c0] rfl (by (try simp only [List.map_toArray, List.map_cons, List.map_nil]); first | done | rfl | (simp only [List.length_drop, List.length_take]; rfl)) ?_; (with_reducible refine (spec_DrawTaskSame.calls k _ _ l0 t736 t737 t738 t741 t744 _ ?side1 ?side2 A3.out).mono ?_); (case side1 => repeat (first | exact HR0.out | (with_reducible refine Kd.C_alloc ?_ _) | (with_reducible refine Kd.C_drewN ?_ _) | (with_reducible refine Kd.C_drew ?_))); (case side2 => exact HC0.out); rintro e w15 ⟨v739, v742, v745, rfl, ho0, ho1, ho2, hb⟩; refine ⟨_, rfl, ?_⟩; have n0_ := Aside0.mk (Kd.N_lower (Kd.N_mono (ok' := fun k_ => some k_ ≠ (v742 : Value).ownBlock ∧ some k_ ≠ (v745 : Value).ownBlock) ho0 (fun k_ hk_ => ⟨hk_.2.1, hk_.2.2⟩)) (below_size (by repeat (first | (with_reducible first | exact HB.out | apply below_alloc | apply pw_below_drewN | apply below_drew1) | exact HB.out)))); have n1_ := Aside0.mk (Kd.R_lower (Kd.R_mono (ok' := fun k_ => some k_ ≠ (v745 : Value).ownBlock) ho1 (fun _ hk_ => hk_.2)) (below_size (by repeat (first | (with_reducible first | exact HB.out | apply below_alloc | apply pw_below_drewN | apply below_drew1) | exact HB.out)))); have n2_ := Aside0.mk (Kd.R_lower (Kd.R_mono (ok' := fun k_ => some k_ ≠ (v742 : Value).ownBlock) ho2 (fun _ hk_ => hk_.2)) (below_size (by repeat (first | (with_reducible first | exact HB.out | apply below_alloc | apply pw_below_drewN | apply below_drew1) | exact HB.out)))); have n3_ := Aside0.mk (below_step (by repeat (first | (with_reducible first | exact HB.out | apply below_alloc | apply pw_below_drewN | apply below_drew1) | exact HB.out)) hb); clear HB; have HO740 := n0_; have HO743 := n1_; have HO746 := n2_; have HB := n3_; clear n0_ n1_ n2_ n3_; (try clear hb); (try clear hb2); (try clear hk); (try clear hi); (try clear ho0); (try clear ho1); (try clear ho2)) | ((with_reducible refine gate_dst (N := 3) rfl ?_); refine box_event ?hg (N := 3) ?hd (cs := #[.int .i64 0, .int .i64 0, .slice none 0 0]) (t := 25) ?hr ?_; (case hd => rfl); (case hg => rfl); (case hr => first | (go_simp; done) | (go_simp; rfl)); intro gb747 hg w16 hbox hb; have n0_ := Aside0.mk (Kd.N_below (Kd.N_elderB (by (with_reducible repeat (first | apply Kd.N_alloc | apply Kd.N_drewN | apply Kd.N_drew)); exact HO740.out) gb747 (Nat.le_of_eq hg.symm)) hb); have n1_ := Aside0.mk (Kd.R_below (by (with_reducible repeat (first | apply Kd.R_alloc | apply Kd.R_drewN | apply Kd.R_drew)); exact HO743.out) hb); have n2_ := Aside0.mk (Kd.R_below (by (with_reducible repeat (first | apply Kd.R_alloc | apply Kd.R_drewN | apply Kd.R_drew)); exact HO746.out) hb); have n3_ := Aside0.mk (below_step (by repeat (first | (with_reducible first | exact HB.out | apply below_alloc | apply pw_below_drewN | apply below_drew1) | exact HB.out)) hb); have n4_ := Aside0.mk (hbox); have n5_ := Aside0.mk ((by rw [hg]; exact (below_size (by repeat (first | (with_reducible first | exact HB.out | apply below_alloc | apply pw_below_drewN | apply below_drew1) | exact HB.out))) : w.heap.size ≤ gb747)); have n6_ := Aside0.mk ((by rw [hg]; exact (below_size (by repeat (first | (with_reducible first | exact HB.out | apply below_alloc | apply pw_below_drewN | apply below_drew1) | exact HB.out))) : w.heap.size ≤ gb747)); clear HO740; clear HO743; clear HO746; clear HB; have HO740 := n0_; have HO743 := n1_; have HO746 := n2_; have HB := n3_; have BK747 := n4_; have GW747 := n5_; have GE747 := n6_; clear n0_ n1_ n2_ n3_ n4_ n5_ n6_; clear hb hbox hg; have hcz17_0 : w16.cell? ⟨gb747, 0, none⟩ = some (.int .i64 0) := (blk_cell BK747.out 0).trans rfl; have hcz17_1 : w16.cell? ⟨gb747, 1, none⟩ = some (.int .i64 0) := (blk_cell BK747.out 1).trans rfl; have hcz17_2 : w16.cell? ⟨gb747, 2, none⟩ = some (.slice none 0 0) := (blk_cell BK747.out 2).trans rfl; have hfz17_0 := blk_frozen BK747.out 0; have hfz17_1 := blk_frozen BK747.out 1; have hfz17_2 := blk_frozen BK747.out 2; obtain ⟨Ao18, co18, eo18⟩ := Kd.N_slice HO740.out; subst eo18; obtain ⟨Ao19, co19, eo19⟩ := Kd.R_slice HO743.out; subst eo19; obtain ⟨Ao20, co20, eo20⟩ := Kd.R_slice HO746.out; subst eo20) | ((with_reducible refine gate_callee (f := 33) rfl ?_); refine goesL_ (some 28) rfl rfl Try.func33 (by kernel_rfl) rfl #[.agg #[.int .i64 t736, .int .i64 t737, .slice Ao18 t738.length co18], .slice Ao19 t741.length co19, .slice Ao20 t744.length co20] rfl (by (try simp only [List.map_toArray, List.map_cons, List.map_nil]); first | done | rfl | (simp only [List.length_drop, List.length_take]; rfl)) ?_; (with_reducible refine (impl_TaskSame.calls k t736 t737 _ _ t738 _ _ t741 _ _ t744 true _ ?side1 ?side2 ?side3 ?side4 ?side5 ?side6 A4.out).mono ?_); (case side1 => refine (Kd.N_reads' (e := 25) (base := w.heap.size) (ok := fun k_ => ((some k_ ≠ (.slice Ao19 t741.length co19 : Value).ownBlock ∧ some k_ ≠ (.slice Ao20 t744.length co20 : Value).ownBlock) ∧ k_ ≠ gb747)) (n := t738.length) (c := co18) ?_).2.2; exact (by (with_reducible repeat (first | apply Kd.N_alloc | apply Kd.N_drewN | apply Kd.N_drew)); exact (Kd.N_mono (Kd.N_far (p := ⟨gb747, 2, none⟩) (Kd.N_far (p := ⟨gb747, 1, none⟩) (Kd.N_far (p := ⟨gb747, 0, none⟩) (Kd.N_mono HO740.out (fun k_ hk => (⟨hk, hk.2⟩ : _ ∧ k_ ≠ gb747))) (fun _ hk => hk.2) (.int .i64 t736)) (fun _ hk => hk.2) (.int .i64 t737)) (fun _ hk => hk.2) (.slice Ao18 t738.length co18)) (fun _ h_ => h_.1)))); (case side2 => exact (Kd.N_reads' HO740.out).2.1); (case side3 => refine (Kd.R_reads' (e := 3) (base := w.heap.size) (ok := fun k_ => some k_ ≠ (.slice Ao20 t744.length co20 : Value).ownBlock) (n := t741.length) (c := co19) ?_).2.2; exact (by (with_reducible repeat (first | apply Kd.R_alloc | apply Kd.R_drewN | apply Kd.R_drew)); exact (Kd.R_mono (Kd.R_far (p := ⟨gb747, 2, none⟩) (Kd.R_far (p := ⟨gb747, 1, none⟩) (Kd.R_far (p := ⟨gb747, 0, none⟩) (Kd.R_types HO743.out BK747.out (by decide)) (fun _ hk => hk.2) (.int .i64 t736)) (fun _ hk => hk.2) (.int .i64 t737)) (fun _ hk => hk.2) (.slice Ao18 t738.length co18)) (fun _ h_ => h_.1)))); (case side4 => exact (Kd.R_reads' HO743.out).2.1); (case side5 => refine (Kd.R_reads' (e := 3) (base := w.heap.size) (ok := fun k_ => some k_ ≠ (.slice Ao19 t741.length co19 : Value).ownBlock) (n := t744.length) (c := co20) ?_).2.2; exact (by (with_reducible repeat (first | apply Kd.R_alloc | apply Kd.R_drewN | apply Kd.R_drew)); exact (Kd.R_mono (Kd.R_far (p := ⟨gb747, 2, none⟩) (Kd.R_far (p := ⟨gb747, 1, none⟩) (Kd.R_far (p := ⟨gb747, 0, none⟩) (Kd.R_types HO746.out BK747.out (by decide)) (fun _ hk => hk.2) (.int .i64 t736)) (fun _ hk => hk.2) (.int .i64 t737)) (fun _ hk => hk.2) (.slice Ao18 t738.length co18)) (fun _ h_ => h_.1)))); (case side6 => exact (Kd.R_reads' HO746.out).2.1); rintro e w21 ⟨rfl, hb⟩; refine ⟨_, rfl, ?_⟩; have n0_ := Aside0.mk (Kd.N_below (by (with_reducible repeat (first | apply Kd.N_alloc | apply Kd.N_drewN | apply Kd.N_drew)); exact (Kd.N_mono (Kd.N_far (p := ⟨gb747, 2, none⟩) (Kd.N_far (p := ⟨gb747, 1, none⟩) (Kd.N_far (p := ⟨gb747, 0, none⟩) (Kd.N_mono HO740.out (fun k_ hk => (⟨hk, hk.2⟩ : _ ∧ k_ ≠ gb747))) (fun _ hk => hk.2) (.int .i64 t736)) (fun _ hk => hk.2) (.int .i64 t737)) (fun _ hk => hk.2) (.slice Ao18 t738.length co18)) (fun _ h_ => h_.1))) hb); have n1_ := Aside0.mk (Kd.R_below (by (with_reducible repeat (first | apply Kd.R_alloc | apply Kd.R_drewN | apply Kd.R_drew)); exact (Kd.R_mono (Kd.R_far (p := ⟨gb747, 2, none⟩) (Kd.R_far (p := ⟨gb747, 1, none⟩) (Kd.R_far (p := ⟨gb747, 0, none⟩) (Kd.R_types HO743.out BK747.out (by decide)) (fun _ hk => hk.2) (.int .i64 t736)) (fun _ hk => hk.2) (.int .i64 t737)) (fun _ hk => hk.2) (.slice Ao18 t738.length co18)) (fun _ h_ => h_.1))) hb); have n2_ := Aside0.mk (Kd.R_below (by (with_reducible repeat (first | apply Kd.R_alloc | apply Kd.R_drewN | apply Kd.R_drew)); exact (Kd.R_mono (Kd.R_far (p := ⟨gb747, 2, none⟩) (Kd.R_far (p := ⟨gb747, 1, none⟩) (Kd.R_far (p := ⟨gb747, 0, none⟩) (Kd.R_types HO746.out BK747.out (by decide)) (fun _ hk => hk.2) (.int .i64 t736)) (fun _ hk => hk.2) (.int .i64 t737)) (fun _ hk => hk.2) (.slice Ao18 t738.length co18)) (fun _ h_ => h_.1))) hb); have n3_ := Aside0.mk (blk_below (g := gb747) (o := .cells #[.int .i64 t736, .int .i64 t737, .slice Ao18 t738.length co18] 25 (0, 0)) (by (with_reducible repeat (first | refine blk_drewN ?_ _ | refine blk_drew ?_ | refine blk_alloc ?_ _)); refine blk_put (cs := #[.int .i64 t736, .int .i64 t737, .slice none 0 0]) ?_ 2 _ rfl; (with_reducible repeat (first | refine blk_drewN ?_ _ | refine blk_drew ?_ | refine blk_alloc ?_ _)); refine blk_put (cs := #[.int .i64 t736, .int .i64 0, .slice none 0 0]) ?_ 1 _ rfl; (with_reducible repeat (first | refine blk_drewN ?_ _ | refine blk_drew ?_ | refine blk_alloc ?_ _)); refine blk_put (cs := #[.int .i64 0, .int .i64 0, .slice none 0 0]) ?_ 0 _ rfl; (with_reducible repeat (first | refine blk_drewN ?_ _ | refine blk_drew ?_ | refine blk_alloc ?_ _)); exact BK747.out) hb); have n4_ := Aside0.mk (below_step (by repeat (first | (with_reducible first | exact HB.out | apply below_alloc | apply pw_below_drewN | apply below_drew1 | refine below_set ?_ GE747.out) | exact HB.out)) hb); clear HO740; clear HO743; clear HO746; clear BK747; clear HB; have HO740 := n0_; have HO743 := n1_; have HO746 := n2_; have BK747 := n3_; have HB := n4_; clear n0_ n1_ n2_ n3_ n4_; (try clear hb); (try clear hb2); (try clear hk); (try clear hi); have hcz22_0 : w21.cell? ⟨gb747, 0, none⟩ = some (.int .i64 t736) := (blk_cell BK747.out 0).trans rfl; have hcz22_1 : w21.cell? ⟨gb747, 1, none⟩ = some (.int .i64 t737) := (blk_cell BK747.out 1).trans rfl; have hcz22_2 : w21.cell? ⟨gb747, 2, none⟩ = some (.slice Ao18 t738.length co18) := (blk_cell BK747.out 2).trans rfl; have hfz22_0 := blk_frozen BK747.out 0; have hfz22_1 := blk_frozen BK747.out 1; have hfz22_2 := blk_frozen BK747.out 2) | ((with_reducible refine gate_callee (f := 32) rfl ?_); refine goesL_ (some 32) rfl rfl Try.func32 (by kernel_rfl) rfl #[.agg #[.int .i64 t736, .int .i64 t737, .slice Ao18 t738.length co18], .slice Ao19 t741.length co19, .slice Ao20 t744.length co20] rfl (by (try simp only [List.map_toArray, List.map_cons, List.map_nil]); first | done | rfl | (simp only [List.length_drop, List.length_take]; rfl)) ?_; (with_reducible refine (spec_TaskSame.calls k t736 t737 _ _ t738 _ _ t741 _ _ t744 t749 _ ?side1 ?side2 ?side3 ?side4 ?side5 ?side6 A5.out).mono ?_); (case side1 => repeat (first | exact (Kd.N_reads' HO740.out).2.2 | (with_reducible refine Kd.C_alloc ?_ _) | (with_reducible refine Kd.C_drewN ?_ _) | (with_reducible refine Kd.C_drew ?_))); (case side2 => exact (Kd.N_reads' HO740.out).2.1); (case side3 => repeat (first | exact (Kd.R_reads' HO743.out).2.2 | (with_reducible refine Kd.C_alloc ?_ _) | (with_reducible refine Kd.C_drewN ?_ _) | (with_reducible refine Kd.C_drew ?_))); (case side4 => exact (Kd.R_reads' HO743.out).2.1); (case side5 => repeat (first | exact (Kd.R_reads' HO746.out).2.2 | (with_reducible refine Kd.C_alloc ?_ _) | (with_reducible refine Kd.C_drewN ?_ _) | (with_reducible refine Kd.C_drew ?_))); (case side6 => exact (Kd.R_reads' HO746.out).2.1); rintro e w23 ⟨rfl, hb⟩; refine ⟨_, rfl, ?_⟩; have n0_ := Aside0.mk (Kd.N_below (by (with_reducible repeat (first | apply Kd.N_alloc | apply Kd.N_drewN | apply Kd.N_drew)); exact HO740.out) hb); have n1_ := Aside0.mk (Kd.R_below (by (with_reducible repeat (first | apply Kd.R_alloc | apply Kd.R_drewN | apply Kd.R_drew)); exact HO743.out) hb); have n2_ := Aside0.mk (Kd.R_below (by (with_reducible repeat (first | apply Kd.R_alloc | apply Kd.R_drewN | apply Kd.R_drew)); exact HO746.out) hb); have n3_ := Aside0.mk (blk_below (g := gb747) (o := .cells #[.int .i64 t736, .int .i64 t737, .slice Ao18 t738.length co18] 25 (0, 0)) (by (with_reducible repeat (first | refine blk_drewN ?_ _ | refine blk_drew ?_ | refine blk_alloc ?_ _)); exact BK747.out) hb); have n4_ := Aside0.mk (below_step (by repeat (first | (with_reducible first | exact HB.out | apply below_alloc | apply pw_below_drewN | apply below_drew1 | refine below_set ?_ GE747.out) | exact HB.out)) hb); clear HO740; clear HO743; clear HO746; clear BK747; clear HB; have HO740 := n0_; have HO743 := n1_; have HO746 := n2_; have BK747 := n3_; have HB := n4_; clear n0_ n1_ n2_ n3_ n4_; (try clear hb); (try clear hb2); (try clear hk); (try clear hi); have hcz24_0 : w23.cell? ⟨gb747, 0, none⟩ = some (.int .i64 t736) := (blk_cell BK747.out 0).trans rfl; have hcz24_1 : w23.cell? ⟨gb747, 1, none⟩ = some (.int .i64 t737) := (blk_cell BK747.out 1).trans rfl; have hcz24_2 : w23.cell? ⟨gb747, 2, none⟩ = some (.slice Ao18 t738.length co18) := (blk_cell BK747.out 2).trans rfl; have hfz24_0 := blk_frozen BK747.out 0; have hfz24_1 := blk_frozen BK747.out 1; have hfz24_2 := blk_frozen BK747.out 2) | ((with_reducible refine gate_callee (f := 24) rfl ?_); refine goesL_ (some 39) rfl rfl Try.func24 (by kernel_rfl) rfl #[.agg #[.int .i64 t736, .int .i64 t737, .slice Ao18 t738.length co18], .slice Ao19 t741.length co19] rfl (by (try simp only [List.map_toArray, List.map_cons, List.map_nil]); first | done | rfl | (simp only [List.length_drop, List.length_take]; rfl)) ?_; (with_reducible refine (impl_TaskValue.calls k t736 t737 _ _ t738 _ _ t741 t750 t751 _ ?side1 ?side2 ?side3 ?side4 A7.out).mono ?_); (case side1 => repeat (first | exact (Kd.N_reads' HO740.out).2.2 | (with_reducible refine Kd.C_alloc ?_ _) | (with_reducible refine Kd.C_drewN ?_ _) | (with_reducible refine Kd.C_drew ?_))); (case side2 => exact (Kd.N_reads' HO740.out).2.1); (case side3 => repeat (first | exact (Kd.R_reads' HO743.out).2.2 | (with_reducible refine Kd.C_alloc ?_ _) | (with_reducible refine Kd.C_drewN ?_ _) | (with_reducible refine Kd.C_drew ?_))); (case side4 => exact (Kd.R_reads' HO743.out).2.1); rintro e w25 ⟨rfl, hb⟩; refine ⟨_, rfl, ?_⟩; have n0_ := Aside0.mk (Kd.N_below (by (with_reducible repeat (first | apply Kd.N_alloc | apply Kd.N_drewN | apply Kd.N_drew)); exact HO740.out) hb); have n1_ := Aside0.mk (Kd.R_below (by (with_reducible repeat (first | apply Kd.R_alloc | apply Kd.R_drewN | apply Kd.R_drew)); exact HO743.out) hb); have n2_ := Aside0.mk (Kd.R_below (by (with_reducible repeat (first | apply Kd.R_alloc | apply Kd.R_drewN | apply Kd.R_drew)); exact HO746.out) hb); have n3_ := Aside0.mk (blk_below (g := gb747) (o := .cells #[.int .i64 t736, .int .i64 t737, .slice Ao18 t738.length co18] 25 (0, 0)) (by (with_reducible repeat (first | refine blk_drewN ?_ _ | refine blk_drew ?_ | refine blk_alloc ?_ _)); exact BK747.out) hb); have n4_ := Aside0.mk (below_step (by repeat (first | (with_reducible first | exact HB.out | apply below_alloc | apply pw_below_drewN | apply below_drew1 | refine below_set ?_ GE747.out) | exact HB.out)) hb); clear HO740; clear HO743; clear HO746; clear BK747; clear HB; have HO740 := n0_; have HO743 := n1_; have HO746 := n2_; have BK747 := n3_; have HB := n4_; clear n0_ n1_ n2_ n3_ n4_; (try clear hb); (try clear hb2); (try clear hk); (try clear hi); have hcz26_0 : w25.cell? ⟨gb747, 0, none⟩ = some (.int .i64 t736) := (blk_cell BK747.out 0).trans rfl; have hcz26_1 : w25.cell? ⟨gb747, 1, none⟩ = some (.int .i64 t737) := (blk_cell BK747.out 1).trans rfl; have hcz26_2 : w25.cell? ⟨gb747, 2, none⟩ = some (.slice Ao18 t738.length co18) := (blk_cell BK747.out 2).trans rfl; have hfz26_0 := blk_frozen BK747.out 0; have hfz26_1 := blk_frozen BK747.out 1; have hfz26_2 := blk_frozen BK747.out 2) | ((with_reducible refine gate_callee (f := 24) rfl ?_); refine goesL_ (some 45) rfl rfl Try.func24 (by kernel_rfl) rfl #[.agg #[.int .i64 t736, .int .i64 t737, .slice Ao18 t738.length co18], .slice Ao20 t744.length co20] rfl (by (try simp only [List.map_toArray, List.map_cons, List.map_nil]); first | done | rfl | (simp only [List.length_drop, List.length_take]; rfl)) ?_; (with_reducible refine (impl_TaskValue.calls k t736 t737 _ _ t738 _ _ t744 t752 true _ ?side1 ?side2 ?side3 ?side4 A8.out).mono ?_); (case side1 => repeat (first | exact (Kd.N_reads' HO740.out).2.2 | (with_reducible refine Kd.C_alloc ?_ _) | (with_reducible refine Kd.C_drewN ?_ _) | (with_reducible refine Kd.C_drew ?_))); (case side2 => exact (Kd.N_reads' HO740.out).2.1); (case side3 => repeat (first | exact (Kd.R_reads' HO746.out).2.2 | (with_reducible refine Kd.C_alloc ?_ _) | (with_reducible refine Kd.C_drewN ?_ _) | (with_reducible refine Kd.C_drew ?_))); (case side4 => exact (Kd.R_reads' HO746.out).2.1); rintro e w27 ⟨rfl, hb⟩; refine ⟨_, rfl, ?_⟩; have n0_ := Aside0.mk (Kd.N_below (by (with_reducible repeat (first | apply Kd.N_alloc | apply Kd.N_drewN | apply Kd.N_drew)); exact HO740.out) hb); have n1_ := Aside0.mk (Kd.R_below (by (with_reducible repeat (first | apply Kd.R_alloc | apply Kd.R_drewN | apply Kd.R_drew)); exact HO743.out) hb); have n2_ := Aside0.mk (Kd.R_below (by (with_reducible repeat (first | apply Kd.R_alloc | apply Kd.R_drewN | apply Kd.R_drew)); exact HO746.out) hb); have n3_ := Aside0.mk (blk_below (g := gb747) (o := .cells #[.int .i64 t736, .int .i64 t737, .slice Ao18 t738.length co18] 25 (0, 0)) (by (with_reducible repeat (first | refine blk_drewN ?_ _ | refine blk_drew ?_ | refine blk_alloc ?_ _)); exact BK747.out) hb); have n4_ := Aside0.mk (below_step (by repeat (first | (with_reducible first | exact HB.out | apply below_alloc | apply pw_below_drewN | apply below_drew1 | refine below_set ?_ GE747.out) | exact HB.out)) hb); clear HO740; clear HO743; clear HO746; clear BK747; clear HB; have HO740 := n0_; have HO743 := n1_; have HO746 := n2_; have BK747 := n3_; have HB := n4_; clear n0_ n1_ n2_ n3_ n4_; (try clear hb); (try clear hb2); (try clear hk); (try clear hi); have hcz28_0 : w27.cell? ⟨gb747, 0, none⟩ = some (.int .i64 t736) := (blk_cell BK747.out 0).trans rfl; have hcz28_1 : w27.cell? ⟨gb747, 1, none⟩ = some (.int .i64 t737) := (blk_cell BK747.out 1).trans rfl; have hcz28_2 : w27.cell? ⟨gb747, 2, none⟩ = some (.slice Ao18 t738.length co18) := (blk_cell BK747.out 2).trans rfl; have hfz28_0 := blk_frozen BK747.out 0; have hfz28_1 := blk_frozen BK747.out 1; have hfz28_2 := blk_frozen BK747.out 2) | ((with_reducible refine gate_callee (f := 28) rfl ?_); refine goesL_ (some 51) rfl rfl Try.func28 (by kernel_rfl) rfl #[.agg #[.int .i64 t736, .int .i64 t737, .slice Ao18 t738.length co18], .slice Ao19 t741.length co19] rfl (by (try simp only [List.map_toArray, List.map_cons, List.map_nil]); first | done | rfl | (simp only [List.length_drop, List.length_take]; rfl)) ?_; (with_reducible refine (impl_TaskFetches.calls k t736 t737 _ _ t738 _ _ t741 t754 t757 _ ?side1 ?side2 ?side3 ?side4 A9.out).mono ?_); (case side1 => repeat (first | exact (Kd.N_reads' HO740.out).2.2 | (with_reducible refine Kd.C_alloc ?_ _) | (with_reducible refine Kd.C_drewN ?_ _) | (with_reducible refine Kd.C_drew ?_))); (case side2 => exact (Kd.N_reads' HO740.out).2.1); (case side3 => repeat (first | exact (Kd.R_reads' HO743.out).2.2 | (with_reducible refine Kd.C_alloc ?_ _) | (with_reducible refine Kd.C_drewN ?_ _) | (with_reducible refine Kd.C_drew ?_))); (case side4 => exact (Kd.R_reads' HO743.out).2.1); rintro e w29 ⟨v755, rfl, ho0, hb⟩; refine ⟨_, rfl, ?_⟩; have n0_ := Aside0.mk (Kd.N_elder' (by (with_reducible repeat (first | apply Kd.N_alloc | apply Kd.N_drewN | apply Kd.N_drew)); exact HO740.out) (Kd.R_base ho0) hb); have n1_ := Aside0.mk (Kd.R_below (by (with_reducible repeat (first | apply Kd.R_alloc | apply Kd.R_drewN | apply Kd.R_drew)); exact HO743.out) hb); have n2_ := Aside0.mk (Kd.R_below (by (with_reducible repeat (first | apply Kd.R_alloc | apply Kd.R_drewN | apply Kd.R_drew)); exact HO746.out) hb); have n3_ := Aside0.mk (Kd.R_lower ho0 (below_size (by repeat (first | (with_reducible first | exact HB.out | apply below_alloc | apply pw_below_drewN | apply below_drew1 | refine below_set ?_ GE747.out) | exact HB.out)))); have n4_ := Aside0.mk (blk_below (g := gb747) (o := .cells #[.int .i64 t736, .int .i64 t737, .slice Ao18 t738.length co18] 25 (0, 0)) (by (with_reducible repeat (first | refine blk_drewN ?_ _ | refine blk_drew ?_ | refine blk_alloc ?_ _)); exact BK747.out) hb); have n5_ := Aside0.mk (below_step (by repeat (first | (with_reducible first | exact HB.out | apply below_alloc | apply pw_below_drewN | apply below_drew1 | refine below_set ?_ GE747.out) | exact HB.out)) hb); clear HO740; clear HO743; clear HO746; clear BK747; clear HB; have HO740 := n0_; have HO743 := n1_; have HO746 := n2_; have HO756 := n3_; have BK747 := n4_; have HB := n5_; clear n0_ n1_ n2_ n3_ n4_ n5_; (try clear hb); (try clear hb2); (try clear hk); (try clear hi); (try clear ho0); have hcz30_0 : w29.cell? ⟨gb747, 0, none⟩ = some (.int .i64 t736) := (blk_cell BK747.out 0).trans rfl; have hcz30_1 : w29.cell? ⟨gb747, 1, none⟩ = some (.int .i64 t737) := (blk_cell BK747.out 1).trans rfl; have hcz30_2 : w29.cell? ⟨gb747, 2, none⟩ = some (.slice Ao18 t738.length co18) := (blk_cell BK747.out 2).trans rfl; have hfz30_0 := blk_frozen BK747.out 0; have hfz30_1 := blk_frozen BK747.out 1; have hfz30_2 := blk_frozen BK747.out 2) | ((with_reducible refine gate_callee (f := 28) rfl ?_); refine goesL_ (some 57) rfl rfl Try.func28 (by kernel_rfl) rfl #[.agg #[.int .i64 t736, .int .i64 t737, .slice Ao18 t738.length co18], .slice Ao20 t744.length co20] rfl (by (try simp only [List.map_toArray, List.map_cons, List.map_nil]); first | done | rfl | (simp only [List.length_drop, List.length_take]; rfl)) ?_; (with_reducible refine (impl_TaskFetches.calls k t736 t737 _ _ t738 _ _ t744 t758 t761 _ ?side1 ?side2 ?side3 ?side4 A10.out).mono ?_); (case side1 => repeat (first | exact (Kd.N_reads' HO740.out).2.2 | (with_reducible refine Kd.C_alloc ?_ _) | (with_reducible refine Kd.C_drewN ?_ _) | (with_reducible refine Kd.C_drew ?_))); (case side2 => exact (Kd.N_reads' HO740.out).2.1); (case side3 => repeat (first | exact (Kd.R_reads' HO746.out).2.2 | (with_reducible refine Kd.C_alloc ?_ _) | (with_reducible refine Kd.C_drewN ?_ _) | (with_reducible refine Kd.C_drew ?_))); (case side4 => exact (Kd.R_reads' HO746.out).2.1); rintro e w31 ⟨v759, rfl, ho0, hb⟩; refine ⟨_, rfl, ?_⟩; have n0_ := Aside0.mk (Kd.N_elder' (by (with_reducible repeat (first | apply Kd.N_alloc | apply Kd.N_drewN | apply Kd.N_drew)); exact HO740.out) (Kd.R_base ho0) hb); have n1_ := Aside0.mk (Kd.R_below (by (with_reducible repeat (first | apply Kd.R_alloc | apply Kd.R_drewN | apply Kd.R_drew)); exact HO743.out) hb); have n2_ := Aside0.mk (Kd.R_below (by (with_reducible repeat (first | apply Kd.R_alloc | apply Kd.R_drewN | apply Kd.R_drew)); exact HO746.out) hb); have n3_ := Aside0.mk (Kd.R_elder' (by (with_reducible repeat (first | apply Kd.R_alloc | apply Kd.R_drewN | apply Kd.R_drew)); exact HO756.out) (Kd.R_base ho0) hb); have n4_ := Aside0.mk (Kd.R_lower (Kd.R_new' ho0 (Kd.R_lt (by (with_reducible repeat (first | apply Kd.R_alloc | apply Kd.R_drewN | apply Kd.R_drew)); exact HO756.out))) (below_size (by repeat (first | (with_reducible first | exact HB.out | apply below_alloc | apply pw_below_drewN | apply below_drew1 | refine below_set ?_ GE747.out) | exact HB.out)))); have n5_ := Aside0.mk (blk_below (g := gb747) (o := .cells #[.int .i64 t736, .int .i64 t737, .slice Ao18 t738.length co18] 25 (0, 0)) (by (with_reducible repeat (first | refine blk_drewN ?_ _ | refine blk_drew ?_ | refine blk_alloc ?_ _)); exact BK747.out) hb); have n6_ := Aside0.mk (below_step (by repeat (first | (with_reducible first | exact HB.out | apply below_alloc | apply pw_below_drewN | apply below_drew1 | refine below_set ?_ GE747.out) | exact HB.out)) hb); clear HO740; clear HO743; clear HO746; clear HO756; clear BK747; clear HB; have HO740 := n0_; have HO743 := n1_; have HO746 := n2_; have HO756 := n3_; have HO760 := n4_; have BK747 := n5_; have HB := n6_; clear n0_ n1_ n2_ n3_ n4_ n5_ n6_; (try clear hb); (try clear hb2); (try clear hk); (try clear hi); (try clear ho0); obtain ⟨Ao32, co32, eo32⟩ := Kd.R_slice HO756.out; subst eo32; obtain ⟨Ao33, co33, eo33⟩ := Kd.R_slice HO760.out; subst eo33) | (go_at_call 31; (with_reducible refine (laws_brFetches.calls k _ _ t754 _ _ t758 t762 _ ?side1 ?side2 ?side3 ?side4 A14.out).mono ?_); (case side1 => repeat (first | exact (Kd.R_reads' HO756.out).2.2 | (with_reducible refine Kd.C_alloc ?_ _) | (with_reducible refine Kd.C_drewN ?_ _) | (with_reducible refine Kd.C_drew ?_))); (case side2 => exact (Kd.R_reads' HO756.out).2.1); (case side3 => repeat (first | exact (Kd.R_reads' HO760.out).2.2 | (with_reducible refine Kd.C_alloc ?_ _) | (with_reducible refine Kd.C_drewN ?_ _) | (with_reducible refine Kd.C_drew ?_))); (case side4 => exact (Kd.R_reads' HO760.out).2.1); rintro e w' ⟨rfl, ⟨nd, rfl⟩⟩))
            go_ret
            exact ⟨by first | rfl | (simp [errW_none, errW_some] <;> rfl) | (simp [*, errW_none, errW_some] <;> rfl), by repeat (first | (with_reducible first | exact HB.out | apply below_alloc | apply pw_below_drewN | apply below_drew1 | refine below_set ?_ GE747.out) | exact HB.out)⟩
          · rw [if_neg c13] at H
            exact absurd H (by simp)
        · replace c12 := Bool.eq_false_iff.mpr c12
          subst c12
          have H1 : (none) = some r := by rw [if_neg (show ¬ (false = true) by decide)] at H; exact H
          clear H
          have H := H1
          clear H1
          exact absurd H (by simp)
      · replace c11 := Bool.eq_false_iff.mpr c11
        subst c11
        have H1 : (some true) = some r := by rw [if_neg (show ¬ (false = true) by decide)] at H; exact H
        clear H
        have H := H1
        clear H1
        obtain rfl := Option.some.inj H
        go_enter Try.func10, Try.ntmps10
        go_wp2_with (first | ((with_reducible refine gate_callee (f := 41) rfl ?_); refine goesL_ (some 21) rfl rfl Try.func41 (by kernel_rfl) rfl #[.slice A0 l0.length c0] rfl (by (try simp only [List.map_toArray, List.map_cons, List.map_nil]); first | done | rfl | (simp only [List.length_drop, List.length_take]; rfl)) ?_; (with_reducible refine (spec_DrawTaskSame.calls k _ _ l0 t736 t737 t738 t741 t744 _ ?side1 ?side2 A3.out).mono ?_); (case side1 => repeat (first | exact HR0.out | (with_reducible refine Kd.C_alloc ?_ _) | (with_reducible refine Kd.C_drewN ?_ _) | (with_reducible refine Kd.C_drew ?_))); (case side2 => exact HC0.out); rintro e w34 ⟨v739, v742, v745, rfl, ho0, ho1, ho2, hb⟩; refine ⟨_, rfl, ?_⟩; have n0_ := Aside0.mk (Kd.N_lower (Kd.N_mono (ok' := fun k_ => some k_ ≠ (v742 : Value).ownBlock ∧ some k_ ≠ (v745 : Value).ownBlock) ho0 (fun k_ hk_ => ⟨hk_.2.1, hk_.2.2⟩)) (below_size (by repeat (first | (with_reducible first | exact HB.out | apply below_alloc | apply pw_below_drewN | apply below_drew1) | exact HB.out)))); have n1_ := Aside0.mk (Kd.R_lower (Kd.R_mono (ok' := fun k_ => some k_ ≠ (v745 : Value).ownBlock) ho1 (fun _ hk_ => hk_.2)) (below_size (by repeat (first | (with_reducible first | exact HB.out | apply below_alloc | apply pw_below_drewN | apply below_drew1) | exact HB.out)))); have n2_ := Aside0.mk (Kd.R_lower (Kd.R_mono (ok' := fun k_ => some k_ ≠ (v742 : Value).ownBlock) ho2 (fun _ hk_ => hk_.2)) (below_size (by repeat (first | (with_reducible first | exact HB.out | apply below_alloc | apply pw_below_drewN | apply below_drew1) | exact HB.out)))); have n3_ := Aside0.mk (below_step (by repeat (first | (with_reducible first | exact HB.out | apply below_alloc | apply pw_below_drewN | apply below_drew1) | exact HB.out)) hb); clear HB; have HO740 := n0_; have HO743 := n1_; have HO746 := n2_; have HB := n3_; clear n0_ n1_ n2_ n3_; (try clear hb); (try clear hb2); (try clear hk); (try clear hi); (try clear ho0); (try clear ho1); (try clear ho2)) | ((with_reducible refine gate_dst (N := 3) rfl ?_); refine box_event ?hg (N := 3) ?hd (cs := #[.int .i64 0, .int .i64 0, .slice none 0 0]) (t := 25) ?hr ?_; (case hd => rfl); (case hg => rfl); (case hr => first | (go_simp; done) | (go_simp; rfl)); intro gb747 hg w35 hbox hb; have n0_ := Aside0.mk (Kd.N_below (Kd.N_elderB (by (with_reducible repeat (first | apply Kd.N_alloc | apply Kd.N_drewN | apply Kd.N_drew)); exact HO740.out) gb747 (Nat.le_of_eq hg.symm)) hb); have n1_ := Aside0.mk (Kd.R_below (by (with_reducible repeat (first | apply Kd.R_alloc | apply Kd.R_drewN | apply Kd.R_drew)); exact HO743.out) hb); have n2_ := Aside0.mk (Kd.R_below (by (with_reducible repeat (first | apply Kd.R_alloc | apply Kd.R_drewN | apply Kd.R_drew)); exact HO746.out) hb); have n3_ := Aside0.mk (below_step (by repeat (first | (with_reducible first | exact HB.out | apply below_alloc | apply pw_below_drewN | apply below_drew1) | exact HB.out)) hb); have n4_ := Aside0.mk (hbox); have n5_ := Aside0.mk ((by rw [hg]; exact (below_size (by repeat (first | (with_reducible first | exact HB.out | apply below_alloc | apply pw_below_drewN | apply below_drew1) | exact HB.out))) : w.heap.size ≤ gb747)); have n6_ := Aside0.mk ((by rw [hg]; exact (below_size (by repeat (first | (with_reducible first | exact HB.out | apply below_alloc | apply pw_below_drewN | apply below_drew1) | exact HB.out))) : w.heap.size ≤ gb747)); clear HO740; clear HO743; clear HO746; clear HB; have HO740 := n0_; have HO743 := n1_; have HO746 := n2_; have HB := n3_; have BK747 := n4_; have GW747 := n5_; have GE747 := n6_; clear n0_ n1_ n2_ n3_ n4_ n5_ n6_; clear hb hbox hg; have hcz36_0 : w35.cell? ⟨gb747, 0, none⟩ = some (.int .i64 0) := (blk_cell BK747.out 0).trans rfl; have hcz36_1 : w35.cell? ⟨gb747, 1, none⟩ = some (.int .i64 0) := (blk_cell BK747.out 1).trans rfl; have hcz36_2 : w35.cell? ⟨gb747, 2, none⟩ = some (.slice none 0 0) := (blk_cell BK747.out 2).trans rfl; have hfz36_0 := blk_frozen BK747.out 0; have hfz36_1 := blk_frozen BK747.out 1; have hfz36_2 := blk_frozen BK747.out 2; obtain ⟨Ao37, co37, eo37⟩ := Kd.N_slice HO740.out; subst eo37; obtain ⟨Ao38, co38, eo38⟩ := Kd.R_slice HO743.out; subst eo38; obtain ⟨Ao39, co39, eo39⟩ := Kd.R_slice HO746.out; subst eo39) | ((with_reducible refine gate_callee (f := 33) rfl ?_); refine goesL_ (some 28) rfl rfl Try.func33 (by kernel_rfl) rfl #[.agg #[.int .i64 t736, .int .i64 t737, .slice Ao37 t738.length co37], .slice Ao38 t741.length co38, .slice Ao39 t744.length co39] rfl (by (try simp only [List.map_toArray, List.map_cons, List.map_nil]); first | done | rfl | (simp only [List.length_drop, List.length_take]; rfl)) ?_; (with_reducible refine (impl_TaskSame.calls k t736 t737 _ _ t738 _ _ t741 _ _ t744 false _ ?side1 ?side2 ?side3 ?side4 ?side5 ?side6 A4.out).mono ?_); (case side1 => refine (Kd.N_reads' (e := 25) (base := w.heap.size) (ok := fun k_ => ((some k_ ≠ (.slice Ao38 t741.length co38 : Value).ownBlock ∧ some k_ ≠ (.slice Ao39 t744.length co39 : Value).ownBlock) ∧ k_ ≠ gb747)) (n := t738.length) (c := co37) ?_).2.2; exact (by (with_reducible repeat (first | apply Kd.N_alloc | apply Kd.N_drewN | apply Kd.N_drew)); exact (Kd.N_mono (Kd.N_far (p := ⟨gb747, 2, none⟩) (Kd.N_far (p := ⟨gb747, 1, none⟩) (Kd.N_far (p := ⟨gb747, 0, none⟩) (Kd.N_mono HO740.out (fun k_ hk => (⟨hk, hk.2⟩ : _ ∧ k_ ≠ gb747))) (fun _ hk => hk.2) (.int .i64 t736)) (fun _ hk => hk.2) (.int .i64 t737)) (fun _ hk => hk.2) (.slice Ao37 t738.length co37)) (fun _ h_ => h_.1)))); (case side2 => exact (Kd.N_reads' HO740.out).2.1); (case side3 => refine (Kd.R_reads' (e := 3) (base := w.heap.size) (ok := fun k_ => some k_ ≠ (.slice Ao39 t744.length co39 : Value).ownBlock) (n := t741.length) (c := co38) ?_).2.2; exact (by (with_reducible repeat (first | apply Kd.R_alloc | apply Kd.R_drewN | apply Kd.R_drew)); exact (Kd.R_mono (Kd.R_far (p := ⟨gb747, 2, none⟩) (Kd.R_far (p := ⟨gb747, 1, none⟩) (Kd.R_far (p := ⟨gb747, 0, none⟩) (Kd.R_types HO743.out BK747.out (by decide)) (fun _ hk => hk.2) (.int .i64 t736)) (fun _ hk => hk.2) (.int .i64 t737)) (fun _ hk => hk.2) (.slice Ao37 t738.length co37)) (fun _ h_ => h_.1)))); (case side4 => exact (Kd.R_reads' HO743.out).2.1); (case side5 => refine (Kd.R_reads' (e := 3) (base := w.heap.size) (ok := fun k_ => some k_ ≠ (.slice Ao38 t741.length co38 : Value).ownBlock) (n := t744.length) (c := co39) ?_).2.2; exact (by (with_reducible repeat (first | apply Kd.R_alloc | apply Kd.R_drewN | apply Kd.R_drew)); exact (Kd.R_mono (Kd.R_far (p := ⟨gb747, 2, none⟩) (Kd.R_far (p := ⟨gb747, 1, none⟩) (Kd.R_far (p := ⟨gb747, 0, none⟩) (Kd.R_types HO746.out BK747.out (by decide)) (fun _ hk => hk.2) (.int .i64 t736)) (fun _ hk => hk.2) (.int .i64 t737)) (fun _ hk => hk.2) (.slice Ao37 t738.length co37)) (fun _ h_ => h_.1)))); (case side6 => exact (Kd.R_reads' HO746.out).2.1); rintro e w40 ⟨rfl, hb⟩; refine ⟨_, rfl, ?_⟩; have n0_ := Aside0.mk (Kd.N_below (by (with_reducible repeat (first | apply Kd.N_alloc | apply Kd.N_drewN | apply Kd.N_drew)); exact (Kd.N_mono (Kd.N_far (p := ⟨gb747, 2, none⟩) (Kd.N_far (p := ⟨gb747, 1, none⟩) (Kd.N_far (p := ⟨gb747, 0, none⟩) (Kd.N_mono HO740.out (fun k_ hk => (⟨hk, hk.2⟩ : _ ∧ k_ ≠ gb747))) (fun _ hk => hk.2) (.int .i64 t736)) (fun _ hk => hk.2) (.int .i64 t737)) (fun _ hk => hk.2) (.slice Ao37 t738.length co37)) (fun _ h_ => h_.1))) hb); have n1_ := Aside0.mk (Kd.R_below (by (with_reducible repeat (first | apply Kd.R_alloc | apply Kd.R_drewN | apply Kd.R_drew)); exact (Kd.R_mono (Kd.R_far (p := ⟨gb747, 2, none⟩) (Kd.R_far (p := ⟨gb747, 1, none⟩) (Kd.R_far (p := ⟨gb747, 0, none⟩) (Kd.R_types HO743.out BK747.out (by decide)) (fun _ hk => hk.2) (.int .i64 t736)) (fun _ hk => hk.2) (.int .i64 t737)) (fun _ hk => hk.2) (.slice Ao37 t738.length co37)) (fun _ h_ => h_.1))) hb); have n2_ := Aside0.mk (Kd.R_below (by (with_reducible repeat (first | apply Kd.R_alloc | apply Kd.R_drewN | apply Kd.R_drew)); exact (Kd.R_mono (Kd.R_far (p := ⟨gb747, 2, none⟩) (Kd.R_far (p := ⟨gb747, 1, none⟩) (Kd.R_far (p := ⟨gb747, 0, none⟩) (Kd.R_types HO746.out BK747.out (by decide)) (fun _ hk => hk.2) (.int .i64 t736)) (fun _ hk => hk.2) (.int .i64 t737)) (fun _ hk => hk.2) (.slice Ao37 t738.length co37)) (fun _ h_ => h_.1))) hb); have n3_ := Aside0.mk (blk_below (g := gb747) (o := .cells #[.int .i64 t736, .int .i64 t737, .slice Ao37 t738.length co37] 25 (0, 0)) (by (with_reducible repeat (first | refine blk_drewN ?_ _ | refine blk_drew ?_ | refine blk_alloc ?_ _)); refine blk_put (cs := #[.int .i64 t736, .int .i64 t737, .slice none 0 0]) ?_ 2 _ rfl; (with_reducible repeat (first | refine blk_drewN ?_ _ | refine blk_drew ?_ | refine blk_alloc ?_ _)); refine blk_put (cs := #[.int .i64 t736, .int .i64 0, .slice none 0 0]) ?_ 1 _ rfl; (with_reducible repeat (first | refine blk_drewN ?_ _ | refine blk_drew ?_ | refine blk_alloc ?_ _)); refine blk_put (cs := #[.int .i64 0, .int .i64 0, .slice none 0 0]) ?_ 0 _ rfl; (with_reducible repeat (first | refine blk_drewN ?_ _ | refine blk_drew ?_ | refine blk_alloc ?_ _)); exact BK747.out) hb); have n4_ := Aside0.mk (below_step (by repeat (first | (with_reducible first | exact HB.out | apply below_alloc | apply pw_below_drewN | apply below_drew1 | refine below_set ?_ GE747.out) | exact HB.out)) hb); clear HO740; clear HO743; clear HO746; clear BK747; clear HB; have HO740 := n0_; have HO743 := n1_; have HO746 := n2_; have BK747 := n3_; have HB := n4_; clear n0_ n1_ n2_ n3_ n4_; (try clear hb); (try clear hb2); (try clear hk); (try clear hi); have hcz41_0 : w40.cell? ⟨gb747, 0, none⟩ = some (.int .i64 t736) := (blk_cell BK747.out 0).trans rfl; have hcz41_1 : w40.cell? ⟨gb747, 1, none⟩ = some (.int .i64 t737) := (blk_cell BK747.out 1).trans rfl; have hcz41_2 : w40.cell? ⟨gb747, 2, none⟩ = some (.slice Ao37 t738.length co37) := (blk_cell BK747.out 2).trans rfl; have hfz41_0 := blk_frozen BK747.out 0; have hfz41_1 := blk_frozen BK747.out 1; have hfz41_2 := blk_frozen BK747.out 2) | ((with_reducible refine gate_callee (f := 32) rfl ?_); refine goesL_ (some 32) rfl rfl Try.func32 (by kernel_rfl) rfl #[.agg #[.int .i64 t736, .int .i64 t737, .slice Ao37 t738.length co37], .slice Ao38 t741.length co38, .slice Ao39 t744.length co39] rfl (by (try simp only [List.map_toArray, List.map_cons, List.map_nil]); first | done | rfl | (simp only [List.length_drop, List.length_take]; rfl)) ?_; (with_reducible refine (spec_TaskSame.calls k t736 t737 _ _ t738 _ _ t741 _ _ t744 t749 _ ?side1 ?side2 ?side3 ?side4 ?side5 ?side6 A5.out).mono ?_); (case side1 => repeat (first | exact (Kd.N_reads' HO740.out).2.2 | (with_reducible refine Kd.C_alloc ?_ _) | (with_reducible refine Kd.C_drewN ?_ _) | (with_reducible refine Kd.C_drew ?_))); (case side2 => exact (Kd.N_reads' HO740.out).2.1); (case side3 => repeat (first | exact (Kd.R_reads' HO743.out).2.2 | (with_reducible refine Kd.C_alloc ?_ _) | (with_reducible refine Kd.C_drewN ?_ _) | (with_reducible refine Kd.C_drew ?_))); (case side4 => exact (Kd.R_reads' HO743.out).2.1); (case side5 => repeat (first | exact (Kd.R_reads' HO746.out).2.2 | (with_reducible refine Kd.C_alloc ?_ _) | (with_reducible refine Kd.C_drewN ?_ _) | (with_reducible refine Kd.C_drew ?_))); (case side6 => exact (Kd.R_reads' HO746.out).2.1); rintro e w42 ⟨rfl, hb⟩; refine ⟨_, rfl, ?_⟩; have n0_ := Aside0.mk (Kd.N_below (by (with_reducible repeat (first | apply Kd.N_alloc | apply Kd.N_drewN | apply Kd.N_drew)); exact HO740.out) hb); have n1_ := Aside0.mk (Kd.R_below (by (with_reducible repeat (first | apply Kd.R_alloc | apply Kd.R_drewN | apply Kd.R_drew)); exact HO743.out) hb); have n2_ := Aside0.mk (Kd.R_below (by (with_reducible repeat (first | apply Kd.R_alloc | apply Kd.R_drewN | apply Kd.R_drew)); exact HO746.out) hb); have n3_ := Aside0.mk (blk_below (g := gb747) (o := .cells #[.int .i64 t736, .int .i64 t737, .slice Ao37 t738.length co37] 25 (0, 0)) (by (with_reducible repeat (first | refine blk_drewN ?_ _ | refine blk_drew ?_ | refine blk_alloc ?_ _)); exact BK747.out) hb); have n4_ := Aside0.mk (below_step (by repeat (first | (with_reducible first | exact HB.out | apply below_alloc | apply pw_below_drewN | apply below_drew1 | refine below_set ?_ GE747.out) | exact HB.out)) hb); clear HO740; clear HO743; clear HO746; clear BK747; clear HB; have HO740 := n0_; have HO743 := n1_; have HO746 := n2_; have BK747 := n3_; have HB := n4_; clear n0_ n1_ n2_ n3_ n4_; (try clear hb); (try clear hb2); (try clear hk); (try clear hi); have hcz43_0 : w42.cell? ⟨gb747, 0, none⟩ = some (.int .i64 t736) := (blk_cell BK747.out 0).trans rfl; have hcz43_1 : w42.cell? ⟨gb747, 1, none⟩ = some (.int .i64 t737) := (blk_cell BK747.out 1).trans rfl; have hcz43_2 : w42.cell? ⟨gb747, 2, none⟩ = some (.slice Ao37 t738.length co37) := (blk_cell BK747.out 2).trans rfl; have hfz43_0 := blk_frozen BK747.out 0; have hfz43_1 := blk_frozen BK747.out 1; have hfz43_2 := blk_frozen BK747.out 2) | ((with_reducible refine gate_callee (f := 24) rfl ?_); refine goesL_ (some 39) rfl rfl Try.func24 (by kernel_rfl) rfl #[.agg #[.int .i64 t736, .int .i64 t737, .slice Ao37 t738.length co37], .slice Ao38 t741.length co38] rfl (by (try simp only [List.map_toArray, List.map_cons, List.map_nil]); first | done | rfl | (simp only [List.length_drop, List.length_take]; rfl)) ?_; (with_reducible refine (impl_TaskValue.calls k t736 t737 _ _ t738 _ _ t741 t750 t751 _ ?side1 ?side2 ?side3 ?side4 A7.out).mono ?_); (case side1 => repeat (first | exact (Kd.N_reads' HO740.out).2.2 | (with_reducible refine Kd.C_alloc ?_ _) | (with_reducible refine Kd.C_drewN ?_ _) | (with_reducible refine Kd.C_drew ?_))); (case side2 => exact (Kd.N_reads' HO740.out).2.1); (case side3 => repeat (first | exact (Kd.R_reads' HO743.out).2.2 | (with_reducible refine Kd.C_alloc ?_ _) | (with_reducible refine Kd.C_drewN ?_ _) | (with_reducible refine Kd.C_drew ?_))); (case side4 => exact (Kd.R_reads' HO743.out).2.1); rintro e w44 ⟨rfl, hb⟩; refine ⟨_, rfl, ?_⟩; have n0_ := Aside0.mk (Kd.N_below (by (with_reducible repeat (first | apply Kd.N_alloc | apply Kd.N_drewN | apply Kd.N_drew)); exact HO740.out) hb); have n1_ := Aside0.mk (Kd.R_below (by (with_reducible repeat (first | apply Kd.R_alloc | apply Kd.R_drewN | apply Kd.R_drew)); exact HO743.out) hb); have n2_ := Aside0.mk (Kd.R_below (by (with_reducible repeat (first | apply Kd.R_alloc | apply Kd.R_drewN | apply Kd.R_drew)); exact HO746.out) hb); have n3_ := Aside0.mk (blk_below (g := gb747) (o := .cells #[.int .i64 t736, .int .i64 t737, .slice Ao37 t738.length co37] 25 (0, 0)) (by (with_reducible repeat (first | refine blk_drewN ?_ _ | refine blk_drew ?_ | refine blk_alloc ?_ _)); exact BK747.out) hb); have n4_ := Aside0.mk (below_step (by repeat (first | (with_reducible first | exact HB.out | apply below_alloc | apply pw_below_drewN | apply below_drew1 | refine below_set ?_ GE747.out) | exact HB.out)) hb); clear HO740; clear HO743; clear HO746; clear BK747; clear HB; have HO740 := n0_; have HO743 := n1_; have HO746 := n2_; have BK747 := n3_; have HB := n4_; clear n0_ n1_ n2_ n3_ n4_; (try clear hb); (try clear hb2); (try clear hk); (try clear hi); have hcz45_0 : w44.cell? ⟨gb747, 0, none⟩ = some (.int .i64 t736) := (blk_cell BK747.out 0).trans rfl; have hcz45_1 : w44.cell? ⟨gb747, 1, none⟩ = some (.int .i64 t737) := (blk_cell BK747.out 1).trans rfl; have hcz45_2 : w44.cell? ⟨gb747, 2, none⟩ = some (.slice Ao37 t738.length co37) := (blk_cell BK747.out 2).trans rfl; have hfz45_0 := blk_frozen BK747.out 0; have hfz45_1 := blk_frozen BK747.out 1; have hfz45_2 := blk_frozen BK747.out 2) | ((with_reducible refine gate_callee (f := 24) rfl ?_); refine goesL_ (some 45) rfl rfl Try.func24 (by kernel_rfl) rfl #[.agg #[.int .i64 t736, .int .i64 t737, .slice Ao37 t738.length co37], .slice Ao39 t744.length co39] rfl (by (try simp only [List.map_toArray, List.map_cons, List.map_nil]); first | done | rfl | (simp only [List.length_drop, List.length_take]; rfl)) ?_; (with_reducible refine (impl_TaskValue.calls k t736 t737 _ _ t738 _ _ t744 t752 t753 _ ?side1 ?side2 ?side3 ?side4 A8.out).mono ?_); (case side1 => repeat (first | exact (Kd.N_reads' HO740.out).2.2 | (with_reducible refine Kd.C_alloc ?_ _) | (with_reducible refine Kd.C_drewN ?_ _) | (with_reducible refine Kd.C_drew ?_))); (case side2 => exact (Kd.N_reads' HO740.out).2.1); (case side3 => repeat (first | exact (Kd.R_reads' HO746.out).2.2 | (with_reducible refine Kd.C_alloc ?_ _) | (with_reducible refine Kd.C_drewN ?_ _) | (with_reducible refine Kd.C_drew ?_))); (case side4 => exact (Kd.R_reads' HO746.out).2.1); rintro e w46 ⟨rfl, hb⟩; refine ⟨_, rfl, ?_⟩; have n0_ := Aside0.mk (Kd.N_below (by (with_reducible repeat (first | apply Kd.N_alloc | apply Kd.N_drewN | apply Kd.N_drew)); exact HO740.out) hb); have n1_ := Aside0.mk (Kd.R_below (by (with_reducible repeat (first | apply Kd.R_alloc | apply Kd.R_drewN | apply Kd.R_drew)); exact HO743.out) hb); have n2_ := Aside0.mk (Kd.R_below (by (with_reducible repeat (first | apply Kd.R_alloc | apply Kd.R_drewN | apply Kd.R_drew)); exact HO746.out) hb); have n3_ := Aside0.mk (blk_below (g := gb747) (o := .cells #[.int .i64 t736, .int .i64 t737, .slice Ao37 t738.length co37] 25 (0, 0)) (by (with_reducible repeat (first | refine blk_drewN ?_ _ | refine blk_drew ?_ | refine blk_alloc ?_ _)); exact BK747.out) hb); have n4_ := Aside0.mk (below_step (by repeat (first | (with_reducible first | exact HB.out | apply below_alloc | apply pw_below_drewN | apply below_drew1 | refine below_set ?_ GE747.out) | exact HB.out)) hb); clear HO740; clear HO743; clear HO746; clear BK747; clear HB; have HO740 := n0_; have HO743 := n1_; have HO746 := n2_; have BK747 := n3_; have HB := n4_; clear n0_ n1_ n2_ n3_ n4_; (try clear hb); (try clear hb2); (try clear hk); (try clear hi); have hcz47_0 : w46.cell? ⟨gb747, 0, none⟩ = some (.int .i64 t736) := (blk_cell BK747.out 0).trans rfl; have hcz47_1 : w46.cell? ⟨gb747, 1, none⟩ = some (.int .i64 t737) := (blk_cell BK747.out 1).trans rfl; have hcz47_2 : w46.cell? ⟨gb747, 2, none⟩ = some (.slice Ao37 t738.length co37) := (blk_cell BK747.out 2).trans rfl; have hfz47_0 := blk_frozen BK747.out 0; have hfz47_1 := blk_frozen BK747.out 1; have hfz47_2 := blk_frozen BK747.out 2) | ((with_reducible refine gate_callee (f := 28) rfl ?_); refine goesL_ (some 51) rfl rfl Try.func28 (by kernel_rfl) rfl #[.agg #[.int .i64 t736, .int .i64 t737, .slice Ao37 t738.length co37], .slice Ao38 t741.length co38] rfl (by (try simp only [List.map_toArray, List.map_cons, List.map_nil]); first | done | rfl | (simp only [List.length_drop, List.length_take]; rfl)) ?_; (with_reducible refine (impl_TaskFetches.calls k t736 t737 _ _ t738 _ _ t741 t754 t757 _ ?side1 ?side2 ?side3 ?side4 A9.out).mono ?_); (case side1 => repeat (first | exact (Kd.N_reads' HO740.out).2.2 | (with_reducible refine Kd.C_alloc ?_ _) | (with_reducible refine Kd.C_drewN ?_ _) | (with_reducible refine Kd.C_drew ?_))); (case side2 => exact (Kd.N_reads' HO740.out).2.1); (case side3 => repeat (first | exact (Kd.R_reads' HO743.out).2.2 | (with_reducible refine Kd.C_alloc ?_ _) | (with_reducible refine Kd.C_drewN ?_ _) | (with_reducible refine Kd.C_drew ?_))); (case side4 => exact (Kd.R_reads' HO743.out).2.1); rintro e w48 ⟨v755, rfl, ho0, hb⟩; refine ⟨_, rfl, ?_⟩; have n0_ := Aside0.mk (Kd.N_elder' (by (with_reducible repeat (first | apply Kd.N_alloc | apply Kd.N_drewN | apply Kd.N_drew)); exact HO740.out) (Kd.R_base ho0) hb); have n1_ := Aside0.mk (Kd.R_below (by (with_reducible repeat (first | apply Kd.R_alloc | apply Kd.R_drewN | apply Kd.R_drew)); exact HO743.out) hb); have n2_ := Aside0.mk (Kd.R_below (by (with_reducible repeat (first | apply Kd.R_alloc | apply Kd.R_drewN | apply Kd.R_drew)); exact HO746.out) hb); have n3_ := Aside0.mk (Kd.R_lower ho0 (below_size (by repeat (first | (with_reducible first | exact HB.out | apply below_alloc | apply pw_below_drewN | apply below_drew1 | refine below_set ?_ GE747.out) | exact HB.out)))); have n4_ := Aside0.mk (blk_below (g := gb747) (o := .cells #[.int .i64 t736, .int .i64 t737, .slice Ao37 t738.length co37] 25 (0, 0)) (by (with_reducible repeat (first | refine blk_drewN ?_ _ | refine blk_drew ?_ | refine blk_alloc ?_ _)); exact BK747.out) hb); have n5_ := Aside0.mk (below_step (by repeat (first | (with_reducible first | exact HB.out | apply below_alloc | apply pw_below_drewN | apply below_drew1 | refine below_set ?_ GE747.out) | exact HB.out)) hb); clear HO740; clear HO743; clear HO746; clear BK747; clear HB; have HO740 := n0_; have HO743 := n1_; have HO746 := n2_; have HO756 := n3_; have BK747 := n4_; have HB := n5_; clear n0_ n1_ n2_ n3_ n4_ n5_; (try clear hb); (try clear hb2); (try clear hk); (try clear hi); (try clear ho0); have hcz49_0 : w48.cell? ⟨gb747, 0, none⟩ = some (.int .i64 t736) := (blk_cell BK747.out 0).trans rfl; have hcz49_1 : w48.cell? ⟨gb747, 1, none⟩ = some (.int .i64 t737) := (blk_cell BK747.out 1).trans rfl; have hcz49_2 : w48.cell? ⟨gb747, 2, none⟩ = some (.slice Ao37 t738.length co37) := (blk_cell BK747.out 2).trans rfl; have hfz49_0 := blk_frozen BK747.out 0; have hfz49_1 := blk_frozen BK747.out 1; have hfz49_2 := blk_frozen BK747.out 2) | ((with_reducible refine gate_callee (f := 28) rfl ?_); refine goesL_ (some 57) rfl rfl Try.func28 (by kernel_rfl) rfl #[.agg #[.int .i64 t736, .int .i64 t737, .slice Ao37 t738.length co37], .slice Ao39 t744.length co39] rfl (by (try simp only [List.map_toArray, List.map_cons, List.map_nil]); first | done | rfl | (simp only [List.length_drop, List.length_take]; rfl)) ?_; (with_reducible refine (impl_TaskFetches.calls k t736 t737 _ _ t738 _ _ t744 t758 t761 _ ?side1 ?side2 ?side3 ?side4 A10.out).mono ?_); (case side1 => repeat (first | exact (Kd.N_reads' HO740.out).2.2 | (with_reducible refine Kd.C_alloc ?_ _) | (with_reducible refine Kd.C_drewN ?_ _) | (with_reducible refine Kd.C_drew ?_))); (case side2 => exact (Kd.N_reads' HO740.out).2.1); (case side3 => repeat (first | exact (Kd.R_reads' HO746.out).2.2 | (with_reducible refine Kd.C_alloc ?_ _) | (with_reducible refine Kd.C_drewN ?_ _) | (with_reducible refine Kd.C_drew ?_))); (case side4 => exact (Kd.R_reads' HO746.out).2.1); rintro e w50 ⟨v759, rfl, ho0, hb⟩; refine ⟨_, rfl, ?_⟩; have n0_ := Aside0.mk (Kd.N_elder' (by (with_reducible repeat (first | apply Kd.N_alloc | apply Kd.N_drewN | apply Kd.N_drew)); exact HO740.out) (Kd.R_base ho0) hb); have n1_ := Aside0.mk (Kd.R_below (by (with_reducible repeat (first | apply Kd.R_alloc | apply Kd.R_drewN | apply Kd.R_drew)); exact HO743.out) hb); have n2_ := Aside0.mk (Kd.R_below (by (with_reducible repeat (first | apply Kd.R_alloc | apply Kd.R_drewN | apply Kd.R_drew)); exact HO746.out) hb); have n3_ := Aside0.mk (Kd.R_elder' (by (with_reducible repeat (first | apply Kd.R_alloc | apply Kd.R_drewN | apply Kd.R_drew)); exact HO756.out) (Kd.R_base ho0) hb); have n4_ := Aside0.mk (Kd.R_lower (Kd.R_new' ho0 (Kd.R_lt (by (with_reducible repeat (first | apply Kd.R_alloc | apply Kd.R_drewN | apply Kd.R_drew)); exact HO756.out))) (below_size (by repeat (first | (with_reducible first | exact HB.out | apply below_alloc | apply pw_below_drewN | apply below_drew1 | refine below_set ?_ GE747.out) | exact HB.out)))); have n5_ := Aside0.mk (blk_below (g := gb747) (o := .cells #[.int .i64 t736, .int .i64 t737, .slice Ao37 t738.length co37] 25 (0, 0)) (by (with_reducible repeat (first | refine blk_drewN ?_ _ | refine blk_drew ?_ | refine blk_alloc ?_ _)); exact BK747.out) hb); have n6_ := Aside0.mk (below_step (by repeat (first | (with_reducible first | exact HB.out | apply below_alloc | apply pw_below_drewN | apply below_drew1 | refine below_set ?_ GE747.out) | exact HB.out)) hb); clear HO740; clear HO743; clear HO746; clear HO756; clear BK747; clear HB; have HO740 := n0_; have HO743 := n1_; have HO746 := n2_; have HO756 := n3_; have HO760 := n4_; have BK747 := n5_; have HB := n6_; clear n0_ n1_ n2_ n3_ n4_ n5_ n6_; (try clear hb); (try clear hb2); (try clear hk); (try clear hi); (try clear ho0)))
        go_ret
        exact ⟨by first | rfl | (simp [errW_none, errW_some] <;> rfl) | (simp [*, errW_none, errW_some] <;> rfl), by repeat (first | (with_reducible first | exact HB.out | apply below_alloc | apply pw_below_drewN | apply below_drew1 | refine below_set ?_ GE747.out) | exact HB.out)⟩
def laws_FnTaskSame.Pure : Prop := ∀ (l0 : List Int), l0.length ≤ maxLen → l0.length * 1 ≤ 140737488351232 → (∀ x ∈ l0, (Lit.int .u8 x).wf = true) → ∃ k, laws_FnTaskSame.f k l0 = some true
theorem laws_FnTaskSame.walk (P : laws_FnTaskSame.Pure) (a0 : Option Addr) (len0 cap0 : Nat) (z0 : List Int) (w : World) (w0 : (a0 = none ∧ len0 = 0 ∧ cap0 = 0 ∧ z0 = []) ∨ ∃ x, a0 = some x ∧ len0 ≤ cap0 ∧ cap0 ≤ maxLen ∧ z0.length = cap0 ∧ (∀ i, i < z0.length → w.cell? (x.add i) = some (.int .u8 (z0.getD i 0))) ∧ ∀ n ∈ z0, (Lit.int .u8 n).wf = true) (y0 : len0 * 1 ≤ 140737488351232) :
    Calls Try.prog 10 #[.slice a0 len0 cap0] w fun e w' => e = .returned (.bool true) ∧ Below w.heap.size w w' := by
  obtain ⟨l0, rfl, hr0, hm0, hw0, hc0⟩ := ReadsInt.ofRowC w0
  obtain ⟨k, h⟩ := P l0 hm0 y0 hw0
  refine (laws_FnTaskSame.calls k _ _ l0 true w (Kd.C_of_reads (d := (0 : Int)) (h1 := fun _ => rfl) hr0) hc0 h).mono ?_
  rintro e w' ⟨rfl, hd⟩
  exact ⟨rfl, hd⟩
end Go.Proofs.Ytooojligedlpeaa.G
end
section
namespace Go.Proofs.Ytooojligedlpeaa.G
open Go.RowKit Go.Proofs.YtooojligedlpeaaW.PrintWords
set_option linter.unusedVariables false
set_option linter.unusedSimpArgs false
theorem isKey_ev (a : Int) : impl_isKey.f a = some (decide (0 ≤ a ∧ a < 10)) := by
  unfold impl_isKey.f
  by_cases h : a ≥ 0
  · rw [if_pos h]; simp only [ge_iff_le] at h; simp [h]
  · rw [if_neg h]; simp only [ge_iff_le] at h; simp [h]
theorem isValue_ev (a : Int) : impl_isValue.f a = some (decide (0 ≤ a ∧ a ≤ 96)) := by
  unfold impl_isValue.f
  by_cases h : a ≥ 0
  · rw [if_pos h]; simp only [ge_iff_le] at h; simp [h]
  · rw [if_neg h]; simp only [ge_iff_le] at h; simp [h]
theorem ite_prop (P : Prop) [Decidable P] (c : Bool) : (if P then some c else some false) = some (decide P && c) := by by_cases h : P <;> simp [h]
theorem fits_now (k : Nat) (a b : Int) (l : List Tk) : impl_Task_fits.f (k + 1) a b l = some (shapeB a b l.length) := by
  unfold impl_Task_fits.f
  have e0 : ∀ m : Nat, ((l.length : Int) == (m : Int)) = decide (l.length = m) := fun m => by rw [Bool.eq_iff_iff]; simp only [beq_iff_eq, decide_eq_true_eq]; omega
  have e1 : ((l.length : Int) == 0) = decide (l.length = 0) := e0 0
  have e2 : ((l.length : Int) == 1) = decide (l.length = 1) := e0 1
  have e3 : ((l.length : Int) == 2) = decide (l.length = 2) := e0 2
  have e4 : ((l.length : Int) == 3) = decide (l.length = 3) := e0 3
  simp only [impl_Task_fits.j0, isKey_ev, isValue_ev, Option.bind_some, e1, e2, e3, e4, ite_prop, Bool.decide_eq_true]
  clear e0 e1 e2 e3 e4
  unfold shapeB
  by_cases h0 : a = 0
  · simp only [h0, if_true]
  by_cases h1 : a = 1
  · simp only [h0, h1, if_true, if_false, show ¬ ((1 : Int) = 0) by decide]
  by_cases h2 : a = 2
  · simp only [h2, if_true, if_false, show ¬ ((2 : Int) = 0) by decide, show ¬ ((2 : Int) = 1) by decide, show ((2 : Int) == 2) = true by decide]
  by_cases h3 : a = 3
  · simp only [h3, if_true, if_false, show ¬ ((3 : Int) = 0) by decide, show ¬ ((3 : Int) = 1) by decide, show ¬ ((3 : Int) = 2) by decide, show ((3 : Int) == 3) = true by decide]
  have h3b : (a == 3) = false := beq_eq_false_iff_ne.mpr h3
  by_cases h4 : a = 4
  · simp only [h4, if_true, if_false, show ¬ ((4 : Int) = 0) by decide, show ¬ ((4 : Int) = 1) by decide, show ¬ ((4 : Int) = 2) by decide, show ¬ ((4 : Int) = 3) by decide, show ((4 : Int) == 3) = false by decide, Bool.false_eq_true, decide_true, Bool.true_and]
  by_cases h5 : a = 5
  · simp only [h5, if_true, if_false, show ¬ ((5 : Int) = 0) by decide, show ¬ ((5 : Int) = 1) by decide, show ¬ ((5 : Int) = 2) by decide, show ¬ ((5 : Int) = 3) by decide, show ¬ ((5 : Int) = 4) by decide, show ((5 : Int) == 3) = false by decide, Bool.false_eq_true, decide_true, Bool.true_and]
  simp only [h0, h1, h2, h3, h4, h5, h3b, if_false, Bool.false_eq_true, decide_false, Bool.false_and]
theorem fits_ev (a b : Int) (l : List Tk) : Ev (fun k => impl_Task_fits.f k a b l) (shapeB a b l.length) := ⟨1, fun k hk => by
  obtain ⟨m, rfl⟩ : ∃ m, k = m + 1 := ⟨k - 1, by omega⟩
  exact fits_now m a b l⟩
end Go.Proofs.Ytooojligedlpeaa.G
end
section
namespace Go.Proofs.Ytooojligedlpeaa.G
open Go.RowKit Go.Proofs.YtooojligedlpeaaW.PrintWords
set_option linter.unusedVariables false
set_option linter.unusedSimpArgs false
theorem Ev.eq {α : Type} {g : Nat → Option α} {r r' : α} (h : Ev g r) (e : r = r') : Ev g r' := e ▸ h
theorem Ev.of_eq {α : Type} {o : Option α} {r : α} (h : o = some r) : Ev (fun _ => o) r := ⟨0, fun _ _ => h⟩
def CountsTo (t : Tk) (room r : Int) : Prop := ((fitT t = true ∧ (nodT t : Int) ≤ room) → r = nodT t) ∧ (¬ (fitT t = true ∧ (nodT t : Int) ≤ room) → room < r) ∧ 1 ≤ r ∧ r ≤ 16 + 16 * room
theorem countTo_loop (ps : List Tk) (hlen : ps.length ≤ 3) (room : Int) (h0 : 0 ≤ room) (h1 : room ≤ 15)
    (ih : ∀ p ∈ ps, ∀ rm : Int, 0 ≤ rm → rm ≤ 15 → ∃ r, Ev (fun k => impl_Task_countTo.f k p.f0 p.f1 p.f2 rm) r ∧ CountsTo p rm r) :
    ∀ (d i : Nat) (n : Int), d = ps.length - i → i ≤ ps.length → 1 ≤ n → n ≤ 16 + 16 * room →
      ∃ r, Ev (fun k => impl_Task_countTo.l0 k room n ps (ps.length : Int) (i : Int)) r ∧ ((fitL (ps.drop i) = true ∧ n + (nodL (ps.drop i) : Int) ≤ room) → r = n + nodL (ps.drop i)) ∧ (¬ (fitL (ps.drop i) = true ∧ n + (nodL (ps.drop i) : Int) ≤ room) → room < r) ∧ 1 ≤ r ∧ r ≤ 16 + 16 * room := by
  intro d
  induction d with
  | zero =>
    intro i n hd hi hn hn2
    have e : i = ps.length := by omega
    subst e
    refine ⟨n, Ev.step (fun k => by rw [impl_Task_countTo.l0]) ?_, ?_⟩
    · simp only [if_neg (show ¬ ((ps.length : Int) < (ps.length : Int)) by omega)]
      exact Ev.now n
    · simp only [List.drop_length, fitL, nodL]
      refine ⟨fun _ => by simp, fun h => ?_, hn, hn2⟩
      simp at h
      omega
  | succ d ihd =>
    intro i n hd hi hn hn2
    have hlt : i < ps.length := by omega
    have hrd := rd_tk ps i hlt
    have hdr := drop_tk ps i hlt
    have hmem : ps[i] ∈ ps := List.getElem_mem hlt
    by_cases hg : n > room
    · refine ⟨16, Ev.step (fun k => by rw [impl_Task_countTo.l0]) ?_, fun h => ?_, fun _ => by omega, by omega, by omega⟩
      · simp only [if_pos (show (i : Int) < (ps.length : Int) by omega), if_pos (show (0 : Int) ≤ (i : Int) by omega), if_pos hg]
        exact Ev.now 16
      · exfalso
        have := h.2
        omega
    · obtain ⟨c, hc, hc1, hc2, hc3, hc4⟩ := ih ps[i] hmem (room - n) (by omega) (by omega)
      obtain ⟨r, hr, hr1, hr2, hr3, hr4⟩ := ihd (i + 1) (n + c) (by omega) (by omega) (by omega) (by omega)
      refine ⟨r, Ev.step (fun k => by rw [impl_Task_countTo.l0]) ?_, ?_, ?_, hr3, hr4⟩
      · simp only [if_pos (show (i : Int) < (ps.length : Int) by omega), if_pos (show (0 : Int) ≤ (i : Int) by omega), if_neg hg, hrd]
        rw [wrap_id (room - n) (by omega) (by omega), wrap_nat i (by omega)]
        refine Ev.bind hc ?_
        simp only [wrap_id (n + c) (by omega) (by omega)]
        exact hr
      · rw [hdr]
        simp only [fitL, nodL, Bool.and_eq_true]
        rintro ⟨⟨f1, f2⟩, h3⟩
        have e := hc1 ⟨f1, by omega⟩
        rw [hr1 ⟨f2, by omega⟩]
        omega
      · rw [hdr]
        simp only [fitL, nodL, Bool.and_eq_true]
        intro hno
        by_cases hp : fitT ps[i] = true ∧ (nodT ps[i] : Int) ≤ room - n
        · have e := hc1 hp
          exact hr2 (fun h => hno ⟨⟨hp.1, h.1⟩, by have := h.2; omega⟩)
        · have := hc2 hp
          exact hr2 (fun h => by have := h.2; omega)
theorem countTo_ev : ∀ t : Tk, ∀ room : Int, 0 ≤ room → room ≤ 15 → ∃ r, Ev (fun k => impl_Task_countTo.f k t.f0 t.f1 t.f2 room) r ∧ CountsTo t room r := by
  refine tk_ind fun t ih room h0 h1 => ?_
  by_cases hr : room < 1
  · refine ⟨16, Ev.step (fun k => by rw [impl_Task_countTo.f]) ?_, ?_, ?_, by omega, by omega⟩
    · simp only [if_pos hr]
      refine Ev.step (fun k => by rw [impl_Task_countTo.j0]) ?_
      simp only [if_true]
      exact Ev.now 16
    · rintro ⟨_, h⟩
      have := nodT_pos t
      omega
    · intro _
      omega
  · have hshape := fits_ev t.f0 t.f1 t.f2
    by_cases hf : shapeB t.f0 t.f1 t.f2.length = true
    · obtain ⟨r, hr1, hr2, hr3, hr4, hr5⟩ := countTo_loop t.f2 (shapeB_len hf) room h0 h1 ih t.f2.length 0 1 (by omega) (by omega) (by omega) (by omega)
      refine ⟨r, Ev.step (fun k => by rw [impl_Task_countTo.f]) ?_, ?_, ?_, hr4, hr5⟩
      · simp only [if_neg hr]
        refine Ev.bind hshape ?_
        simp only [hf, Bool.not_true]
        refine Ev.step (fun k => by rw [impl_Task_countTo.j0]) ?_
        simp only [Bool.false_eq_true, if_false]
        exact hr1
      · rw [fitT_eq, nodT_eq, hf]
        simp only [List.drop_zero, Bool.true_and] at hr2 ⊢
        rintro ⟨a, b⟩
        rw [hr2 ⟨a, by omega⟩]
        omega
      · rw [fitT_eq, nodT_eq, hf]
        simp only [List.drop_zero, Bool.true_and] at hr3 ⊢
        intro h
        exact hr3 (fun ⟨a, b⟩ => h ⟨a, by omega⟩)
    · refine ⟨16, Ev.step (fun k => by rw [impl_Task_countTo.f]) ?_, ?_, ?_, by omega, by omega⟩
      · simp only [if_neg hr]
        refine Ev.bind hshape ?_
        simp only [Bool.not_eq_true] at hf
        simp only [hf, Bool.not_false]
        refine Ev.step (fun k => by rw [impl_Task_countTo.j0]) ?_
        simp only [if_true]
        exact Ev.now 16
      · rw [fitT_eq]
        intro h
        simp [hf] at h
      · intro _
        omega
theorem count_loop (ps : List Tk) (hlen : ps.length ≤ 3) :
    ∀ (d i : Nat) (n : Int), d = ps.length - i → i ≤ ps.length → 1 ≤ n → n ≤ 300 →
      ∃ r, Ev (fun k => impl_Task_count.l0 k n ps (ps.length : Int) (i : Int)) r ∧ ((fitL (ps.drop i) = true ∧ n + (nodL (ps.drop i) : Int) ≤ 15) → r = n + nodL (ps.drop i)) ∧ (¬ (fitL (ps.drop i) = true ∧ n + (nodL (ps.drop i) : Int) ≤ 15) → 15 < r) := by
  intro d
  induction d with
  | zero =>
    intro i n hd hi hn hn2
    have e : i = ps.length := by omega
    subst e
    refine ⟨n, Ev.step (fun k => by rw [impl_Task_count.l0]) ?_, ?_⟩
    · simp only [if_neg (show ¬ ((ps.length : Int) < (ps.length : Int)) by omega)]
      exact Ev.now n
    · simp only [List.drop_length, fitL, nodL]
      refine ⟨fun _ => by simp, fun h => ?_⟩
      simp at h
      omega
  | succ d ihd =>
    intro i n hd hi hn hn2
    have hlt : i < ps.length := by omega
    have hrd := rd_tk ps i hlt
    have hdr := drop_tk ps i hlt
    by_cases hg : n > 15
    · refine ⟨n, Ev.step (fun k => by rw [impl_Task_count.l0]) ?_, fun h => ?_, fun _ => by omega⟩
      · simp only [if_pos (show (i : Int) < (ps.length : Int) by omega), if_pos (show (0 : Int) ≤ (i : Int) by omega), if_pos hg]
        exact Ev.now n
      · exfalso
        have := h.2
        omega
    · obtain ⟨c, hc, hc1, hc2, hc3, hc4⟩ := countTo_ev ps[i] (15 - n) (by omega) (by omega)
      obtain ⟨r, hr, hr1, hr2⟩ := ihd (i + 1) (n + c) (by omega) (by omega) (by omega) (by omega)
      refine ⟨r, Ev.step (fun k => by rw [impl_Task_count.l0]) ?_, ?_, ?_⟩
      · simp only [if_pos (show (i : Int) < (ps.length : Int) by omega), if_pos (show (0 : Int) ≤ (i : Int) by omega), if_neg hg, hrd]
        rw [wrap_id (15 - n) (by omega) (by omega), wrap_nat i (by omega)]
        refine Ev.bind hc ?_
        simp only [wrap_id (n + c) (by omega) (by omega)]
        exact hr
      · rw [hdr]
        simp only [fitL, nodL, Bool.and_eq_true]
        rintro ⟨⟨f1, f2⟩, h3⟩
        have e := hc1 ⟨f1, by omega⟩
        rw [hr1 ⟨f2, by omega⟩]
        omega
      · rw [hdr]
        simp only [fitL, nodL, Bool.and_eq_true]
        intro hno
        by_cases hp : fitT ps[i] = true ∧ (nodT ps[i] : Int) ≤ 15 - n
        · have e := hc1 hp
          exact hr2 (fun h => hno ⟨⟨hp.1, h.1⟩, by have := h.2; omega⟩)
        · have := hc2 hp
          exact hr2 (fun h => by have := h.2; omega)
theorem count_ev (t : Tk) : ∃ r, Ev (fun k => impl_Task_count.f k t.f0 t.f1 t.f2) r ∧ (okT t = true → r = nodT t) ∧ (okT t = false → 15 < r) := by
  have hshape := fits_ev t.f0 t.f1 t.f2
  by_cases hf : shapeB t.f0 t.f1 t.f2.length = true
  · obtain ⟨r, hr1, hr2, hr3⟩ := count_loop t.f2 (shapeB_len hf) t.f2.length 0 1 (by omega) (by omega) (by omega) (by omega)
    refine ⟨r, ?_, ?_, ?_⟩
    · unfold impl_Task_count.f
      refine Ev.bind hshape ?_
      simp only [hf, if_true]
      exact hr1
    · intro h
      have h1 := okT_fit h
      have h2 := okT_nod h
      rw [fitT_eq, Bool.and_eq_true] at h1
      rw [nodT_eq] at h2 ⊢
      simp only [List.drop_zero] at hr2
      rw [hr2 ⟨h1.2, by omega⟩]
      omega
    · intro h
      simp only [List.drop_zero] at hr3
      refine hr3 (fun ⟨a, b⟩ => ?_)
      rw [okT, fitT_eq, nodT_eq, hf, a] at h
      simp at h
      omega
  · refine ⟨16, ?_, ?_, fun _ => by omega⟩
    · unfold impl_Task_count.f
      refine Ev.bind hshape ?_
      simp only [hf, Bool.false_eq_true, if_false]
      exact Ev.now 16
    · intro h
      have h1 := okT_fit h
      rw [fitT_eq, Bool.and_eq_true] at h1
      exact absurd h1.1 hf
theorem implOk_ev (t : Tk) : Ev (fun k => impl_TaskOk.f k t.f0 t.f1 t.f2) (okT t) := by
  obtain ⟨r, hr, h1, h2⟩ := count_ev t
  unfold impl_TaskOk.f
  refine Ev.bind hr ?_
  refine Ev.of_eq ?_
  cases h : okT t with
  | true => have := h1 h; have := okT_nod h; simp; omega
  | false => have := h2 h; simp; omega
theorem l1Shape_now (k : Nat) (a : Int) : spec_l1Shape.f (k + 1) a = some (if a = 0 then (0, 96, true) else if a = 1 then (0, 9, true) else if a = 2 then (2, 0, true) else if a = 3 then (2, 0, true) else if a = 4 then (3, 0, true) else if a = 5 then (1, 9, true) else (0, 0, false)) := by
  unfold spec_l1Shape.f
  simp only [spec_l1Shape.j0]
  repeat' split
  all_goals simp_all
theorem l1Shape_ev (a : Int) : Ev (fun k => spec_l1Shape.f k a) (if a = 0 then (0, 96, true) else if a = 1 then (0, 9, true) else if a = 2 then (2, 0, true) else if a = 3 then (2, 0, true) else if a = 4 then (3, 0, true) else if a = 5 then (1, 9, true) else (0, 0, false)) := ⟨1, fun k hk => by
  obtain ⟨m, rfl⟩ : ∃ m, k = m + 1 := ⟨k - 1, by omega⟩
  exact l1Shape_now m a⟩
theorem l6In_ev (a b c : Int) : spec_l6In.f a b c = some (decide (b ≤ a ∧ a ≤ c)) := by
  unfold spec_l6In.f
  by_cases h : a ≥ b
  · rw [if_pos h]; simp only [ge_iff_le] at h; simp [h]
  · rw [if_neg h]; simp only [ge_iff_le] at h; simp [h]
theorem l1Fit_loop (a b : Int) (ps : List Tk) (hlen : ps.length ≤ 3) (ih : ∀ p ∈ ps, Ev (fun k => spec_l1Fit.f k p.f0 p.f1 p.f2) (fitT p)) :
    ∀ (d i : Nat), d = ps.length - i → i ≤ ps.length → Ev (fun k => spec_l1Fit.l0 k (i : Int) a b ps) (fitL (ps.drop i)) := by
  intro d
  induction d with
  | zero =>
    intro i hd hi
    have e : i = ps.length := by omega
    subst e
    refine Ev.step (fun k => by rw [spec_l1Fit.l0]) ?_
    simp only [if_neg (show ¬ ((ps.length : Int) < (ps.length : Int)) by omega), List.drop_length, fitL]
    exact Ev.now true
  | succ d ihd =>
    intro i hd hi
    have hlt : i < ps.length := by omega
    have hrd := rd_tk ps i hlt
    have hmem : ps[i] ∈ ps := List.getElem_mem hlt
    rw [drop_tk ps i hlt]
    refine Ev.step (fun k => by rw [spec_l1Fit.l0]) ?_
    simp only [if_pos (show (i : Int) < (ps.length : Int) by omega), if_pos (show (0 : Int) ≤ (i : Int) by omega), hrd]
    refine Ev.bind (ih _ hmem) ?_
    simp only [fitL]
    cases h : fitT ps[i] with
    | true =>
      simp only [if_true, Bool.true_and, wrap_nat i (by omega)]
      exact ihd (i + 1) (by omega) (by omega)
    | false =>
      simp only [Bool.false_eq_true, if_false, Bool.false_and]
      exact Ev.now false
theorem l1Fit_ev : ∀ t : Tk, Ev (fun k => spec_l1Fit.f k t.f0 t.f1 t.f2) (fitT t) := by
  refine tk_ind fun t ih => ?_
  refine Ev.step (fun k => by rw [spec_l1Fit.f]) ?_
  refine Ev.bind (l1Shape_ev t.f0) ?_
  rw [fitT_eq]
  have bad : Ev (fun k => spec_l1Fit.j0 k true t.f0 t.f1 t.f2) false := by
    refine Ev.step (fun k => by rw [spec_l1Fit.j0]) ?_
    simp only [if_true]
    exact Ev.now false
  have good : t.f2.length ≤ 3 → ∀ c : Bool, Ev (fun k => spec_l1Fit.j0 k (!c) t.f0 t.f1 t.f2) (c && fitL t.f2) := by
    intro hl c
    refine Ev.step (fun k => by rw [spec_l1Fit.j0]) ?_
    cases c with
    | false =>
      simp only [Bool.not_false, if_true, Bool.false_and]
      exact Ev.now false
    | true =>
      simp only [Bool.not_true, Bool.false_eq_true, if_false, Bool.true_and]
      exact l1Fit_loop t.f0 t.f1 t.f2 hl ih t.f2.length 0 (by omega) (by omega)
  have e0 : ∀ m : Nat, ((t.f2.length : Int) = (m : Int)) = (t.f2.length = m) := fun m => by rw [eq_iff_iff]; omega
  have e1 : ((t.f2.length : Int) = 0) = (t.f2.length = 0) := e0 0
  have e2 : ((t.f2.length : Int) = 1) = (t.f2.length = 1) := e0 1
  have e3 : ((t.f2.length : Int) = 2) = (t.f2.length = 2) := e0 2
  have e4 : ((t.f2.length : Int) = 3) = (t.f2.length = 3) := e0 3
  simp only [l6In_ev, Option.bind_some]
  unfold shapeB
  by_cases h0 : t.f0 = 0
  · simp only [h0, if_true, e1] at good bad ⊢
    by_cases hl : t.f2.length = 0
    · simp only [hl, if_true, decide_true, Bool.and_true] at good ⊢
      exact good (by omega) _
    · simp only [hl, if_false, decide_false, Bool.and_false, Bool.false_and]
      exact bad
  by_cases h1 : t.f0 = 1
  · have e9 : ∀ x : Int, (0 ≤ x ∧ x < 10) = (0 ≤ x ∧ x ≤ 9) := fun x => by rw [eq_iff_iff]; omega
    simp only [h1, if_true, e1, e9, show ¬ ((1 : Int) = 0) by decide, if_false] at good bad ⊢
    by_cases hl : t.f2.length = 0
    · simp only [hl, if_true, decide_true, Bool.and_true] at good ⊢
      exact good (by omega) _
    · simp only [hl, if_false, decide_false, Bool.and_false, Bool.false_and]
      exact bad
  by_cases h2 : t.f0 = 2
  · have e9 : ∀ x : Int, (x = 0) = (0 ≤ x ∧ x ≤ 0) := fun x => by rw [eq_iff_iff]; omega
    simp only [h2, if_true, e3, e9 t.f1, show ¬ ((2 : Int) = 0) by decide, show ¬ ((2 : Int) = 1) by decide, if_false] at good bad ⊢
    by_cases hl : t.f2.length = 2
    · simp only [hl, if_true, decide_true, Bool.and_true] at good ⊢
      exact good (by omega) _
    · simp only [hl, if_false, decide_false, Bool.and_false, Bool.false_and]
      exact bad
  by_cases h3 : t.f0 = 3
  · have e9 : ∀ x : Int, (x = 0) = (0 ≤ x ∧ x ≤ 0) := fun x => by rw [eq_iff_iff]; omega
    simp only [h3, if_true, e3, e9 t.f1, show ¬ ((3 : Int) = 0) by decide, show ¬ ((3 : Int) = 1) by decide, show ¬ ((3 : Int) = 2) by decide, if_false] at good bad ⊢
    by_cases hl : t.f2.length = 2
    · simp only [hl, if_true, decide_true, Bool.and_true] at good ⊢
      exact good (by omega) _
    · simp only [hl, if_false, decide_false, Bool.and_false, Bool.false_and]
      exact bad
  by_cases h4 : t.f0 = 4
  · have e9 : ∀ x : Int, (x = 0) = (0 ≤ x ∧ x ≤ 0) := fun x => by rw [eq_iff_iff]; omega
    simp only [h4, if_true, e4, e9 t.f1, show ¬ ((4 : Int) = 0) by decide, show ¬ ((4 : Int) = 1) by decide, show ¬ ((4 : Int) = 2) by decide, show ¬ ((4 : Int) = 3) by decide, if_false] at good bad ⊢
    by_cases hl : t.f2.length = 3
    · simp only [hl, if_true, decide_true, Bool.and_true] at good ⊢
      exact good (by omega) _
    · simp only [hl, if_false, decide_false, Bool.and_false, Bool.false_and]
      exact bad
  by_cases h5 : t.f0 = 5
  · have e9 : ∀ x : Int, (0 ≤ x ∧ x < 10) = (0 ≤ x ∧ x ≤ 9) := fun x => by rw [eq_iff_iff]; omega
    simp only [h5, if_true, e2, e9 t.f1, show ¬ ((5 : Int) = 0) by decide, show ¬ ((5 : Int) = 1) by decide, show ¬ ((5 : Int) = 2) by decide, show ¬ ((5 : Int) = 3) by decide, show ¬ ((5 : Int) = 4) by decide, if_false] at good bad ⊢
    by_cases hl : t.f2.length = 1
    · simp only [hl, if_true, decide_true, Bool.and_true] at good ⊢
      exact good (by omega) _
    · simp only [hl, if_false, decide_false, Bool.and_false, Bool.false_and]
      exact bad
  · simp only [h0, h1, h2, h3, h4, h5, if_false, Bool.false_eq_true, Bool.false_and]
    exact bad
theorem l1Nodes_loop (a b : Int) (ps : List Tk) (hlen : ps.length ≤ 4000000000) (ih : ∀ p ∈ ps, (nodT p : Int) ≤ 4000000000 → Ev (fun k => spec_l1Nodes.f k p.f0 p.f1 p.f2) (nodT p : Int)) :
    ∀ (d i : Nat) (n : Int), d = ps.length - i → i ≤ ps.length → 0 ≤ n → n + (nodL (ps.drop i) : Int) ≤ 4000000000 → Ev (fun k => spec_l1Nodes.l0 k n (i : Int) a b ps) (n + nodL (ps.drop i)) := by
  intro d
  induction d with
  | zero =>
    intro i n hd hi hn hb
    have e : i = ps.length := by omega
    subst e
    refine Ev.step (fun k => by rw [spec_l1Nodes.l0]) ?_
    simp only [if_neg (show ¬ ((ps.length : Int) < (ps.length : Int)) by omega), List.drop_length, nodL]
    exact Ev.eq (Ev.now n) (by omega)
  | succ d ihd =>
    intro i n hd hi hn hb
    have hlt : i < ps.length := by omega
    have hrd := rd_tk ps i hlt
    have hmem : ps[i] ∈ ps := List.getElem_mem hlt
    rw [drop_tk ps i hlt] at hb ⊢
    simp only [nodL] at hb ⊢
    refine Ev.step (fun k => by rw [spec_l1Nodes.l0]) ?_
    simp only [if_pos (show (i : Int) < (ps.length : Int) by omega), if_pos (show (0 : Int) ≤ (i : Int) by omega), hrd]
    refine Ev.bind (ih _ hmem (by omega)) ?_
    simp only [wrap_nat i (by omega), wrap_id (n + (nodT ps[i] : Int)) (by omega) (by omega)]
    exact Ev.eq (ihd (i + 1) (n + nodT ps[i]) (by omega) (by omega) (by omega) (by omega)) (by omega)
theorem l1Nodes_ev : ∀ t : Tk, (nodT t : Int) ≤ 4000000000 → Ev (fun k => spec_l1Nodes.f k t.f0 t.f1 t.f2) (nodT t : Int) := by
  refine tk_ind fun t ih hb => ?_
  rw [nodT_eq] at hb ⊢
  have := nodL_len t.f2
  refine Ev.step (fun k => by rw [spec_l1Nodes.f]) ?_
  exact Ev.eq (l1Nodes_loop t.f0 t.f1 t.f2 (by omega) ih t.f2.length 0 1 (by omega) (by omega) (by omega) (by rw [List.drop_zero]; omega)) (by rw [List.drop_zero]; omega)
theorem specOk_ev (t : Tk) (hb : (nodT t : Int) ≤ 4000000000) : Ev (fun k => spec_TaskOk.f k t.f0 t.f1 t.f2) (okT t) := by
  unfold spec_TaskOk.f
  refine Ev.bind (l1Fit_ev t) ?_
  unfold okT
  cases h : fitT t with
  | false =>
    simp only [Bool.false_eq_true, if_false, Bool.false_and]
    exact Ev.now false
  | true =>
    simp only [if_true, Bool.true_and]
    refine Ev.bind (l1Nodes_ev t hb) ?_
    refine Ev.of_eq ?_
    congr 1
    rw [Bool.eq_iff_iff]
    simp only [decide_eq_true_eq]
    omega
end Go.Proofs.Ytooojligedlpeaa.G
end
section
namespace Go.Proofs.Ytooojligedlpeaa.G
open Go.RowKit Go.Proofs.YtooojligedlpeaaW.PrintWords
set_option linter.unusedVariables false
set_option linter.unusedSimpArgs false
theorem xor_nonneg (a b : Int) (ha : 0 ≤ a) (ha2 : a < 4611686018427387904) (hb : 0 ≤ b) (hb2 : b < 4611686018427387904) : 0 ≤ Go.bits .xor .i64 a b := by
  obtain ⟨x, rfl⟩ := Int.eq_ofNat_of_zero_le ha
  obtain ⟨y, rfl⟩ := Int.eq_ofNat_of_zero_le hb
  have hx : x < 2 ^ 62 := by omega
  have hy : y < 2 ^ 62 := by omega
  have hx2 : x % 2 ^ 64 = x := Nat.mod_eq_of_lt (by omega)
  have hy2 : y % 2 ^ 64 = y := Nat.mod_eq_of_lt (by omega)
  have hz : x ^^^ y < 2 ^ 62 := Nat.xor_lt_two_pow hx hy
  have e : Go.bits .xor .i64 (x : Int) (y : Int) = ((x ^^^ y : Nat) : Int) := by
    show IntKind.i64.wrap ((BitVec.ofInt 64 (x : Int) ^^^ BitVec.ofInt 64 (y : Int)).toNat : Int) = _
    rw [BitVec.toNat_xor, BitVec.ofInt_natCast, BitVec.ofInt_natCast, BitVec.toNat_ofNat, BitVec.toNat_ofNat, hx2, hy2, IntKind.wrap_i64]
    omega
  rw [e]
  omega
def byteL (l : List Int) : Prop := ∀ x ∈ l, 0 ≤ x ∧ x ≤ 255
theorem rd_byte {l : List Int} (h : byteL l) (i : Int) : 0 ≤ rd l i ∧ rd l i ≤ 255 := by
  unfold rd
  by_cases hi : i.toNat < l.length
  · rw [List.getD_eq_getElem?_getD, List.getElem?_eq_getElem hi, Option.getD_some]
    exact h _ (List.getElem_mem hi)
  · rw [List.getD_eq_getElem?_getD, List.getElem?_eq_none (by omega), Option.getD_none]
    omega
theorem pick_ev {l : List Int} (hl : byteL l) (hlen : l.length ≤ 1048576) (p n : Int) (h0 : 0 ≤ p) (h1 : p ≤ 1099511627776) :
    ∃ v, Ev (fun k => spec_l6Rd_pick.f k l p n) (v, p + 1) ∧ 0 ≤ v ∧ (1 ≤ n → v < n) ∧ (n < 1 → v = 0) := by
  have e1 : wrap64 (p + 1) = p + 1 := wrap_id _ (by omega) (by omega)
  have e2 : wrap64 (p + 1 - 1) = p := by rw [wrap_id (p + 1 - 1) (by omega) (by omega)]; omega
  by_cases hn : n < 1
  · refine ⟨0, ?_, by omega, by omega, by omega⟩
    unfold spec_l6Rd_pick.f
    simp only [if_pos hn, e1]
    refine Ev.step (fun k => by rw [spec_l6Rd_pick.j0]) ?_
    simp only [if_true]
    exact Ev.now _
  · by_cases hz : l.length = 0
    · refine ⟨0, ?_, by omega, by omega, by omega⟩
      unfold spec_l6Rd_pick.f
      simp only [if_neg hn, e1, show ((l.length : Int) == 0) = true by simp [hz]]
      refine Ev.step (fun k => by rw [spec_l6Rd_pick.j0]) ?_
      simp only [if_true]
      exact Ev.now _
    · have hzb : ((l.length : Int) == 0) = false := beq_eq_false_iff_ne.mpr (by omega)
      by_cases hp : p < (l.length : Int)
      · have hr := rd_byte hl p
        have ew : wrap64 (rd l p) = rd l p := wrap_id _ (by omega) (by omega)
        refine ⟨Int.tmod (rd l p) n, ?_, Int.tmod_nonneg _ hr.1, fun _ => Int.tmod_lt_of_pos _ (by omega), by omega⟩
        unfold spec_l6Rd_pick.f
        simp only [if_neg hn, e1, hzb]
        refine Ev.step (fun k => by rw [spec_l6Rd_pick.j0]) ?_
        simp only [Bool.false_eq_true, if_false, e2, if_pos hp, if_pos h0, if_neg (show ¬ n = 0 by omega), ew]
        exact Ev.now _
      · have hl0 : 0 < (l.length : Int) := by omega
        have t1 := Int.tmod_nonneg (l.length : Int) h0
        have t2 := Int.tmod_lt_of_pos p hl0
        have e3 : wrap64 (p * 7) = p * 7 := wrap_id _ (by omega) (by omega)
        have e4 : wrap64 (p * 7 + 3) = p * 7 + 3 := wrap_id _ (by omega) (by omega)
        have t3 := Int.tmod_nonneg (l.length : Int) (show 0 ≤ p * 7 + 3 by omega)
        have t4 := Int.tmod_lt_of_pos (p * 7 + 3) hl0
        have q1 : 0 ≤ Int.tdiv p (l.length : Int) := Int.tdiv_nonneg h0 (by omega)
        have q2 : Int.tdiv p (l.length : Int) ≤ p := by
          rw [Int.tdiv_eq_ediv_of_nonneg h0]
          exact Int.ediv_le_self _ h0
        have ha := rd_byte hl (Int.tmod p (l.length : Int))
        have hb := rd_byte hl (Int.tmod (p * 7 + 3) (l.length : Int))
        have key : ∃ v, Ev (fun k => spec_l6Rd_pick.j0 k n false l (p + 1)) (v, p + 1) ∧ 0 ≤ v ∧ (1 ≤ n → v < n) := by
          refine ⟨?_, ?_, ?_, ?_⟩
          rotate_left
          · refine Ev.step (fun k => by rw [spec_l6Rd_pick.j0]) ?_
            simp only [Bool.false_eq_true, if_false, e2, if_neg hp, if_neg (show ¬ (l.length : Int) = 0 by omega), if_pos t1, if_pos t2, e3, e4, if_pos t3, if_pos t4, if_neg (show ¬ n = 0 by omega)]
            exact Ev.now _
          · refine Int.tmod_nonneg _ ?_
            generalize rd l (Int.tmod p (l.length : Int)) = a at *
            generalize rd l (Int.tmod (p * 7 + 3) (l.length : Int)) = b at *
            generalize Int.tdiv p (l.length : Int) = q at *
            have hX : 0 ≤ wrap64 (wrap64 (wrap64 (wrap64 (wrap64 a * 131) + wrap64 (wrap64 b * 1117)) + wrap64 (p * 29)) + wrap64 (wrap64 q * 53)) ∧ wrap64 (wrap64 (wrap64 (wrap64 (wrap64 a * 131) + wrap64 (wrap64 b * 1117)) + wrap64 (p * 29)) + wrap64 (wrap64 q * 53)) < 4611686018427387904 := by
              simp only [wrap_id a (by omega) (by omega), wrap_id b (by omega) (by omega), wrap_id q (by omega) (by omega), wrap_id (a * 131) (by omega) (by omega), wrap_id (b * 1117) (by omega) (by omega), wrap_id (q * 53) (by omega) (by omega), wrap_id (p * 29) (by omega) (by omega), wrap_id (a * 131 + b * 1117) (by omega) (by omega), wrap_id (a * 131 + b * 1117 + p * 29) (by omega) (by omega), wrap_id (a * 131 + b * 1117 + p * 29 + q * 53) (by omega) (by omega)]
              omega
            generalize wrap64 (wrap64 (wrap64 (wrap64 (wrap64 a * 131) + wrap64 (wrap64 b * 1117)) + wrap64 (p * 29)) + wrap64 (wrap64 q * 53)) = X at *
            have hY : 0 ≤ Int.tdiv X 64 := Int.tdiv_nonneg hX.1 (by omega)
            have hY2 : Int.tdiv X 64 ≤ X := by
              rw [Int.tdiv_eq_ediv_of_nonneg hX.1]
              exact Int.ediv_le_self _ hX.1
            rw [wrap_id (Int.tdiv X 64) (by omega) (by omega)]
            exact xor_nonneg _ _ hX.1 hX.2 hY (by omega)
          · intro _
            exact Int.tmod_lt_of_pos _ (by omega)
        obtain ⟨v, hv, hv1, hv2⟩ := key
        refine ⟨v, ?_, hv1, hv2, by omega⟩
        unfold spec_l6Rd_pick.f
        simp only [if_neg hn, e1, hzb]
        exact hv
theorem key_ev {l : List Int} (hl : byteL l) (hlen : l.length ≤ 1048576) (p below : Int) (h0 : 0 ≤ p) (h1 : p + 1 ≤ 1099511627776) (hb : below ≤ 10) :
    ∃ v p', Ev (fun k => spec_l91Key.f k l p below) (v, p') ∧ 0 ≤ v ∧ v ≤ 9 ∧ p ≤ p' ∧ p' ≤ p + 2 := by
  obtain ⟨v, hv, v0, v1, v2⟩ := pick_ev hl hlen p 25 h0 (by omega)
  by_cases hz : v = 0
  · refine ⟨9, p + 1, ?_, by omega, by omega, by omega, by omega⟩
    unfold spec_l91Key.f
    refine Ev.bind hv ?_
    simp only [if_pos hz]
    exact Ev.now _
  · obtain ⟨u, hu, u0, u1, u2⟩ := pick_ev hl hlen (p + 1) below (by omega) (by omega)
    refine ⟨u, p + 1 + 1, ?_, by omega, ?_, by omega, by omega⟩
    · unfold spec_l91Key.f
      refine Ev.bind hv ?_
      simp only [if_neg hz]
      exact Ev.bind hu (Ev.now _)
    · by_cases hc : 1 ≤ below
      · have := u1 hc; omega
      · have := u2 (by omega); omega
def room : Nat → Int
  | 0 => 4
  | d + 1 => 4 * room d
theorem room_pos : ∀ d, 4 ≤ room d
  | 0 => by simp [room]
  | d + 1 => by have := room_pos d; simp only [room]; omega
theorem room3 : room 3 = 256 := by decide
theorem room2 : room 2 = 64 := by decide
theorem room_le {d : Nat} (h : d ≤ 3) : room d ≤ 256 := by
  match d, h with
  | 0, _ => decide
  | 1, _ => decide
  | 2, _ => decide
  | 3, _ => decide
theorem tk_eta (t : Tk) : (⟨t.f0, t.f1, t.f2⟩ : Tk) = t := by cases t; rfl
theorem nodT_one (a b : Int) : nodT ⟨a, b, []⟩ = 1 := by simp [nodT, nodL]
theorem task_ev {l : List Int} (hl : byteL l) (hlen : l.length ≤ 1048576) (below : Int) (hb : below ≤ 10) : ∀ (d : Nat) (p : Int), d ≤ 3 → 0 ≤ p → p + 4 * room d + 10 ≤ 1099511627776 →
    ∃ (t : Tk) (p' : Int), Ev (fun k => spec_l91Task.f k l p below (d : Int)) (t.f0, t.f1, t.f2, p') ∧ p ≤ p' ∧ p' ≤ p + room d ∧ (nodT t : Int) ≤ room d := by
  intro d
  induction d with
  | zero =>
    intro p hd h0 h1
    have hr0 : room 0 = 4 := rfl
    obtain ⟨v, hv, v0, v1, v2⟩ := pick_ev hl hlen p 9 h0 (by omega)
    have num : ∃ (t : Tk) (p' : Int), Ev (fun k => spec_l91Task.j1 k below true l (p + 1)) (t.f0, t.f1, t.f2, p') ∧ p ≤ p' ∧ p' ≤ p + room 0 ∧ (nodT t : Int) ≤ room 0 := by
      obtain ⟨u, hu, u0, u1, u2⟩ := pick_ev hl hlen (p + 1) 97 (by omega) (by omega)
      refine ⟨⟨0, u, []⟩, p + 1 + 1, ?_, by omega, by simp only [room]; omega, by rw [nodT_one]; simp [room]⟩
      refine Ev.step (fun k => by rw [spec_l91Task.j1]) ?_
      simp only [if_true]
      exact Ev.bind hu (Ev.now _)
    have key : ∃ (t : Tk) (p' : Int), Ev (fun k => spec_l91Task.j1 k below false l (p + 1)) (t.f0, t.f1, t.f2, p') ∧ p ≤ p' ∧ p' ≤ p + room 0 ∧ (nodT t : Int) ≤ room 0 := by
      obtain ⟨u, p', hu, u0, u1, u2, u3⟩ := key_ev hl hlen (p + 1) below (by omega) (by omega) hb
      refine ⟨⟨1, u, []⟩, p', ?_, by omega, by simp only [room]; omega, by rw [nodT_one]; simp [room]⟩
      refine Ev.step (fun k => by rw [spec_l91Task.j1]) ?_
      simp only [Bool.false_eq_true, if_false]
      exact Ev.bind hu (Ev.now _)
    have both : ∃ (t : Tk) (p' : Int), Ev (fun k => spec_l91Task.j0 k below ((0 : Nat) : Int) v true l (p + 1)) (t.f0, t.f1, t.f2, p') ∧ p ≤ p' ∧ p' ≤ p + room 0 ∧ (nodT t : Int) ≤ room 0 := by
      by_cases h2 : Int.tmod v 2 = 0
      · obtain ⟨t, p', ht, hr⟩ := num
        refine ⟨t, p', ?_, hr⟩
        refine Ev.step (fun k => by rw [spec_l91Task.j0]) ?_
        simp only [if_true, if_pos h2]
        exact ht
      · cases hz : (below == 0) with
        | true =>
          obtain ⟨t, p', ht, hr⟩ := num
          refine ⟨t, p', ?_, hr⟩
          refine Ev.step (fun k => by rw [spec_l91Task.j0]) ?_
          simp only [if_true, if_neg h2, hz]
          exact ht
        | false =>
          obtain ⟨t, p', ht, hr⟩ := key
          refine ⟨t, p', ?_, hr⟩
          refine Ev.step (fun k => by rw [spec_l91Task.j0]) ?_
          simp only [if_true, if_neg h2, hz]
          exact ht
    obtain ⟨t, p', ht, hr⟩ := both
    refine ⟨t, p', ?_, hr⟩
    refine Ev.step (fun k => by rw [spec_l91Task.f]) ?_
    refine Ev.bind hv ?_
    simp only [if_pos (show ((0 : Nat) : Int) = 0 from rfl)]
    exact ht
  | succ d ih =>
    intro p hd h0 h1
    have hr0 := room_pos d
    have hr1 := room_le (show d ≤ 3 by omega)
    have hr2 : room (d + 1) = 4 * room d := rfl
    have ew : wrap64 (((d + 1 : Nat) : Int) - 1) = (d : Int) := by rw [wrap_id (((d + 1 : Nat) : Int) - 1) (by omega) (by omega)]; omega
    obtain ⟨v, hv, v0, v1, v2⟩ := pick_ev hl hlen p 9 h0 (by omega)
    have leaf : ∀ b, ∃ (t : Tk) (p' : Int), Ev (fun k => spec_l91Task.j1 k below b l (p + 1)) (t.f0, t.f1, t.f2, p') ∧ p ≤ p' ∧ p' ≤ p + room (d + 1) ∧ (nodT t : Int) ≤ room (d + 1) := by
      intro b
      cases b with
      | true =>
        obtain ⟨u, hu, u0, u1, u2⟩ := pick_ev hl hlen (p + 1) 97 (by omega) (by omega)
        refine ⟨⟨0, u, []⟩, p + 1 + 1, ?_, by omega, by omega, by rw [nodT_one]; omega⟩
        refine Ev.step (fun k => by rw [spec_l91Task.j1]) ?_
        simp only [if_true]
        exact Ev.bind hu (Ev.now _)
      | false =>
        obtain ⟨u, p', hu, u0, u1, u2, u3⟩ := key_ev hl hlen (p + 1) below (by omega) (by omega) hb
        refine ⟨⟨1, u, []⟩, p', ?_, by omega, by omega, by rw [nodT_one]; omega⟩
        refine Ev.step (fun k => by rw [spec_l91Task.j1]) ?_
        simp only [Bool.false_eq_true, if_false]
        exact Ev.bind hu (Ev.now _)
    have main : ∃ (t : Tk) (p' : Int), Ev (fun k => spec_l91Task.j0 k below ((d + 1 : Nat) : Int) v (decide (v < 3)) l (p + 1)) (t.f0, t.f1, t.f2, p') ∧ p ≤ p' ∧ p' ≤ p + room (d + 1) ∧ (nodT t : Int) ≤ room (d + 1) := by
      by_cases h3 : v < 3
      · by_cases h2 : Int.tmod v 2 = 0
        · obtain ⟨t, p', ht, hr⟩ := leaf true
          refine ⟨t, p', ?_, hr⟩
          refine Ev.step (fun k => by rw [spec_l91Task.j0]) ?_
          simp only [decide_eq_true h3, if_true, if_pos h2]
          exact ht
        · obtain ⟨t, p', ht, hr⟩ := leaf (below == 0)
          refine ⟨t, p', ?_, hr⟩
          refine Ev.step (fun k => by rw [spec_l91Task.j0]) ?_
          simp only [decide_eq_true h3, if_true, if_neg h2]
          exact ht
      · have h3b : decide (v < 3) = false := decide_eq_false h3
        obtain ⟨t1, p1, e1, a1, b1, n1⟩ := ih (p + 1) (by omega) (by omega) (by omega)
        obtain ⟨t2, p2, e2, a2, b2, n2⟩ := ih p1 (by omega) (by omega) (by omega)
        by_cases h5 : v < 5
        · refine ⟨⟨2, 0, [t1, t2]⟩, p2, ?_, by omega, by omega, ?_⟩
          · refine Ev.step (fun k => by rw [spec_l91Task.j0]) ?_
            simp only [h3b, Bool.false_eq_true, if_false, if_pos h5, ew]
            exact Ev.bind e1 (Ev.bind e2 (Ev.eq (Ev.now _) (by simp only [tk_eta])))
          · simp only [nodT, nodL]; omega
        · by_cases h6 : v = 5
          · refine ⟨⟨3, 0, [t1, t2]⟩, p2, ?_, by omega, by omega, ?_⟩
            · refine Ev.step (fun k => by rw [spec_l91Task.j0]) ?_
              simp only [h3b, Bool.false_eq_true, if_false, if_neg h5, if_pos h6, ew]
              exact Ev.bind e1 (Ev.bind e2 (Ev.eq (Ev.now _) (by simp only [tk_eta])))
            · simp only [nodT, nodL]; omega
          · have three : ∀ q : Int, p + 1 ≤ q → q ≤ p + 2 → ∃ (t : Tk) (p' : Int), Ev (fun k => spec_l91Task.j2 k below ((d + 1 : Nat) : Int) true l q) (t.f0, t.f1, t.f2, p') ∧ p ≤ p' ∧ p' ≤ p + room (d + 1) ∧ (nodT t : Int) ≤ room (d + 1) := by
              intro q hq1 hq2
              obtain ⟨t1, p1, e1, a1, b1, n1⟩ := ih q (by omega) (by omega) (by omega)
              obtain ⟨t2, p2, e2, a2, b2, n2⟩ := ih p1 (by omega) (by omega) (by omega)
              obtain ⟨t3, p3, e3, a3, b3, n3⟩ := ih p2 (by omega) (by omega) (by omega)
              refine ⟨⟨4, 0, [t1, t2, t3]⟩, p3, ?_, by omega, by omega, ?_⟩
              · refine Ev.step (fun k => by rw [spec_l91Task.j2]) ?_
                simp only [if_true, ew]
                exact Ev.bind e1 (Ev.bind e2 (Ev.bind e3 (Ev.eq (Ev.now _) (by simp only [tk_eta]))))
              · simp only [nodT, nodL]; omega
            by_cases h8 : v < 8
            · obtain ⟨t, p', ht, hr⟩ := three (p + 1) (by omega) (by omega)
              refine ⟨t, p', ?_, hr⟩
              refine Ev.step (fun k => by rw [spec_l91Task.j0]) ?_
              simp only [h3b, Bool.false_eq_true, if_false, if_neg h5, if_neg h6, if_pos h8]
              exact ht
            · obtain ⟨u, hu, u0, u1, u2⟩ := pick_ev hl hlen (p + 1) 3 (by omega) (by omega)
              by_cases hu0 : u > 0
              · obtain ⟨t, p', ht, hr⟩ := three (p + 1 + 1) (by omega) (by omega)
                refine ⟨t, p', ?_, hr⟩
                refine Ev.step (fun k => by rw [spec_l91Task.j0]) ?_
                simp only [h3b, Bool.false_eq_true, if_false, if_neg h5, if_neg h6, if_neg h8]
                refine Ev.bind hu ?_
                simp only [decide_eq_true hu0]
                exact ht
              · obtain ⟨x, hx, x0, x1, x2⟩ := pick_ev hl hlen (p + 1 + 1) 10 (by omega) (by omega)
                obtain ⟨t1, p1, e1, a1, b1, n1⟩ := ih (p + 1 + 1 + 1) (by omega) (by omega) (by omega)
                refine ⟨⟨5, x, [t1]⟩, p1, ?_, by omega, by omega, ?_⟩
                · refine Ev.step (fun k => by rw [spec_l91Task.j0]) ?_
                  simp only [h3b, Bool.false_eq_true, if_false, if_neg h5, if_neg h6, if_neg h8]
                  refine Ev.bind hu ?_
                  simp only [decide_eq_false hu0]
                  refine Ev.step (fun k => by rw [spec_l91Task.j2]) ?_
                  simp only [Bool.false_eq_true, if_false, ew]
                  exact Ev.bind hx (Ev.bind e1 (Ev.eq (Ev.now _) (by simp only [tk_eta])))
                · simp only [nodT, nodL]; omega
    obtain ⟨t, p', ht, hr⟩ := main
    refine ⟨t, p', ?_, hr⟩
    refine Ev.step (fun k => by rw [spec_l91Task.f]) ?_
    refine Ev.bind hv ?_
    simp only [if_neg (show ¬ ((d + 1 : Nat) : Int) = 0 by omega)]
    exact ht
theorem fit_ev {l : List Int} (hl : byteL l) (hlen : l.length ≤ 1048576) (below : Int) (hb : below ≤ 10) (p : Int) (h0 : 0 ≤ p) (h1 : p + 2000 ≤ 1099511627776) :
    ∃ (t : Tk) (p' : Int), Ev (fun k => spec_l91Fit.f k l p below) (t.f0, t.f1, t.f2, p') ∧ p ≤ p' ∧ p' ≤ p + 100 ∧ okT t = true := by
  obtain ⟨t, p', ht, a, b, n⟩ := task_ev hl hlen below hb 2 p (by omega) h0 (by rw [room2]; omega)
  rw [room2] at b n
  cases hok : okT t with
  | true =>
    refine ⟨t, p', ?_, a, by omega, hok⟩
    unfold spec_l91Fit.f
    refine Ev.bind ht ?_
    refine Ev.bind (specOk_ev t (by omega)) ?_
    rw [hok]
    simp only [if_true]
    exact Ev.now _
  | false =>
    obtain ⟨u, hu, u0, u1, u2⟩ := pick_ev hl hlen p' 10 (by omega) (by omega)
    have u3 := u1 (by omega)
    refine ⟨⟨1, u, []⟩, p' + 1, ?_, by omega, by omega, ?_⟩
    · unfold spec_l91Fit.f
      refine Ev.bind ht ?_
      refine Ev.bind (specOk_ev t (by omega)) ?_
      rw [hok]
      simp only [Bool.false_eq_true, if_false]
      exact Ev.bind hu (Ev.now _)
    · simp only [okT, fitT, fitL, nodT, nodL, shapeB, List.length_nil]
      simp
      omega
theorem num_ev {l : List Int} (hl : byteL l) (hlen : l.length ≤ 1048576) (p : Int) (h0 : 0 ≤ p) (h1 : p ≤ 1099511627776) (ns : List Int) (hn : 0 < ns.length) :
    ∃ x ∈ ns, Ev (fun k => spec_l91Num.f k l p ns) (x, p + 1) := by
  obtain ⟨u, hu, u0, u1, u2⟩ := pick_ev hl hlen p (ns.length : Int) h0 h1
  have u3 := u1 (by omega)
  obtain ⟨i, rfl⟩ := Int.eq_ofNat_of_zero_le u0
  have hi : i < ns.length := by omega
  refine ⟨ns[i], List.getElem_mem hi, ?_⟩
  unfold spec_l91Num.f
  refine Ev.bind hu ?_
  simp only [if_pos u0, if_pos u3]
  have e : rd ns (i : Int) = ns[i] := by
    simp only [rd, Int.toNat_natCast, List.getD_eq_getElem?_getD, List.getElem?_eq_getElem hi, Option.getD_some]
  rw [e]
  exact Ev.now _
theorem open_ev {l : List Int} (hl : byteL l) : ∃ l', spec_l6Open.f l = some (l', 0) ∧ byteL l' ∧ l'.length ≤ 2000 := by
  unfold spec_l6Open.f
  by_cases h : (l.length : Int) > 2000
  · refine ⟨l.take 2000, by rw [if_pos h, if_pos (by omega)], fun x hx => hl x (List.mem_of_mem_take hx), by simp; omega⟩
  · exact ⟨l, by rw [if_neg h], hl, by omega⟩
theorem byteL_of {l : List Int} (h : ∀ x ∈ l, (Lit.int .u8 x).wf = true) : byteL l := by
  intro x hx
  have h1 := h x hx
  simp only [Lit.wf, Bool.and_eq_true, decide_eq_true_eq] at h1
  have e1 : IntKind.u8.min = 0 := by decide
  have e2 : IntKind.u8.max = 255 := by decide
  rw [e1, e2] at h1
  exact h1
end Go.Proofs.Ytooojligedlpeaa.G
end
section
namespace Go.Proofs.Ytooojligedlpeaa.G
open Go.RowKit Go.Proofs.YtooojligedlpeaaW.PrintWords
set_option linter.unusedVariables false
set_option linter.unusedSimpArgs false
theorem values_loop {l : List Int} (hl : byteL l) (hlen : l.length ≤ 1048576) : ∀ (d : Nat) (out : List Int) (p : Int), d ≤ 10 → out.length + d ≤ 10 → 0 ≤ p → p + d + 1 ≤ 1099511627776 →
    ∃ vs p', Ev (fun k => spec_l91Values.l0 k out (d : Int) l p) (vs, p') ∧ p ≤ p' ∧ p' ≤ p + d + 1 ∧ vs.length ≤ 11 := by
  intro d
  induction d with
  | zero =>
    intro out p hd ho h0 h1
    obtain ⟨v, hv, v0, v1, v2⟩ := pick_ev hl hlen p 25 h0 (by omega)
    by_cases hz : v = 0
    · refine ⟨out ++ [97], p + 1, ?_, by omega, by omega, by simp; omega⟩
      refine Ev.step (fun k => by rw [spec_l91Values.l0]) ?_
      simp only [if_neg (show ¬ (((0 : Nat) : Int) > 0) by omega)]
      refine Ev.bind hv ?_
      simp only [if_pos hz, if_pos (show out.length < 17592186044416 by omega)]
      exact Ev.now _
    · refine ⟨out, p + 1, ?_, by omega, by omega, by omega⟩
      refine Ev.step (fun k => by rw [spec_l91Values.l0]) ?_
      simp only [if_neg (show ¬ (((0 : Nat) : Int) > 0) by omega)]
      refine Ev.bind hv ?_
      simp only [if_neg hz]
      exact Ev.now _
  | succ d ih =>
    intro out p hd ho h0 h1
    obtain ⟨v, hv, v0, v1, v2⟩ := pick_ev hl hlen p 5 h0 (by omega)
    obtain ⟨vs, p', hvs, a, b, c⟩ := ih (out ++ [v]) (p + 1) (by omega) (by simp; omega) (by omega) (by omega)
    refine ⟨vs, p', ?_, by omega, by omega, c⟩
    refine Ev.step (fun k => by rw [spec_l91Values.l0]) ?_
    simp only [if_pos (show (((d + 1 : Nat) : Int) > 0) by omega)]
    refine Ev.bind hv ?_
    have ew : wrap64 (((d + 1 : Nat) : Int) - 1) = (d : Int) := by rw [wrap_id (((d + 1 : Nat) : Int) - 1) (by omega) (by omega)]; omega
    simp only [if_pos (show out.length < 17592186044416 by omega), ew]
    exact hvs
theorem values_ev {l : List Int} (hl : byteL l) (hlen : l.length ≤ 1048576) (p : Int) (h0 : 0 ≤ p) (h1 : p + 20 ≤ 1099511627776) :
    ∃ vs p', Ev (fun k => spec_l91Values.f k l p) (vs, p') ∧ p ≤ p' ∧ p' ≤ p + 20 ∧ vs.length ≤ 11 := by
  obtain ⟨v, hv, v0, v1, v2⟩ := pick_ev hl hlen p 11 h0 (by omega)
  have v3 := v1 (by omega)
  obtain ⟨d, rfl⟩ := Int.eq_ofNat_of_zero_le v0
  obtain ⟨vs, p', hvs, a, b, c⟩ := values_loop hl hlen d [] (p + 1) (by omega) (by simp; omega) (by omega) (by omega)
  refine ⟨vs, p', ?_, by omega, by omega, c⟩
  unfold spec_l91Values.f
  exact Ev.bind hv hvs
end Go.Proofs.Ytooojligedlpeaa.G
end
section
namespace Go.Proofs.Ytooojligedlpeaa.G
open Go.RowKit Go.Proofs.YtooojligedlpeaaW.PrintWords
set_option linter.unusedVariables false
set_option linter.unusedSimpArgs false
theorem any_task_ev {l : List Int} (hl : byteL l) (hlen : l.length ≤ 1048576) (p : Int) (h0 : 0 ≤ p) (h1 : p + 4000 ≤ 1099511627776) :
    ∃ (t : Tk) (p' : Int), Ev (fun k => spec_l91Any.f k l p) (t.f0, t.f1, t.f2, p') ∧ p ≤ p' ∧ p' ≤ p + 1000 ∧ (nodT t : Int) ≤ 1000 := by
  obtain ⟨t, p1, ht, a, b, hok⟩ := fit_ev hl hlen 10 (by omega) p h0 (by omega)
  have hn := okT_nod hok
  obtain ⟨v, hv, v0, v1, v2⟩ := pick_ev hl hlen p1 10 (by omega) (by omega)
  by_cases hz : v = 0
  · obtain ⟨u, hu, u0, u1, u2⟩ := pick_ev hl hlen (p1 + 1) 4 (by omega) (by omega)
    have nn : ∀ x y : Int, nodT ⟨x, y, t.f2⟩ = nodT t := fun x y => by rw [nodT_eq, nodT_eq]
    by_cases h4 : u = 0
    · obtain ⟨x, _, hx⟩ := num_ev hl hlen (p1 + 1 + 1) (by omega) (by omega) [-1, 97, 10, 1] (by simp)
      refine ⟨⟨t.f0, x, t.f2⟩, p1 + 1 + 1 + 1, ?_, by omega, by omega, by rw [nn]; omega⟩
      unfold spec_l91Any.f
      refine Ev.bind ht (Ev.bind hv ?_)
      simp only [if_pos hz]
      refine Ev.bind hu ?_
      simp only [if_pos h4]
      exact Ev.bind hx (Ev.now _)
    · by_cases h5 : u = 1
      · obtain ⟨x, _, hx⟩ := num_ev hl hlen (p1 + 1 + 1) (by omega) (by omega) [6, -1, 2] (by simp)
        refine ⟨⟨x, t.f1, t.f2⟩, p1 + 1 + 1 + 1, ?_, by omega, by omega, by rw [nn]; omega⟩
        unfold spec_l91Any.f
        refine Ev.bind ht (Ev.bind hv ?_)
        simp only [if_pos hz]
        refine Ev.bind hu ?_
        simp only [if_neg h4, if_pos h5]
        exact Ev.bind hx (Ev.now _)
      · by_cases h6 : u = 2
        · obtain ⟨t1, q1, e1, a1, b1, n1⟩ := task_ev hl hlen 10 (by omega) 3 (p1 + 1 + 1) (by omega) (by omega) (by rw [room3]; omega)
          rw [room3] at b1 n1
          obtain ⟨t2, q2, e2, a2, b2, n2⟩ := task_ev hl hlen 10 (by omega) 3 q1 (by omega) (by omega) (by rw [room3]; omega)
          rw [room3] at b2 n2
          refine ⟨⟨2, 0, [t1, t2]⟩, q2, ?_, by omega, by omega, by simp only [nodT, nodL]; omega⟩
          unfold spec_l91Any.f
          refine Ev.bind ht (Ev.bind hv ?_)
          simp only [if_pos hz]
          refine Ev.bind hu ?_
          simp only [if_neg h4, if_neg h5, if_pos h6]
          exact Ev.bind e1 (Ev.bind e2 (Ev.eq (Ev.now _) (by simp only [tk_eta])))
        · have hlen2 : t.f2.length ≤ 15 := by have := nodL_len t.f2; rw [nodT_eq] at hn; omega
          refine ⟨⟨t.f0, t.f1, t.f2 ++ [⟨0, 1, []⟩]⟩, p1 + 1 + 1, ?_, by omega, by omega, ?_⟩
          · unfold spec_l91Any.f
            refine Ev.bind ht (Ev.bind hv ?_)
            simp only [if_pos hz]
            refine Ev.bind hu ?_
            simp only [if_neg h4, if_neg h5, if_neg h6, if_pos (show t.f2.length < 3518437208883 by omega)]
            exact Ev.now _
          · have e : ∀ ps : List Tk, nodL (ps ++ [⟨0, 1, []⟩]) = nodL ps + 1 := by
              intro ps
              induction ps with
              | nil => simp [nodL, nodT]
              | cons q qs ihq => simp only [List.cons_append, nodL, ihq]; omega
            rw [nodT_eq, e]
            rw [nodT_eq] at hn
            omega
  · refine ⟨t, p1 + 1, ?_, by omega, by omega, by omega⟩
    unfold spec_l91Any.f
    refine Ev.bind ht (Ev.bind hv ?_)
    simp only [if_neg hz]
    exact Ev.now _
end Go.Proofs.Ytooojligedlpeaa.G
end
section
namespace Go.Proofs.Ytooojligedlpeaa.G
open Go.RowKit Go.Proofs.YtooojligedlpeaaW.PrintWords
set_option linter.unusedVariables false
set_option linter.unusedSimpArgs false
theorem more_loopM {l : List Int} (hl : byteL l) (hlen : l.length ≤ 1048576) : ∀ (d : Nat) (out : List Int) (p : Int), d ≤ 10 → 0 ≤ p → p + 2 * d ≤ 1099511627776 →
    ∃ (vs : List Int) (p' : Int), Ev (fun k => spec_l91More.l0 k out (d : Int) l p) (vs, p') ∧ p ≤ p' ∧ p' ≤ p + 2 * d := by
  intro d
  induction d with
  | zero =>
    intro out p hd h0 h1
    refine ⟨out, p, ?_, by omega, by omega⟩
    refine Ev.step (fun k => by rw [spec_l91More.l0]) ?_
    simp only [if_neg (show ¬ (((0 : Nat) : Int) > 0) by omega)]
    refine Ev.step (fun k => by rw [spec_l91More.j1]) ?_
    simp only [Bool.false_eq_true, if_false]
    exact Ev.now _
  | succ d ih =>
    intro out p hd h0 h1
    have ew : wrap64 (((d + 1 : Nat) : Int) - 1) = (d : Int) := by rw [wrap_id (((d + 1 : Nat) : Int) - 1) (by omega) (by omega)]; omega
    by_cases hz : (out.length : Int) > 0
    · obtain ⟨x, hx, x0, x1, x2⟩ := pick_ev hl hlen p (out.length : Int) h0 (by omega)
      obtain ⟨y, hy, y0, y1, y2⟩ := pick_ev hl hlen (p + 1) 4 (by omega) (by omega)
      have x3 := x1 (by omega)
      obtain ⟨vs, p', hvs, a, b⟩ := ih (out.set x.toNat y) (p + 1 + 1) (by omega) (by omega) (by omega)
      refine ⟨vs, p', ?_, by omega, by omega⟩
      refine Ev.step (fun k => by rw [spec_l91More.l0]) ?_
      simp only [if_pos (show (((d + 1 : Nat) : Int) > 0) by omega), decide_eq_true hz]
      refine Ev.step (fun k => by rw [spec_l91More.j1]) ?_
      simp only [if_true]
      refine Ev.bind hx (Ev.bind hy ?_)
      simp only [if_pos x0, if_pos x3, ew]
      exact hvs
    · refine ⟨out, p, ?_, by omega, by omega⟩
      refine Ev.step (fun k => by rw [spec_l91More.l0]) ?_
      simp only [if_pos (show (((d + 1 : Nat) : Int) > 0) by omega), decide_eq_false hz]
      refine Ev.step (fun k => by rw [spec_l91More.j1]) ?_
      simp only [Bool.false_eq_true, if_false]
      exact Ev.now _
theorem more_evM {l : List Int} (hl : byteL l) (hlen : l.length ≤ 1048576) (p : Int) (h0 : 0 ≤ p) (h1 : p + 30 ≤ 1099511627776) (inp : List Int) (hi : inp.length ≤ 1000) :
    ∃ (vs : List Int) (p' : Int), Ev (fun k => spec_l91More.f k l p inp) (vs, p') ∧ p ≤ p' ∧ p' ≤ p + 30 := by
  obtain ⟨v, hv, v0, v1, v2⟩ := pick_ev hl hlen p 3 h0 (by omega)
  have v3 := v1 (by omega)
  obtain ⟨d, rfl⟩ := Int.eq_ofNat_of_zero_le v0
  obtain ⟨vs, p', hvs, a, b⟩ := more_loopM hl hlen d ([] ++ inp) (p + 1) (by omega) (by omega) (by omega)
  refine ⟨vs, p', ?_, by omega, by omega⟩
  unfold spec_l91More.f
  simp only [Option.bind_some, if_pos (show ([] : List Int).length + inp.length < 17592186044416 by simp; omega)]
  exact Ev.bind hv hvs
end Go.Proofs.Ytooojligedlpeaa.G
end
section
namespace Go.Proofs.Ytooojligedlpeaa.G
open Go.RowKit Go.Proofs.YtooojligedlpeaaW.PrintWords
set_option linter.unusedVariables false
set_option linter.unusedSimpArgs false
def Rep (D : List Int → Int → Int → TR) (x : Int) (fs : List Fk) : Prop :=
  (∀ (pre post : List Int) (lk : Int), D (pre ++ (fs.map (·.f1) ++ post)) (pre.length : Int) lk = (x, true, ((pre.length + fs.length : Nat) : Int), lk)) ∧
  (∀ (pre : List Int) (m : Nat) (f : Fk) (lk : Int), fs[m]? = some f → D (pre ++ (fs.map (·.f1)).take m) (pre.length : Int) lk = (0, false, ((pre.length + m : Nat) : Int), f.f0))
theorem rep_get (n x : Int) : Rep (fun got a lk => getT got a lk n) x [⟨n, x⟩] := by
  refine ⟨fun pre post lk => ?_, fun pre m f lk hf => ?_⟩
  · have e : rd (pre ++ ([(⟨n, x⟩ : Fk)].map (·.f1) ++ post)) (pre.length : Int) = x := by
      simp [rd, List.getD_eq_getElem?_getD]
    show getT (pre ++ ([(⟨n, x⟩ : Fk)].map (·.f1) ++ post)) (pre.length : Int) lk n = _
    unfold getT
    rw [if_neg (by simp only [List.length_append, List.map_cons, List.map_nil, List.length_cons, List.length_nil]; omega), e]
    rfl
  · match m, hf with
    | 0, hf =>
      simp only [List.getElem?_cons_zero, Option.some.injEq] at hf
      subst hf
      unfold getT
      simp
    | m + 1, hf => simp at hf
theorem rep_pure (x : Int) : Rep (fun _ a lk => (x, true, a, lk)) x [] := ⟨fun pre post lk => rfl, fun pre m f lk hf => by simp at hf⟩
theorem rep_seq {D : List Int → Int → Int → TR} {E : List Int → Int → Int → Int → TR} {v u : Int} {fs gs : List Fk} (h : Rep D v fs) (g : Rep (fun got a lk => E got v a lk) u gs) : Rep (fun got a lk => seqT (D got a lk) (E got)) u (fs ++ gs) := by
  refine ⟨fun pre post lk => ?_, fun pre m f lk hf => ?_⟩
  · have e1 := h.1 pre (gs.map (·.f1) ++ post) lk
    have e2 := g.1 (pre ++ fs.map (·.f1)) post lk
    simp only at e2
    rw [List.map_append, List.append_assoc]
    simp only [e1, seqT, if_true]
    rw [show pre ++ (fs.map (·.f1) ++ (gs.map (·.f1) ++ post)) = (pre ++ fs.map (·.f1)) ++ (gs.map (·.f1) ++ post) by simp]
    rw [show ((pre.length + fs.length : Nat) : Int) = ((pre ++ fs.map (·.f1)).length : Int) by simp, e2]
    simp only [List.length_append, List.length_map]
    rw [Nat.add_assoc]
  · rw [List.map_append]
    by_cases hm : m < fs.length
    · rw [List.getElem?_append_left hm] at hf
      rw [List.take_append_of_le_length (by rw [List.length_map]; omega)]
      simp only [h.2 pre m f lk hf, seqT, Bool.false_eq_true, if_false]
    · rw [List.getElem?_append_right (by omega)] at hf
      have e0 : (fs.map (·.f1) ++ gs.map (·.f1)).take m = fs.map (·.f1) ++ (gs.map (·.f1)).take (m - fs.length) := by
        rw [List.take_append, List.length_map, List.take_of_length_le (by rw [List.length_map]; omega)]
      rw [e0]
      have e1 := h.1 pre ((gs.map (·.f1)).take (m - fs.length)) lk
      have e2 := g.2 (pre ++ fs.map (·.f1)) (m - fs.length) f lk hf
      simp only at e2
      simp only [e1, seqT, if_true]
      rw [← List.append_assoc]
      rw [show ((pre.length + fs.length : Nat) : Int) = ((pre ++ fs.map (·.f1)).length : Int) by simp, e2]
      simp only [List.length_append, List.length_map]
      rw [show pre.length + fs.length + (m - fs.length) = pre.length + m by omega]
theorem rep_congr {D D' : List Int → Int → Int → TR} {x : Int} {fs : List Fk} (h : Rep D x fs) (e : D' = D) : Rep D' x fs := e ▸ h
theorem rep_doT (vs : List Int) {t : Tk} (h : Fits t) : Rep (fun got a lk => doT got t a lk) (runT vs t).1 (runT vs t).2 := by
  induction h with
  | num n h0 h1 => rw [runT_num]; exact rep_congr (rep_pure n) (by funext got a lk; exact doT_num got n a lk)
  | get n h0 h1 => rw [runT_get]; exact rep_congr (rep_get n _) (by funext got a lk; exact doT_get got n a lk)
  | add x y _ _ ihx ihy =>
    rw [runT_add]
    have h := rep_seq (E := fun got v a lk => seqT (doT got y a lk) fun u a lk => ((v + u) % 97, true, a, lk)) ihx (rep_seq (E := fun got u a lk => (((runT vs x).1 + u) % 97, true, a, lk)) ihy (rep_pure _))
    rw [List.append_nil] at h
    exact rep_congr h (by funext got a lk; exact doT_add got x y a lk)
  | mul x y _ _ ihx ihy =>
    rw [runT_mul]
    have h := rep_seq (E := fun got v a lk => seqT (doT got y a lk) fun u a lk => ((v * u) % 97, true, a, lk)) ihx (rep_seq (E := fun got u a lk => (((runT vs x).1 * u) % 97, true, a, lk)) ihy (rep_pure _))
    rw [List.append_nil] at h
    exact rep_congr h (by funext got a lk; exact doT_mul got x y a lk)
  | iff x y z _ _ _ ihx ihy ihz =>
    by_cases hv : (runT vs x).1 = 0
    · rw [runT_if0 vs x y z hv]
      have h := rep_seq (E := fun got v a lk => if v = 0 then doT got z a lk else doT got y a lk) ihx (rep_congr ihz (by funext got a lk; rw [if_pos hv]))
      exact rep_congr h (by funext got a lk; exact doT_if got x y z a lk)
    · rw [runT_if1 vs x y z hv]
      have h := rep_seq (E := fun got v a lk => if v = 0 then doT got z a lk else doT got y a lk) ihx (rep_congr ihy (by funext got a lk; rw [if_neg hv]))
      exact rep_congr h (by funext got a lk; exact doT_if got x y z a lk)
  | «at» n h0 h1 x _ ihx =>
    rw [runT_at]
    have h := rep_seq (E := fun got v a lk => getT got a lk ((n + v) % 10)) ihx (rep_get ((n + (runT vs x).1) % 10) (atV vs ((n + (runT vs x).1) % 10)))
    exact rep_congr h (by funext got a lk; exact doT_at got n x a lk)
theorem runT_keys {vs : List Int} (hv : vs.all isVal = true) {t : Tk} (h : Fits t) : ∀ f ∈ (runT vs t).2, 0 ≤ f.f0 ∧ f.f0 ≤ 9 ∧ f.f1 = atV vs f.f0 := by
  induction h with
  | num n h0 h1 => rw [runT_num]; intro f hf; cases hf
  | get n h0 h1 =>
    rw [runT_get]
    intro f hf
    simp only [List.mem_singleton] at hf
    subst hf
    exact ⟨h0, h1, rfl⟩
  | add x y _ _ ihx ihy =>
    rw [runT_add]
    intro f hf
    rcases List.mem_append.1 hf with hf | hf
    · exact ihx f hf
    · exact ihy f hf
  | mul x y _ _ ihx ihy =>
    rw [runT_mul]
    intro f hf
    rcases List.mem_append.1 hf with hf | hf
    · exact ihx f hf
    · exact ihy f hf
  | iff x y z _ _ _ ihx ihy ihz =>
    by_cases hz : (runT vs x).1 = 0
    · rw [runT_if0 vs x y z hz]
      intro f hf
      rcases List.mem_append.1 hf with hf | hf
      · exact ihx f hf
      · exact ihz f hf
    · rw [runT_if1 vs x y z hz]
      intro f hf
      rcases List.mem_append.1 hf with hf | hf
      · exact ihx f hf
      · exact ihy f hf
  | «at» n h0 h1 x hx ihx =>
    rw [runT_at]
    have hval := runT_val hv hx
    intro f hf
    rcases List.mem_append.1 hf with hf | hf
    · exact ihx f hf
    · simp only [List.mem_singleton] at hf
      subst hf
      refine ⟨?_, ?_, rfl⟩ <;> simp only <;> omega
end Go.Proofs.Ytooojligedlpeaa.G
end
section
namespace Go.Proofs.Ytooojligedlpeaa.G
open Go.RowKit Go.Proofs.YtooojligedlpeaaW.PrintWords
set_option linter.unusedVariables false
set_option linter.unusedSimpArgs false
theorem allLoop {α : Type} (l : List α) (F : Nat → Int → Option Bool) (one : Nat → α → Option Bool) (p : α → Bool)
    (hend : ∀ k, F (k + 1) (l.length : Int) = some true)
    (hstep : ∀ k (i : Nat) (h : i < l.length), F (k + 1) (i : Int) = (one k l[i]).bind fun t => if t = true then F k ((i + 1 : Nat) : Int) else some false)
    (hone : ∀ x ∈ l, Ev (fun k => one k x) (p x)) : ∀ (d i : Nat), d = l.length - i → i ≤ l.length → Ev (fun k => F k (i : Int)) ((l.drop i).all p) := by
  intro d
  induction d with
  | zero =>
    intro i hd hi
    have e : i = l.length := by omega
    subst e
    refine Ev.step (fun k => hend k) ?_
    simp only [List.drop_length, List.all_nil]
    exact Ev.now true
  | succ d ihd =>
    intro i hd hi
    have hlt : i < l.length := by omega
    rw [drop_tk l i hlt, List.all_cons]
    refine Ev.step (fun k => hstep k i hlt) ?_
    refine Ev.bind (hone _ (List.getElem_mem hlt)) ?_
    cases hp : p l[i] with
    | true => simp only [if_true, Bool.true_and]; exact ihd (i + 1) (by omega) (by omega)
    | false => simp only [Bool.false_eq_true, if_false, Bool.false_and]; exact Ev.now false
theorem eqLoop {α : Type} (l : List α) (F : Nat → Int → Option Bool) (one : Nat → α → Option Bool)
    (hend : ∀ k, F (k + 1) (l.length : Int) = some true)
    (hstep : ∀ k (i : Nat) (h : i < l.length), F (k + 1) (i : Int) = (one k l[i]).bind fun t => if t = true then F k ((i + 1 : Nat) : Int) else some false)
    (hone : ∀ x ∈ l, Ev (fun k => one k x) true) : Ev (fun k => F k 0) true := by
  have h := allLoop l F one (fun _ => true) hend hstep hone l.length 0 (by omega) (by omega)
  simp only [List.drop_zero, List.all_eq_true, implies_true] at h
  exact Ev.eq h (by simp)
end Go.Proofs.Ytooojligedlpeaa.G
end
section
namespace Go.Proofs.Ytooojligedlpeaa.G
open Go.RowKit Go.Proofs.YtooojligedlpeaaW.PrintWords
set_option linter.unusedVariables false
set_option linter.unusedSimpArgs false
def valsOkF (l : List Int) : Bool := decide (l.length ≤ 10) && l.all isVal
theorem implValsF_ev (l : List Int) : impl_valuesOk.f l = some (valsOkF l) := by
  unfold impl_valuesOk.f valsOkF impl_areValues.f
  by_cases h : l.length ≤ 10
  · rw [if_pos (by omega)]; simp [h]
  · rw [if_neg (by omega)]; simp [h]
theorem l2OfR_ev (l : List Int) (k : Int) (h : 0 ≤ k) : spec_l2Of.f l k = some (atV l k) := by
  unfold spec_l2Of.f atV
  by_cases h2 : k < (l.length : Int)
  · rw [if_pos h2, if_pos h, if_pos ⟨h, h2⟩]
  · rw [if_neg h2, if_neg (by omega)]
theorem rd_intR (l : List Int) (i : Nat) (h : i < l.length) : rd l (i : Int) = l[i] := by
  simp only [rd, Int.toNat_natCast, List.getD_eq_getElem?_getD, List.getElem?_eq_getElem h, Option.getD_some]
theorem specValsR_ev (l : List Int) : Ev (fun k => spec_l2Values.f k l) (valsOkF l) := by
  unfold spec_l2Values.f valsOkF
  by_cases h : l.length ≤ 10
  · simp only [if_neg (show ¬ ((l.length : Int) > 10) by omega)]
    have h1 := allLoop l (fun k i => spec_l2Values.l0 k l i) (fun _ x => spec_l6In.f x 0 96) isVal
      (fun k => by simp only [spec_l2Values.l0, if_neg (show ¬ ((l.length : Int) < (l.length : Int)) by omega)])
      (fun k i hi => by simp only [spec_l2Values.l0, if_pos (show (i : Int) < (l.length : Int) by omega), if_pos (show (0 : Int) ≤ (i : Int) by omega), rd_intR l i hi, wrap_nat i (by omega)])
      (fun x hx => Ev.of_eq (by
        unfold spec_l6In.f isVal
        by_cases g : x ≥ 0
        · rw [if_pos g]; simp only [ge_iff_le] at g; simp [g]
        · rw [if_neg g]; simp only [ge_iff_le] at g; simp [g]))
      l.length 0 (by omega) (by omega)
    refine Ev.eq h1 ?_
    simp [h]
  · simp only [if_pos (show (l.length : Int) > 10 by omega)]
    refine Ev.eq (Ev.now false) ?_
    simp [h]
end Go.Proofs.Ytooojligedlpeaa.G
end
section
namespace Go.Proofs.Ytooojligedlpeaa.G
open Go.RowKit Go.Proofs.YtooojligedlpeaaW.PrintWords
set_option linter.unusedVariables false
set_option linter.unusedSimpArgs false
theorem next_f (t : Tk) (hf : fitT t = true) (got : List Int) (hg : got.all isVal = true) (hl : got.length ≤ 1000000) : spec_l2Next.f t.f0 t.f1 t.f2 got = some ((doT got t 0 0).1, (doT got t 0 0).2.2.2, (doT got t 0 0).2.1) := by
  have e : (⟨t.f0, t.f1, t.f2⟩ : Tk) = t := by cases t; rfl
  unfold spec_l2Next.f
  rw [e, if_pos ⟨hf, hg, hl⟩]
theorem run_loop (vs : List Int) (hv : vs.all isVal = true) (t : Tk) (hf : fitT t = true) (hn : (runT vs t).2.length ≤ 1000) :
    ∀ (d i : Nat), d = (runT vs t).2.length - i → i ≤ (runT vs t).2.length →
      Ev (fun k => spec_l2Run.l0 k vs ((runT vs t).2.take i) (((runT vs t).2.take i).map (·.f1)) (doT (((runT vs t).2.take i).map (·.f1)) t 0 0).1 (doT (((runT vs t).2.take i).map (·.f1)) t 0 0).2.2.2 (doT (((runT vs t).2.take i).map (·.f1)) t 0 0).2.1 t.f0 t.f1 t.f2) (runT vs t) := by
  have hrep := rep_doT vs (fits_of t hf)
  have hkeys := runT_keys hv (fits_of t hf)
  have hall : ∀ i, (((runT vs t).2.take i).map (·.f1)).all isVal = true := by
    intro i
    rw [List.all_eq_true]
    intro x hx
    obtain ⟨f, hfm, rfl⟩ := List.mem_map.1 hx
    have h1 := hkeys f (List.mem_of_mem_take hfm)
    have h2 := atV_val hv f.f0
    simp only [isVal, decide_eq_true_eq]
    rw [h1.2.2]
    exact h2
  intro d
  induction d with
  | zero =>
    intro i hd hi
    have e : i = (runT vs t).2.length := by omega
    subst e
    rw [List.take_length]
    have h := hrep.1 [] [] 0
    simp only [List.nil_append, List.append_nil, List.length_nil, Int.natCast_zero, Int.ofNat_zero] at h
    have h' : doT ((runT vs t).2.map (·.f1)) t 0 0 = ((runT vs t).1, true, ((0 + (runT vs t).2.length : Nat) : Int), 0) := h
    rw [h']
    refine Ev.step (fun k => by rw [spec_l2Run.l0]) ?_
    simp only [if_true]
    exact Ev.now _
  | succ d ihd =>
    intro i hd hi
    have hlt : i < (runT vs t).2.length := by omega
    have h := hrep.2 [] i (runT vs t).2[i] 0 (List.getElem?_eq_getElem hlt)
    simp only [List.nil_append, List.length_nil, Int.natCast_zero, Int.ofNat_zero] at h
    rw [← List.map_take] at h
    have h' : doT (((runT vs t).2.take i).map (·.f1)) t 0 0 = (0, false, ((0 + i : Nat) : Int), ((runT vs t).2[i]).f0) := h
    rw [h']
    have hk := hkeys _ (List.getElem_mem hlt)
    have e1 : ((runT vs t).2.take i).map (·.f1) ++ [atV vs ((runT vs t).2[i]).f0] = ((runT vs t).2.take (i + 1)).map (·.f1) := by
      rw [List.take_succ_eq_append_getElem hlt, List.map_append, List.map_singleton, hk.2.2]
    have e2 : (runT vs t).2.take i ++ [(⟨((runT vs t).2[i]).f0, atV vs ((runT vs t).2[i]).f0⟩ : Fk)] = (runT vs t).2.take (i + 1) := by
      rw [List.take_succ_eq_append_getElem hlt]
      congr 2
      rw [← hk.2.2]
    refine Ev.step (fun k => by rw [spec_l2Run.l0]) ?_
    simp only [Bool.false_eq_true, if_false, l2OfR_ev vs _ hk.1, Option.bind_some]
    simp only [if_pos (show ((runT vs t).2.take i).length < 8796093022208 by rw [List.length_take]; omega), if_pos (show (((runT vs t).2.take i).map (·.f1)).length < 17592186044416 by rw [List.length_map, List.length_take]; omega), e1, e2]
    simp only [next_f t hf _ (hall (i + 1)) (by rw [List.length_map, List.length_take]; omega), Option.bind_some]
    exact ihd (i + 1) (by omega) (by omega)
theorem l2Run_ev (vs : List Int) (hv : vs.all isVal = true) (t : Tk) (hf : fitT t = true) (hn : nodT t ≤ 1000) : Ev (fun k => spec_l2Run.f k t.f0 t.f1 t.f2 vs) (runT vs t) := by
  unfold spec_l2Run.f
  have hl := runT_len vs (fits_of t hf)
  simp only [Option.bind_some, next_f t hf [] (by rfl) (by simp)]
  have h := run_loop vs hv t hf (by omega) (runT vs t).2.length 0 (by omega) (by omega)
  simp only [List.take_zero, List.map_nil] at h
  exact h
end Go.Proofs.Ytooojligedlpeaa.G
end
section
namespace Go.Proofs.Ytooojligedlpeaa.G
open Go.RowKit Go.Proofs.YtooojligedlpeaaW.PrintWords
set_option linter.unusedVariables false
set_option linter.unusedSimpArgs false
theorem rd_fkf (l : List Fk) (i : Nat) (h : i < l.length) : rd_T49 l (i : Int) = l[i] := by
  simp only [rd_T49, Int.toNat_natCast, List.getD_eq_getElem?_getD, List.getElem?_eq_getElem h, Option.getD_some]
def fetL (t : Tk) (vs : List Int) : List Fk := if okT t = true ∧ valsOkF vs = true then (runT vs t).2 else []
theorem fetL_len (t : Tk) (vs : List Int) : (fetL t vs).length ≤ 15 := by
  unfold fetL
  split
  · rename_i h
    have h1 := runT_len vs (fits_of t (okT_fit h.1))
    have h2 := okT_nod h.1
    omega
  · simp
theorem implFet_ev (t : Tk) (vs : List Int) : Ev (fun k => impl_TaskFetches.f k t.f0 t.f1 t.f2 vs) (fetL t vs, okT t && valsOkF vs) := by
  unfold impl_TaskFetches.f
  refine Ev.bind (implOk_ev t) ?_
  cases ht : okT t with
  | false =>
    simp only [Bool.false_eq_true, if_false, Bool.false_and]
    exact Ev.eq (Ev.now _) (by simp [fetL, ht])
  | true =>
    simp only [if_true, implValsF_ev, Option.bind_some, Bool.true_and]
    cases hv : valsOkF vs with
    | false =>
      simp only [Bool.false_eq_true, if_false]
      exact Ev.eq (Ev.now _) (by simp [fetL, hv])
    | true =>
      simp only [if_true]
      have hva : vs.all isVal = true := by simp only [valsOkF, Bool.and_eq_true] at hv; exact hv.2
      have hn := okT_nod ht
      have e : (⟨t.f0, t.f1, t.f2⟩ : Tk) = t := by cases t; rfl
      have hf : impl_Task_fetched.f t.f0 t.f1 t.f2 vs = some (runT vs t) := by
        unfold impl_Task_fetched.f
        rw [e, if_pos ⟨okT_fit ht, hva, by omega⟩]
      simp only [hf, Option.bind_some]
      exact Ev.eq (Ev.now _) (by simp [fetL, ht, hv])
theorem onceFet_len (l : List Fk) : (onceL l).length ≤ l.length := by
  have := onceL_len l l.length (Nat.le_refl _)
  rwa [List.take_length] at this
def usesL (t : Tk) (vs : List Int) : List Int := (onceL (fetL t vs)).map (·.f0)
end Go.Proofs.Ytooojligedlpeaa.G
end
section
namespace Go.Proofs.Ytooojligedlpeaa.G
open Go.RowKit Go.Proofs.YtooojligedlpeaaW.PrintWords
set_option linter.unusedVariables false
set_option linter.unusedSimpArgs false
theorem rd_intU (l : List Int) (i : Nat) (h : i < l.length) : rd l (i : Int) = l[i] := by
  simp only [rd, Int.toNat_natCast, List.getD_eq_getElem?_getD, List.getElem?_eq_getElem h, Option.getD_some]
theorem l2Has_loop (l : List Int) (n : Int) (hl : l.length ≤ 4000000000) : ∀ (d i : Nat), d = l.length - i → i ≤ l.length → Ev (fun k => spec_l2Has.l0 k l n (i : Int)) (decide (n ∈ l.drop i)) := by
  intro d
  induction d with
  | zero =>
    intro i hd hi
    have e : i = l.length := by omega
    subst e
    refine Ev.step (fun k => by rw [spec_l2Has.l0]) ?_
    simp only [if_neg (show ¬ ((l.length : Int) < (l.length : Int)) by omega), List.drop_length]
    exact Ev.eq (Ev.now _) (by simp)
  | succ d ih =>
    intro i hd hi
    have hlt : i < l.length := by omega
    have h := ih (i + 1) (by omega) (by omega)
    refine Ev.step (fun k => by rw [spec_l2Has.l0]) ?_
    simp only [if_pos (show (i : Int) < (l.length : Int) by omega), if_pos (show (0 : Int) ≤ (i : Int) by omega), rd_intU l i hlt, wrap_nat i (by omega)]
    rw [drop_tk l i hlt]
    by_cases e : l[i] = n
    · simp only [if_pos e]
      exact Ev.eq (Ev.now _) (by simp [e])
    · simp only [if_neg e]
      refine Ev.eq h ?_
      have : ¬ n = l[i] := fun h => e h.symm
      simp only [List.mem_cons, this, false_or]
theorem l2Has_ev (l : List Int) (n : Int) (hl : l.length ≤ 4000000000) : Ev (fun k => spec_l2Has.f k l n) (decide (n ∈ l)) := by
  unfold spec_l2Has.f
  have h := l2Has_loop l n hl l.length 0 (by omega) (by omega)
  simpa using h
theorem l2Uses_loop (l : List Fk) (hl : l.length ≤ 1000000) : ∀ (d i : Nat), d = l.length - i → i ≤ l.length → Ev (fun k => spec_l2Uses.l0 k l (((l.take i).foldl onceF []).map (·.f0)) (i : Int)) ((onceL l).map (·.f0)) := by
  intro d
  induction d with
  | zero =>
    intro i hd hi
    have e : i = l.length := by omega
    subst e
    refine Ev.step (fun k => by rw [spec_l2Uses.l0]) ?_
    simp only [if_neg (show ¬ ((l.length : Int) < (l.length : Int)) by omega), List.take_length]
    exact Ev.now _
  | succ d ih =>
    intro i hd hi
    have hlt : i < l.length := by omega
    have h := ih (i + 1) (by omega) (by omega)
    rw [onceL_take l i hlt] at h
    have hol := onceL_len l i (by omega)
    generalize (l.take i).foldl onceF [] = out at h hol ⊢
    refine Ev.step (fun k => by rw [spec_l2Uses.l0]) ?_
    simp only [if_pos (show (i : Int) < (l.length : Int) by omega), if_pos (show (0 : Int) ≤ (i : Int) by omega), rd_fkf l i hlt, wrap_nat i (by omega)]
    refine Ev.bind (l2Has_ev _ _ (by rw [List.length_map]; omega)) ?_
    have hiff : (out.any fun g => g.f0 == l[i].f0) = decide (l[i].f0 ∈ out.map (·.f0)) := by
      rw [Bool.eq_iff_iff, List.any_eq_true, decide_eq_true_eq, List.mem_map]
      constructor
      · rintro ⟨g, hg, he⟩; exact ⟨g, hg, by simpa using he⟩
      · rintro ⟨g, hg, he⟩; exact ⟨g, hg, by simpa using he⟩
    unfold onceF at h
    rw [hiff] at h
    by_cases hm : l[i].f0 ∈ out.map (·.f0)
    · simp only [decide_eq_true hm, if_true] at h ⊢
      exact h
    · simp only [decide_eq_false hm, Bool.false_eq_true, if_false] at h ⊢
      simp only [if_pos (show (out.map (·.f0)).length < 17592186044416 by rw [List.length_map]; omega)]
      rw [List.map_append, List.map_singleton] at h
      exact h
theorem l2Uses_ev (l : List Fk) (hl : l.length ≤ 1000000) : Ev (fun k => spec_l2Uses.f k l) ((onceL l).map (·.f0)) := by
  unfold spec_l2Uses.f
  have h := l2Uses_loop l hl l.length 0 (by omega) (by omega)
  simpa using h
theorem specFetU_ev (t : Tk) (hb : (nodT t : Int) ≤ 4000000000) (vs : List Int) : Ev (fun k => spec_TaskFetches.f k t.f0 t.f1 t.f2 vs) (fetL t vs, okT t && valsOkF vs) := by
  unfold spec_TaskFetches.f
  refine Ev.bind (specOk_ev t hb) ?_
  cases ht : okT t with
  | false =>
    simp only [Bool.false_eq_true, if_false, Bool.false_and]
    exact Ev.eq (Ev.now _) (by simp [fetL, ht])
  | true =>
    simp only [if_true, Bool.true_and]
    refine Ev.bind (specValsR_ev vs) ?_
    cases hv : valsOkF vs with
    | false =>
      simp only [Bool.false_eq_true, if_false]
      exact Ev.eq (Ev.now _) (by simp [fetL, hv])
    | true =>
      simp only [if_true]
      have hva : vs.all isVal = true := by simp only [valsOkF, Bool.and_eq_true] at hv; exact hv.2
      refine Ev.bind (l2Run_ev vs hva t (okT_fit ht) (by have := okT_nod ht; omega)) ?_
      exact Ev.eq (Ev.now _) (by simp [fetL, ht, hv])
theorem specUses_ev (t : Tk) (hb : (nodT t : Int) ≤ 4000000000) (vs : List Int) : Ev (fun k => spec_TaskUses.f k t.f0 t.f1 t.f2 vs) (usesL t vs, okT t && valsOkF vs) := by
  unfold spec_TaskUses.f
  refine Ev.bind (specFetU_ev t hb vs) ?_
  have := fetL_len t vs
  exact Ev.bind (l2Uses_ev (fetL t vs) (by omega)) (Ev.now _)
theorem onceFet_mem (l : List Fk) : ∀ g ∈ onceL l, g ∈ l := by
  have key : ∀ (l out : List Fk), ∀ g ∈ l.foldl onceF out, g ∈ out ∨ g ∈ l := by
    intro l
    induction l with
    | nil => intro out g h; exact .inl h
    | cons f l ih =>
      intro out g h
      rw [List.foldl_cons] at h
      rcases ih _ g h with h | h
      · unfold onceF at h
        split at h
        · exact .inl h
        · rcases List.mem_append.1 h with h | h
          · exact .inl h
          · exact .inr (by simp at h; simp [h])
      · exact .inr (by simp [h])
  intro g hg
  rcases key l [] g hg with h | h
  · cases h
  · exact h
theorem fetL_keysU (t : Tk) (vs : List Int) : ∀ f ∈ fetL t vs, 0 ≤ f.f0 ∧ f.f0 ≤ 9 ∧ f.f1 = atV vs f.f0 := by
  unfold fetL
  split
  · rename_i h
    have hva : vs.all isVal = true := by have h2 := h.2; simp only [valsOkF, Bool.and_eq_true] at h2; exact h2.2
    exact runT_keys hva (fits_of t (okT_fit h.1))
  · intro f hf; cases hf
end Go.Proofs.Ytooojligedlpeaa.G
end
section
namespace Go.Proofs.Ytooojligedlpeaa.G
open Go.RowKit Go.Proofs.YtooojligedlpeaaW.PrintWords
set_option linter.unusedVariables false
set_option linter.unusedSimpArgs false
def sameT (t : Tk) (a b : List Int) : Bool := okT t && (valsOkF a && (valsOkF b && holdsL (fetL t a) b))
theorem implSame_ev (t : Tk) (a b : List Int) : Ev (fun k => impl_TaskSame.f k t.f0 t.f1 t.f2 a b) (sameT t a b) := by
  unfold impl_TaskSame.f sameT
  refine Ev.bind (implFet_ev t a) ?_
  cases ht : okT t with
  | false => simp only [Bool.false_and, Bool.false_eq_true, if_false]; exact Ev.now _
  | true =>
    cases ha : valsOkF a with
    | false => simp only [Bool.true_and, Bool.false_and, Bool.false_eq_true, if_false]; exact Ev.now _
    | true =>
      simp only [Bool.true_and, if_true, implValsF_ev, Option.bind_some]
      cases hb : valsOkF b with
      | false => simp only [Bool.false_and, Bool.false_eq_true, if_false]; exact Ev.now _
      | true => simp only [Bool.true_and, if_true]; exact Ev.now _
theorem specSame_loop (a b : List Int) (u : List Int) (hu : ∀ x ∈ u, 0 ≤ x) (hl : u.length ≤ 1000000) (ok : Bool) : ∀ (d i : Nat), d = u.length - i → i ≤ u.length → Ev (fun k => spec_TaskSame.l0 k a b u ok (i : Int)) ((u.drop i).all (fun x => decide (atV a x = atV b x)) && (ok && valsOkF b)) := by
  intro d
  induction d with
  | zero =>
    intro i hd hi
    have e : i = u.length := by omega
    subst e
    refine Ev.step (fun k => by rw [spec_TaskSame.l0]) ?_
    simp only [if_neg (show ¬ ((u.length : Int) < (u.length : Int)) by omega), List.drop_length, List.all_nil, Bool.true_and]
    cases ok with
    | true => simp only [if_true, Bool.true_and]; exact Ev.bind (specValsR_ev b) (Ev.now _)
    | false => simp only [Bool.false_eq_true, if_false, Bool.false_and]; exact Ev.now _
  | succ d ih =>
    intro i hd hi
    have hlt : i < u.length := by omega
    have h := ih (i + 1) (by omega) (by omega)
    have hx := hu _ (List.getElem_mem hlt)
    refine Ev.step (fun k => by rw [spec_TaskSame.l0]) ?_
    simp only [if_pos (show (i : Int) < (u.length : Int) by omega), if_pos (show (0 : Int) ≤ (i : Int) by omega), rd_intU u i hlt, wrap_nat i (by omega), l2OfR_ev a _ hx, l2OfR_ev b _ hx, Option.bind_some]
    rw [drop_tk u i hlt, List.all_cons]
    by_cases e : atV a u[i] = atV b u[i]
    · simp only [if_pos e, decide_eq_true e, Bool.true_and]
      exact h
    · simp only [if_neg e, decide_eq_false e, Bool.false_and]
      exact Ev.now _
theorem onceL_has (l : List Fk) : ∀ f ∈ l, f.f0 ∈ (onceL l).map (·.f0) := by
  have key : ∀ (l out : List Fk) (x : Int), (x ∈ out.map (·.f0) ∨ x ∈ l.map (·.f0)) → x ∈ (l.foldl onceF out).map (·.f0) := by
    intro l
    induction l with
    | nil => intro out x h; rcases h with h | h; exact h; cases h
    | cons f l ih =>
      intro out x h
      rw [List.foldl_cons]
      apply ih
      by_cases hm : x ∈ l.map (·.f0)
      · exact .inr hm
      · left
        unfold onceF
        split
        · rename_i ha
          rcases h with h | h
          · exact h
          · rw [List.map_cons, List.mem_cons] at h
            rcases h with rfl | h
            · obtain ⟨g, hg, he⟩ := List.any_eq_true.1 ha
              exact List.mem_map.2 ⟨g, hg, by simpa using he⟩
            · exact absurd h hm
        · rw [List.map_append, List.mem_append]
          rcases h with h | h
          · exact .inl h
          · rw [List.map_cons, List.mem_cons] at h
            rcases h with rfl | h
            · exact .inr (by simp)
            · exact absurd h hm
  intro f hf
  exact key l [] f.f0 (.inr (List.mem_map.2 ⟨f, hf, rfl⟩))
theorem specSame_ev (t : Tk) (hb : (nodT t : Int) ≤ 4000000000) (a b : List Int) : Ev (fun k => spec_TaskSame.f k t.f0 t.f1 t.f2 a b) (sameT t a b) := by
  unfold spec_TaskSame.f
  refine Ev.bind (specUses_ev t hb a) ?_
  have hk := fetL_keysU t a
  have hlen : (usesL t a).length ≤ 15 := by
    have h1 := onceFet_len (fetL t a)
    have h2 := fetL_len t a
    simp only [usesL, List.length_map]
    omega
  have hsub : ∀ x ∈ usesL t a, ∃ f ∈ fetL t a, f.f0 = x := by
    intro x hx
    obtain ⟨f, hf, rfl⟩ := List.mem_map.1 hx
    exact ⟨f, onceFet_mem _ f hf, rfl⟩
  have h := specSame_loop a b (usesL t a) (fun x hx => by obtain ⟨f, hf, rfl⟩ := hsub x hx; exact (hk f hf).1) (by omega) (okT t && valsOkF a) (usesL t a).length 0 (by omega) (by omega)
  refine Ev.eq h ?_
  rw [List.drop_zero]
  have e : (usesL t a).all (fun x => decide (atV a x = atV b x)) = holdsL (fetL t a) b := by
    rw [Bool.eq_iff_iff, List.all_eq_true]
    unfold holdsL
    rw [Bool.not_eq_true', List.any_eq_false]
    constructor
    · intro hall f hf
      have h1 := hall f.f0 (onceL_has (fetL t a) f hf)
      simp only [decide_eq_true_eq] at h1
      have h2 := hk f hf
      simp [← h1, h2.2.2]
    · intro hall x hx
      obtain ⟨f, hf, rfl⟩ := hsub x hx
      have h1 := hall f hf
      have h2 := hk f hf
      simp only [bne_iff_ne, ne_eq, Decidable.not_not] at h1
      simp only [decide_eq_true_eq]
      rw [h1, h2.2.2]
  rw [e, sameT]
  cases okT t <;> cases valsOkF a <;> cases valsOkF b <;> cases holdsL (fetL t a) b <;> rfl
end Go.Proofs.Ytooojligedlpeaa.G
end
section
namespace Go.Proofs.Ytooojligedlpeaa.G
open Go.RowKit Go.Proofs.YtooojligedlpeaaW.PrintWords
set_option linter.unusedVariables false
set_option linter.unusedSimpArgs false
def valT (t : Tk) (vs : List Int) : Int × Bool := if okT t = true ∧ valsOkF vs = true then ((runT vs t).1, true) else (0, false)
theorem implValue_ev (t : Tk) (vs : List Int) : Ev (fun k => impl_TaskValue.f k t.f0 t.f1 t.f2 vs) (valT t vs) := by
  unfold impl_TaskValue.f
  refine Ev.bind (implOk_ev t) ?_
  cases ht : okT t with
  | false =>
    simp only [Bool.false_eq_true, if_false]
    exact Ev.eq (Ev.now _) (by simp [valT, ht])
  | true =>
    simp only [if_true, implValsF_ev, Option.bind_some]
    cases hv : valsOkF vs with
    | false =>
      simp only [Bool.false_eq_true, if_false]
      exact Ev.eq (Ev.now _) (by simp [valT, hv])
    | true =>
      simp only [if_true]
      have hva : vs.all isVal = true := by simp only [valsOkF, Bool.and_eq_true] at hv; exact hv.2
      have hn := okT_nod ht
      have e : (⟨t.f0, t.f1, t.f2⟩ : Tk) = t := by cases t; rfl
      have hf : impl_Task_fetched.f t.f0 t.f1 t.f2 vs = some (runT vs t) := by
        unfold impl_Task_fetched.f
        rw [e, if_pos ⟨okT_fit ht, hva, by omega⟩]
      simp only [hf, Option.bind_some]
      exact Ev.eq (Ev.now _) (by simp [valT, ht, hv])
end Go.Proofs.Ytooojligedlpeaa.G
end
section
namespace Go.Proofs.Ytooojligedlpeaa.G
open Go.RowKit Go.Proofs.YtooojligedlpeaaW.PrintWords
set_option linter.unusedVariables false
set_option linter.unusedSimpArgs false
theorem run_agreeA (vs vs' : List Int) {t : Tk} (h : Fits t) : (∀ f ∈ (runT vs t).2, atV vs' f.f0 = atV vs f.f0) → runT vs' t = runT vs t := by
  induction h with
  | num n h0 h1 => intro _; rw [runT_num, runT_num]
  | get n h0 h1 =>
    intro hf
    rw [runT_get] at hf
    have h2 := hf _ (List.mem_singleton.2 rfl)
    simp only at h2
    rw [runT_get, runT_get, h2]
  | add x y _ _ ihx ihy =>
    intro hf
    rw [runT_add] at hf
    rw [runT_add, runT_add, ihx (fun f h => hf f (List.mem_append_left _ h)), ihy (fun f h => hf f (List.mem_append_right _ h))]
  | mul x y _ _ ihx ihy =>
    intro hf
    rw [runT_mul] at hf
    rw [runT_mul, runT_mul, ihx (fun f h => hf f (List.mem_append_left _ h)), ihy (fun f h => hf f (List.mem_append_right _ h))]
  | iff x y z _ _ _ ihx ihy ihz =>
    intro hf
    by_cases hz : (runT vs x).1 = 0
    · rw [runT_if0 vs x y z hz] at hf
      have hx := ihx (fun f h => hf f (List.mem_append_left _ h))
      rw [runT_if0 vs x y z hz, runT_if0 vs' x y z (by rw [hx]; exact hz), hx, ihz (fun f h => hf f (List.mem_append_right _ h))]
    · rw [runT_if1 vs x y z hz] at hf
      have hx := ihx (fun f h => hf f (List.mem_append_left _ h))
      rw [runT_if1 vs x y z hz, runT_if1 vs' x y z (by rw [hx]; exact hz), hx, ihy (fun f h => hf f (List.mem_append_right _ h))]
  | «at» n h0 h1 x _ ihx =>
    intro hf
    rw [runT_at] at hf
    have hx := ihx (fun f h => hf f (List.mem_append_left _ h))
    have h2 := hf _ (List.mem_append_right _ (List.mem_singleton.2 rfl))
    simp only at h2
    rw [runT_at, runT_at, hx, h2]
end Go.Proofs.Ytooojligedlpeaa.G
end
section
namespace Go.Proofs.Ytooojligedlpeaa.G
open Go.RowKit Go.Proofs.YtooojligedlpeaaW.PrintWords
set_option linter.unusedVariables false
set_option linter.unusedSimpArgs false
theorem brFetchesS (l : List Fk) (hl : l.length ≤ 4000000000) : Ev (fun k => laws_brFetches.f k l l) true := by
  unfold laws_brFetches.f
  simp only [if_true]
  exact eqLoop l (fun k i => laws_brFetches.l0 k l l i) (fun _ x => some true)
    (fun k => by simp only [laws_brFetches.l0, if_neg (show ¬ ((l.length : Int) < (l.length : Int)) by omega)])
    (fun k i hi => by simp only [laws_brFetches.l0, if_pos (show (i : Int) < (l.length : Int) by omega), if_pos (show (0 : Int) ≤ (i : Int) by omega), rd_fkf l i hi, wrap_nat i (by omega), Option.bind_some, if_true, beq_self_eq_true, Bool.not_true, Bool.or_self, Bool.false_eq_true, if_false])
    (fun x hx => Ev.of_eq rfl)
theorem ev_FnTaskSame (l : List Int) (hl : byteL l) : Ev (fun k => laws_FnTaskSame.f k l) true := by
  unfold laws_FnTaskSame.f
  by_cases h20 : (l.length : Int) > 1048576
  · simp only [if_pos h20]; exact Ev.now true
  · simp only [if_neg h20]
    obtain ⟨l', ho, hl', hlen'⟩ := open_ev hl
    obtain ⟨t, p', ht, a, b, hn⟩ := any_task_ev hl' (by omega) 0 (by omega) (by omega)
    obtain ⟨vs, p2, hvs, a2, b2, hvl⟩ := values_ev hl' (by omega) p' (by omega) (by omega)
    obtain ⟨us, p3, hus, a3, b3⟩ := more_evM hl' (by omega) p2 (by omega) (by omega) vs (by omega)
    have hdraw : Ev (fun k => spec_DrawTaskSame.f k l) (t.f0, t.f1, t.f2, vs, us) := by
      unfold spec_DrawTaskSame.f
      refine Ev.bind (Ev.of_eq ho) ?_
      refine Ev.bind ht ?_
      refine Ev.bind hvs ?_
      exact Ev.bind hus (Ev.now _)
    have hfl := fetL_len t vs
    refine Ev.bind hdraw ?_
    refine Ev.bind (implSame_ev t vs us) ?_
    refine Ev.bind (specSame_ev t (by omega) vs us) ?_
    simp only [bne_self_eq_false, Bool.false_eq_true, if_false]
    refine Ev.bind (implValue_ev t vs) ?_
    refine Ev.bind (implValue_ev t us) ?_
    refine Ev.bind (implFet_ev t vs) ?_
    refine Ev.bind (implFet_ev t us) ?_
    cases hs : sameT t vs us with
    | false => simp only [Bool.false_eq_true, if_false]; exact Ev.now true
    | true =>
      simp only [sameT, Bool.and_eq_true] at hs
      obtain ⟨h1, h2, h3, h4⟩ := hs
      have ef : fetL t vs = (runT vs t).2 := by rw [fetL, if_pos ⟨h1, h2⟩]
      have hall : ∀ f ∈ (runT vs t).2, atV us f.f0 = atV vs f.f0 := by
        intro f hf
        have hk := runT_keys (by simp only [valsOkF, Bool.and_eq_true] at h2; exact h2.2) (fits_of t (okT_fit h1)) f hf
        rw [ef] at h4
        unfold holdsL at h4
        rw [Bool.not_eq_true', List.any_eq_false] at h4
        have h5 := h4 f hf
        simp only [bne_iff_ne, ne_eq, Decidable.not_not] at h5
        rw [h5, hk.2.2]
      have hr := run_agreeA vs us (fits_of t (okT_fit h1)) hall
      have e1 : valT t vs = ((runT vs t).1, true) := by rw [valT, if_pos ⟨h1, h2⟩]
      have e2 : valT t us = ((runT vs t).1, true) := by rw [valT, if_pos ⟨h1, h3⟩, hr]
      have e3 : fetL t us = fetL t vs := by rw [ef, fetL, if_pos ⟨h1, h3⟩, hr]
      rw [e1, e2, e3]
      simp only [if_true]
      exact Ev.bind (brFetchesS _ (by omega)) (Ev.now true)
end Go.Proofs.Ytooojligedlpeaa.G
namespace Go.Proofs.Ytooojligedlpeaa.Pure
open Go.RowKit Go.Proofs.Ytooojligedlpeaa.G Go.Proofs.YtooojligedlpeaaW.PrintWords Go.Proofs.YtooojligedlpeaaW.PrintLast
theorem FnTaskSame : laws_FnTaskSame.Pure := fun l0 _ _ hw => Ev.rounds (ev_FnTaskSame l0 (byteL_of hw))
end Go.Proofs.Ytooojligedlpeaa.Pure
end
