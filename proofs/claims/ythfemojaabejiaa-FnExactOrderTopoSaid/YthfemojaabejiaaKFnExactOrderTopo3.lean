-- Written by pack.py (ours): the claim's texts, cut down to what its theorem reaches.
import Derived.Test.YthfemojaabejiaaKFnExactOrderTopo2
section
namespace Go.Proofs.Ythfemojaabejiaa.G
open Go.RowKit Go.Proofs.YthfemojaabejiaaW.PrintWords Go.Proofs.YthfemojaabejiaaW.PrintLast Go.Proofs.YthfemojaabejiaaW.PrintMore
attribute [local go_sem] max2_int min2_int max_two min_two max_three min_three max_four min_four
set_option linter.unusedVariables false
set_option linter.unusedSimpArgs false
def laws_toBoolS.l0 : Nat → List Bool → List Bool → Int → Option (List Bool)
  | 0, _, _, _ => none
  | k + 1, x0, x3, x4 => if x4 < (x0.length : Int) then (if 0 ≤ x4 then (if x4 < (x3.length : Int) then (laws_toBoolS.l0 k x0 (x3.set (x4 : Int).toNat (rdOf false x0 x4)) (wrap64 (x4 + 1))) else (none)) else (none)) else (some x3)
def laws_toBoolS.f (k : Nat) (l0 : List Bool) : Option (List Bool) := if 0 ≤ (l0.length : Int) then (if ((l0.length : Int) : Int).toNat ≤ 281474976710656 then (laws_toBoolS.l0 k l0 (List.replicate ((l0.length : Int) : Int).toNat false) 0) else (none)) else (none)
set_option maxHeartbeats 8000000 in
set_option maxRecDepth 100000 in
theorem laws_toBoolS.calls (k : Nat) (A0 : Option Addr) (c0 : Nat) (l0 : List Bool) (r : List Bool) (w : World) (hr0 : Kd.C Kd.bool w A0 l0.length l0) (hc0 : l0.length ≤ c0) (h : laws_toBoolS.f k l0 = some r) :
    Calls Try.prog 58 #[.slice A0 l0.length c0] w fun e w' => ∃ v0_ : Value, e = .returned (v0_) ∧ Kd.R Kd.bool 4 w' w.heap.size (fun _ => True) v0_ r ∧ Below w.heap.size w w' := by
  have HR0 := qM hr0
  have HC0 := qM hc0
  clear hr0 hc0
  have HB := qM (Below.refl w.heap.size w)
  have H : (if 0 ≤ (l0.length : Int) then (if ((l0.length : Int) : Int).toNat ≤ 281474976710656 then (laws_toBoolS.l0 k l0 (List.replicate ((l0.length : Int) : Int).toNat false) 0) else (none)) else (none)) = some r := h
  clear h
  by_cases c2 : 0 ≤ (l0.length : Int)
  rotate_left
  · rw [if_neg c2] at H
    exact absurd H (by simp)
  rw [if_pos c2] at H
  have c2b0 := eq_true c2
  have c2b1 : decide (0 ≤ (l0.length : Int)) = true := decide_eq_true c2
  clear c2
  by_cases c3 : ((l0.length : Int) : Int).toNat ≤ 281474976710656
  rotate_left
  · rw [if_neg c3] at H
    exact absurd H (by simp)
  rw [if_pos c3] at H
  have c3b0 := eq_true c3
  have c3b1 : decide (((l0.length : Int) : Int).toNat ≤ 281474976710656) = true := decide_eq_true c3
  clear c3
  obtain ⟨y159, hy159⟩ : ∃ y_ : List Bool, y_ = (List.replicate ((l0.length : Int) : Int).toNat false) := ⟨_, rfl⟩
  replace H : (laws_toBoolS.l0 k l0 y159 0) = some r := by first | (rw [hy159]; with_reducible exact H) | (have H2_ := (Option.bind_some _ _).symm.trans H; rw [hy159]; with_reducible exact H2_) | (have H2_ := (Option.bind_some _ _).symm.trans H; with_reducible exact H2_) | with_reducible exact H | (rw [hy159]; exact H) | exact H
  have Ny159 := qM hy159
  clear hy159
  have H' := qM H
  clear H
  go_enter Try.func58, Try.ntmps58
  go_wp2_with (first | ((with_reducible refine gate_dst (N := 7) rfl ?_); refine Kd.R_make Kd.bool _ 4 rfl (N := 7) rfl 22 _ _ rfl (l0.length : Int) rfl rfl Try.underlying22 (.bool false) 1 info4 rfl (by decide) (by omega) false (ok := fun _ => True) (okp := fun _ => True) rfl (fun _ hk => hk) trivial (qO (by first | (with_reducible assumption) | assumption)) (Nat.le_trans (Nat.mul_le_mul_right _ (qO (by first | (with_reducible assumption) | assumption) : (l0.length : Int).toNat ≤ 281474976710656)) (by omega)) (Below.refl _ _) (Nat.le_refl _) ?_; intro v160 w4 ho5 hb hg_ hnew_; clear hg_ hnew_; (first | rw [← Ny159.out] at ho5 | (simp only [Int.reduceToNat] at ho5; rw [← Ny159.out] at ho5)); have n0_ := qM (Kd.R_lower ho5 (qz (by repeat (first | (with_reducible first | exact HB.out | apply qA | apply qN | apply qD) | exact HB.out)))); have n1_ := qM (qs (by repeat (first | (with_reducible first | exact HB.out | apply qA | apply qN | apply qD) | exact HB.out)) hb); clear HB; have HO161 := n0_; have HB := n1_; clear n0_ n1_; clear hb ho5))
  go_loopg [4] k (fun kq v4 w' => ∃ (x3_1 : List Bool) (x4_1 : Int), v4 = .int .i64 x4_1 ∧ Aside0 (laws_toBoolS.l0 kq l0 x3_1 x4_1 = some r) ∧ Aside0 (kq ≤ k) ∧ Aside0 (Kd.R Kd.bool 4 w' w.heap.size (fun _ => True) v160 x3_1) ∧ Aside0 (Below w.heap.size w w'))
  case atStart => exact ⟨(y159), (0), (by first | rfl | (simp; done) | (simp [*]; done)), H', ⟨Nat.le_refl _⟩, ⟨by (with_reducible repeat (first | apply Kd.R_alloc | apply Kd.R_drewN | apply Kd.R_drew)); exact HO161.out⟩, ⟨by repeat (first | (with_reducible first | exact HB.out | apply qA | apply qN | apply qD) | exact HB.out)⟩⟩
  case round =>
    clear H'
    try clear c2
    try clear c2b0
    try clear c2b1
    try clear p2
    try clear c3
    try clear c3b0
    try clear c3b1
    try clear c5
    obtain ⟨x3_1, x4_1, rfl, HA, HK1, HO_3, HB⟩ := hrel
    cases gk with
    | zero => exact absurd HA.out (by simp [laws_toBoolS.l0])
    | succ k1 =>
      have H := HA.out
      clear HA
      simp only [laws_toBoolS.l0] at H
      by_cases c6 : x4_1 < (l0.length : Int)
      rotate_left
      · rw [if_neg c6] at H
        have c6b0 : decide (x4_1 < (l0.length : Int)) = false := decide_eq_false c6
        clear c6
        obtain rfl := Option.some.inj H
        go_wp2
        go_ret
        exact ⟨_, by first | rfl | (simp [errW_none, errW_some] <;> rfl) | (simp [*, errW_none, errW_some] <;> rfl), by (with_reducible repeat (first | apply Kd.R_alloc | apply Kd.R_drewN | apply Kd.R_drew)); exact HO_3.out, by repeat (first | (with_reducible first | exact HB.out | apply qA | apply qN | apply qD) | exact HB.out)⟩
      rw [if_pos c6] at H
      have c6b0 : decide (x4_1 < (l0.length : Int)) = true := decide_eq_true c6
      clear c6
      by_cases c7 : 0 ≤ x4_1
      rotate_left
      · rw [if_neg c7] at H
        exact absurd H (by simp)
      rw [if_pos c7] at H
      have c7b0 : decide (0 ≤ x4_1) = true := decide_eq_true c7
      clear c7
      by_cases c8 : x4_1 < (x3_1.length : Int)
      rotate_left
      · rw [if_neg c8] at H
        exact absurd H (by simp)
      rw [if_pos c8] at H
      have c8b0 : decide (x4_1 < (x3_1.length : Int)) = true := decide_eq_true c8
      clear c8
      obtain ⟨y163, hy163⟩ : ∃ y_ : List Bool, y_ = (x3_1.set (x4_1 : Int).toNat (rdOf false l0 x4_1)) := ⟨_, rfl⟩
      replace H : (laws_toBoolS.l0 k1 l0 y163 (wrap64 (x4_1 + 1))) = some r := by first | (rw [hy163]; with_reducible exact H) | (have H2_ := (Option.bind_some _ _).symm.trans H; rw [hy163]; with_reducible exact H2_) | (have H2_ := (Option.bind_some _ _).symm.trans H; with_reducible exact H2_) | with_reducible exact H | (rw [hy163]; exact H) | exact H
      have Ny163 := qM hy163
      clear hy163
      have H' := qM H
      clear H
      have p162 : 0 ≤ (x4_1 : Int) := qO (by first | (with_reducible assumption) | assumption)
      have q162 : x4_1 < (l0.length : Int) := qO (by first | (with_reducible assumption) | assumption)
      obtain ⟨ad162, e162, hx162_0⟩ := Kd.at_bool HR0.out x4_1 p162 q162
      cases e162
      replace hx162_0 := (HB.out.cell (qL w _ hx162_0)).trans hx162_0
      replace p162 := eq_true p162
      replace q162 := eq_true q162
      have p9 : 0 ≤ (x4_1 : Int) := qO (by first | (with_reducible assumption) | assumption)
      have q9 : (x4_1 : Int) < ((x3_1.length : Int) : Int) := qO (by first | (with_reducible assumption) | assumption)
      obtain ⟨go9, co9, eo9, gb9, gl9, cl9, HG9⟩ := Kd.R_form HO_3.out (by omega)
      (first | cases eo9 | (injection eo9 with ea_ en_ ec_; (first | subst ea_ | (injection ea_ with ea_; subst ea_)); subst ec_; clear en_))
      have GB9 := qM gb9
      have GG9 := qM HG9
      clear gb9 gl9 HG9
      obtain ⟨hx9_0, hf9_0⟩ := Kd.R_celln false HO_3.out (x4_1 : Int) p9 q9
      replace p9 := eq_true p9
      replace q9 := eq_true q9
      have HP10 := Kd.R_putg HO_3.out (x4_1 : Int) (rdOf false l0 x4_1)
      go_wp2_with (first | ((with_reducible refine gate_store (t := 4) (p := 20) rfl ?_); refine store_event (t := 4) (p := 20) (v := ?vo_w11) (w1 := (wr.setCell ⟨go9, (x4_1 : Int).toNat, none⟩ (.bool (rdOf false l0 x4_1)))) ?hg ?ho ?hn ?hr ?_; (case ho => rfl); (case hg => rfl); (case hn => rfl); (case hr => first | (go_simp; done) | (go_simp; rfl)); intro w11 hw; have hg : wr.grownBy w11 (some go9) := (by rw [hw]; exact HP10.2); have hp_ : Kd.R Kd.bool 4 w11 w.heap.size (fun _ => True) (.slice (some ⟨go9, 0, none⟩) x3_1.length co9) y163 := (by rw [hw, Ny163.out]; exact HP10.1); clear HP10; have n0_ := qM (hp_); have n1_ := qM ((by rw [hw]; exact qS (HB.out) GB9.out : Below w.heap.size w w11)); clear HO_3; clear HB; have HO_3 := n0_; have HB := n1_; clear n0_ n1_; clear hg hw hp_))
      go_roundg k1
      case measure => have := HK1.out; omega
      case rel => exact ⟨(y163), (wrap64 (x4_1 + 1)), (by first | rfl | (simp; done) | (simp [*]; done)), H', ⟨by have := HK1.out; omega⟩, ⟨by (with_reducible repeat (first | apply Kd.R_alloc | apply Kd.R_drewN | apply Kd.R_drew)); exact HO_3.out⟩, ⟨by repeat (first | (with_reducible first | exact HB.out | apply qA | apply qN | apply qD) | exact HB.out)⟩⟩
mutual
def laws_toTask.f : Nat → Int → Int → List (S138) → Option (Int × Int × (List (S141)))
  | 0, _, _, _ => none
  | k + 1, a0_0, a0_1, l0_2 => (laws_toTaskS.f k l0_2).bind fun t167 => (some (a0_0, a0_1, t167))
def laws_toTaskS.l0 : Nat → List (S138) → List (S141) → Int → Option ((List (S141)))
  | 0, _, _, _ => none
  | k + 1, x0, x3, x4 => if x4 < (x0.length : Int) then (if 0 ≤ x4 then ((laws_toTask.f k ((rd_T138 x0 x4).f0) ((rd_T138 x0 x4).f1) ((rd_T138 x0 x4).f2)).bind fun bt174 => (if x4 < (x3.length : Int) then (laws_toTaskS.l0 k x0 (x3.set (x4 : Int).toNat (⟨bt174.1, bt174.2.1, bt174.2.2⟩ : S141)) (wrap64 (x4 + 1))) else (none))) else (none)) else (some x3)
def laws_toTaskS.f : Nat → List (S138) → Option ((List (S141)))
  | 0, _ => none
  | k + 1, l0 => if 0 ≤ (l0.length : Int) then (if ((l0.length : Int) : Int).toNat ≤ 7036874417766 then (laws_toTaskS.l0 k l0 (List.replicate ((l0.length : Int) : Int).toNat z141) 0) else (none)) else (none)
end
set_option maxHeartbeats 8000000 in
set_option maxRecDepth 100000 in
theorem laws_toTask.calls_ih (k : Nat) (ih_109 : ∀ j, j < k → ∀ (a0_0 : Int) (a0_1 : Int) (A0_2 : Option Addr) (c0_2 : Nat) (l0_2 : List (S138)) (r1 : Int) (r2 : Int) (r3 : List (S141)) (w : World) (hr0_2 : Kd.C k138 w A0_2 l0_2.length l0_2) (hc0_2 : l0_2.length ≤ c0_2) (h : laws_toTask.f j a0_0 a0_1 l0_2 = some (r1, r2, r3)),
    Calls Try.prog 109 #[.agg #[.int .i64 a0_0, .int .i64 a0_1, .slice A0_2 l0_2.length c0_2]] w fun e w' => ∃ v2_ : Value, e = .returned (.agg #[.int .i64 r1, .int .i64 r2, v2_]) ∧ Kd.R k141 141 w' w.heap.size (fun _ => True) v2_ r3 ∧ Below w.heap.size w w') (ih_59 : ∀ j, j < k → ∀ (A0 : Option Addr) (c0 : Nat) (l0 : List (S138)) (r : List (S141)) (w : World) (hr0 : Kd.C k138 w A0 l0.length l0) (hc0 : l0.length ≤ c0) (h : laws_toTaskS.f j l0 = some r),
    Calls Try.prog 59 #[.slice A0 l0.length c0] w fun e w' => ∃ v0_ : Value, e = .returned (v0_) ∧ Kd.R k141 141 w' w.heap.size (fun _ => True) v0_ r ∧ Below w.heap.size w w') : ∀ (a0_0 : Int) (a0_1 : Int) (A0_2 : Option Addr) (c0_2 : Nat) (l0_2 : List (S138)) (r1 : Int) (r2 : Int) (r3 : List (S141)) (w : World) (hr0_2 : Kd.C k138 w A0_2 l0_2.length l0_2) (hc0_2 : l0_2.length ≤ c0_2) (h : laws_toTask.f k a0_0 a0_1 l0_2 = some (r1, r2, r3)),
    Calls Try.prog 109 #[.agg #[.int .i64 a0_0, .int .i64 a0_1, .slice A0_2 l0_2.length c0_2]] w fun e w' => ∃ v2_ : Value, e = .returned (.agg #[.int .i64 r1, .int .i64 r2, v2_]) ∧ Kd.R k141 141 w' w.heap.size (fun _ => True) v2_ r3 ∧ Below w.heap.size w w' := by
  intro a0_0 a0_1 A0_2 c0_2 l0_2 r1 r2 r3 w hr0_2 hc0_2 h
  cases k with
  | zero => exact absurd h (by simp [laws_toTask.f])
  | succ k =>
  simp only [laws_toTask.f] at h
  have hu138 := Try.underlying138
  have hu141 := Try.underlying141
  have HR0_2 := qM hr0_2
  have HC0_2 := qM hc0_2
  clear hr0_2 hc0_2
  have HB := qM (Below.refl w.heap.size w)
  have H : ((laws_toTaskS.f k l0_2).bind fun t167 => (some (a0_0, a0_1, t167))) = some (r1, r2, r3) := h
  clear h
  replace H := Option.bind_eq_some_iff.mp H
  obtain ⟨t167, A20, H⟩ := H
  replace H : (some (a0_0, a0_1, t167)) = some (r1, r2, r3) := H
  have A2 := qM A20
  clear A20
  simp only [Option.some.injEq, Prod.mk.injEq] at H
  obtain ⟨rfl, rfl, rfl⟩ := H
  go_enter Try.func109, Try.ntmps109
  go_wp2_with (first | ((with_reducible refine gate_dst (N := 1) rfl ?_); refine box_event ?hg (N := 1) ?hd (cs := #[.int .i64 a0_0, .int .i64 a0_1, .slice A0_2 l0_2.length c0_2]) (t := 138) ?hr ?_; (case hd => rfl); (case hg => rfl); (case hr => first | (go_simp; done) | (go_simp; rfl)); intro gb164 hg w3 hbox hb; have n0_ := qM (qs (by repeat (first | (with_reducible first | exact HB.out | apply qA | apply qN | apply qD) | exact HB.out)) hb); have n1_ := qM (hbox); have n2_ := qM ((by rw [hg]; exact (qz (by repeat (first | (with_reducible first | exact HB.out | apply qA | apply qN | apply qD) | exact HB.out))) : w.heap.size ≤ gb164)); have n3_ := qM ((by rw [hg]; exact (qz (by repeat (first | (with_reducible first | exact HB.out | apply qA | apply qN | apply qD) | exact HB.out))) : w.heap.size ≤ gb164)); clear HB; have HB := n0_; have BK164 := n1_; have GW164 := n2_; have GE164 := n3_; clear n0_ n1_ n2_ n3_; clear hb hbox hg) | ((with_reducible refine gate_dst (N := 2) rfl ?_); refine box_event ?hg (N := 2) ?hd (cs := #[.int .i64 0, .int .i64 0, .slice none 0 0]) (t := 141) ?hr ?_; (case hd => rfl); (case hg => rfl); (case hr => first | (go_simp; done) | (go_simp; rfl)); intro gb165 hg w4 hbox hb; have n0_ := qM (blk_below (g := gb164) (o := .cells #[.int .i64 a0_0, .int .i64 a0_1, .slice A0_2 l0_2.length c0_2] 138 (0, 0)) (by (with_reducible repeat (first | refine qn ?_ _ | refine qd ?_ | refine qa ?_ _)); exact BK164.out) hb); have n1_ := qM (qs (by repeat (first | (with_reducible first | exact HB.out | apply qA | apply qN | apply qD | refine qS ?_ GE164.out) | exact HB.out)) hb); have n2_ := qM (hbox); have n3_ := qM ((by rw [hg]; exact (qz (by repeat (first | (with_reducible first | exact HB.out | apply qA | apply qN | apply qD | refine qS ?_ GE164.out) | exact HB.out))) : w.heap.size ≤ gb165)); have n4_ := qM ((by rw [hg]; exact (qz (by repeat (first | (with_reducible first | exact HB.out | apply qA | apply qN | apply qD | refine qS ?_ GE164.out) | exact HB.out))) : w.heap.size ≤ gb165)); have n5_ := qM ((by rw [hg]; exact Nat.ne_of_lt (blk_lt (g := gb164) (o := .cells #[.int .i64 a0_0, .int .i64 a0_1, .slice A0_2 l0_2.length c0_2] 138 (0, 0)) (by (with_reducible repeat (first | refine qn ?_ _ | refine qd ?_ | refine qa ?_ _)); exact BK164.out)) : gb164 ≠ gb165)); have n6_ := qM ((by rw [hg]; exact Nat.ne_of_gt (blk_lt (g := gb164) (o := .cells #[.int .i64 a0_0, .int .i64 a0_1, .slice A0_2 l0_2.length c0_2] 138 (0, 0)) (by (with_reducible repeat (first | refine qn ?_ _ | refine qd ?_ | refine qa ?_ _)); exact BK164.out)) : gb165 ≠ gb164)); clear BK164; clear HB; have BK164 := n0_; have HB := n1_; have BK165 := n2_; have GW165 := n3_; have GE165 := n4_; have NB164_165 := n5_; have NB165_164 := n6_; clear n0_ n1_ n2_ n3_ n4_ n5_ n6_; clear hb hbox hg) | ((with_reducible refine gate_dst (N := 3) rfl ?_); refine box_event ?hg (N := 3) ?hd (cs := #[.int .i64 0, .int .i64 0, .slice none 0 0]) (t := 141) ?hr ?_; (case hd => rfl); (case hg => rfl); (case hr => first | (go_simp; done) | (go_simp; rfl)); intro gb166 hg w5 hbox hb; have n0_ := qM (blk_below (g := gb164) (o := .cells #[.int .i64 a0_0, .int .i64 a0_1, .slice A0_2 l0_2.length c0_2] 138 (0, 0)) (by (with_reducible repeat (first | refine qn ?_ _ | refine qd ?_ | refine qa ?_ _)); exact BK164.out) hb); have n1_ := qM (blk_below (g := gb165) (o := .cells #[.int .i64 0, .int .i64 0, .slice none 0 0] 141 (0, 0)) (by (with_reducible repeat (first | refine qn ?_ _ | refine qd ?_ | refine qa ?_ _)); exact BK165.out) hb); have n2_ := qM (qs (by repeat (first | (with_reducible first | exact HB.out | apply qA | apply qN | apply qD | refine qS ?_ GE164.out | refine qS ?_ GE165.out) | exact HB.out)) hb); have n3_ := qM (hbox); have n4_ := qM ((by rw [hg]; exact (qz (by repeat (first | (with_reducible first | exact HB.out | apply qA | apply qN | apply qD | refine qS ?_ GE164.out | refine qS ?_ GE165.out) | exact HB.out))) : w.heap.size ≤ gb166)); have n5_ := qM ((by rw [hg]; exact (qz (by repeat (first | (with_reducible first | exact HB.out | apply qA | apply qN | apply qD | refine qS ?_ GE164.out | refine qS ?_ GE165.out) | exact HB.out))) : w.heap.size ≤ gb166)); have n6_ := qM ((by rw [hg]; exact Nat.ne_of_lt (blk_lt (g := gb164) (o := .cells #[.int .i64 a0_0, .int .i64 a0_1, .slice A0_2 l0_2.length c0_2] 138 (0, 0)) (by (with_reducible repeat (first | refine qn ?_ _ | refine qd ?_ | refine qa ?_ _)); exact BK164.out)) : gb164 ≠ gb166)); have n7_ := qM ((by rw [hg]; exact Nat.ne_of_gt (blk_lt (g := gb164) (o := .cells #[.int .i64 a0_0, .int .i64 a0_1, .slice A0_2 l0_2.length c0_2] 138 (0, 0)) (by (with_reducible repeat (first | refine qn ?_ _ | refine qd ?_ | refine qa ?_ _)); exact BK164.out)) : gb166 ≠ gb164)); have n8_ := qM ((by rw [hg]; exact Nat.ne_of_lt (blk_lt (g := gb165) (o := .cells #[.int .i64 0, .int .i64 0, .slice none 0 0] 141 (0, 0)) (by (with_reducible repeat (first | refine qn ?_ _ | refine qd ?_ | refine qa ?_ _)); exact BK165.out)) : gb165 ≠ gb166)); have n9_ := qM ((by rw [hg]; exact Nat.ne_of_gt (blk_lt (g := gb165) (o := .cells #[.int .i64 0, .int .i64 0, .slice none 0 0] 141 (0, 0)) (by (with_reducible repeat (first | refine qn ?_ _ | refine qd ?_ | refine qa ?_ _)); exact BK165.out)) : gb166 ≠ gb165)); clear BK164; clear BK165; clear HB; have BK164 := n0_; have BK165 := n1_; have HB := n2_; have BK166 := n3_; have GW166 := n4_; have GE166 := n5_; have NB164_166 := n6_; have NB166_164 := n7_; have NB165_166 := n8_; have NB166_165 := n9_; clear n0_ n1_ n2_ n3_ n4_ n5_ n6_ n7_ n8_ n9_; clear hb hbox hg; have hnb6 := NB164_165.out; have hnc6 := NB165_164.out; have hnb7 := NB164_166.out; have hnc7 := NB166_164.out; have hcz8_0 : w5.cell? ⟨gb164, 0, none⟩ = some (.int .i64 a0_0) := (qC BK164.out 0).trans rfl; have hcz8_1 : w5.cell? ⟨gb164, 1, none⟩ = some (.int .i64 a0_1) := (qC BK164.out 1).trans rfl; have hcz8_2 : w5.cell? ⟨gb164, 2, none⟩ = some (.slice A0_2 l0_2.length c0_2) := (qC BK164.out 2).trans rfl; have hfz8_0 := qF BK164.out 0; have hfz8_1 := qF BK164.out 1; have hfz8_2 := qF BK164.out 2; have hnb9 := NB166_165.out; have hnc9 := NB165_166.out; have hcz10_0 : w5.cell? ⟨gb166, 0, none⟩ = some (.int .i64 0) := (qC BK166.out 0).trans rfl; have hcz10_1 : w5.cell? ⟨gb166, 1, none⟩ = some (.int .i64 0) := (qC BK166.out 1).trans rfl; have hcz10_2 : w5.cell? ⟨gb166, 2, none⟩ = some (.slice none 0 0) := (qC BK166.out 2).trans rfl; have hfz10_0 := qF BK166.out 0; have hfz10_1 := qF BK166.out 1; have hfz10_2 := qF BK166.out 2) | ((with_reducible refine gate_callee (f := 59) rfl ?_); refine goesL_ (some 12) rfl rfl Try.func59 (by kernel_rfl) rfl #[.slice A0_2 l0_2.length c0_2] rfl (by (try simp only [List.map_toArray, List.map_cons, List.map_nil]); first | done | rfl | (simp only [List.length_drop, List.length_take]; rfl)) ?_; (with_reducible refine (ih_59 k (by omega) _ _ l0_2 t167 _ ?side1 ?side2 A2.out).mono ?_); (case side1 => exact qB HR0_2.out (by repeat (first | (with_reducible first | exact HB.out | apply qA | apply qN | apply qD | refine qS ?_ GE164.out | refine qS ?_ GE165.out | refine qS ?_ GE166.out) | exact HB.out))); (case side2 => exact HC0_2.out); rintro e w11 ⟨v168, rfl, ho0, hb⟩; refine ⟨_, rfl, ?_⟩; have n0_ := qM (Kd.R_lower (Kd.R_newB (Kd.R_newB ho0 (g := gb165) (o := .cells #[.int .i64 0, .int .i64 0, .slice none 0 0] 141 (0, 0)) (by (with_reducible repeat (first | refine qn ?_ _ | refine qd ?_ | refine qa ?_ _)); refine blk_far ?_ NB165_166.out _; (with_reducible repeat (first | refine qn ?_ _ | refine qd ?_ | refine qa ?_ _)); refine blk_far ?_ NB165_166.out _; (with_reducible repeat (first | refine qn ?_ _ | refine qd ?_ | refine qa ?_ _)); exact BK165.out)) (g := gb166) (o := .cells #[.int .i64 a0_0, .int .i64 a0_1, .slice none 0 0] 141 (0, 0)) (by (with_reducible repeat (first | refine qn ?_ _ | refine qd ?_ | refine qa ?_ _)); refine blk_put (cs := #[.int .i64 a0_0, .int .i64 0, .slice none 0 0]) ?_ 1 _ rfl; (with_reducible repeat (first | refine qn ?_ _ | refine qd ?_ | refine qa ?_ _)); refine blk_put (cs := #[.int .i64 0, .int .i64 0, .slice none 0 0]) ?_ 0 _ rfl; (with_reducible repeat (first | refine qn ?_ _ | refine qd ?_ | refine qa ?_ _)); exact BK166.out)) (qz (by repeat (first | (with_reducible first | exact HB.out | apply qA | apply qN | apply qD | refine qS ?_ GE164.out | refine qS ?_ GE165.out | refine qS ?_ GE166.out) | exact HB.out)))); have n1_ := qM (blk_below (g := gb164) (o := .cells #[.int .i64 a0_0, .int .i64 a0_1, .slice A0_2 l0_2.length c0_2] 138 (0, 0)) (by (with_reducible repeat (first | refine qn ?_ _ | refine qd ?_ | refine qa ?_ _)); refine blk_far ?_ NB164_166.out _; (with_reducible repeat (first | refine qn ?_ _ | refine qd ?_ | refine qa ?_ _)); refine blk_far ?_ NB164_166.out _; (with_reducible repeat (first | refine qn ?_ _ | refine qd ?_ | refine qa ?_ _)); exact BK164.out) hb); have n2_ := qM (blk_below (g := gb165) (o := .cells #[.int .i64 0, .int .i64 0, .slice none 0 0] 141 (0, 0)) (by (with_reducible repeat (first | refine qn ?_ _ | refine qd ?_ | refine qa ?_ _)); refine blk_far ?_ NB165_166.out _; (with_reducible repeat (first | refine qn ?_ _ | refine qd ?_ | refine qa ?_ _)); refine blk_far ?_ NB165_166.out _; (with_reducible repeat (first | refine qn ?_ _ | refine qd ?_ | refine qa ?_ _)); exact BK165.out) hb); have n3_ := qM (blk_below (g := gb166) (o := .cells #[.int .i64 a0_0, .int .i64 a0_1, .slice none 0 0] 141 (0, 0)) (by (with_reducible repeat (first | refine qn ?_ _ | refine qd ?_ | refine qa ?_ _)); refine blk_put (cs := #[.int .i64 a0_0, .int .i64 0, .slice none 0 0]) ?_ 1 _ rfl; (with_reducible repeat (first | refine qn ?_ _ | refine qd ?_ | refine qa ?_ _)); refine blk_put (cs := #[.int .i64 0, .int .i64 0, .slice none 0 0]) ?_ 0 _ rfl; (with_reducible repeat (first | refine qn ?_ _ | refine qd ?_ | refine qa ?_ _)); exact BK166.out) hb); have n4_ := qM (qs (by repeat (first | (with_reducible first | exact HB.out | apply qA | apply qN | apply qD | refine qS ?_ GE164.out | refine qS ?_ GE165.out | refine qS ?_ GE166.out) | exact HB.out)) hb); clear BK164; clear BK165; clear BK166; clear HB; have HO169 := n0_; have BK164 := n1_; have BK165 := n2_; have BK166 := n3_; have HB := n4_; clear n0_ n1_ n2_ n3_ n4_; (try clear hb); (try clear hb2); (try clear hk); (try clear hi); (try clear ho0); obtain ⟨Ao12, co12, eo12⟩ := Kd.R_slice HO169.out; subst eo12; have hcz13_0 : w11.cell? ⟨gb166, 0, none⟩ = some (.int .i64 a0_0) := (qC BK166.out 0).trans rfl; have hcz13_1 : w11.cell? ⟨gb166, 1, none⟩ = some (.int .i64 a0_1) := (qC BK166.out 1).trans rfl; have hcz13_2 : w11.cell? ⟨gb166, 2, none⟩ = some (.slice none 0 0) := (qC BK166.out 2).trans rfl; have hfz13_0 := qF BK166.out 0; have hfz13_1 := qF BK166.out 1; have hfz13_2 := qF BK166.out 2; have hcz14_0 : w11.cell? ⟨gb165, 0, none⟩ = some (.int .i64 0) := (qC BK165.out 0).trans rfl; have hcz14_1 : w11.cell? ⟨gb165, 1, none⟩ = some (.int .i64 0) := (qC BK165.out 1).trans rfl; have hcz14_2 : w11.cell? ⟨gb165, 2, none⟩ = some (.slice none 0 0) := (qC BK165.out 2).trans rfl; have hfz14_0 := qF BK165.out 0; have hfz14_1 := qF BK165.out 1; have hfz14_2 := qF BK165.out 2))
  refine bodyPost_ret (results_cell_row rfl _ _ gb165 141 #[.int .i64 a0_0, .int .i64 a0_1, .slice Ao12 t167.length co12] (0, 0) _ rfl (by (with_reducible repeat (first | refine qn ?_ _ | refine qd ?_ | refine qa ?_ _)); refine blk_put (cs := #[.int .i64 a0_0, .int .i64 a0_1, .slice none 0 0]) ?_ 2 _ rfl; (with_reducible repeat (first | refine qn ?_ _ | refine qd ?_ | refine qa ?_ _)); refine blk_put (cs := #[.int .i64 a0_0, .int .i64 0, .slice none 0 0]) ?_ 1 _ rfl; (with_reducible repeat (first | refine qn ?_ _ | refine qd ?_ | refine qa ?_ _)); refine blk_put (cs := #[.int .i64 0, .int .i64 0, .slice none 0 0]) ?_ 0 _ rfl; (with_reducible repeat (first | refine qn ?_ _ | refine qd ?_ | refine qa ?_ _)); refine blk_far ?_ NB165_166.out _; (with_reducible repeat (first | refine qn ?_ _ | refine qd ?_ | refine qa ?_ _)); exact BK165.out) Try.underlying141 rfl (by kernel_rfl)) rfl ?_
  exact ⟨_, by first | rfl | (simp [errW_none, errW_some] <;> rfl) | (simp [*, errW_none, errW_some] <;> rfl), by (with_reducible repeat (first | apply Kd.R_alloc | apply Kd.R_drewN | apply Kd.R_drew)); exact Kd.R_mono (Kd.R_far (p := ⟨gb165, 2, none⟩) (Kd.R_far (p := ⟨gb165, 1, none⟩) (Kd.R_far (p := ⟨gb165, 0, none⟩) (Kd.R_far (p := ⟨gb166, 2, none⟩) (Kd.R_mono (Kd.R_mono HO169.out (fun k_ hk => (⟨hk, hk.2⟩ : _ ∧ k_ ≠ gb166))) (fun k_ hk => (⟨hk, hk.1.1.2⟩ : _ ∧ k_ ≠ gb165))) (fun _ hk => hk.1.2) (.slice Ao12 t167.length co12)) (fun _ hk => hk.2) (.int .i64 a0_0)) (fun _ hk => hk.2) (.int .i64 a0_1)) (fun _ hk => hk.2) (.slice Ao12 t167.length co12)) (fun _ hk => trivial), by repeat (first | (with_reducible first | exact HB.out | apply qA | apply qN | apply qD | refine qS ?_ GE164.out | refine qS ?_ GE165.out | refine qS ?_ GE166.out) | exact HB.out)⟩
set_option maxHeartbeats 8000000 in
set_option maxRecDepth 100000 in
theorem laws_toTaskS.calls_ih (k : Nat) (ih_109 : ∀ j, j < k → ∀ (a0_0 : Int) (a0_1 : Int) (A0_2 : Option Addr) (c0_2 : Nat) (l0_2 : List (S138)) (r1 : Int) (r2 : Int) (r3 : List (S141)) (w : World) (hr0_2 : Kd.C k138 w A0_2 l0_2.length l0_2) (hc0_2 : l0_2.length ≤ c0_2) (h : laws_toTask.f j a0_0 a0_1 l0_2 = some (r1, r2, r3)),
    Calls Try.prog 109 #[.agg #[.int .i64 a0_0, .int .i64 a0_1, .slice A0_2 l0_2.length c0_2]] w fun e w' => ∃ v2_ : Value, e = .returned (.agg #[.int .i64 r1, .int .i64 r2, v2_]) ∧ Kd.R k141 141 w' w.heap.size (fun _ => True) v2_ r3 ∧ Below w.heap.size w w') (ih_59 : ∀ j, j < k → ∀ (A0 : Option Addr) (c0 : Nat) (l0 : List (S138)) (r : List (S141)) (w : World) (hr0 : Kd.C k138 w A0 l0.length l0) (hc0 : l0.length ≤ c0) (h : laws_toTaskS.f j l0 = some r),
    Calls Try.prog 59 #[.slice A0 l0.length c0] w fun e w' => ∃ v0_ : Value, e = .returned (v0_) ∧ Kd.R k141 141 w' w.heap.size (fun _ => True) v0_ r ∧ Below w.heap.size w w') : ∀ (A0 : Option Addr) (c0 : Nat) (l0 : List (S138)) (r : List (S141)) (w : World) (hr0 : Kd.C k138 w A0 l0.length l0) (hc0 : l0.length ≤ c0) (h : laws_toTaskS.f k l0 = some r),
    Calls Try.prog 59 #[.slice A0 l0.length c0] w fun e w' => ∃ v0_ : Value, e = .returned (v0_) ∧ Kd.R k141 141 w' w.heap.size (fun _ => True) v0_ r ∧ Below w.heap.size w w' := by
  intro A0 c0 l0 r w hr0 hc0 h
  cases k with
  | zero => exact absurd h (by simp [laws_toTaskS.f])
  | succ k =>
  simp only [laws_toTaskS.f] at h
  have hu138 := Try.underlying138
  have hu141 := Try.underlying141
  have HR0 := qM hr0
  have HC0 := qM hc0
  clear hr0 hc0
  have HB := qM (Below.refl w.heap.size w)
  have H : (if 0 ≤ (l0.length : Int) then (if ((l0.length : Int) : Int).toNat ≤ 7036874417766 then (laws_toTaskS.l0 k l0 (List.replicate ((l0.length : Int) : Int).toNat z141) 0) else (none)) else (none)) = some r := h
  clear h
  by_cases c2 : 0 ≤ (l0.length : Int)
  rotate_left
  · rw [if_neg c2] at H
    exact absurd H (by simp)
  rw [if_pos c2] at H
  have c2b0 := eq_true c2
  have c2b1 : decide (0 ≤ (l0.length : Int)) = true := decide_eq_true c2
  clear c2
  by_cases c3 : ((l0.length : Int) : Int).toNat ≤ 7036874417766
  rotate_left
  · rw [if_neg c3] at H
    exact absurd H (by simp)
  rw [if_pos c3] at H
  have c3b0 := eq_true c3
  have c3b1 : decide (((l0.length : Int) : Int).toNat ≤ 7036874417766) = true := decide_eq_true c3
  clear c3
  obtain ⟨y170, hy170⟩ : ∃ y_ : List (S141), y_ = (List.replicate ((l0.length : Int) : Int).toNat z141) := ⟨_, rfl⟩
  replace H : (laws_toTaskS.l0 k l0 y170 0) = some r := by first | (rw [hy170]; with_reducible exact H) | (have H2_ := (Option.bind_some _ _).symm.trans H; rw [hy170]; with_reducible exact H2_) | (have H2_ := (Option.bind_some _ _).symm.trans H; with_reducible exact H2_) | with_reducible exact H | (rw [hy170]; exact H) | exact H
  have Ny170 := qM hy170
  clear hy170
  have H' := qM H
  clear H
  go_enter Try.func59, Try.ntmps59
  go_wp2_with (first | ((with_reducible refine gate_dst (N := 7) rfl ?_); refine Kd.R_make k141 _ 141 rfl (N := 7) rfl 28 _ _ rfl (l0.length : Int) rfl rfl Try.underlying28 (.agg #[(.int .i64 0), (.int .i64 0), (.slice none 0 0)]) 40 info141 rfl (by decide) (by omega) z141 (ok := fun _ => True) (okp := fun _ => True) (k141_mkM _ _ _ z141 (Kd.R_nil _ _ _ _ _)) (fun _ hk => hk) trivial (qO (by first | (with_reducible assumption) | assumption)) (Nat.le_trans (Nat.mul_le_mul_right _ (qO (by first | (with_reducible assumption) | assumption) : (l0.length : Int).toNat ≤ 7036874417766)) (by omega)) (Below.refl _ _) (Nat.le_refl _) ?_; intro v171 w4 ho5 hb hg_ hnew_; clear hg_ hnew_; (first | rw [← Ny170.out] at ho5 | (simp only [Int.reduceToNat] at ho5; rw [← Ny170.out] at ho5)); have n0_ := qM (Kd.R_lower ho5 (qz (by repeat (first | (with_reducible first | exact HB.out | apply qA | apply qN | apply qD) | exact HB.out)))); have n1_ := qM (qs (by repeat (first | (with_reducible first | exact HB.out | apply qA | apply qN | apply qD) | exact HB.out)) hb); clear HB; have HO172 := n0_; have HB := n1_; clear n0_ n1_; clear hb ho5))
  go_loopg [4] k (fun kq v4 w' => ∃ (x3_1 : List (S141)) (x4_1 : Int), v4 = .int .i64 x4_1 ∧ Aside0 (laws_toTaskS.l0 kq l0 x3_1 x4_1 = some r) ∧ Aside0 (kq ≤ k) ∧ Aside0 (Kd.R k141 141 w' w.heap.size (fun _ => True) v171 x3_1) ∧ Aside0 (Below w.heap.size w w'))
  case atStart => exact ⟨(y170), (0), (by first | rfl | (simp; done) | (simp [*]; done)), H', ⟨Nat.le_refl _⟩, ⟨by (with_reducible repeat (first | apply Kd.R_alloc | apply Kd.R_drewN | apply Kd.R_drew)); exact HO172.out⟩, ⟨by repeat (first | (with_reducible first | exact HB.out | apply qA | apply qN | apply qD) | exact HB.out)⟩⟩
  case round =>
    clear H'
    try clear c2
    try clear c2b0
    try clear c2b1
    try clear p2
    try clear c3
    try clear c3b0
    try clear c3b1
    try clear c5
    obtain ⟨x3_1, x4_1, rfl, HA, HK1, HO_3, HB⟩ := hrel
    cases gk with
    | zero => exact absurd HA.out (by simp [laws_toTaskS.l0])
    | succ k1 =>
      have H := HA.out
      clear HA
      simp only [laws_toTaskS.l0] at H
      by_cases c6 : x4_1 < (l0.length : Int)
      rotate_left
      · rw [if_neg c6] at H
        have c6b0 : decide (x4_1 < (l0.length : Int)) = false := decide_eq_false c6
        clear c6
        obtain rfl := Option.some.inj H
        go_wp2
        go_ret
        exact ⟨_, by first | rfl | (simp [errW_none, errW_some] <;> rfl) | (simp [*, errW_none, errW_some] <;> rfl), by (with_reducible repeat (first | apply Kd.R_alloc | apply Kd.R_drewN | apply Kd.R_drew)); exact HO_3.out, by repeat (first | (with_reducible first | exact HB.out | apply qA | apply qN | apply qD) | exact HB.out)⟩
      rw [if_pos c6] at H
      have c6b0 : decide (x4_1 < (l0.length : Int)) = true := decide_eq_true c6
      clear c6
      by_cases c7 : 0 ≤ x4_1
      rotate_left
      · rw [if_neg c7] at H
        exact absurd H (by simp)
      rw [if_pos c7] at H
      have c7b0 : decide (0 ≤ x4_1) = true := decide_eq_true c7
      clear c7
      replace H := Option.bind_eq_some_iff.mp H
      obtain ⟨⟨t174, t175, t176⟩, A80, H⟩ := H
      replace H : (if x4_1 < (x3_1.length : Int) then (laws_toTaskS.l0 k1 l0 (x3_1.set (x4_1 : Int).toNat (⟨t174, t175, t176⟩ : S141)) (wrap64 (x4_1 + 1))) else (none)) = some r := H
      have A8 := qM A80
      clear A80
      by_cases c9 : x4_1 < (x3_1.length : Int)
      rotate_left
      · rw [if_neg c9] at H
        exact absurd H (by simp)
      rw [if_pos c9] at H
      have c9b0 : decide (x4_1 < (x3_1.length : Int)) = true := decide_eq_true c9
      clear c9
      obtain ⟨y179, hy179⟩ : ∃ y_ : List (S141), y_ = (x3_1.set (x4_1 : Int).toNat (⟨t174, t175, t176⟩ : S141)) := ⟨_, rfl⟩
      replace H : (laws_toTaskS.l0 k1 l0 y179 (wrap64 (x4_1 + 1))) = some r := by first | (rw [hy179]; with_reducible exact H) | (have H2_ := (Option.bind_some _ _).symm.trans H; rw [hy179]; with_reducible exact H2_) | (have H2_ := (Option.bind_some _ _).symm.trans H; with_reducible exact H2_) | with_reducible exact H | (rw [hy179]; exact H) | exact H
      have Ny179 := qM hy179
      clear hy179
      have H' := qM H
      clear H
      have p173 : 0 ≤ (x4_1 : Int) := qO (by first | (with_reducible assumption) | assumption)
      have q173 : x4_1 < (l0.length : Int) := qO (by first | (with_reducible assumption) | assumption)
      obtain ⟨ad173, A173_2, c173_2, e173, hx173_0, hx173_1, hx173_2, hl173_2, hi173_2⟩ := at_T138 HR0.out x4_1 p173 q173
      cases e173
      replace hx173_0 := (HB.out.cell (qL w _ hx173_0)).trans hx173_0
      replace hx173_1 := (HB.out.cell (qL w _ hx173_1)).trans hx173_1
      replace hx173_2 := (HB.out.cell (qL w _ hx173_2)).trans hx173_2
      have HR173_2 := qM hi173_2
      have HC173_2 := qM hl173_2
      clear hi173_2 hl173_2
      replace p173 := eq_true p173
      replace q173 := eq_true q173
      go_wp2_with (first | ((with_reducible refine gate_callee (f := 109) rfl ?_); refine goesL_ (some 20) rfl rfl Try.func109 (by kernel_rfl) rfl #[.agg #[.int .i64 ((rd_T138 l0 x4_1).f0), .int .i64 ((rd_T138 l0 x4_1).f1), .slice A173_2 ((rd_T138 l0 x4_1).f2).length c173_2]] rfl (by (try simp only [List.map_toArray, List.map_cons, List.map_nil]); first | done | rfl | (simp only [List.length_drop, List.length_take]; rfl)) ?_; (with_reducible refine (ih_109 k1 (by have := HK1.out; omega) ((rd_T138 l0 x4_1).f0) ((rd_T138 l0 x4_1).f1) _ _ ((rd_T138 l0 x4_1).f2) t174 t175 t176 _ ?side1 ?side2 A8.out).mono ?_); (case side1 => repeat (first | exact (qB HR173_2.out HB.out) | (with_reducible refine qc ?_ _) | (with_reducible refine qe ?_ _) | (with_reducible refine qf ?_))); (case side2 => exact HC173_2.out); rintro e w11 ⟨v177, rfl, ho0, hb⟩; refine ⟨_, rfl, ?_⟩; have n0_ := qM (Kd.R_elder' (by (with_reducible repeat (first | apply Kd.R_alloc | apply Kd.R_drewN | apply Kd.R_drew)); exact HO_3.out) (Kd.R_base ho0) hb); have n1_ := qM (Kd.R_lower (Kd.R_new' ho0 (Kd.R_lt (by (with_reducible repeat (first | apply Kd.R_alloc | apply Kd.R_drewN | apply Kd.R_drew)); exact HO_3.out))) (qz (by repeat (first | (with_reducible first | exact HB.out | apply qA | apply qN | apply qD) | exact HB.out)))); have n2_ := qM (qs (by repeat (first | (with_reducible first | exact HB.out | apply qA | apply qN | apply qD) | exact HB.out)) hb); clear HO_3; clear HB; have HO_3 := n0_; have HO178 := n1_; have HB := n2_; clear n0_ n1_ n2_; (try clear hb); (try clear hb2); (try clear hk); (try clear hi); (try clear ho0); have p10 : 0 ≤ (x4_1 : Int) := qO (by first | (with_reducible assumption) | assumption); have q10 : (x4_1 : Int) < ((x3_1.length : Int) : Int) := qO (by first | (with_reducible assumption) | assumption); obtain ⟨go10, co10, eo10, gb10, gl10, cl10, HG10⟩ := Kd.R_form HO_3.out (by omega); (first | cases eo10 | (injection eo10 with ea_ en_ ec_; (first | subst ea_ | (injection ea_ with ea_; subst ea_)); subst ec_; clear en_)); have GB10 := qM gb10; have GG10 := qM HG10; clear gb10 gl10 HG10; obtain ⟨ce10, hcl10, hM10, hcc10, hfr10⟩ := Kd.R_elem HO_3.out z141 (x4_1 : Int) p10 q10; obtain ⟨ve10_2, rfl, ge10_2⟩ := k141_openM hM10; have hx10_0 : w11.cell? ⟨go10, (x4_1 : Int).toNat * 3, none⟩ = some (.int .i64 ((rd_T141 x3_1 x4_1).f0)) := hcc10 0 _ rfl; have hx10_1 : w11.cell? ⟨go10, (x4_1 : Int).toNat * 3 + 1, none⟩ = some (.int .i64 ((rd_T141 x3_1 x4_1).f1)) := hcc10 1 _ rfl; have hx10_2 : w11.cell? ⟨go10, (x4_1 : Int).toNat * 3 + 2, none⟩ = some (ve10_2) := hcc10 2 _ rfl; have hf10_0 : w11.frozen? ⟨go10, (x4_1 : Int).toNat * 3, none⟩ = false := hfr10 0; have hf10_1 : w11.frozen? ⟨go10, (x4_1 : Int).toNat * 3 + 1, none⟩ = false := hfr10 1; have hf10_2 : w11.frozen? ⟨go10, (x4_1 : Int).toNat * 3 + 2, none⟩ = false := hfr10 2; clear hcl10 hcc10 hfr10 hM10; replace p10 := eq_true p10; replace q10 := eq_true q10; obtain ⟨Ao12, co12, eo12⟩ := Kd.R_slice HO178.out; subst eo12; have n_ := qM (Kd.R_mono (ok' := (fun k_ => some k_ ≠ (.slice Ao12 t176.length co12 : Value).ownBlock)) HO_3.out (fun k_ hk => hk.2)); clear HO_3; have HO_3 := n_; clear n_; have HX13 := qM (show Kd.R k141 141 w11 w.heap.size (fun _ => True) (.slice (some ⟨go10, 0, none⟩) x3_1.length co10) x3_1 from (by (with_reducible repeat (first | apply Kd.R_alloc | apply Kd.R_drewN | apply Kd.R_drew)); exact Kd.R_mono HO_3.out (fun _ hk => trivial))); obtain ⟨ce13, hcl13, hM13, hcc13, hfr13⟩ := Kd.R_elem HX13.out z141 (x4_1 : Int) (qO (by first | (with_reducible assumption) | assumption)) (by have h_ : (x4_1 : Int) < ((x3_1.length : Int) : Int) := qO (by first | (with_reducible assumption) | assumption); first | exact h_ | (have e_ := (Kd.R_reads' HO_3.out).1; omega) | simpa using h_); obtain ⟨ve13_2, rfl, ge13_2⟩ := k141_openM hM13; have HP13 := Kd.R_seg HX13.out (x4_1 : Int) (qO (by first | (with_reducible assumption) | assumption)) (by have h_ : (x4_1 : Int) < ((x3_1.length : Int) : Int) := qO (by first | (with_reducible assumption) | assumption); first | exact h_ | (have e_ := (Kd.R_reads' HO_3.out).1; omega) | simpa using h_) (seg := [.int .i64 t174, .int .i64 t175, .slice Ao12 t176.length co12]) (j := 0) hcl13 hcc13 (show 3 ≤ 3 from by decide) (x' := (⟨t174, t175, t176⟩ : S141)) (k141_mkM _ _ _ (⟨t174, t175, t176⟩ : S141) (Kd.R_mono (HO178.out) (fun k_ hk => ⟨trivial, fun e_ => (hk.2) (by rw [e_]; rfl)⟩))) (fun _ hk => hk); have hx13_0 := hcc13 0 _ rfl; (try simp only [show (k141).sz = 3 from rfl, Nat.mul_one, Nat.add_zero] at hx13_0); have hf13_0 := hfr13 0; (try simp only [show (k141).sz = 3 from rfl, Nat.mul_one, Nat.add_zero] at hf13_0); have hx13_1 := hcc13 1 _ rfl; (try simp only [show (k141).sz = 3 from rfl, Nat.mul_one, Nat.add_zero] at hx13_1); have hf13_1 := hfr13 1; (try simp only [show (k141).sz = 3 from rfl, Nat.mul_one, Nat.add_zero] at hf13_1); have hx13_2 := hcc13 2 _ rfl; (try simp only [show (k141).sz = 3 from rfl, Nat.mul_one, Nat.add_zero] at hx13_2); have hf13_2 := hfr13 2; (try simp only [show (k141).sz = 3 from rfl, Nat.mul_one, Nat.add_zero] at hf13_2); clear hcl13 hcc13 hfr13 hM13) | ((with_reducible refine gate_store (t := 141) (p := 21) rfl ?_); refine store_event (t := 141) (p := 21) (v := ?vo_w14) (w1 := (((w11.setCell ⟨go10, (x4_1 : Int).toNat * 3, none⟩ (.int .i64 t174)).setCell ⟨go10, (x4_1 : Int).toNat * 3 + 1, none⟩ (.int .i64 t175)).setCell ⟨go10, (x4_1 : Int).toNat * 3 + 2, none⟩ (.slice Ao12 t176.length co12))) ?hg ?ho ?hn ?hr ?_; (case ho => rfl); (case hg => rfl); (case hn => rfl); (case hr => first | (go_simp; done) | (go_simp; rfl)); intro w14 hw; have hg : w11.grownBy w14 (some go10) := (by rw [hw]; exact HP13.2); have hp_ : Kd.R k141 141 w14 w.heap.size (fun _ => True) (.slice (some ⟨go10, 0, none⟩) x3_1.length co10) y179 := (by rw [hw, Ny179.out]; exact HP13.1); clear HP13; have n0_ := qM (hp_); have n1_ := qM ((by rw [hw]; exact qS (qS (qS (HB.out) GB10.out) GB10.out) GB10.out : Below w.heap.size w w14)); clear HO_3; clear HB; clear HO178; have HO_3 := n0_; have HB := n1_; clear n0_ n1_; clear hg hw hp_))
      go_roundg k1
      case measure => have := HK1.out; omega
      case rel => exact ⟨(y179), (wrap64 (x4_1 + 1)), (by first | rfl | (simp; done) | (simp [*]; done)), H', ⟨by have := HK1.out; omega⟩, ⟨by (with_reducible repeat (first | apply Kd.R_alloc | apply Kd.R_drewN | apply Kd.R_drew)); exact HO_3.out⟩, ⟨by repeat (first | (with_reducible first | exact HB.out | apply qA | apply qN | apply qD) | exact HB.out)⟩⟩
theorem laws_toTask.calls_all (k : Nat) : (∀ (a0_0 : Int) (a0_1 : Int) (A0_2 : Option Addr) (c0_2 : Nat) (l0_2 : List (S138)) (r1 : Int) (r2 : Int) (r3 : List (S141)) (w : World) (hr0_2 : Kd.C k138 w A0_2 l0_2.length l0_2) (hc0_2 : l0_2.length ≤ c0_2) (h : laws_toTask.f k a0_0 a0_1 l0_2 = some (r1, r2, r3)),
    Calls Try.prog 109 #[.agg #[.int .i64 a0_0, .int .i64 a0_1, .slice A0_2 l0_2.length c0_2]] w fun e w' => ∃ v2_ : Value, e = .returned (.agg #[.int .i64 r1, .int .i64 r2, v2_]) ∧ Kd.R k141 141 w' w.heap.size (fun _ => True) v2_ r3 ∧ Below w.heap.size w w') ∧ (∀ (A0 : Option Addr) (c0 : Nat) (l0 : List (S138)) (r : List (S141)) (w : World) (hr0 : Kd.C k138 w A0 l0.length l0) (hc0 : l0.length ≤ c0) (h : laws_toTaskS.f k l0 = some r),
    Calls Try.prog 59 #[.slice A0 l0.length c0] w fun e w' => ∃ v0_ : Value, e = .returned (v0_) ∧ Kd.R k141 141 w' w.heap.size (fun _ => True) v0_ r ∧ Below w.heap.size w w') := by
  induction k using Nat.strongRecOn with
  | _ k ih =>
  exact ⟨laws_toTask.calls_ih k (fun j hj => (ih j hj).1) (fun j hj => (ih j hj).2), laws_toTaskS.calls_ih k (fun j hj => (ih j hj).1) (fun j hj => (ih j hj).2)⟩
theorem laws_toTaskS.calls (k : Nat) : ∀ (A0 : Option Addr) (c0 : Nat) (l0 : List (S138)) (r : List (S141)) (w : World) (hr0 : Kd.C k138 w A0 l0.length l0) (hc0 : l0.length ≤ c0) (h : laws_toTaskS.f k l0 = some r),
    Calls Try.prog 59 #[.slice A0 l0.length c0] w fun e w' => ∃ v0_ : Value, e = .returned (v0_) ∧ Kd.R k141 141 w' w.heap.size (fun _ => True) v0_ r ∧ Below w.heap.size w w' := (laws_toTask.calls_all k).2
def laws_toSheet.f (k : Nat) (l0_0 : List Bool) (l0_1 : List (S138)) : Option (List Bool × (List (S141))) := (laws_toBoolS.f k l0_0).bind fun t183 => ((laws_toTaskS.f k l0_1).bind fun t186 => (some (t183, t186)))
set_option maxHeartbeats 8000000 in
set_option maxRecDepth 100000 in
theorem laws_toSheet.calls (k : Nat) (A0_0 : Option Addr) (c0_0 : Nat) (l0_0 : List Bool) (A0_1 : Option Addr) (c0_1 : Nat) (l0_1 : List (S138)) (r1 : List Bool) (r2 : List (S141)) (w : World) (hr0_0 : Kd.C Kd.bool w A0_0 l0_0.length l0_0) (hc0_0 : l0_0.length ≤ c0_0) (hr0_1 : Kd.C k138 w A0_1 l0_1.length l0_1) (hc0_1 : l0_1.length ≤ c0_1) (h : laws_toSheet.f k l0_0 l0_1 = some (r1, r2)) :
    Calls Try.prog 16 #[.agg #[.slice A0_0 l0_0.length c0_0, .slice A0_1 l0_1.length c0_1]] w fun e w' => ∃ v0_ v1_ : Value, e = .returned (.agg #[v0_, v1_]) ∧ Kd.R Kd.bool 4 w' w.heap.size (fun _ => True) v0_ r1 ∧ Kd.R k141 141 w' w.heap.size (fun _ => True) v1_ r2 ∧ Below w.heap.size w w' := by
  have hu25 := Try.underlying25
  have hu30 := Try.underlying30
  have HR0_0 := qM hr0_0
  have HC0_0 := qM hc0_0
  clear hr0_0 hc0_0
  have HR0_1 := qM hr0_1
  have HC0_1 := qM hc0_1
  clear hr0_1 hc0_1
  have HB := qM (Below.refl w.heap.size w)
  have H : ((laws_toBoolS.f k l0_0).bind fun t183 => ((laws_toTaskS.f k l0_1).bind fun t186 => (some (t183, t186)))) = some (r1, r2) := h
  clear h
  replace H := Option.bind_eq_some_iff.mp H
  obtain ⟨t183, A20, H⟩ := H
  replace H : ((laws_toTaskS.f k l0_1).bind fun t186 => (some (t183, t186))) = some (r1, r2) := H
  have A2 := qM A20
  clear A20
  replace H := Option.bind_eq_some_iff.mp H
  obtain ⟨t186, A30, H⟩ := H
  replace H : (some (t183, t186)) = some (r1, r2) := H
  have A3 := qM A30
  clear A30
  simp only [Option.some.injEq, Prod.mk.injEq] at H
  obtain ⟨rfl, rfl⟩ := H
  go_enter Try.func16, Try.ntmps16
  go_wp2_with (first | ((with_reducible refine gate_dst (N := 1) rfl ?_); refine box_event ?hg (N := 1) ?hd (cs := #[.slice A0_0 l0_0.length c0_0, .slice A0_1 l0_1.length c0_1]) (t := 25) ?hr ?_; (case hd => rfl); (case hg => rfl); (case hr => first | (go_simp; done) | (go_simp; rfl)); intro gb180 hg w4 hbox hb; have n0_ := qM (qs (by repeat (first | (with_reducible first | exact HB.out | apply qA | apply qN | apply qD) | exact HB.out)) hb); have n1_ := qM (hbox); have n2_ := qM ((by rw [hg]; exact (qz (by repeat (first | (with_reducible first | exact HB.out | apply qA | apply qN | apply qD) | exact HB.out))) : w.heap.size ≤ gb180)); have n3_ := qM ((by rw [hg]; exact (qz (by repeat (first | (with_reducible first | exact HB.out | apply qA | apply qN | apply qD) | exact HB.out))) : w.heap.size ≤ gb180)); clear HB; have HB := n0_; have BK180 := n1_; have GW180 := n2_; have GE180 := n3_; clear n0_ n1_ n2_ n3_; clear hb hbox hg) | ((with_reducible refine gate_dst (N := 2) rfl ?_); refine box_event ?hg (N := 2) ?hd (cs := #[.slice none 0 0, .slice none 0 0]) (t := 30) ?hr ?_; (case hd => rfl); (case hg => rfl); (case hr => first | (go_simp; done) | (go_simp; rfl)); intro gb181 hg w5 hbox hb; have n0_ := qM (blk_below (g := gb180) (o := .cells #[.slice A0_0 l0_0.length c0_0, .slice A0_1 l0_1.length c0_1] 25 (0, 0)) (by (with_reducible repeat (first | refine qn ?_ _ | refine qd ?_ | refine qa ?_ _)); exact BK180.out) hb); have n1_ := qM (qs (by repeat (first | (with_reducible first | exact HB.out | apply qA | apply qN | apply qD | refine qS ?_ GE180.out) | exact HB.out)) hb); have n2_ := qM (hbox); have n3_ := qM ((by rw [hg]; exact (qz (by repeat (first | (with_reducible first | exact HB.out | apply qA | apply qN | apply qD | refine qS ?_ GE180.out) | exact HB.out))) : w.heap.size ≤ gb181)); have n4_ := qM ((by rw [hg]; exact (qz (by repeat (first | (with_reducible first | exact HB.out | apply qA | apply qN | apply qD | refine qS ?_ GE180.out) | exact HB.out))) : w.heap.size ≤ gb181)); have n5_ := qM ((by rw [hg]; exact Nat.ne_of_lt (blk_lt (g := gb180) (o := .cells #[.slice A0_0 l0_0.length c0_0, .slice A0_1 l0_1.length c0_1] 25 (0, 0)) (by (with_reducible repeat (first | refine qn ?_ _ | refine qd ?_ | refine qa ?_ _)); exact BK180.out)) : gb180 ≠ gb181)); have n6_ := qM ((by rw [hg]; exact Nat.ne_of_gt (blk_lt (g := gb180) (o := .cells #[.slice A0_0 l0_0.length c0_0, .slice A0_1 l0_1.length c0_1] 25 (0, 0)) (by (with_reducible repeat (first | refine qn ?_ _ | refine qd ?_ | refine qa ?_ _)); exact BK180.out)) : gb181 ≠ gb180)); clear BK180; clear HB; have BK180 := n0_; have HB := n1_; have BK181 := n2_; have GW181 := n3_; have GE181 := n4_; have NB180_181 := n5_; have NB181_180 := n6_; clear n0_ n1_ n2_ n3_ n4_ n5_ n6_; clear hb hbox hg) | ((with_reducible refine gate_dst (N := 3) rfl ?_); refine box_event ?hg (N := 3) ?hd (cs := #[.slice none 0 0, .slice none 0 0]) (t := 30) ?hr ?_; (case hd => rfl); (case hg => rfl); (case hr => first | (go_simp; done) | (go_simp; rfl)); intro gb182 hg w6 hbox hb; have n0_ := qM (blk_below (g := gb180) (o := .cells #[.slice A0_0 l0_0.length c0_0, .slice A0_1 l0_1.length c0_1] 25 (0, 0)) (by (with_reducible repeat (first | refine qn ?_ _ | refine qd ?_ | refine qa ?_ _)); exact BK180.out) hb); have n1_ := qM (blk_below (g := gb181) (o := .cells #[.slice none 0 0, .slice none 0 0] 30 (0, 0)) (by (with_reducible repeat (first | refine qn ?_ _ | refine qd ?_ | refine qa ?_ _)); exact BK181.out) hb); have n2_ := qM (qs (by repeat (first | (with_reducible first | exact HB.out | apply qA | apply qN | apply qD | refine qS ?_ GE180.out | refine qS ?_ GE181.out) | exact HB.out)) hb); have n3_ := qM (hbox); have n4_ := qM ((by rw [hg]; exact (qz (by repeat (first | (with_reducible first | exact HB.out | apply qA | apply qN | apply qD | refine qS ?_ GE180.out | refine qS ?_ GE181.out) | exact HB.out))) : w.heap.size ≤ gb182)); have n5_ := qM ((by rw [hg]; exact (qz (by repeat (first | (with_reducible first | exact HB.out | apply qA | apply qN | apply qD | refine qS ?_ GE180.out | refine qS ?_ GE181.out) | exact HB.out))) : w.heap.size ≤ gb182)); have n6_ := qM ((by rw [hg]; exact Nat.ne_of_lt (blk_lt (g := gb180) (o := .cells #[.slice A0_0 l0_0.length c0_0, .slice A0_1 l0_1.length c0_1] 25 (0, 0)) (by (with_reducible repeat (first | refine qn ?_ _ | refine qd ?_ | refine qa ?_ _)); exact BK180.out)) : gb180 ≠ gb182)); have n7_ := qM ((by rw [hg]; exact Nat.ne_of_gt (blk_lt (g := gb180) (o := .cells #[.slice A0_0 l0_0.length c0_0, .slice A0_1 l0_1.length c0_1] 25 (0, 0)) (by (with_reducible repeat (first | refine qn ?_ _ | refine qd ?_ | refine qa ?_ _)); exact BK180.out)) : gb182 ≠ gb180)); have n8_ := qM ((by rw [hg]; exact Nat.ne_of_lt (blk_lt (g := gb181) (o := .cells #[.slice none 0 0, .slice none 0 0] 30 (0, 0)) (by (with_reducible repeat (first | refine qn ?_ _ | refine qd ?_ | refine qa ?_ _)); exact BK181.out)) : gb181 ≠ gb182)); have n9_ := qM ((by rw [hg]; exact Nat.ne_of_gt (blk_lt (g := gb181) (o := .cells #[.slice none 0 0, .slice none 0 0] 30 (0, 0)) (by (with_reducible repeat (first | refine qn ?_ _ | refine qd ?_ | refine qa ?_ _)); exact BK181.out)) : gb182 ≠ gb181)); clear BK180; clear BK181; clear HB; have BK180 := n0_; have BK181 := n1_; have HB := n2_; have BK182 := n3_; have GW182 := n4_; have GE182 := n5_; have NB180_182 := n6_; have NB182_180 := n7_; have NB181_182 := n8_; have NB182_181 := n9_; clear n0_ n1_ n2_ n3_ n4_ n5_ n6_ n7_ n8_ n9_; clear hb hbox hg; have hnb7 := NB180_181.out; have hnc7 := NB181_180.out; have hnb8 := NB180_182.out; have hnc8 := NB182_180.out; have hcz9_0 : w6.cell? ⟨gb180, 0, none⟩ = some (.slice A0_0 l0_0.length c0_0) := (qC BK180.out 0).trans rfl; have hcz9_1 : w6.cell? ⟨gb180, 1, none⟩ = some (.slice A0_1 l0_1.length c0_1) := (qC BK180.out 1).trans rfl; have hfz9_0 := qF BK180.out 0; have hfz9_1 := qF BK180.out 1) | ((with_reducible refine gate_callee (f := 58) rfl ?_); refine goesL_ (some 6) rfl rfl Try.func58 (by kernel_rfl) rfl #[.slice A0_0 l0_0.length c0_0] rfl (by (try simp only [List.map_toArray, List.map_cons, List.map_nil]); first | done | rfl | (simp only [List.length_drop, List.length_take]; rfl)) ?_; (with_reducible refine (laws_toBoolS.calls k _ _ l0_0 t183 _ ?side1 ?side2 A2.out).mono ?_); (case side1 => repeat (first | exact (qB HR0_0.out HB.out) | (with_reducible refine qc ?_ _) | (with_reducible refine qe ?_ _) | (with_reducible refine qf ?_))); (case side2 => exact HC0_0.out); rintro e w10 ⟨v184, rfl, ho0, hb⟩; refine ⟨_, rfl, ?_⟩; have n0_ := qM (Kd.R_lower ho0 (qz (by repeat (first | (with_reducible first | exact HB.out | apply qA | apply qN | apply qD | refine qS ?_ GE180.out | refine qS ?_ GE181.out | refine qS ?_ GE182.out) | exact HB.out)))); have n1_ := qM (blk_below (g := gb180) (o := .cells #[.slice A0_0 l0_0.length c0_0, .slice A0_1 l0_1.length c0_1] 25 (0, 0)) (by (with_reducible repeat (first | refine qn ?_ _ | refine qd ?_ | refine qa ?_ _)); exact BK180.out) hb); have n2_ := qM (blk_below (g := gb181) (o := .cells #[.slice none 0 0, .slice none 0 0] 30 (0, 0)) (by (with_reducible repeat (first | refine qn ?_ _ | refine qd ?_ | refine qa ?_ _)); exact BK181.out) hb); have n3_ := qM (blk_below (g := gb182) (o := .cells #[.slice none 0 0, .slice none 0 0] 30 (0, 0)) (by (with_reducible repeat (first | refine qn ?_ _ | refine qd ?_ | refine qa ?_ _)); exact BK182.out) hb); have n4_ := qM (qs (by repeat (first | (with_reducible first | exact HB.out | apply qA | apply qN | apply qD | refine qS ?_ GE180.out | refine qS ?_ GE181.out | refine qS ?_ GE182.out) | exact HB.out)) hb); clear BK180; clear BK181; clear BK182; clear HB; have HO185 := n0_; have BK180 := n1_; have BK181 := n2_; have BK182 := n3_; have HB := n4_; clear n0_ n1_ n2_ n3_ n4_; (try clear hb); (try clear hb2); (try clear hk); (try clear hi); (try clear ho0); obtain ⟨Ao11, co11, eo11⟩ := Kd.R_slice HO185.out; subst eo11; have hnb12 := NB182_181.out; have hnc12 := NB181_182.out; have hcz13_0 : w10.cell? ⟨gb182, 0, none⟩ = some (.slice none 0 0) := (qC BK182.out 0).trans rfl; have hcz13_1 : w10.cell? ⟨gb182, 1, none⟩ = some (.slice none 0 0) := (qC BK182.out 1).trans rfl; have hfz13_0 := qF BK182.out 0; have hfz13_1 := qF BK182.out 1; have hcz14_0 : w10.cell? ⟨gb180, 0, none⟩ = some (.slice A0_0 l0_0.length c0_0) := (qC BK180.out 0).trans rfl; have hcz14_1 : w10.cell? ⟨gb180, 1, none⟩ = some (.slice A0_1 l0_1.length c0_1) := (qC BK180.out 1).trans rfl; have hfz14_0 := qF BK180.out 0; have hfz14_1 := qF BK180.out 1) | ((with_reducible refine gate_callee (f := 59) rfl ?_); refine goesL_ (some 10) rfl rfl Try.func59 (by kernel_rfl) rfl #[.slice A0_1 l0_1.length c0_1] rfl (by (try simp only [List.map_toArray, List.map_cons, List.map_nil]); first | done | rfl | (simp only [List.length_drop, List.length_take]; rfl)) ?_; (with_reducible refine (laws_toTaskS.calls k _ _ l0_1 t186 _ ?side1 ?side2 A3.out).mono ?_); (case side1 => exact qB HR0_1.out (by repeat (first | (with_reducible first | exact HB.out | apply qA | apply qN | apply qD | refine qS ?_ GE180.out | refine qS ?_ GE181.out | refine qS ?_ GE182.out) | exact HB.out))); (case side2 => exact HC0_1.out); rintro e w15 ⟨v187, rfl, ho0, hb⟩; refine ⟨_, rfl, ?_⟩; have n0_ := qM (Kd.R_below (by (with_reducible repeat (first | apply Kd.R_alloc | apply Kd.R_drewN | apply Kd.R_drew)); exact (Kd.R_mono (Kd.R_far (p := ⟨gb182, 0, none⟩) (Kd.R_types HO185.out BK182.out (by decide)) (fun _ hk => hk.2) (.slice Ao11 t183.length co11)) (fun _ h_ => h_.1))) hb); have n1_ := qM (Kd.R_lower ho0 (qz (by repeat (first | (with_reducible first | exact HB.out | apply qA | apply qN | apply qD | refine qS ?_ GE180.out | refine qS ?_ GE181.out | refine qS ?_ GE182.out) | exact HB.out)))); have n2_ := qM (blk_below (g := gb180) (o := .cells #[.slice A0_0 l0_0.length c0_0, .slice A0_1 l0_1.length c0_1] 25 (0, 0)) (by (with_reducible repeat (first | refine qn ?_ _ | refine qd ?_ | refine qa ?_ _)); refine blk_far ?_ NB180_182.out _; (with_reducible repeat (first | refine qn ?_ _ | refine qd ?_ | refine qa ?_ _)); exact BK180.out) hb); have n3_ := qM (blk_below (g := gb181) (o := .cells #[.slice none 0 0, .slice none 0 0] 30 (0, 0)) (by (with_reducible repeat (first | refine qn ?_ _ | refine qd ?_ | refine qa ?_ _)); refine blk_far ?_ NB181_182.out _; (with_reducible repeat (first | refine qn ?_ _ | refine qd ?_ | refine qa ?_ _)); exact BK181.out) hb); have n4_ := qM (blk_below (g := gb182) (o := .cells #[.slice Ao11 t183.length co11, .slice none 0 0] 30 (0, 0)) (by (with_reducible repeat (first | refine qn ?_ _ | refine qd ?_ | refine qa ?_ _)); refine blk_put (cs := #[.slice none 0 0, .slice none 0 0]) ?_ 0 _ rfl; (with_reducible repeat (first | refine qn ?_ _ | refine qd ?_ | refine qa ?_ _)); exact BK182.out) hb); have n5_ := qM (qs (by repeat (first | (with_reducible first | exact HB.out | apply qA | apply qN | apply qD | refine qS ?_ GE180.out | refine qS ?_ GE181.out | refine qS ?_ GE182.out) | exact HB.out)) hb); clear HO185; clear BK180; clear BK181; clear BK182; clear HB; have HO185 := n0_; have HO188 := n1_; have BK180 := n2_; have BK181 := n3_; have BK182 := n4_; have HB := n5_; clear n0_ n1_ n2_ n3_ n4_ n5_; (try clear hb); (try clear hb2); (try clear hk); (try clear hi); (try clear ho0); obtain ⟨Ao16, co16, eo16⟩ := Kd.R_slice HO188.out; subst eo16; have hcz17_0 : w15.cell? ⟨gb182, 0, none⟩ = some (.slice Ao11 t183.length co11) := (qC BK182.out 0).trans rfl; have hcz17_1 : w15.cell? ⟨gb182, 1, none⟩ = some (.slice none 0 0) := (qC BK182.out 1).trans rfl; have hfz17_0 := qF BK182.out 0; have hfz17_1 := qF BK182.out 1; have hcz18_0 : w15.cell? ⟨gb181, 0, none⟩ = some (.slice none 0 0) := (qC BK181.out 0).trans rfl; have hcz18_1 : w15.cell? ⟨gb181, 1, none⟩ = some (.slice none 0 0) := (qC BK181.out 1).trans rfl; have hfz18_0 := qF BK181.out 0; have hfz18_1 := qF BK181.out 1))
  refine bodyPost_ret (results_cell_row rfl _ _ gb181 30 #[.slice Ao11 t183.length co11, .slice Ao16 t186.length co16] (0, 0) _ rfl (by (with_reducible repeat (first | refine qn ?_ _ | refine qd ?_ | refine qa ?_ _)); refine blk_put (cs := #[.slice Ao11 t183.length co11, .slice none 0 0]) ?_ 1 _ rfl; (with_reducible repeat (first | refine qn ?_ _ | refine qd ?_ | refine qa ?_ _)); refine blk_put (cs := #[.slice none 0 0, .slice none 0 0]) ?_ 0 _ rfl; (with_reducible repeat (first | refine qn ?_ _ | refine qd ?_ | refine qa ?_ _)); refine blk_far ?_ NB181_182.out _; (with_reducible repeat (first | refine qn ?_ _ | refine qd ?_ | refine qa ?_ _)); exact BK181.out) Try.underlying30 rfl (by kernel_rfl)) rfl ?_
  exact ⟨_, _, by first | rfl | (simp [errW_none, errW_some] <;> rfl) | (simp [*, errW_none, errW_some] <;> rfl), by (with_reducible repeat (first | apply Kd.R_alloc | apply Kd.R_drewN | apply Kd.R_drew)); exact Kd.R_mono (Kd.R_far (p := ⟨gb181, 1, none⟩) (Kd.R_far (p := ⟨gb181, 0, none⟩) (Kd.R_far (p := ⟨gb182, 1, none⟩) (Kd.R_types (Kd.R_types HO185.out BK182.out (by decide)) BK181.out (by decide)) (fun _ hk => hk.1.2) (.slice Ao16 t186.length co16)) (fun _ hk => hk.2) (.slice Ao11 t183.length co11)) (fun _ hk => hk.2) (.slice Ao16 t186.length co16)) (fun _ hk => trivial), by (with_reducible repeat (first | apply Kd.R_alloc | apply Kd.R_drewN | apply Kd.R_drew)); exact Kd.R_mono (Kd.R_far (p := ⟨gb181, 1, none⟩) (Kd.R_far (p := ⟨gb181, 0, none⟩) (Kd.R_far (p := ⟨gb182, 1, none⟩) (Kd.R_types (Kd.R_types HO188.out BK182.out (by decide)) BK181.out (by decide)) (fun _ hk => hk.1.2) (.slice Ao16 t186.length co16)) (fun _ hk => hk.2) (.slice Ao11 t183.length co11)) (fun _ hk => hk.2) (.slice Ao16 t186.length co16)) (fun _ hk => trivial), by repeat (first | (with_reducible first | exact HB.out | apply qA | apply qN | apply qD | refine qS ?_ GE180.out | refine qS ?_ GE181.out | refine qS ?_ GE182.out) | exact HB.out)⟩
def impl_isValue.f (a0 : Int) : Option (Bool) := if a0 ≥ 0 then (some (decide (a0 ≤ 96))) else (some false)
set_option maxHeartbeats 8000000 in
set_option maxRecDepth 100000 in
theorem impl_isValue.calls (a0 : Int) (r : Bool) (w : World) (h : impl_isValue.f a0 = some r) :
    Calls Try.prog 154 #[.int .i64 a0] w fun e w' => e = .returned (.bool r) ∧ Drawn0 w w' := by
  have H : (if a0 ≥ 0 then (some (decide (a0 ≤ 96))) else (some false)) = some r := h
  clear h
  by_cases c2 : a0 ≥ 0
  rotate_left
  · rw [if_neg c2] at H
    have c2b0 : decide (0 ≤ a0) = false := decide_eq_false c2
    clear c2
    obtain rfl := Option.some.inj H
    go_enter Try.func154, Try.ntmps154
    go_wp2
    go_ret
    exact ⟨by first | rfl | (simp; done) | (simp [*]; done), by repeat (first | exact Drawn0.refl _ | apply Drawn0.step)⟩
  rw [if_pos c2] at H
  have c2b0 : decide (0 ≤ a0) = true := decide_eq_true c2
  clear c2
  obtain rfl := Option.some.inj H
  go_enter Try.func154, Try.ntmps154
  go_wp2
  go_ret
  exact ⟨by first | rfl | (simp; done) | (simp [*]; done), by repeat (first | exact Drawn0.refl _ | apply Drawn0.step)⟩
def impl_isKey.f (a0 : Int) : Option (Bool) := if a0 ≥ 0 then (some (decide (a0 < 10))) else (some false)
set_option maxHeartbeats 8000000 in
set_option maxRecDepth 100000 in
theorem impl_isKey.calls (a0 : Int) (r : Bool) (w : World) (h : impl_isKey.f a0 = some r) :
    Calls Try.prog 165 #[.int .i64 a0] w fun e w' => e = .returned (.bool r) ∧ Drawn0 w w' := by
  have H : (if a0 ≥ 0 then (some (decide (a0 < 10))) else (some false)) = some r := h
  clear h
  by_cases c2 : a0 ≥ 0
  rotate_left
  · rw [if_neg c2] at H
    have c2b0 : decide (0 ≤ a0) = false := decide_eq_false c2
    clear c2
    obtain rfl := Option.some.inj H
    go_enter Try.func165, Try.ntmps165
    go_wp2
    go_ret
    exact ⟨by first | rfl | (simp; done) | (simp [*]; done), by repeat (first | exact Drawn0.refl _ | apply Drawn0.step)⟩
  rw [if_pos c2] at H
  have c2b0 : decide (0 ≤ a0) = true := decide_eq_true c2
  clear c2
  obtain rfl := Option.some.inj H
  go_enter Try.func165, Try.ntmps165
  go_wp2
  go_ret
  exact ⟨by first | rfl | (simp; done) | (simp [*]; done), by repeat (first | exact Drawn0.refl _ | apply Drawn0.step)⟩
def impl_Task_fits.j0 : Nat → Int → Bool → Int → Int → List (S141) → Option (Bool)
  | 0, _, _, _, _, _ => none
  | k + 1, x4, x27, x190000, x190001, x190002 => if x27 = true then (if x190001 = 0 then (some ((x190002.length : Int) == 2)) else (some false)) else (if x4 = 4 then (if x190001 = 0 then (some ((x190002.length : Int) == 3)) else (some false)) else (if x4 = 5 then ((impl_isKey.f x190001).bind fun t192 => (if t192 = true then (some ((x190002.length : Int) == 1)) else (some false))) else (some false)))
def impl_Task_fits.f (k : Nat) (a0_0 : Int) (a0_1 : Int) (l0_2 : List (S141)) : Option (Bool) := if a0_0 = 0 then ((impl_isValue.f a0_1).bind fun t190 => (if t190 = true then (some ((l0_2.length : Int) == 0)) else (some false))) else (if a0_0 = 1 then ((impl_isKey.f a0_1).bind fun t191 => (if t191 = true then (some ((l0_2.length : Int) == 0)) else (some false))) else (if a0_0 = 2 then (impl_Task_fits.j0 k a0_0 (a0_0 == 2) a0_0 a0_1 l0_2) else (impl_Task_fits.j0 k a0_0 (a0_0 == 3) a0_0 a0_1 l0_2)))
set_option maxHeartbeats 8000000 in
set_option maxRecDepth 100000 in
theorem impl_Task_fits.calls (k : Nat) (a0_0 : Int) (a0_1 : Int) (A0_2 : Option Addr) (c0_2 : Nat) (l0_2 : List (S141)) (r : Bool) (w : World) (hr0_2 : Kd.C k141 w A0_2 l0_2.length l0_2) (hc0_2 : l0_2.length ≤ c0_2) (h : impl_Task_fits.f k a0_0 a0_1 l0_2 = some r) :
    Calls Try.prog 161 #[.agg #[.int .i64 a0_0, .int .i64 a0_1, .slice A0_2 l0_2.length c0_2]] w fun e w' => e = .returned (.bool r) ∧ Below w.heap.size w w' := by
  have hu141 := Try.underlying141
  have HR0_2 := qM hr0_2
  have HC0_2 := qM hc0_2
  clear hr0_2 hc0_2
  have HB := qM (Below.refl w.heap.size w)
  have H : (if a0_0 = 0 then ((impl_isValue.f a0_1).bind fun t190 => (if t190 = true then (some ((l0_2.length : Int) == 0)) else (some false))) else (if a0_0 = 1 then ((impl_isKey.f a0_1).bind fun t191 => (if t191 = true then (some ((l0_2.length : Int) == 0)) else (some false))) else (if a0_0 = 2 then (impl_Task_fits.j0 k a0_0 (a0_0 == 2) a0_0 a0_1 l0_2) else (impl_Task_fits.j0 k a0_0 (a0_0 == 3) a0_0 a0_1 l0_2)))) = some r := h
  clear h
  by_cases c2 : a0_0 = 0
  · rw [if_pos c2] at H
    have c2b0 : (a0_0 == 0) = true := beq_iff_eq.mpr c2
    have c2b1 : (a0_0 != 0) = false := bne_eq_false_iff_eq.mpr c2
    clear c2
    replace H := Option.bind_eq_some_iff.mp H
    obtain ⟨t190, A30, H⟩ := H
    replace H : (if t190 = true then (some ((l0_2.length : Int) == 0)) else (some false)) = some r := H
    have A3 := qM A30
    clear A30
    by_cases c4 : t190 = true
    · subst c4
      have H1 : (some ((l0_2.length : Int) == 0)) = some r := by rw [if_pos rfl] at H; exact H
      clear H
      have H := H1
      clear H1
      obtain rfl := Option.some.inj H
      go_enter Try.func161, Try.ntmps161
      go_wp2_with (first | ((with_reducible refine gate_dst (N := 1) rfl ?_); (try (refine gate_guard (by rfl) ?_; dsimp only)); refine box_event ?hg (N := 1) ?hd (cs := #[.int .i64 a0_0, .int .i64 a0_1, .slice A0_2 l0_2.length c0_2]) (t := 141) ?hr ?_; (case hd => rfl); (case hg => rfl); (case hr => first | (go_simp; done) | (go_simp; rfl)); intro gb189 hg w5 hbox hb; have n0_ := qM (qs (by repeat (first | (with_reducible first | exact HB.out | apply qA | apply qN | apply qD) | exact HB.out)) hb); have n1_ := qM (hbox); have n2_ := qM ((by rw [hg]; exact (qz (by repeat (first | (with_reducible first | exact HB.out | apply qA | apply qN | apply qD) | exact HB.out))) : w.heap.size ≤ gb189)); have n3_ := qM ((by rw [hg]; exact (qz (by repeat (first | (with_reducible first | exact HB.out | apply qA | apply qN | apply qD) | exact HB.out))) : w.heap.size ≤ gb189)); clear HB; have HB := n0_; have BK189 := n1_; have GW189 := n2_; have GE189 := n3_; clear n0_ n1_ n2_ n3_; clear hb hbox hg; have hcz6_0 : w5.cell? ⟨gb189, 0, none⟩ = some (.int .i64 a0_0) := (qC BK189.out 0).trans rfl; have hcz6_1 : w5.cell? ⟨gb189, 1, none⟩ = some (.int .i64 a0_1) := (qC BK189.out 1).trans rfl; have hcz6_2 : w5.cell? ⟨gb189, 2, none⟩ = some (.slice A0_2 l0_2.length c0_2) := (qC BK189.out 2).trans rfl; have hfz6_0 := qF BK189.out 0; have hfz6_1 := qF BK189.out 1; have hfz6_2 := qF BK189.out 2) | ((with_reducible refine gate_callee (f := 154) rfl ?_); refine goesL_ (some 9) rfl rfl Try.func154 (by kernel_rfl) rfl #[.int .i64 a0_1] rfl (by (try simp only [List.map_toArray, List.map_cons, List.map_nil]); first | done | rfl | (simp only [List.length_drop, List.length_take]; rfl)) ?_; (with_reducible refine (impl_isValue.calls a0_1 true _ A3.out).mono ?_); rintro e w' ⟨rfl, ⟨nd, rfl⟩⟩; refine ⟨_, rfl, ?_⟩))
      go_ret
      exact ⟨by first | rfl | (simp [errW_none, errW_some] <;> rfl) | (simp [*, errW_none, errW_some] <;> rfl), by repeat (first | (with_reducible first | exact HB.out | apply qA | apply qN | apply qD | refine qS ?_ GE189.out) | exact HB.out)⟩
    replace c4 := Bool.eq_false_iff.mpr c4
    subst c4
    have H1 : (some false) = some r := by rw [if_neg (show ¬ (false = true) by decide)] at H; exact H
    clear H
    have H := H1
    clear H1
    obtain rfl := Option.some.inj H
    go_enter Try.func161, Try.ntmps161
    go_wp2_with (first | ((with_reducible refine gate_dst (N := 1) rfl ?_); (try (refine gate_guard (by rfl) ?_; dsimp only)); refine box_event ?hg (N := 1) ?hd (cs := #[.int .i64 a0_0, .int .i64 a0_1, .slice A0_2 l0_2.length c0_2]) (t := 141) ?hr ?_; (case hd => rfl); (case hg => rfl); (case hr => first | (go_simp; done) | (go_simp; rfl)); intro gb189 hg w7 hbox hb; have n0_ := qM (qs (by repeat (first | (with_reducible first | exact HB.out | apply qA | apply qN | apply qD) | exact HB.out)) hb); have n1_ := qM (hbox); have n2_ := qM ((by rw [hg]; exact (qz (by repeat (first | (with_reducible first | exact HB.out | apply qA | apply qN | apply qD) | exact HB.out))) : w.heap.size ≤ gb189)); have n3_ := qM ((by rw [hg]; exact (qz (by repeat (first | (with_reducible first | exact HB.out | apply qA | apply qN | apply qD) | exact HB.out))) : w.heap.size ≤ gb189)); clear HB; have HB := n0_; have BK189 := n1_; have GW189 := n2_; have GE189 := n3_; clear n0_ n1_ n2_ n3_; clear hb hbox hg; have hcz8_0 : w7.cell? ⟨gb189, 0, none⟩ = some (.int .i64 a0_0) := (qC BK189.out 0).trans rfl; have hcz8_1 : w7.cell? ⟨gb189, 1, none⟩ = some (.int .i64 a0_1) := (qC BK189.out 1).trans rfl; have hcz8_2 : w7.cell? ⟨gb189, 2, none⟩ = some (.slice A0_2 l0_2.length c0_2) := (qC BK189.out 2).trans rfl; have hfz8_0 := qF BK189.out 0; have hfz8_1 := qF BK189.out 1; have hfz8_2 := qF BK189.out 2) | ((with_reducible refine gate_callee (f := 154) rfl ?_); refine goesL_ (some 9) rfl rfl Try.func154 (by kernel_rfl) rfl #[.int .i64 a0_1] rfl (by (try simp only [List.map_toArray, List.map_cons, List.map_nil]); first | done | rfl | (simp only [List.length_drop, List.length_take]; rfl)) ?_; (with_reducible refine (impl_isValue.calls a0_1 false _ A3.out).mono ?_); rintro e w' ⟨rfl, ⟨nd, rfl⟩⟩; refine ⟨_, rfl, ?_⟩))
    go_ret
    exact ⟨by first | rfl | (simp [errW_none, errW_some] <;> rfl) | (simp [*, errW_none, errW_some] <;> rfl), by repeat (first | (with_reducible first | exact HB.out | apply qA | apply qN | apply qD | refine qS ?_ GE189.out) | exact HB.out)⟩
  rw [if_neg c2] at H
  have c2b0 : (a0_0 == 0) = false := beq_eq_false_iff_ne.mpr c2
  have c2b1 : (a0_0 != 0) = true := bne_iff_ne.mpr c2
  by_cases c9 : a0_0 = 1
  · rw [if_pos c9] at H
    have c9b0 : (a0_0 == 1) = true := beq_iff_eq.mpr c9
    have c9b1 : (a0_0 != 1) = false := bne_eq_false_iff_eq.mpr c9
    clear c9
    replace H := Option.bind_eq_some_iff.mp H
    obtain ⟨t191, A100, H⟩ := H
    replace H : (if t191 = true then (some ((l0_2.length : Int) == 0)) else (some false)) = some r := H
    have A10 := qM A100
    clear A100
    by_cases c11 : t191 = true
    · subst c11
      have H1 : (some ((l0_2.length : Int) == 0)) = some r := by rw [if_pos rfl] at H; exact H
      clear H
      have H := H1
      clear H1
      obtain rfl := Option.some.inj H
      go_enter Try.func161, Try.ntmps161
      go_wp2_with (first | ((with_reducible refine gate_dst (N := 1) rfl ?_); (try (refine gate_guard (by rfl) ?_; dsimp only)); refine box_event ?hg (N := 1) ?hd (cs := #[.int .i64 a0_0, .int .i64 a0_1, .slice A0_2 l0_2.length c0_2]) (t := 141) ?hr ?_; (case hd => rfl); (case hg => rfl); (case hr => first | (go_simp; done) | (go_simp; rfl)); intro gb189 hg w12 hbox hb; have n0_ := qM (qs (by repeat (first | (with_reducible first | exact HB.out | apply qA | apply qN | apply qD) | exact HB.out)) hb); have n1_ := qM (hbox); have n2_ := qM ((by rw [hg]; exact (qz (by repeat (first | (with_reducible first | exact HB.out | apply qA | apply qN | apply qD) | exact HB.out))) : w.heap.size ≤ gb189)); have n3_ := qM ((by rw [hg]; exact (qz (by repeat (first | (with_reducible first | exact HB.out | apply qA | apply qN | apply qD) | exact HB.out))) : w.heap.size ≤ gb189)); clear HB; have HB := n0_; have BK189 := n1_; have GW189 := n2_; have GE189 := n3_; clear n0_ n1_ n2_ n3_; clear hb hbox hg; have hcz13_0 : w12.cell? ⟨gb189, 0, none⟩ = some (.int .i64 a0_0) := (qC BK189.out 0).trans rfl; have hcz13_1 : w12.cell? ⟨gb189, 1, none⟩ = some (.int .i64 a0_1) := (qC BK189.out 1).trans rfl; have hcz13_2 : w12.cell? ⟨gb189, 2, none⟩ = some (.slice A0_2 l0_2.length c0_2) := (qC BK189.out 2).trans rfl; have hfz13_0 := qF BK189.out 0; have hfz13_1 := qF BK189.out 1; have hfz13_2 := qF BK189.out 2) | ((with_reducible refine gate_callee (f := 165) rfl ?_); refine goesL_ (some 20) rfl rfl Try.func165 (by kernel_rfl) rfl #[.int .i64 a0_1] rfl (by (try simp only [List.map_toArray, List.map_cons, List.map_nil]); first | done | rfl | (simp only [List.length_drop, List.length_take]; rfl)) ?_; (with_reducible refine (impl_isKey.calls a0_1 true _ A10.out).mono ?_); rintro e w' ⟨rfl, ⟨nd, rfl⟩⟩; refine ⟨_, rfl, ?_⟩))
      go_ret
      exact ⟨by first | rfl | (simp [errW_none, errW_some] <;> rfl) | (simp [*, errW_none, errW_some] <;> rfl), by repeat (first | (with_reducible first | exact HB.out | apply qA | apply qN | apply qD | refine qS ?_ GE189.out) | exact HB.out)⟩
    replace c11 := Bool.eq_false_iff.mpr c11
    subst c11
    have H1 : (some false) = some r := by rw [if_neg (show ¬ (false = true) by decide)] at H; exact H
    clear H
    have H := H1
    clear H1
    obtain rfl := Option.some.inj H
    go_enter Try.func161, Try.ntmps161
    go_wp2_with (first | ((with_reducible refine gate_dst (N := 1) rfl ?_); (try (refine gate_guard (by rfl) ?_; dsimp only)); refine box_event ?hg (N := 1) ?hd (cs := #[.int .i64 a0_0, .int .i64 a0_1, .slice A0_2 l0_2.length c0_2]) (t := 141) ?hr ?_; (case hd => rfl); (case hg => rfl); (case hr => first | (go_simp; done) | (go_simp; rfl)); intro gb189 hg w14 hbox hb; have n0_ := qM (qs (by repeat (first | (with_reducible first | exact HB.out | apply qA | apply qN | apply qD) | exact HB.out)) hb); have n1_ := qM (hbox); have n2_ := qM ((by rw [hg]; exact (qz (by repeat (first | (with_reducible first | exact HB.out | apply qA | apply qN | apply qD) | exact HB.out))) : w.heap.size ≤ gb189)); have n3_ := qM ((by rw [hg]; exact (qz (by repeat (first | (with_reducible first | exact HB.out | apply qA | apply qN | apply qD) | exact HB.out))) : w.heap.size ≤ gb189)); clear HB; have HB := n0_; have BK189 := n1_; have GW189 := n2_; have GE189 := n3_; clear n0_ n1_ n2_ n3_; clear hb hbox hg; have hcz15_0 : w14.cell? ⟨gb189, 0, none⟩ = some (.int .i64 a0_0) := (qC BK189.out 0).trans rfl; have hcz15_1 : w14.cell? ⟨gb189, 1, none⟩ = some (.int .i64 a0_1) := (qC BK189.out 1).trans rfl; have hcz15_2 : w14.cell? ⟨gb189, 2, none⟩ = some (.slice A0_2 l0_2.length c0_2) := (qC BK189.out 2).trans rfl; have hfz15_0 := qF BK189.out 0; have hfz15_1 := qF BK189.out 1; have hfz15_2 := qF BK189.out 2) | ((with_reducible refine gate_callee (f := 165) rfl ?_); refine goesL_ (some 20) rfl rfl Try.func165 (by kernel_rfl) rfl #[.int .i64 a0_1] rfl (by (try simp only [List.map_toArray, List.map_cons, List.map_nil]); first | done | rfl | (simp only [List.length_drop, List.length_take]; rfl)) ?_; (with_reducible refine (impl_isKey.calls a0_1 false _ A10.out).mono ?_); rintro e w' ⟨rfl, ⟨nd, rfl⟩⟩; refine ⟨_, rfl, ?_⟩))
    go_ret
    exact ⟨by first | rfl | (simp [errW_none, errW_some] <;> rfl) | (simp [*, errW_none, errW_some] <;> rfl), by repeat (first | (with_reducible first | exact HB.out | apply qA | apply qN | apply qD | refine qS ?_ GE189.out) | exact HB.out)⟩
  rw [if_neg c9] at H
  have c9b0 : (a0_0 == 1) = false := beq_eq_false_iff_ne.mpr c9
  have c9b1 : (a0_0 != 1) = true := bne_iff_ne.mpr c9
  have HC16 := qM H
  clear H
  go_enter Try.func161, Try.ntmps161
  go_upto_if 27 with (first | ((with_reducible refine gate_dst (N := 1) rfl ?_); (try (refine gate_guard (by rfl) ?_; dsimp only)); refine box_event ?hg (N := 1) ?hd (cs := #[.int .i64 a0_0, .int .i64 a0_1, .slice A0_2 l0_2.length c0_2]) (t := 141) ?hr ?_; (case hd => rfl); (case hg => rfl); (case hr => first | (go_simp; done) | (go_simp; rfl)); intro gb189 hg w17 hbox hb; have n0_ := qM (qs (by repeat (first | (with_reducible first | exact HB.out | apply qA | apply qN | apply qD) | exact HB.out)) hb); have n1_ := qM (hbox); have n2_ := qM ((by rw [hg]; exact (qz (by repeat (first | (with_reducible first | exact HB.out | apply qA | apply qN | apply qD) | exact HB.out))) : w.heap.size ≤ gb189)); have n3_ := qM ((by rw [hg]; exact (qz (by repeat (first | (with_reducible first | exact HB.out | apply qA | apply qN | apply qD) | exact HB.out))) : w.heap.size ≤ gb189)); clear HB; have HB := n0_; have BK189 := n1_; have GW189 := n2_; have GE189 := n3_; clear n0_ n1_ n2_ n3_; clear hb hbox hg; have hcz18_0 : w17.cell? ⟨gb189, 0, none⟩ = some (.int .i64 a0_0) := (qC BK189.out 0).trans rfl; have hcz18_1 : w17.cell? ⟨gb189, 1, none⟩ = some (.int .i64 a0_1) := (qC BK189.out 1).trans rfl; have hcz18_2 : w17.cell? ⟨gb189, 2, none⟩ = some (.slice A0_2 l0_2.length c0_2) := (qC BK189.out 2).trans rfl; have hfz18_0 := qF BK189.out 0; have hfz18_1 := qF BK189.out 1; have hfz18_2 := qF BK189.out 2))
  (try simp only [Act.put, List.setIfInBounds_toArray, List.set_cons_zero, List.set_cons_succ])
  go_cut [27] (fun v27 wc => ∃ (kq : Nat) (x27_15 : Bool), v27 = .bool x27_15 ∧ Aside0 (impl_Task_fits.j0 kq a0_0 x27_15 a0_0 a0_1 l0_2 = some r) ∧ Aside0 (kq ≤ k) ∧ Aside0 (wc.heap[gb189]? = some (.cells #[.int .i64 a0_0, .int .i64 a0_1, (.slice A0_2 l0_2.length c0_2)] 141 (0, 0))) ∧ Aside0 (Below w.heap.size w wc))
  case first =>
    have H := HC16.out
    clear HC16
    by_cases c19 : a0_0 = 2
    rotate_left
    · rw [if_neg c19] at H
      have c19b0 : (a0_0 == 2) = false := beq_eq_false_iff_ne.mpr c19
      have c19b1 : (a0_0 != 2) = true := bne_iff_ne.mpr c19
      (first | rw [c19b0] | (simp only [i64_w, i32_w]; rw [c19b0]) | skip)
      have H' := qM H
      clear H
      go_wp2
      go_meet
      case rel => exact ⟨_, ((a0_0 == 3)), (by first | rfl | (simp; done) | (simp [*]; done)), H', ⟨by first | omega | exact Nat.le_refl _⟩, ⟨by (with_reducible repeat (first | refine qn ?_ _ | refine qd ?_ | refine qa ?_ _)); exact BK189.out⟩, ⟨by repeat (first | (with_reducible first | exact HB.out | apply qA | apply qN | apply qD | refine qS ?_ GE189.out) | exact HB.out)⟩⟩
    rw [if_pos c19] at H
    have c19b0 : (a0_0 == 2) = true := beq_iff_eq.mpr c19
    have c19b1 : (a0_0 != 2) = false := bne_eq_false_iff_eq.mpr c19
    clear c19
    (first | rw [c19b0] | (simp only [i64_w, i32_w]; rw [c19b0]) | skip)
    have H' := qM H
    clear H
    go_wp2
    go_meet
    case rel => exact ⟨_, ((a0_0 == 2)), (by first | rfl | (simp; done) | (simp [*]; done)), H', ⟨by first | omega | exact Nat.le_refl _⟩, ⟨by (with_reducible repeat (first | refine qn ?_ _ | refine qd ?_ | refine qa ?_ _)); exact BK189.out⟩, ⟨by repeat (first | (with_reducible first | exact HB.out | apply qA | apply qN | apply qD | refine qS ?_ GE189.out) | exact HB.out)⟩⟩
  case rest =>
    clear HC16
    try clear c1
    try clear c2
    try clear c2b0
    try clear c2b1
    try clear p2
    try clear c4
    try clear c9
    try clear c9b0
    try clear c9b1
    try clear c11
    try clear c15
    try clear c16
    try clear c19
    try clear c19b0
    try clear c19b1
    try clear hcz13_0
    try clear hcz13_1
    try clear hcz13_2
    try clear hcz15_0
    try clear hcz15_1
    try clear hcz15_2
    try clear hcz18_0
    try clear hcz18_1
    try clear hcz18_2
    try clear hcz6_0
    try clear hcz6_1
    try clear hcz6_2
    try clear hcz8_0
    try clear hcz8_1
    try clear hcz8_2
    try clear hfz13_0
    try clear hfz13_1
    try clear hfz13_2
    try clear hfz15_0
    try clear hfz15_1
    try clear hfz15_2
    try clear hfz18_0
    try clear hfz18_1
    try clear hfz18_2
    try clear hfz6_0
    try clear hfz6_1
    try clear hfz6_2
    try clear hfz8_0
    try clear hfz8_1
    try clear hfz8_2
    obtain ⟨kq, x27_15, rfl, HA, HJ15, BK189, HB⟩ := hcut
    cases kq with
    | zero => exact absurd HA.out (by simp [impl_Task_fits.j0])
    | succ kj15 =>
      have H := HA.out
      clear HA
      simp only [impl_Task_fits.j0] at H
      by_cases c20 : x27_15 = true
      · subst c20
        have H1 : (if a0_1 = 0 then (some ((l0_2.length : Int) == 2)) else (some false)) = some r := by rw [if_pos rfl] at H; exact H
        clear H
        have H := H1
        clear H1
        by_cases c21 : a0_1 = 0
        rotate_left
        · rw [if_neg c21] at H
          have c21b0 : (a0_1 == 0) = false := beq_eq_false_iff_ne.mpr c21
          have c21b1 : (a0_1 != 0) = true := bne_iff_ne.mpr c21
          obtain rfl := Option.some.inj H
          have hcz23_0 : wc.cell? ⟨gb189, 0, none⟩ = some (.int .i64 a0_0) := (qC BK189.out 0).trans rfl
          have hcz23_1 : wc.cell? ⟨gb189, 1, none⟩ = some (.int .i64 a0_1) := (qC BK189.out 1).trans rfl
          have hcz23_2 : wc.cell? ⟨gb189, 2, none⟩ = some (.slice A0_2 l0_2.length c0_2) := (qC BK189.out 2).trans rfl
          have hfz23_0 := qF BK189.out 0
          have hfz23_1 := qF BK189.out 1
          have hfz23_2 := qF BK189.out 2
          go_wp2
          go_ret
          exact ⟨by first | rfl | (simp [errW_none, errW_some] <;> rfl) | (simp [*, errW_none, errW_some] <;> rfl), by repeat (first | (with_reducible first | exact HB.out | apply qA | apply qN | apply qD | refine qS ?_ GE189.out) | exact HB.out)⟩
        rw [if_pos c21] at H
        have c21b0 : (a0_1 == 0) = true := beq_iff_eq.mpr c21
        have c21b1 : (a0_1 != 0) = false := bne_eq_false_iff_eq.mpr c21
        clear c21
        obtain rfl := Option.some.inj H
        have hcz22_0 : wc.cell? ⟨gb189, 0, none⟩ = some (.int .i64 a0_0) := (qC BK189.out 0).trans rfl
        have hcz22_1 : wc.cell? ⟨gb189, 1, none⟩ = some (.int .i64 a0_1) := (qC BK189.out 1).trans rfl
        have hcz22_2 : wc.cell? ⟨gb189, 2, none⟩ = some (.slice A0_2 l0_2.length c0_2) := (qC BK189.out 2).trans rfl
        have hfz22_0 := qF BK189.out 0
        have hfz22_1 := qF BK189.out 1
        have hfz22_2 := qF BK189.out 2
        go_wp2
        go_ret
        exact ⟨by first | rfl | (simp [errW_none, errW_some] <;> rfl) | (simp [*, errW_none, errW_some] <;> rfl), by repeat (first | (with_reducible first | exact HB.out | apply qA | apply qN | apply qD | refine qS ?_ GE189.out) | exact HB.out)⟩
      replace c20 := Bool.eq_false_iff.mpr c20
      subst c20
      have H1 : (if a0_0 = 4 then (if a0_1 = 0 then (some ((l0_2.length : Int) == 3)) else (some false)) else (if a0_0 = 5 then ((impl_isKey.f a0_1).bind fun t192 => (if t192 = true then (some ((l0_2.length : Int) == 1)) else (some false))) else (some false))) = some r := by rw [if_neg (show ¬ (false = true) by decide)] at H; exact H
      clear H
      have H := H1
      clear H1
      by_cases c24 : a0_0 = 4
      · rw [if_pos c24] at H
        have c24b0 : (a0_0 == 4) = true := beq_iff_eq.mpr c24
        have c24b1 : (a0_0 != 4) = false := bne_eq_false_iff_eq.mpr c24
        clear c24
        by_cases c25 : a0_1 = 0
        rotate_left
        · rw [if_neg c25] at H
          have c25b0 : (a0_1 == 0) = false := beq_eq_false_iff_ne.mpr c25
          have c25b1 : (a0_1 != 0) = true := bne_iff_ne.mpr c25
          obtain rfl := Option.some.inj H
          have hcz27_0 : wc.cell? ⟨gb189, 0, none⟩ = some (.int .i64 a0_0) := (qC BK189.out 0).trans rfl
          have hcz27_1 : wc.cell? ⟨gb189, 1, none⟩ = some (.int .i64 a0_1) := (qC BK189.out 1).trans rfl
          have hcz27_2 : wc.cell? ⟨gb189, 2, none⟩ = some (.slice A0_2 l0_2.length c0_2) := (qC BK189.out 2).trans rfl
          have hfz27_0 := qF BK189.out 0
          have hfz27_1 := qF BK189.out 1
          have hfz27_2 := qF BK189.out 2
          go_wp2
          go_ret
          exact ⟨by first | rfl | (simp [errW_none, errW_some] <;> rfl) | (simp [*, errW_none, errW_some] <;> rfl), by repeat (first | (with_reducible first | exact HB.out | apply qA | apply qN | apply qD | refine qS ?_ GE189.out) | exact HB.out)⟩
        rw [if_pos c25] at H
        have c25b0 : (a0_1 == 0) = true := beq_iff_eq.mpr c25
        have c25b1 : (a0_1 != 0) = false := bne_eq_false_iff_eq.mpr c25
        clear c25
        obtain rfl := Option.some.inj H
        have hcz26_0 : wc.cell? ⟨gb189, 0, none⟩ = some (.int .i64 a0_0) := (qC BK189.out 0).trans rfl
        have hcz26_1 : wc.cell? ⟨gb189, 1, none⟩ = some (.int .i64 a0_1) := (qC BK189.out 1).trans rfl
        have hcz26_2 : wc.cell? ⟨gb189, 2, none⟩ = some (.slice A0_2 l0_2.length c0_2) := (qC BK189.out 2).trans rfl
        have hfz26_0 := qF BK189.out 0
        have hfz26_1 := qF BK189.out 1
        have hfz26_2 := qF BK189.out 2
        go_wp2
        go_ret
        exact ⟨by first | rfl | (simp [errW_none, errW_some] <;> rfl) | (simp [*, errW_none, errW_some] <;> rfl), by repeat (first | (with_reducible first | exact HB.out | apply qA | apply qN | apply qD | refine qS ?_ GE189.out) | exact HB.out)⟩
      rw [if_neg c24] at H
      have c24b0 : (a0_0 == 4) = false := beq_eq_false_iff_ne.mpr c24
      have c24b1 : (a0_0 != 4) = true := bne_iff_ne.mpr c24
      by_cases c28 : a0_0 = 5
      rotate_left
      · rw [if_neg c28] at H
        have c28b0 : (a0_0 == 5) = false := beq_eq_false_iff_ne.mpr c28
        have c28b1 : (a0_0 != 5) = true := bne_iff_ne.mpr c28
        obtain rfl := Option.some.inj H
        go_wp2
        go_ret
        exact ⟨by first | rfl | (simp [errW_none, errW_some] <;> rfl) | (simp [*, errW_none, errW_some] <;> rfl), by repeat (first | (with_reducible first | exact HB.out | apply qA | apply qN | apply qD | refine qS ?_ GE189.out) | exact HB.out)⟩
      rw [if_pos c28] at H
      have c28b0 : (a0_0 == 5) = true := beq_iff_eq.mpr c28
      have c28b1 : (a0_0 != 5) = false := bne_eq_false_iff_eq.mpr c28
      clear c28
      replace H := Option.bind_eq_some_iff.mp H
      obtain ⟨t192, A290, H⟩ := H
      replace H : (if t192 = true then (some ((l0_2.length : Int) == 1)) else (some false)) = some r := H
      have A29 := qM A290
      clear A290
      by_cases c30 : t192 = true
      · subst c30
        have H1 : (some ((l0_2.length : Int) == 1)) = some r := by rw [if_pos rfl] at H; exact H
        clear H
        have H := H1
        clear H1
        obtain rfl := Option.some.inj H
        have hcz31_0 : wc.cell? ⟨gb189, 0, none⟩ = some (.int .i64 a0_0) := (qC BK189.out 0).trans rfl
        have hcz31_1 : wc.cell? ⟨gb189, 1, none⟩ = some (.int .i64 a0_1) := (qC BK189.out 1).trans rfl
        have hcz31_2 : wc.cell? ⟨gb189, 2, none⟩ = some (.slice A0_2 l0_2.length c0_2) := (qC BK189.out 2).trans rfl
        have hfz31_0 := qF BK189.out 0
        have hfz31_1 := qF BK189.out 1
        have hfz31_2 := qF BK189.out 2
        go_wp2_with (first | ((with_reducible refine gate_callee (f := 165) rfl ?_); refine goesL_ (some 54) rfl rfl Try.func165 (by kernel_rfl) rfl #[.int .i64 a0_1] rfl (by (try simp only [List.map_toArray, List.map_cons, List.map_nil]); first | done | rfl | (simp only [List.length_drop, List.length_take]; rfl)) ?_; (with_reducible refine (impl_isKey.calls a0_1 true _ A29.out).mono ?_); rintro e w' ⟨rfl, ⟨nd, rfl⟩⟩; refine ⟨_, rfl, ?_⟩))
        go_ret
        exact ⟨by first | rfl | (simp [errW_none, errW_some] <;> rfl) | (simp [*, errW_none, errW_some] <;> rfl), by repeat (first | (with_reducible first | exact HB.out | apply qA | apply qN | apply qD | refine qS ?_ GE189.out) | exact HB.out)⟩
      replace c30 := Bool.eq_false_iff.mpr c30
      subst c30
      have H1 : (some false) = some r := by rw [if_neg (show ¬ (false = true) by decide)] at H; exact H
      clear H
      have H := H1
      clear H1
      obtain rfl := Option.some.inj H
      have hcz32_0 : wc.cell? ⟨gb189, 0, none⟩ = some (.int .i64 a0_0) := (qC BK189.out 0).trans rfl
      have hcz32_1 : wc.cell? ⟨gb189, 1, none⟩ = some (.int .i64 a0_1) := (qC BK189.out 1).trans rfl
      have hcz32_2 : wc.cell? ⟨gb189, 2, none⟩ = some (.slice A0_2 l0_2.length c0_2) := (qC BK189.out 2).trans rfl
      have hfz32_0 := qF BK189.out 0
      have hfz32_1 := qF BK189.out 1
      have hfz32_2 := qF BK189.out 2
      go_wp2_with (first | ((with_reducible refine gate_callee (f := 165) rfl ?_); refine goesL_ (some 54) rfl rfl Try.func165 (by kernel_rfl) rfl #[.int .i64 a0_1] rfl (by (try simp only [List.map_toArray, List.map_cons, List.map_nil]); first | done | rfl | (simp only [List.length_drop, List.length_take]; rfl)) ?_; (with_reducible refine (impl_isKey.calls a0_1 false _ A29.out).mono ?_); rintro e w' ⟨rfl, ⟨nd, rfl⟩⟩; refine ⟨_, rfl, ?_⟩))
      go_ret
      exact ⟨by first | rfl | (simp [errW_none, errW_some] <;> rfl) | (simp [*, errW_none, errW_some] <;> rfl), by repeat (first | (with_reducible first | exact HB.out | apply qA | apply qN | apply qD | refine qS ?_ GE189.out) | exact HB.out)⟩
end Go.Proofs.Ythfemojaabejiaa.G
end
section
namespace Go.Proofs.Ythfemojaabejiaa.G
open Go.RowKit Go.Proofs.YthfemojaabejiaaW.PrintWords Go.Proofs.YthfemojaabejiaaW.PrintLast Go.Proofs.YthfemojaabejiaaW.PrintMore
attribute [local go_sem] max2_int min2_int max_two min_two max_three min_three max_four min_four
set_option linter.unusedVariables false
set_option linter.unusedSimpArgs false
mutual
def impl_Task_countTo.j0 : Nat → Int → Bool → Int → Int → List (S141) → Option (Int)
  | 0, _, _, _, _, _ => none
  | k + 1, x1, x14, x194000, x194001, x194002 => if x14 = true then (some 16) else (impl_Task_countTo.l0 k x1 1 x194002 (x194002.length : Int) 0)
def impl_Task_countTo.l0 : Nat → Int → Int → List (S141) → Int → Int → Option (Int)
  | 0, _, _, _, _, _ => none
  | k + 1, x1, x5, x16, x17, x18 => if x18 < x17 then (if 0 ≤ x18 then (if x18 < (x16.length : Int) then (if x5 > x1 then (some 16) else ((impl_Task_countTo.f k ((rd_T141 x16 x18).f0) ((rd_T141 x16 x18).f1) ((rd_T141 x16 x18).f2) (wrap64 (x1 - x5))).bind fun t197 => (impl_Task_countTo.l0 k x1 (wrap64 (x5 + t197)) x16 x17 (wrap64 (x18 + 1))))) else (none)) else (none)) else (some x5)
def impl_Task_countTo.f : Nat → Int → Int → List (S141) → Int → Option (Int)
  | 0, _, _, _, _ => none
  | k + 1, a0_0, a0_1, l0_2, a1 => if a1 < 1 then (impl_Task_countTo.j0 k a1 true a0_0 a0_1 l0_2) else ((impl_Task_fits.f k a0_0 a0_1 l0_2).bind fun t194 => (impl_Task_countTo.j0 k a1 (!t194) a0_0 a0_1 l0_2))
end
set_option maxHeartbeats 8000000 in
set_option maxRecDepth 100000 in
theorem impl_Task_countTo.calls (k : Nat) : ∀ (a0_0 : Int) (a0_1 : Int) (A0_2 : Option Addr) (c0_2 : Nat) (l0_2 : List (S141)) (a1 : Int) (r : Int) (w : World) (hr0_2 : Kd.C k141 w A0_2 l0_2.length l0_2) (hc0_2 : l0_2.length ≤ c0_2) (h : impl_Task_countTo.f k a0_0 a0_1 l0_2 a1 = some r),
    Calls Try.prog 162 #[.agg #[.int .i64 a0_0, .int .i64 a0_1, .slice A0_2 l0_2.length c0_2], .int .i64 a1] w fun e w' => e = .returned (.int .i64 r) ∧ Below w.heap.size w w' := by
  induction k using Nat.strongRecOn with
  | _ k ih =>
  intro a0_0 a0_1 A0_2 c0_2 l0_2 a1 r w hr0_2 hc0_2 h
  cases k with
  | zero => exact absurd h (by simp [impl_Task_countTo.f])
  | succ k =>
  simp only [impl_Task_countTo.f] at h
  have hu141 := Try.underlying141
  have HR0_2 := qM hr0_2
  have HC0_2 := qM hc0_2
  clear hr0_2 hc0_2
  have HB := qM (Below.refl w.heap.size w)
  have H : (if a1 < 1 then (impl_Task_countTo.j0 k a1 true a0_0 a0_1 l0_2) else ((impl_Task_fits.f k a0_0 a0_1 l0_2).bind fun t194 => (impl_Task_countTo.j0 k a1 (!t194) a0_0 a0_1 l0_2))) = some r := h
  clear h
  have HC3 := qM H
  clear H
  go_enter Try.func162, Try.ntmps162
  go_upto_region 1 with (first | ((with_reducible refine gate_dst (N := 2) rfl ?_); refine box_event ?hg (N := 2) ?hd (cs := #[.int .i64 a0_0, .int .i64 a0_1, .slice A0_2 l0_2.length c0_2]) (t := 141) ?hr ?_; (case hd => rfl); (case hg => rfl); (case hr => first | (go_simp; done) | (go_simp; rfl)); intro gb193 hg w4 hbox hb; have n0_ := qM (qs (by repeat (first | (with_reducible first | exact HB.out | apply qA | apply qN | apply qD) | exact HB.out)) hb); have n1_ := qM (hbox); have n2_ := qM ((by rw [hg]; exact (qz (by repeat (first | (with_reducible first | exact HB.out | apply qA | apply qN | apply qD) | exact HB.out))) : w.heap.size ≤ gb193)); have n3_ := qM ((by rw [hg]; exact (qz (by repeat (first | (with_reducible first | exact HB.out | apply qA | apply qN | apply qD) | exact HB.out))) : w.heap.size ≤ gb193)); clear HB; have HB := n0_; have BK193 := n1_; have GW193 := n2_; have GE193 := n3_; clear n0_ n1_ n2_ n3_; clear hb hbox hg))
  (try simp only [Act.put, List.setIfInBounds_toArray, List.set_cons_zero, List.set_cons_succ])
  go_cut [14] (fun v14 wc => ∃ (kq : Nat) (x14_2 : Bool), v14 = .bool x14_2 ∧ Aside0 (impl_Task_countTo.j0 kq a1 x14_2 a0_0 a0_1 l0_2 = some r) ∧ Aside0 (kq ≤ k) ∧ Aside0 (wc.heap[gb193]? = some (.cells #[.int .i64 a0_0, .int .i64 a0_1, (.slice A0_2 l0_2.length c0_2)] 141 (0, 0))) ∧ Aside0 (Below w.heap.size w wc))
  case first =>
    have H := HC3.out
    clear HC3
    by_cases c5 : a1 < 1
    · rw [if_pos c5] at H
      have c5b0 : decide (a1 < 1) = true := decide_eq_true c5
      clear c5
      (first | rw [c5b0] | (simp only [i64_w, i32_w]; rw [c5b0]) | skip)
      have H' := qM H
      clear H
      go_wp2
      go_meet
      case rel => exact ⟨_, (true), (by first | rfl | (simp; done) | (simp [*]; done)), H', ⟨by first | omega | exact Nat.le_refl _⟩, ⟨by (with_reducible repeat (first | refine qn ?_ _ | refine qd ?_ | refine qa ?_ _)); exact BK193.out⟩, ⟨by repeat (first | (with_reducible first | exact HB.out | apply qA | apply qN | apply qD | refine qS ?_ GE193.out) | exact HB.out)⟩⟩
    rw [if_neg c5] at H
    have c5b0 : decide (a1 < 1) = false := decide_eq_false c5
    clear c5
    (first | rw [c5b0] | (simp only [i64_w, i32_w]; rw [c5b0]) | skip)
    replace H := Option.bind_eq_some_iff.mp H
    obtain ⟨t194, A60, H⟩ := H
    replace H : (impl_Task_countTo.j0 k a1 (!t194) a0_0 a0_1 l0_2) = some r := H
    have A6 := qM A60
    clear A60
    have H' := qM H
    clear H
    have hcz7_0 : w4.cell? ⟨gb193, 0, none⟩ = some (.int .i64 a0_0) := (qC BK193.out 0).trans rfl
    have hcz7_1 : w4.cell? ⟨gb193, 1, none⟩ = some (.int .i64 a0_1) := (qC BK193.out 1).trans rfl
    have hcz7_2 : w4.cell? ⟨gb193, 2, none⟩ = some (.slice A0_2 l0_2.length c0_2) := (qC BK193.out 2).trans rfl
    have hfz7_0 := qF BK193.out 0
    have hfz7_1 := qF BK193.out 1
    have hfz7_2 := qF BK193.out 2
    go_wp2_with (first | (go_at_call 161; (with_reducible refine (impl_Task_fits.calls k a0_0 a0_1 _ _ l0_2 t194 _ ?side1 ?side2 A6.out).mono ?_); (case side1 => repeat (first | exact (qB HR0_2.out HB.out) | (with_reducible refine qc ?_ _) | (with_reducible refine qe ?_ _) | (with_reducible refine qf ?_))); (case side2 => exact HC0_2.out); rintro e w8 ⟨rfl, hb⟩; have n0_ := qM (blk_below (g := gb193) (o := .cells #[.int .i64 a0_0, .int .i64 a0_1, .slice A0_2 l0_2.length c0_2] 141 (0, 0)) (by (with_reducible repeat (first | refine qn ?_ _ | refine qd ?_ | refine qa ?_ _)); exact BK193.out) hb); have n1_ := qM (qs (by repeat (first | (with_reducible first | exact HB.out | apply qA | apply qN | apply qD | refine qS ?_ GE193.out) | exact HB.out)) hb); clear BK193; clear HB; have BK193 := n0_; have HB := n1_; clear n0_ n1_; (try clear hb); (try clear hb2); (try clear hk); (try clear hi)))
    go_meet
    case rel => exact ⟨_, (!t194), (by first | rfl | (simp; done) | (simp [*]; done)), H', ⟨by first | omega | exact Nat.le_refl _⟩, ⟨by (with_reducible repeat (first | refine qn ?_ _ | refine qd ?_ | refine qa ?_ _)); exact BK193.out⟩, ⟨by repeat (first | (with_reducible first | exact HB.out | apply qA | apply qN | apply qD | refine qS ?_ GE193.out) | exact HB.out)⟩⟩
  case rest =>
    clear HC3
    try clear c1
    try clear p2
    try clear c5
    try clear c5b0
    try clear hcz7_0
    try clear hcz7_1
    try clear hcz7_2
    try clear hfz7_0
    try clear hfz7_1
    try clear hfz7_2
    obtain ⟨kq, x14_2, rfl, HA, HJ2, BK193, HB⟩ := hcut
    cases kq with
    | zero => exact absurd HA.out (by simp [impl_Task_countTo.j0])
    | succ kj2 =>
      have H := HA.out
      clear HA
      simp only [impl_Task_countTo.j0] at H
      by_cases c9 : x14_2 = true
      · subst c9
        have H1 : (some 16) = some r := by rw [if_pos rfl] at H; exact H
        clear H
        have H := H1
        clear H1
        obtain rfl := Option.some.inj H
        go_wp2
        go_ret
        exact ⟨by first | rfl | (simp [errW_none, errW_some] <;> rfl) | (simp [*, errW_none, errW_some] <;> rfl), by repeat (first | (with_reducible first | exact HB.out | apply qA | apply qN | apply qD | refine qS ?_ GE193.out) | exact HB.out)⟩
      replace c9 := Bool.eq_false_iff.mpr c9
      subst c9
      have H1 : (impl_Task_countTo.l0 kj2 a1 1 l0_2 (l0_2.length : Int) 0) = some r := by rw [if_neg (show ¬ (false = true) by decide)] at H; exact H
      clear H
      have H := H1
      clear H1
      have H' := qM H
      clear H
      have hcz10_0 : wc.cell? ⟨gb193, 0, none⟩ = some (.int .i64 a0_0) := (qC BK193.out 0).trans rfl
      have hcz10_1 : wc.cell? ⟨gb193, 1, none⟩ = some (.int .i64 a0_1) := (qC BK193.out 1).trans rfl
      have hcz10_2 : wc.cell? ⟨gb193, 2, none⟩ = some (.slice A0_2 l0_2.length c0_2) := (qC BK193.out 2).trans rfl
      have hfz10_0 := qF BK193.out 0
      have hfz10_1 := qF BK193.out 1
      have hfz10_2 := qF BK193.out 2
      go_wp2
      go_loopg [5, 18] kj2 (fun kq v5 v18 w' => ∃ (x5_2 : Int) (x18_2 : Int), v5 = .int .i64 x5_2 ∧ v18 = .int .i64 x18_2 ∧ Aside0 (impl_Task_countTo.l0 kq a1 x5_2 l0_2 (l0_2.length : Int) x18_2 = some r) ∧ Aside0 (kq ≤ kj2) ∧ Aside0 (w'.heap[gb193]? = some (.cells #[.int .i64 a0_0, .int .i64 a0_1, (.slice A0_2 l0_2.length c0_2)] 141 (0, 0))) ∧ Aside0 (Below w.heap.size w w'))
      case atStart => exact ⟨(1), (0), (by first | rfl | (simp; done) | (simp [*]; done)), (by first | rfl | (simp; done) | (simp [*]; done)), H', ⟨Nat.le_refl _⟩, ⟨by (with_reducible repeat (first | refine qn ?_ _ | refine qd ?_ | refine qa ?_ _)); exact BK193.out⟩, ⟨by repeat (first | (with_reducible first | exact HB.out | apply qA | apply qN | apply qD | refine qS ?_ GE193.out) | exact HB.out)⟩⟩
      case round =>
        clear H'
        try clear c1
        try clear p2
        try clear c5
        try clear c5b0
        try clear c9
        try clear hcz10_0
        try clear hcz10_1
        try clear hcz10_2
        try clear hcz7_0
        try clear hcz7_1
        try clear hcz7_2
        try clear hfz10_0
        try clear hfz10_1
        try clear hfz10_2
        try clear hfz7_0
        try clear hfz7_1
        try clear hfz7_2
        try clear p2
        obtain ⟨x5_2, x18_2, rfl, rfl, HA, HK2, BK193, HB⟩ := hrel
        cases gk with
        | zero => exact absurd HA.out (by simp [impl_Task_countTo.l0])
        | succ k2 =>
          have H := HA.out
          clear HA
          simp only [impl_Task_countTo.l0] at H
          by_cases c11 : x18_2 < (l0_2.length : Int)
          rotate_left
          · rw [if_neg c11] at H
            have c11b0 : decide (x18_2 < (l0_2.length : Int)) = false := decide_eq_false c11
            clear c11
            obtain rfl := Option.some.inj H
            go_wp2
            go_ret
            exact ⟨by first | rfl | (simp [errW_none, errW_some] <;> rfl) | (simp [*, errW_none, errW_some] <;> rfl), by repeat (first | (with_reducible first | exact HB.out | apply qA | apply qN | apply qD | refine qS ?_ GE193.out) | exact HB.out)⟩
          rw [if_pos c11] at H
          have c11b0 : decide (x18_2 < (l0_2.length : Int)) = true := decide_eq_true c11
          clear c11
          by_cases c12 : 0 ≤ x18_2
          rotate_left
          · rw [if_neg c12] at H
            exact absurd H (by simp)
          rw [if_pos c12] at H
          have c12b0 : decide (0 ≤ x18_2) = true := decide_eq_true c12
          clear c12
          by_cases c13 : x18_2 < (l0_2.length : Int)
          rotate_left
          · rw [if_neg c13] at H
            exact absurd H (by simp)
          rw [if_pos c13] at H
          have c13b0 : decide (x18_2 < (l0_2.length : Int)) = true := decide_eq_true c13
          clear c13
          by_cases c14 : x5_2 > a1
          · rw [if_pos c14] at H
            have c14b0 : decide (a1 < x5_2) = true := decide_eq_true c14
            clear c14
            obtain rfl := Option.some.inj H
            have p195 : 0 ≤ (x18_2 : Int) := qO (by first | (with_reducible assumption) | assumption)
            have q195 : x18_2 < (l0_2.length : Int) := qO (by first | (with_reducible assumption) | assumption)
            obtain ⟨ad195, A195_2, c195_2, e195, hx195_0, hx195_1, hx195_2, hl195_2, hi195_2⟩ := at_T141 HR0_2.out x18_2 p195 q195
            cases e195
            replace hx195_0 := (HB.out.cell (qL w _ hx195_0)).trans hx195_0
            replace hx195_1 := (HB.out.cell (qL w _ hx195_1)).trans hx195_1
            replace hx195_2 := (HB.out.cell (qL w _ hx195_2)).trans hx195_2
            have HR195_2 := qM hi195_2
            have HC195_2 := qM hl195_2
            clear hi195_2 hl195_2
            replace p195 := eq_true p195
            replace q195 := eq_true q195
            go_wp2_with (first | ((with_reducible refine gate_dst (N := 7) rfl ?_); refine box_event ?hg (N := 7) ?hd (cs := #[.int .i64 0, .int .i64 0, .slice none 0 0]) (t := 141) ?hr ?_; (case hd => rfl); (case hg => rfl); (case hr => first | (go_simp; done) | (go_simp; rfl)); intro gb196 hg w15 hbox hb; have n0_ := qM (blk_below (g := gb193) (o := .cells #[.int .i64 a0_0, .int .i64 a0_1, .slice (some ad195) l0_2.length c0_2] 141 (0, 0)) (by (with_reducible repeat (first | refine qn ?_ _ | refine qd ?_ | refine qa ?_ _)); exact BK193.out) hb); have n1_ := qM (qs (by repeat (first | (with_reducible first | exact HB.out | apply qA | apply qN | apply qD | refine qS ?_ GE193.out) | exact HB.out)) hb); have n2_ := qM (hbox); have n3_ := qM ((by rw [hg]; exact (qz (by repeat (first | (with_reducible first | exact HB.out | apply qA | apply qN | apply qD | refine qS ?_ GE193.out) | exact HB.out))) : w.heap.size ≤ gb196)); have n4_ := qM ((by rw [hg]; exact (qz (by repeat (first | (with_reducible first | exact HB.out | apply qA | apply qN | apply qD | refine qS ?_ GE193.out) | exact HB.out))) : w.heap.size ≤ gb196)); have n5_ := qM ((by rw [hg]; exact Nat.ne_of_lt (blk_lt (g := gb193) (o := .cells #[.int .i64 a0_0, .int .i64 a0_1, .slice (some ad195) l0_2.length c0_2] 141 (0, 0)) (by (with_reducible repeat (first | refine qn ?_ _ | refine qd ?_ | refine qa ?_ _)); exact BK193.out)) : gb193 ≠ gb196)); have n6_ := qM ((by rw [hg]; exact Nat.ne_of_gt (blk_lt (g := gb193) (o := .cells #[.int .i64 a0_0, .int .i64 a0_1, .slice (some ad195) l0_2.length c0_2] 141 (0, 0)) (by (with_reducible repeat (first | refine qn ?_ _ | refine qd ?_ | refine qa ?_ _)); exact BK193.out)) : gb196 ≠ gb193)); clear BK193; clear HB; have BK193 := n0_; have HB := n1_; have BK196 := n2_; have GW196 := n3_; have GE196 := n4_; have NB193_196 := n5_; have NB196_193 := n6_; clear n0_ n1_ n2_ n3_ n4_ n5_ n6_; clear hb hbox hg; have hnb16 := NB196_193.out; have hnc16 := NB193_196.out; have hcz17_0 : w15.cell? ⟨gb196, 0, none⟩ = some (.int .i64 0) := (qC BK196.out 0).trans rfl; have hcz17_1 : w15.cell? ⟨gb196, 1, none⟩ = some (.int .i64 0) := (qC BK196.out 1).trans rfl; have hcz17_2 : w15.cell? ⟨gb196, 2, none⟩ = some (.slice none 0 0) := (qC BK196.out 2).trans rfl; have hfz17_0 := qF BK196.out 0; have hfz17_1 := qF BK196.out 1; have hfz17_2 := qF BK196.out 2))
            go_ret
            exact ⟨by first | rfl | (simp [errW_none, errW_some] <;> rfl) | (simp [*, errW_none, errW_some] <;> rfl), by repeat (first | (with_reducible first | exact HB.out | apply qA | apply qN | apply qD | refine qS ?_ GE193.out | refine qS ?_ GE196.out) | exact HB.out)⟩
          rw [if_neg c14] at H
          have c14b0 : decide (a1 < x5_2) = false := decide_eq_false c14
          clear c14
          replace H := Option.bind_eq_some_iff.mp H
          obtain ⟨t197, A180, H⟩ := H
          replace H : (impl_Task_countTo.l0 k2 a1 (wrap64 (x5_2 + t197)) l0_2 (l0_2.length : Int) (wrap64 (x18_2 + 1))) = some r := H
          have A18 := qM A180
          clear A180
          have H' := qM H
          clear H
          have p195 : 0 ≤ (x18_2 : Int) := qO (by first | (with_reducible assumption) | assumption)
          have q195 : x18_2 < (l0_2.length : Int) := qO (by first | (with_reducible assumption) | assumption)
          obtain ⟨ad195, A195_2, c195_2, e195, hx195_0, hx195_1, hx195_2, hl195_2, hi195_2⟩ := at_T141 HR0_2.out x18_2 p195 q195
          cases e195
          replace hx195_0 := (HB.out.cell (qL w _ hx195_0)).trans hx195_0
          replace hx195_1 := (HB.out.cell (qL w _ hx195_1)).trans hx195_1
          replace hx195_2 := (HB.out.cell (qL w _ hx195_2)).trans hx195_2
          have HR195_2 := qM hi195_2
          have HC195_2 := qM hl195_2
          clear hi195_2 hl195_2
          replace p195 := eq_true p195
          replace q195 := eq_true q195
          go_wp2_with (first | ((with_reducible refine gate_dst (N := 7) rfl ?_); refine box_event ?hg (N := 7) ?hd (cs := #[.int .i64 0, .int .i64 0, .slice none 0 0]) (t := 141) ?hr ?_; (case hd => rfl); (case hg => rfl); (case hr => first | (go_simp; done) | (go_simp; rfl)); intro gb196 hg w19 hbox hb; have n0_ := qM (blk_below (g := gb193) (o := .cells #[.int .i64 a0_0, .int .i64 a0_1, .slice (some ad195) l0_2.length c0_2] 141 (0, 0)) (by (with_reducible repeat (first | refine qn ?_ _ | refine qd ?_ | refine qa ?_ _)); exact BK193.out) hb); have n1_ := qM (qs (by repeat (first | (with_reducible first | exact HB.out | apply qA | apply qN | apply qD | refine qS ?_ GE193.out) | exact HB.out)) hb); have n2_ := qM (hbox); have n3_ := qM ((by rw [hg]; exact (qz (by repeat (first | (with_reducible first | exact HB.out | apply qA | apply qN | apply qD | refine qS ?_ GE193.out) | exact HB.out))) : w.heap.size ≤ gb196)); have n4_ := qM ((by rw [hg]; exact (qz (by repeat (first | (with_reducible first | exact HB.out | apply qA | apply qN | apply qD | refine qS ?_ GE193.out) | exact HB.out))) : w.heap.size ≤ gb196)); have n5_ := qM ((by rw [hg]; exact Nat.ne_of_lt (blk_lt (g := gb193) (o := .cells #[.int .i64 a0_0, .int .i64 a0_1, .slice (some ad195) l0_2.length c0_2] 141 (0, 0)) (by (with_reducible repeat (first | refine qn ?_ _ | refine qd ?_ | refine qa ?_ _)); exact BK193.out)) : gb193 ≠ gb196)); have n6_ := qM ((by rw [hg]; exact Nat.ne_of_gt (blk_lt (g := gb193) (o := .cells #[.int .i64 a0_0, .int .i64 a0_1, .slice (some ad195) l0_2.length c0_2] 141 (0, 0)) (by (with_reducible repeat (first | refine qn ?_ _ | refine qd ?_ | refine qa ?_ _)); exact BK193.out)) : gb196 ≠ gb193)); clear BK193; clear HB; have BK193 := n0_; have HB := n1_; have BK196 := n2_; have GW196 := n3_; have GE196 := n4_; have NB193_196 := n5_; have NB196_193 := n6_; clear n0_ n1_ n2_ n3_ n4_ n5_ n6_; clear hb hbox hg; have hnb20 := NB196_193.out; have hnc20 := NB193_196.out; have hcz21_0 : w19.cell? ⟨gb196, 0, none⟩ = some (.int .i64 0) := (qC BK196.out 0).trans rfl; have hcz21_1 : w19.cell? ⟨gb196, 1, none⟩ = some (.int .i64 0) := (qC BK196.out 1).trans rfl; have hcz21_2 : w19.cell? ⟨gb196, 2, none⟩ = some (.slice none 0 0) := (qC BK196.out 2).trans rfl; have hfz21_0 := qF BK196.out 0; have hfz21_1 := qF BK196.out 1; have hfz21_2 := qF BK196.out 2) | ((with_reducible refine gate_callee (f := 162) rfl ?_); refine goesL_ (some 30) rfl rfl Try.func162 (by kernel_rfl) rfl #[.agg #[.int .i64 ((rd_T141 l0_2 x18_2).f0), .int .i64 ((rd_T141 l0_2 x18_2).f1), .slice A195_2 ((rd_T141 l0_2 x18_2).f2).length c195_2], .int .i64 (wrap64 (a1 - x5_2))] rfl (by (try simp only [List.map_toArray, List.map_cons, List.map_nil]); first | done | rfl | (simp only [List.length_drop, List.length_take]; rfl)) ?_; (with_reducible refine (ih k2 (by have := HJ2.out; have := HK2.out; omega) ((rd_T141 l0_2 x18_2).f0) ((rd_T141 l0_2 x18_2).f1) _ _ ((rd_T141 l0_2 x18_2).f2) (wrap64 (a1 - x5_2)) t197 _ ?side1 ?side2 A18.out).mono ?_); (case side1 => exact qB HR195_2.out (by repeat (first | (with_reducible first | exact HB.out | apply qA | apply qN | apply qD | refine qS ?_ GE193.out | refine qS ?_ GE196.out) | exact HB.out))); (case side2 => exact HC195_2.out); rintro e w22 ⟨rfl, hb⟩; refine ⟨_, rfl, ?_⟩; have n0_ := qM (blk_below (g := gb193) (o := .cells #[.int .i64 a0_0, .int .i64 a0_1, .slice (some ad195) l0_2.length c0_2] 141 (0, 0)) (by (with_reducible repeat (first | refine qn ?_ _ | refine qd ?_ | refine qa ?_ _)); refine blk_far ?_ NB193_196.out _; (with_reducible repeat (first | refine qn ?_ _ | refine qd ?_ | refine qa ?_ _)); refine blk_far ?_ NB193_196.out _; (with_reducible repeat (first | refine qn ?_ _ | refine qd ?_ | refine qa ?_ _)); refine blk_far ?_ NB193_196.out _; (with_reducible repeat (first | refine qn ?_ _ | refine qd ?_ | refine qa ?_ _)); exact BK193.out) hb); have n1_ := qM (blk_below (g := gb196) (o := .cells #[.int .i64 ((rd_T141 l0_2 x18_2).f0), .int .i64 ((rd_T141 l0_2 x18_2).f1), .slice A195_2 ((rd_T141 l0_2 x18_2).f2).length c195_2] 141 (0, 0)) (by (with_reducible repeat (first | refine qn ?_ _ | refine qd ?_ | refine qa ?_ _)); refine blk_put (cs := #[.int .i64 ((rd_T141 l0_2 x18_2).f0), .int .i64 ((rd_T141 l0_2 x18_2).f1), .slice none 0 0]) ?_ 2 _ rfl; (with_reducible repeat (first | refine qn ?_ _ | refine qd ?_ | refine qa ?_ _)); refine blk_put (cs := #[.int .i64 ((rd_T141 l0_2 x18_2).f0), .int .i64 0, .slice none 0 0]) ?_ 1 _ rfl; (with_reducible repeat (first | refine qn ?_ _ | refine qd ?_ | refine qa ?_ _)); refine blk_put (cs := #[.int .i64 0, .int .i64 0, .slice none 0 0]) ?_ 0 _ rfl; (with_reducible repeat (first | refine qn ?_ _ | refine qd ?_ | refine qa ?_ _)); exact BK196.out) hb); have n2_ := qM (qs (by repeat (first | (with_reducible first | exact HB.out | apply qA | apply qN | apply qD | refine qS ?_ GE193.out | refine qS ?_ GE196.out) | exact HB.out)) hb); clear BK193; clear BK196; clear HB; have BK193 := n0_; have BK196 := n1_; have HB := n2_; clear n0_ n1_ n2_; (try clear hb); (try clear hb2); (try clear hk); (try clear hi)))
          go_roundg k2
          case measure => have := HJ2.out; have := HK2.out; omega
          case rel => exact ⟨(wrap64 (x5_2 + t197)), (wrap64 (x18_2 + 1)), (by first | rfl | (simp; done) | (simp [*]; done)), (by first | rfl | (simp; done) | (simp [*]; done)), H', ⟨by have := HJ2.out; have := HK2.out; omega⟩, ⟨by (with_reducible repeat (first | refine qn ?_ _ | refine qd ?_ | refine qa ?_ _)); exact BK193.out⟩, ⟨by repeat (first | (with_reducible first | exact HB.out | apply qA | apply qN | apply qD | refine qS ?_ GE193.out | refine qS ?_ GE196.out) | exact HB.out)⟩⟩
def impl_Task_count.l0 : Nat → Int → List (S141) → Int → Int → Option (Int)
  | 0, _, _, _, _ => none
  | k + 1, x3, x10, x11, x12 => if x12 < x11 then (if 0 ≤ x12 then (if x12 < (x10.length : Int) then (if x3 > 15 then (some x3) else ((impl_Task_countTo.f k ((rd_T141 x10 x12).f0) ((rd_T141 x10 x12).f1) ((rd_T141 x10 x12).f2) (wrap64 (15 - x3))).bind fun t202 => (impl_Task_count.l0 k (wrap64 (x3 + t202)) x10 x11 (wrap64 (x12 + 1))))) else (none)) else (none)) else (some x3)
def impl_Task_count.f (k : Nat) (a0_0 : Int) (a0_1 : Int) (l0_2 : List (S141)) : Option (Int) := (impl_Task_fits.f k a0_0 a0_1 l0_2).bind fun t199 => (if t199 = true then (impl_Task_count.l0 k 1 l0_2 (l0_2.length : Int) 0) else (some 16))
set_option maxHeartbeats 8000000 in
set_option maxRecDepth 100000 in
theorem impl_Task_count.calls (k : Nat) (a0_0 : Int) (a0_1 : Int) (A0_2 : Option Addr) (c0_2 : Nat) (l0_2 : List (S141)) (r : Int) (w : World) (hr0_2 : Kd.C k141 w A0_2 l0_2.length l0_2) (hc0_2 : l0_2.length ≤ c0_2) (h : impl_Task_count.f k a0_0 a0_1 l0_2 = some r) :
    Calls Try.prog 147 #[.agg #[.int .i64 a0_0, .int .i64 a0_1, .slice A0_2 l0_2.length c0_2]] w fun e w' => e = .returned (.int .i64 r) ∧ Below w.heap.size w w' := by
  have hu141 := Try.underlying141
  have HR0_2 := qM hr0_2
  have HC0_2 := qM hc0_2
  clear hr0_2 hc0_2
  have HB := qM (Below.refl w.heap.size w)
  have H : ((impl_Task_fits.f k a0_0 a0_1 l0_2).bind fun t199 => (if t199 = true then (impl_Task_count.l0 k 1 l0_2 (l0_2.length : Int) 0) else (some 16))) = some r := h
  clear h
  replace H := Option.bind_eq_some_iff.mp H
  obtain ⟨t199, A20, H⟩ := H
  replace H : (if t199 = true then (impl_Task_count.l0 k 1 l0_2 (l0_2.length : Int) 0) else (some 16)) = some r := H
  have A2 := qM A20
  clear A20
  by_cases c3 : t199 = true
  rotate_left
  · replace c3 := Bool.eq_false_iff.mpr c3
    subst c3
    have H1 : (some 16) = some r := by rw [if_neg (show ¬ (false = true) by decide)] at H; exact H
    clear H
    have H := H1
    clear H1
    obtain rfl := Option.some.inj H
    go_enter Try.func147, Try.ntmps147
    go_wp2_with (first | ((with_reducible refine gate_dst (N := 1) rfl ?_); refine box_event ?hg (N := 1) ?hd (cs := #[.int .i64 a0_0, .int .i64 a0_1, .slice A0_2 l0_2.length c0_2]) (t := 141) ?hr ?_; (case hd => rfl); (case hg => rfl); (case hr => first | (go_simp; done) | (go_simp; rfl)); intro gb198 hg w20 hbox hb; have n0_ := qM (qs (by repeat (first | (with_reducible first | exact HB.out | apply qA | apply qN | apply qD) | exact HB.out)) hb); have n1_ := qM (hbox); have n2_ := qM ((by rw [hg]; exact (qz (by repeat (first | (with_reducible first | exact HB.out | apply qA | apply qN | apply qD) | exact HB.out))) : w.heap.size ≤ gb198)); have n3_ := qM ((by rw [hg]; exact (qz (by repeat (first | (with_reducible first | exact HB.out | apply qA | apply qN | apply qD) | exact HB.out))) : w.heap.size ≤ gb198)); clear HB; have HB := n0_; have BK198 := n1_; have GW198 := n2_; have GE198 := n3_; clear n0_ n1_ n2_ n3_; clear hb hbox hg; have hcz21_0 : w20.cell? ⟨gb198, 0, none⟩ = some (.int .i64 a0_0) := (qC BK198.out 0).trans rfl; have hcz21_1 : w20.cell? ⟨gb198, 1, none⟩ = some (.int .i64 a0_1) := (qC BK198.out 1).trans rfl; have hcz21_2 : w20.cell? ⟨gb198, 2, none⟩ = some (.slice A0_2 l0_2.length c0_2) := (qC BK198.out 2).trans rfl; have hfz21_0 := qF BK198.out 0; have hfz21_1 := qF BK198.out 1; have hfz21_2 := qF BK198.out 2) | ((with_reducible refine gate_callee (f := 161) rfl ?_); refine goesL_ (some 7) rfl rfl Try.func161 (by kernel_rfl) rfl #[.agg #[.int .i64 a0_0, .int .i64 a0_1, .slice A0_2 l0_2.length c0_2]] rfl (by (try simp only [List.map_toArray, List.map_cons, List.map_nil]); first | done | rfl | (simp only [List.length_drop, List.length_take]; rfl)) ?_; (with_reducible refine (impl_Task_fits.calls k a0_0 a0_1 _ _ l0_2 false _ ?side1 ?side2 A2.out).mono ?_); (case side1 => repeat (first | exact (qB HR0_2.out HB.out) | (with_reducible refine qc ?_ _) | (with_reducible refine qe ?_ _) | (with_reducible refine qf ?_))); (case side2 => exact HC0_2.out); rintro e w22 ⟨rfl, hb⟩; refine ⟨_, rfl, ?_⟩; have n0_ := qM (blk_below (g := gb198) (o := .cells #[.int .i64 a0_0, .int .i64 a0_1, .slice A0_2 l0_2.length c0_2] 141 (0, 0)) (by (with_reducible repeat (first | refine qn ?_ _ | refine qd ?_ | refine qa ?_ _)); exact BK198.out) hb); have n1_ := qM (qs (by repeat (first | (with_reducible first | exact HB.out | apply qA | apply qN | apply qD | refine qS ?_ GE198.out) | exact HB.out)) hb); clear BK198; clear HB; have BK198 := n0_; have HB := n1_; clear n0_ n1_; (try clear hb); (try clear hb2); (try clear hk); (try clear hi)))
    go_ret
    exact ⟨by first | rfl | (simp [errW_none, errW_some] <;> rfl) | (simp [*, errW_none, errW_some] <;> rfl), by repeat (first | (with_reducible first | exact HB.out | apply qA | apply qN | apply qD | refine qS ?_ GE198.out) | exact HB.out)⟩
  subst c3
  have H1 : (impl_Task_count.l0 k 1 l0_2 (l0_2.length : Int) 0) = some r := by rw [if_pos rfl] at H; exact H
  clear H
  have H := H1
  clear H1
  have H' := qM H
  clear H
  go_enter Try.func147, Try.ntmps147
  go_wp2_with (first | ((with_reducible refine gate_dst (N := 1) rfl ?_); refine box_event ?hg (N := 1) ?hd (cs := #[.int .i64 a0_0, .int .i64 a0_1, .slice A0_2 l0_2.length c0_2]) (t := 141) ?hr ?_; (case hd => rfl); (case hg => rfl); (case hr => first | (go_simp; done) | (go_simp; rfl)); intro gb198 hg w4 hbox hb; have n0_ := qM (qs (by repeat (first | (with_reducible first | exact HB.out | apply qA | apply qN | apply qD) | exact HB.out)) hb); have n1_ := qM (hbox); have n2_ := qM ((by rw [hg]; exact (qz (by repeat (first | (with_reducible first | exact HB.out | apply qA | apply qN | apply qD) | exact HB.out))) : w.heap.size ≤ gb198)); have n3_ := qM ((by rw [hg]; exact (qz (by repeat (first | (with_reducible first | exact HB.out | apply qA | apply qN | apply qD) | exact HB.out))) : w.heap.size ≤ gb198)); clear HB; have HB := n0_; have BK198 := n1_; have GW198 := n2_; have GE198 := n3_; clear n0_ n1_ n2_ n3_; clear hb hbox hg; have hcz5_0 : w4.cell? ⟨gb198, 0, none⟩ = some (.int .i64 a0_0) := (qC BK198.out 0).trans rfl; have hcz5_1 : w4.cell? ⟨gb198, 1, none⟩ = some (.int .i64 a0_1) := (qC BK198.out 1).trans rfl; have hcz5_2 : w4.cell? ⟨gb198, 2, none⟩ = some (.slice A0_2 l0_2.length c0_2) := (qC BK198.out 2).trans rfl; have hfz5_0 := qF BK198.out 0; have hfz5_1 := qF BK198.out 1; have hfz5_2 := qF BK198.out 2) | ((with_reducible refine gate_callee (f := 161) rfl ?_); refine goesL_ (some 7) rfl rfl Try.func161 (by kernel_rfl) rfl #[.agg #[.int .i64 a0_0, .int .i64 a0_1, .slice A0_2 l0_2.length c0_2]] rfl (by (try simp only [List.map_toArray, List.map_cons, List.map_nil]); first | done | rfl | (simp only [List.length_drop, List.length_take]; rfl)) ?_; (with_reducible refine (impl_Task_fits.calls k a0_0 a0_1 _ _ l0_2 true _ ?side1 ?side2 A2.out).mono ?_); (case side1 => repeat (first | exact (qB HR0_2.out HB.out) | (with_reducible refine qc ?_ _) | (with_reducible refine qe ?_ _) | (with_reducible refine qf ?_))); (case side2 => exact HC0_2.out); rintro e w6 ⟨rfl, hb⟩; refine ⟨_, rfl, ?_⟩; have n0_ := qM (blk_below (g := gb198) (o := .cells #[.int .i64 a0_0, .int .i64 a0_1, .slice A0_2 l0_2.length c0_2] 141 (0, 0)) (by (with_reducible repeat (first | refine qn ?_ _ | refine qd ?_ | refine qa ?_ _)); exact BK198.out) hb); have n1_ := qM (qs (by repeat (first | (with_reducible first | exact HB.out | apply qA | apply qN | apply qD | refine qS ?_ GE198.out) | exact HB.out)) hb); clear BK198; clear HB; have BK198 := n0_; have HB := n1_; clear n0_ n1_; (try clear hb); (try clear hb2); (try clear hk); (try clear hi); have hcz7_0 : w6.cell? ⟨gb198, 0, none⟩ = some (.int .i64 a0_0) := (qC BK198.out 0).trans rfl; have hcz7_1 : w6.cell? ⟨gb198, 1, none⟩ = some (.int .i64 a0_1) := (qC BK198.out 1).trans rfl; have hcz7_2 : w6.cell? ⟨gb198, 2, none⟩ = some (.slice A0_2 l0_2.length c0_2) := (qC BK198.out 2).trans rfl; have hfz7_0 := qF BK198.out 0; have hfz7_1 := qF BK198.out 1; have hfz7_2 := qF BK198.out 2))
  go_loopg [3, 12] k (fun kq v3 v12 w' => ∃ (x3_1 : Int) (x12_1 : Int), v3 = .int .i64 x3_1 ∧ v12 = .int .i64 x12_1 ∧ Aside0 (impl_Task_count.l0 kq x3_1 l0_2 (l0_2.length : Int) x12_1 = some r) ∧ Aside0 (kq ≤ k) ∧ Aside0 (w'.heap[gb198]? = some (.cells #[.int .i64 a0_0, .int .i64 a0_1, (.slice A0_2 l0_2.length c0_2)] 141 (0, 0))) ∧ Aside0 (Below w.heap.size w w'))
  case atStart => exact ⟨(1), (0), (by first | rfl | (simp; done) | (simp [*]; done)), (by first | rfl | (simp; done) | (simp [*]; done)), H', ⟨Nat.le_refl _⟩, ⟨by (with_reducible repeat (first | refine qn ?_ _ | refine qd ?_ | refine qa ?_ _)); exact BK198.out⟩, ⟨by repeat (first | (with_reducible first | exact HB.out | apply qA | apply qN | apply qD | refine qS ?_ GE198.out) | exact HB.out)⟩⟩
  case round =>
    clear H'
    try clear c1
    try clear p2
    try clear c3
    try clear hcz5_0
    try clear hcz5_1
    try clear hcz5_2
    try clear hcz7_0
    try clear hcz7_1
    try clear hcz7_2
    try clear hfz5_0
    try clear hfz5_1
    try clear hfz5_2
    try clear hfz7_0
    try clear hfz7_1
    try clear hfz7_2
    obtain ⟨x3_1, x12_1, rfl, rfl, HA, HK1, BK198, HB⟩ := hrel
    cases gk with
    | zero => exact absurd HA.out (by simp [impl_Task_count.l0])
    | succ k1 =>
      have H := HA.out
      clear HA
      simp only [impl_Task_count.l0] at H
      by_cases c8 : x12_1 < (l0_2.length : Int)
      rotate_left
      · rw [if_neg c8] at H
        have c8b0 : decide (x12_1 < (l0_2.length : Int)) = false := decide_eq_false c8
        clear c8
        obtain rfl := Option.some.inj H
        go_wp2
        go_ret
        exact ⟨by first | rfl | (simp [errW_none, errW_some] <;> rfl) | (simp [*, errW_none, errW_some] <;> rfl), by repeat (first | (with_reducible first | exact HB.out | apply qA | apply qN | apply qD | refine qS ?_ GE198.out) | exact HB.out)⟩
      rw [if_pos c8] at H
      have c8b0 : decide (x12_1 < (l0_2.length : Int)) = true := decide_eq_true c8
      clear c8
      by_cases c9 : 0 ≤ x12_1
      rotate_left
      · rw [if_neg c9] at H
        exact absurd H (by simp)
      rw [if_pos c9] at H
      have c9b0 : decide (0 ≤ x12_1) = true := decide_eq_true c9
      clear c9
      by_cases c10 : x12_1 < (l0_2.length : Int)
      rotate_left
      · rw [if_neg c10] at H
        exact absurd H (by simp)
      rw [if_pos c10] at H
      have c10b0 : decide (x12_1 < (l0_2.length : Int)) = true := decide_eq_true c10
      clear c10
      by_cases c11 : x3_1 > 15
      · rw [if_pos c11] at H
        have c11b0 : decide (15 < x3_1) = true := decide_eq_true c11
        clear c11
        obtain rfl := Option.some.inj H
        have p200 : 0 ≤ (x12_1 : Int) := qO (by first | (with_reducible assumption) | assumption)
        have q200 : x12_1 < (l0_2.length : Int) := qO (by first | (with_reducible assumption) | assumption)
        obtain ⟨ad200, A200_2, c200_2, e200, hx200_0, hx200_1, hx200_2, hl200_2, hi200_2⟩ := at_T141 HR0_2.out x12_1 p200 q200
        cases e200
        replace hx200_0 := (HB.out.cell (qL w _ hx200_0)).trans hx200_0
        replace hx200_1 := (HB.out.cell (qL w _ hx200_1)).trans hx200_1
        replace hx200_2 := (HB.out.cell (qL w _ hx200_2)).trans hx200_2
        have HR200_2 := qM hi200_2
        have HC200_2 := qM hl200_2
        clear hi200_2 hl200_2
        replace p200 := eq_true p200
        replace q200 := eq_true q200
        go_wp2_with (first | ((with_reducible refine gate_dst (N := 5) rfl ?_); refine box_event ?hg (N := 5) ?hd (cs := #[.int .i64 0, .int .i64 0, .slice none 0 0]) (t := 141) ?hr ?_; (case hd => rfl); (case hg => rfl); (case hr => first | (go_simp; done) | (go_simp; rfl)); intro gb201 hg w12 hbox hb; have n0_ := qM (blk_below (g := gb198) (o := .cells #[.int .i64 a0_0, .int .i64 a0_1, .slice (some ad200) l0_2.length c0_2] 141 (0, 0)) (by (with_reducible repeat (first | refine qn ?_ _ | refine qd ?_ | refine qa ?_ _)); exact BK198.out) hb); have n1_ := qM (qs (by repeat (first | (with_reducible first | exact HB.out | apply qA | apply qN | apply qD | refine qS ?_ GE198.out) | exact HB.out)) hb); have n2_ := qM (hbox); have n3_ := qM ((by rw [hg]; exact (qz (by repeat (first | (with_reducible first | exact HB.out | apply qA | apply qN | apply qD | refine qS ?_ GE198.out) | exact HB.out))) : w.heap.size ≤ gb201)); have n4_ := qM ((by rw [hg]; exact (qz (by repeat (first | (with_reducible first | exact HB.out | apply qA | apply qN | apply qD | refine qS ?_ GE198.out) | exact HB.out))) : w.heap.size ≤ gb201)); have n5_ := qM ((by rw [hg]; exact Nat.ne_of_lt (blk_lt (g := gb198) (o := .cells #[.int .i64 a0_0, .int .i64 a0_1, .slice (some ad200) l0_2.length c0_2] 141 (0, 0)) (by (with_reducible repeat (first | refine qn ?_ _ | refine qd ?_ | refine qa ?_ _)); exact BK198.out)) : gb198 ≠ gb201)); have n6_ := qM ((by rw [hg]; exact Nat.ne_of_gt (blk_lt (g := gb198) (o := .cells #[.int .i64 a0_0, .int .i64 a0_1, .slice (some ad200) l0_2.length c0_2] 141 (0, 0)) (by (with_reducible repeat (first | refine qn ?_ _ | refine qd ?_ | refine qa ?_ _)); exact BK198.out)) : gb201 ≠ gb198)); clear BK198; clear HB; have BK198 := n0_; have HB := n1_; have BK201 := n2_; have GW201 := n3_; have GE201 := n4_; have NB198_201 := n5_; have NB201_198 := n6_; clear n0_ n1_ n2_ n3_ n4_ n5_ n6_; clear hb hbox hg; have hnb13 := NB201_198.out; have hnc13 := NB198_201.out; have hcz14_0 : w12.cell? ⟨gb201, 0, none⟩ = some (.int .i64 0) := (qC BK201.out 0).trans rfl; have hcz14_1 : w12.cell? ⟨gb201, 1, none⟩ = some (.int .i64 0) := (qC BK201.out 1).trans rfl; have hcz14_2 : w12.cell? ⟨gb201, 2, none⟩ = some (.slice none 0 0) := (qC BK201.out 2).trans rfl; have hfz14_0 := qF BK201.out 0; have hfz14_1 := qF BK201.out 1; have hfz14_2 := qF BK201.out 2))
        go_ret
        exact ⟨by first | rfl | (simp [errW_none, errW_some] <;> rfl) | (simp [*, errW_none, errW_some] <;> rfl), by repeat (first | (with_reducible first | exact HB.out | apply qA | apply qN | apply qD | refine qS ?_ GE198.out | refine qS ?_ GE201.out) | exact HB.out)⟩
      rw [if_neg c11] at H
      have c11b0 : decide (15 < x3_1) = false := decide_eq_false c11
      clear c11
      replace H := Option.bind_eq_some_iff.mp H
      obtain ⟨t202, A150, H⟩ := H
      replace H : (impl_Task_count.l0 k1 (wrap64 (x3_1 + t202)) l0_2 (l0_2.length : Int) (wrap64 (x12_1 + 1))) = some r := H
      have A15 := qM A150
      clear A150
      have H' := qM H
      clear H
      have p200 : 0 ≤ (x12_1 : Int) := qO (by first | (with_reducible assumption) | assumption)
      have q200 : x12_1 < (l0_2.length : Int) := qO (by first | (with_reducible assumption) | assumption)
      obtain ⟨ad200, A200_2, c200_2, e200, hx200_0, hx200_1, hx200_2, hl200_2, hi200_2⟩ := at_T141 HR0_2.out x12_1 p200 q200
      cases e200
      replace hx200_0 := (HB.out.cell (qL w _ hx200_0)).trans hx200_0
      replace hx200_1 := (HB.out.cell (qL w _ hx200_1)).trans hx200_1
      replace hx200_2 := (HB.out.cell (qL w _ hx200_2)).trans hx200_2
      have HR200_2 := qM hi200_2
      have HC200_2 := qM hl200_2
      clear hi200_2 hl200_2
      replace p200 := eq_true p200
      replace q200 := eq_true q200
      go_wp2_with (first | ((with_reducible refine gate_dst (N := 5) rfl ?_); refine box_event ?hg (N := 5) ?hd (cs := #[.int .i64 0, .int .i64 0, .slice none 0 0]) (t := 141) ?hr ?_; (case hd => rfl); (case hg => rfl); (case hr => first | (go_simp; done) | (go_simp; rfl)); intro gb201 hg w16 hbox hb; have n0_ := qM (blk_below (g := gb198) (o := .cells #[.int .i64 a0_0, .int .i64 a0_1, .slice (some ad200) l0_2.length c0_2] 141 (0, 0)) (by (with_reducible repeat (first | refine qn ?_ _ | refine qd ?_ | refine qa ?_ _)); exact BK198.out) hb); have n1_ := qM (qs (by repeat (first | (with_reducible first | exact HB.out | apply qA | apply qN | apply qD | refine qS ?_ GE198.out) | exact HB.out)) hb); have n2_ := qM (hbox); have n3_ := qM ((by rw [hg]; exact (qz (by repeat (first | (with_reducible first | exact HB.out | apply qA | apply qN | apply qD | refine qS ?_ GE198.out) | exact HB.out))) : w.heap.size ≤ gb201)); have n4_ := qM ((by rw [hg]; exact (qz (by repeat (first | (with_reducible first | exact HB.out | apply qA | apply qN | apply qD | refine qS ?_ GE198.out) | exact HB.out))) : w.heap.size ≤ gb201)); have n5_ := qM ((by rw [hg]; exact Nat.ne_of_lt (blk_lt (g := gb198) (o := .cells #[.int .i64 a0_0, .int .i64 a0_1, .slice (some ad200) l0_2.length c0_2] 141 (0, 0)) (by (with_reducible repeat (first | refine qn ?_ _ | refine qd ?_ | refine qa ?_ _)); exact BK198.out)) : gb198 ≠ gb201)); have n6_ := qM ((by rw [hg]; exact Nat.ne_of_gt (blk_lt (g := gb198) (o := .cells #[.int .i64 a0_0, .int .i64 a0_1, .slice (some ad200) l0_2.length c0_2] 141 (0, 0)) (by (with_reducible repeat (first | refine qn ?_ _ | refine qd ?_ | refine qa ?_ _)); exact BK198.out)) : gb201 ≠ gb198)); clear BK198; clear HB; have BK198 := n0_; have HB := n1_; have BK201 := n2_; have GW201 := n3_; have GE201 := n4_; have NB198_201 := n5_; have NB201_198 := n6_; clear n0_ n1_ n2_ n3_ n4_ n5_ n6_; clear hb hbox hg; have hnb17 := NB201_198.out; have hnc17 := NB198_201.out; have hcz18_0 : w16.cell? ⟨gb201, 0, none⟩ = some (.int .i64 0) := (qC BK201.out 0).trans rfl; have hcz18_1 : w16.cell? ⟨gb201, 1, none⟩ = some (.int .i64 0) := (qC BK201.out 1).trans rfl; have hcz18_2 : w16.cell? ⟨gb201, 2, none⟩ = some (.slice none 0 0) := (qC BK201.out 2).trans rfl; have hfz18_0 := qF BK201.out 0; have hfz18_1 := qF BK201.out 1; have hfz18_2 := qF BK201.out 2) | ((with_reducible refine gate_callee (f := 162) rfl ?_); refine goesL_ (some 23) rfl rfl Try.func162 (by kernel_rfl) rfl #[.agg #[.int .i64 ((rd_T141 l0_2 x12_1).f0), .int .i64 ((rd_T141 l0_2 x12_1).f1), .slice A200_2 ((rd_T141 l0_2 x12_1).f2).length c200_2], .int .i64 (wrap64 (15 - x3_1))] rfl (by (try simp only [List.map_toArray, List.map_cons, List.map_nil]); first | done | rfl | (simp only [List.length_drop, List.length_take]; rfl)) ?_; (with_reducible refine (impl_Task_countTo.calls k1 ((rd_T141 l0_2 x12_1).f0) ((rd_T141 l0_2 x12_1).f1) _ _ ((rd_T141 l0_2 x12_1).f2) (wrap64 (15 - x3_1)) t202 _ ?side1 ?side2 A15.out).mono ?_); (case side1 => exact qB HR200_2.out (by repeat (first | (with_reducible first | exact HB.out | apply qA | apply qN | apply qD | refine qS ?_ GE198.out | refine qS ?_ GE201.out) | exact HB.out))); (case side2 => exact HC200_2.out); rintro e w19 ⟨rfl, hb⟩; refine ⟨_, rfl, ?_⟩; have n0_ := qM (blk_below (g := gb198) (o := .cells #[.int .i64 a0_0, .int .i64 a0_1, .slice (some ad200) l0_2.length c0_2] 141 (0, 0)) (by (with_reducible repeat (first | refine qn ?_ _ | refine qd ?_ | refine qa ?_ _)); refine blk_far ?_ NB198_201.out _; (with_reducible repeat (first | refine qn ?_ _ | refine qd ?_ | refine qa ?_ _)); refine blk_far ?_ NB198_201.out _; (with_reducible repeat (first | refine qn ?_ _ | refine qd ?_ | refine qa ?_ _)); refine blk_far ?_ NB198_201.out _; (with_reducible repeat (first | refine qn ?_ _ | refine qd ?_ | refine qa ?_ _)); exact BK198.out) hb); have n1_ := qM (blk_below (g := gb201) (o := .cells #[.int .i64 ((rd_T141 l0_2 x12_1).f0), .int .i64 ((rd_T141 l0_2 x12_1).f1), .slice A200_2 ((rd_T141 l0_2 x12_1).f2).length c200_2] 141 (0, 0)) (by (with_reducible repeat (first | refine qn ?_ _ | refine qd ?_ | refine qa ?_ _)); refine blk_put (cs := #[.int .i64 ((rd_T141 l0_2 x12_1).f0), .int .i64 ((rd_T141 l0_2 x12_1).f1), .slice none 0 0]) ?_ 2 _ rfl; (with_reducible repeat (first | refine qn ?_ _ | refine qd ?_ | refine qa ?_ _)); refine blk_put (cs := #[.int .i64 ((rd_T141 l0_2 x12_1).f0), .int .i64 0, .slice none 0 0]) ?_ 1 _ rfl; (with_reducible repeat (first | refine qn ?_ _ | refine qd ?_ | refine qa ?_ _)); refine blk_put (cs := #[.int .i64 0, .int .i64 0, .slice none 0 0]) ?_ 0 _ rfl; (with_reducible repeat (first | refine qn ?_ _ | refine qd ?_ | refine qa ?_ _)); exact BK201.out) hb); have n2_ := qM (qs (by repeat (first | (with_reducible first | exact HB.out | apply qA | apply qN | apply qD | refine qS ?_ GE198.out | refine qS ?_ GE201.out) | exact HB.out)) hb); clear BK198; clear BK201; clear HB; have BK198 := n0_; have BK201 := n1_; have HB := n2_; clear n0_ n1_ n2_; (try clear hb); (try clear hb2); (try clear hk); (try clear hi)))
      go_roundg k1
      case measure => have := HK1.out; omega
      case rel => exact ⟨(wrap64 (x3_1 + t202)), (wrap64 (x12_1 + 1)), (by first | rfl | (simp; done) | (simp [*]; done)), (by first | rfl | (simp; done) | (simp [*]; done)), H', ⟨by have := HK1.out; omega⟩, ⟨by (with_reducible repeat (first | refine qn ?_ _ | refine qd ?_ | refine qa ?_ _)); exact BK198.out⟩, ⟨by repeat (first | (with_reducible first | exact HB.out | apply qA | apply qN | apply qD | refine qS ?_ GE198.out | refine qS ?_ GE201.out) | exact HB.out)⟩⟩
def impl_TaskOk.f (k : Nat) (a0_0 : Int) (a0_1 : Int) (l0_2 : List (S141)) : Option (Bool) := (impl_Task_count.f k a0_0 a0_1 l0_2).bind fun t204 => (some (decide (t204 ≤ 15)))
set_option maxHeartbeats 8000000 in
set_option maxRecDepth 100000 in
theorem impl_TaskOk.calls (k : Nat) (a0_0 : Int) (a0_1 : Int) (A0_2 : Option Addr) (c0_2 : Nat) (l0_2 : List (S141)) (r : Bool) (w : World) (hr0_2 : Kd.C k141 w A0_2 l0_2.length l0_2) (hc0_2 : l0_2.length ≤ c0_2) (h : impl_TaskOk.f k a0_0 a0_1 l0_2 = some r) :
    Calls Try.prog 110 #[.agg #[.int .i64 a0_0, .int .i64 a0_1, .slice A0_2 l0_2.length c0_2]] w fun e w' => e = .returned (.bool r) ∧ Below w.heap.size w w' := by
  have hu141 := Try.underlying141
  have HR0_2 := qM hr0_2
  have HC0_2 := qM hc0_2
  clear hr0_2 hc0_2
  have HB := qM (Below.refl w.heap.size w)
  have H : ((impl_Task_count.f k a0_0 a0_1 l0_2).bind fun t204 => (some (decide (t204 ≤ 15)))) = some r := h
  clear h
  replace H := Option.bind_eq_some_iff.mp H
  obtain ⟨t204, A20, H⟩ := H
  replace H : (some (decide (t204 ≤ 15))) = some r := H
  have A2 := qM A20
  clear A20
  obtain rfl := Option.some.inj H
  go_enter Try.func110, Try.ntmps110
  go_wp2_with (first | ((with_reducible refine gate_dst (N := 1) rfl ?_); refine box_event ?hg (N := 1) ?hd (cs := #[.int .i64 a0_0, .int .i64 a0_1, .slice A0_2 l0_2.length c0_2]) (t := 141) ?hr ?_; (case hd => rfl); (case hg => rfl); (case hr => first | (go_simp; done) | (go_simp; rfl)); intro gb203 hg w3 hbox hb; have n0_ := qM (qs (by repeat (first | (with_reducible first | exact HB.out | apply qA | apply qN | apply qD) | exact HB.out)) hb); have n1_ := qM (hbox); have n2_ := qM ((by rw [hg]; exact (qz (by repeat (first | (with_reducible first | exact HB.out | apply qA | apply qN | apply qD) | exact HB.out))) : w.heap.size ≤ gb203)); have n3_ := qM ((by rw [hg]; exact (qz (by repeat (first | (with_reducible first | exact HB.out | apply qA | apply qN | apply qD) | exact HB.out))) : w.heap.size ≤ gb203)); clear HB; have HB := n0_; have BK203 := n1_; have GW203 := n2_; have GE203 := n3_; clear n0_ n1_ n2_ n3_; clear hb hbox hg; have hcz4_0 : w3.cell? ⟨gb203, 0, none⟩ = some (.int .i64 a0_0) := (qC BK203.out 0).trans rfl; have hcz4_1 : w3.cell? ⟨gb203, 1, none⟩ = some (.int .i64 a0_1) := (qC BK203.out 1).trans rfl; have hcz4_2 : w3.cell? ⟨gb203, 2, none⟩ = some (.slice A0_2 l0_2.length c0_2) := (qC BK203.out 2).trans rfl; have hfz4_0 := qF BK203.out 0; have hfz4_1 := qF BK203.out 1; have hfz4_2 := qF BK203.out 2) | ((with_reducible refine gate_callee (f := 147) rfl ?_); refine goesL_ (some 4) rfl rfl Try.func147 (by kernel_rfl) rfl #[.agg #[.int .i64 a0_0, .int .i64 a0_1, .slice A0_2 l0_2.length c0_2]] rfl (by (try simp only [List.map_toArray, List.map_cons, List.map_nil]); first | done | rfl | (simp only [List.length_drop, List.length_take]; rfl)) ?_; (with_reducible refine (impl_Task_count.calls k a0_0 a0_1 _ _ l0_2 t204 _ ?side1 ?side2 A2.out).mono ?_); (case side1 => repeat (first | exact (qB HR0_2.out HB.out) | (with_reducible refine qc ?_ _) | (with_reducible refine qe ?_ _) | (with_reducible refine qf ?_))); (case side2 => exact HC0_2.out); rintro e w5 ⟨rfl, hb⟩; refine ⟨_, rfl, ?_⟩; have n0_ := qM (blk_below (g := gb203) (o := .cells #[.int .i64 a0_0, .int .i64 a0_1, .slice A0_2 l0_2.length c0_2] 141 (0, 0)) (by (with_reducible repeat (first | refine qn ?_ _ | refine qd ?_ | refine qa ?_ _)); exact BK203.out) hb); have n1_ := qM (qs (by repeat (first | (with_reducible first | exact HB.out | apply qA | apply qN | apply qD | refine qS ?_ GE203.out) | exact HB.out)) hb); clear BK203; clear HB; have BK203 := n0_; have HB := n1_; clear n0_ n1_; (try clear hb); (try clear hb2); (try clear hk); (try clear hi)))
  go_ret
  exact ⟨by first | rfl | (simp [errW_none, errW_some] <;> rfl) | (simp [*, errW_none, errW_some] <;> rfl), by repeat (first | (with_reducible first | exact HB.out | apply qA | apply qN | apply qD | refine qS ?_ GE203.out) | exact HB.out)⟩
mutual
def impl_SheetOk.j0 : Nat → Bool → List Bool → List (S141) → Option (Bool)
  | 0, _, _, _ => none
  | k + 1, x17, x206000, x206001 => if x17 = true then (some false) else (impl_SheetOk.l0 k x206001 (x206001.length : Int) 0 x206000 x206001)
def impl_SheetOk.l0 : Nat → List (S141) → Int → Int → List Bool → List (S141) → Option (Bool)
  | 0, _, _, _, _, _ => none
  | k + 1, x19, x20, x21, x206000, x206001 => if x21 < x20 then (if 0 ≤ x21 then (if x21 < (x19.length : Int) then ((impl_TaskOk.f k ((rd_T141 x19 x21).f0) ((rd_T141 x19 x21).f1) ((rd_T141 x19 x21).f2)).bind fun t208 => (if t208 = true then (if x21 < (x206000.length : Int) then (if rdOf false x206000 x21 = true then (impl_SheetOk.l0 k x19 x20 (wrap64 (x21 + 1)) x206000 x206001) else (if ((rd_T141 x19 x21).f0) = 0 then (if ((rd_T141 x19 x21).f1) = 0 then (impl_SheetOk.l0 k x19 x20 (wrap64 (x21 + 1)) x206000 x206001) else (some false)) else (some false))) else (none)) else (some false))) else (none)) else (none)) else (some true)
end
def impl_SheetOk.f (k : Nat) (l0_0 : List Bool) (l0_1 : List (S141)) : Option (Bool) := if (l0_0.length : Int) = (l0_1.length : Int) then (impl_SheetOk.j0 k (decide ((l0_0.length : Int) > 10)) l0_0 l0_1) else (impl_SheetOk.j0 k true l0_0 l0_1)
set_option maxHeartbeats 8000000 in
set_option maxRecDepth 100000 in
theorem impl_SheetOk.calls (k : Nat) (A0_0 : Option Addr) (c0_0 : Nat) (l0_0 : List Bool) (A0_1 : Option Addr) (c0_1 : Nat) (l0_1 : List (S141)) (r : Bool) (w : World) (hr0_0 : Kd.C Kd.bool w A0_0 l0_0.length l0_0) (hc0_0 : l0_0.length ≤ c0_0) (hr0_1 : Kd.C k141 w A0_1 l0_1.length l0_1) (hc0_1 : l0_1.length ≤ c0_1) (h : impl_SheetOk.f k l0_0 l0_1 = some r) :
    Calls Try.prog 60 #[.agg #[.slice A0_0 l0_0.length c0_0, .slice A0_1 l0_1.length c0_1]] w fun e w' => e = .returned (.bool r) ∧ Below w.heap.size w w' := by
  have hu30 := Try.underlying30
  have hu141 := Try.underlying141
  have HR0_0 := qM hr0_0
  have HC0_0 := qM hc0_0
  clear hr0_0 hc0_0
  have HR0_1 := qM hr0_1
  have HC0_1 := qM hc0_1
  clear hr0_1 hc0_1
  have HB := qM (Below.refl w.heap.size w)
  have H : (if (l0_0.length : Int) = (l0_1.length : Int) then (impl_SheetOk.j0 k (decide ((l0_0.length : Int) > 10)) l0_0 l0_1) else (impl_SheetOk.j0 k true l0_0 l0_1)) = some r := h
  clear h
  have HC2 := qM H
  clear H
  go_enter Try.func60, Try.ntmps60
  go_upto_region 1 with (first | ((with_reducible refine gate_dst (N := 1) rfl ?_); (try (refine gate_guard (by rfl) ?_; dsimp only)); refine box_event ?hg (N := 1) ?hd (cs := #[.slice A0_0 l0_0.length c0_0, .slice A0_1 l0_1.length c0_1]) (t := 30) ?hr ?_; (case hd => rfl); (case hg => rfl); (case hr => first | (go_simp; done) | (go_simp; rfl)); intro gb205 hg w3 hbox hb; have n0_ := qM (qs (by repeat (first | (with_reducible first | exact HB.out | apply qA | apply qN | apply qD) | exact HB.out)) hb); have n1_ := qM (hbox); have n2_ := qM ((by rw [hg]; exact (qz (by repeat (first | (with_reducible first | exact HB.out | apply qA | apply qN | apply qD) | exact HB.out))) : w.heap.size ≤ gb205)); have n3_ := qM ((by rw [hg]; exact (qz (by repeat (first | (with_reducible first | exact HB.out | apply qA | apply qN | apply qD) | exact HB.out))) : w.heap.size ≤ gb205)); clear HB; have HB := n0_; have BK205 := n1_; have GW205 := n2_; have GE205 := n3_; clear n0_ n1_ n2_ n3_; clear hb hbox hg))
  (try simp only [Act.put, List.setIfInBounds_toArray, List.set_cons_zero, List.set_cons_succ])
  go_cut [17] (fun v17 wc => ∃ (kq : Nat) (x17_1 : Bool), v17 = .bool x17_1 ∧ Aside0 (impl_SheetOk.j0 kq x17_1 l0_0 l0_1 = some r) ∧ Aside0 (kq ≤ k) ∧ Aside0 (wc.heap[gb205]? = some (.cells #[(.slice A0_0 l0_0.length c0_0), (.slice A0_1 l0_1.length c0_1)] 30 (0, 0))) ∧ Aside0 (Below w.heap.size w wc))
  case first =>
    have H := HC2.out
    clear HC2
    by_cases c4 : (l0_0.length : Int) = (l0_1.length : Int)
    rotate_left
    · rw [if_neg c4] at H
      have c4b0 : ((l0_0.length : Int) == (l0_1.length : Int)) = false := beq_eq_false_iff_ne.mpr c4
      have c4b1 : ((l0_0.length : Int) != (l0_1.length : Int)) = true := bne_iff_ne.mpr c4
      have c4b2 : (l0_0.length == l0_1.length) = false := by first | simpa using c4 | (simp at c4 ⊢; omega)
      (first | rw [c4b0] | (simp only [i64_w, i32_w]; rw [c4b0]) | skip)
      have H' := qM H
      clear H
      have hcz6_0 : w3.cell? ⟨gb205, 0, none⟩ = some (.slice A0_0 l0_0.length c0_0) := (qC BK205.out 0).trans rfl
      have hcz6_1 : w3.cell? ⟨gb205, 1, none⟩ = some (.slice A0_1 l0_1.length c0_1) := (qC BK205.out 1).trans rfl
      have hfz6_0 := qF BK205.out 0
      have hfz6_1 := qF BK205.out 1
      go_wp2
      go_meet
      case rel => exact ⟨_, (true), (by first | rfl | (simp; done) | (simp [*]; done)), H', ⟨by first | omega | exact Nat.le_refl _⟩, ⟨by (with_reducible repeat (first | refine qn ?_ _ | refine qd ?_ | refine qa ?_ _)); exact BK205.out⟩, ⟨by repeat (first | (with_reducible first | exact HB.out | apply qA | apply qN | apply qD | refine qS ?_ GE205.out) | exact HB.out)⟩⟩
    rw [if_pos c4] at H
    have c4b0 : ((l0_0.length : Int) == (l0_1.length : Int)) = true := beq_iff_eq.mpr c4
    have c4b1 : ((l0_0.length : Int) != (l0_1.length : Int)) = false := bne_eq_false_iff_eq.mpr c4
    have c4b2 : (l0_0.length == l0_1.length) = true := by first | simpa using c4 | (simp at c4 ⊢; omega)
    clear c4
    (first | rw [c4b0] | (simp only [i64_w, i32_w]; rw [c4b0]) | skip)
    have H' := qM H
    clear H
    have hcz5_0 : w3.cell? ⟨gb205, 0, none⟩ = some (.slice A0_0 l0_0.length c0_0) := (qC BK205.out 0).trans rfl
    have hcz5_1 : w3.cell? ⟨gb205, 1, none⟩ = some (.slice A0_1 l0_1.length c0_1) := (qC BK205.out 1).trans rfl
    have hfz5_0 := qF BK205.out 0
    have hfz5_1 := qF BK205.out 1
    go_wp2
    go_meet
    case rel => exact ⟨_, (decide ((l0_0.length : Int) > 10)), (by first | rfl | (simp; done) | (simp [*]; done)), H', ⟨by first | omega | exact Nat.le_refl _⟩, ⟨by (with_reducible repeat (first | refine qn ?_ _ | refine qd ?_ | refine qa ?_ _)); exact BK205.out⟩, ⟨by repeat (first | (with_reducible first | exact HB.out | apply qA | apply qN | apply qD | refine qS ?_ GE205.out) | exact HB.out)⟩⟩
  case rest =>
    clear HC2
    try clear p2
    try clear c4
    try clear c4b0
    try clear c4b1
    try clear c4b2
    try clear c6
    try clear hcz5_0
    try clear hcz5_1
    try clear hcz6_0
    try clear hcz6_1
    try clear hfz5_0
    try clear hfz5_1
    try clear hfz6_0
    try clear hfz6_1
    obtain ⟨kq, x17_1, rfl, HA, HJ1, BK205, HB⟩ := hcut
    cases kq with
    | zero => exact absurd HA.out (by simp [impl_SheetOk.j0])
    | succ kj1 =>
      have H := HA.out
      clear HA
      simp only [impl_SheetOk.j0] at H
      by_cases c7 : x17_1 = true
      · subst c7
        have H1 : (some false) = some r := by rw [if_pos rfl] at H; exact H
        clear H
        have H := H1
        clear H1
        obtain rfl := Option.some.inj H
        go_wp2
        go_ret
        exact ⟨by first | rfl | (simp [errW_none, errW_some] <;> rfl) | (simp [*, errW_none, errW_some] <;> rfl), by repeat (first | (with_reducible first | exact HB.out | apply qA | apply qN | apply qD | refine qS ?_ GE205.out) | exact HB.out)⟩
      replace c7 := Bool.eq_false_iff.mpr c7
      subst c7
      have H1 : (impl_SheetOk.l0 kj1 l0_1 (l0_1.length : Int) 0 l0_0 l0_1) = some r := by rw [if_neg (show ¬ (false = true) by decide)] at H; exact H
      clear H
      have H := H1
      clear H1
      have H' := qM H
      clear H
      have hcz8_0 : wc.cell? ⟨gb205, 0, none⟩ = some (.slice A0_0 l0_0.length c0_0) := (qC BK205.out 0).trans rfl
      have hcz8_1 : wc.cell? ⟨gb205, 1, none⟩ = some (.slice A0_1 l0_1.length c0_1) := (qC BK205.out 1).trans rfl
      have hfz8_0 := qF BK205.out 0
      have hfz8_1 := qF BK205.out 1
      go_wp2
      go_loopg [21] kj1 (fun kq v21 w' => ∃ (x21_2 : Int), v21 = .int .i64 x21_2 ∧ Aside0 (impl_SheetOk.l0 kq l0_1 (l0_1.length : Int) x21_2 l0_0 l0_1 = some r) ∧ Aside0 (kq ≤ kj1) ∧ Aside0 (w'.heap[gb205]? = some (.cells #[(.slice A0_0 l0_0.length c0_0), (.slice A0_1 l0_1.length c0_1)] 30 (0, 0))) ∧ Aside0 (Below w.heap.size w w'))
      case atStart => exact ⟨(0), (by first | rfl | (simp; done) | (simp [*]; done)), H', ⟨Nat.le_refl _⟩, ⟨by (with_reducible repeat (first | refine qn ?_ _ | refine qd ?_ | refine qa ?_ _)); exact BK205.out⟩, ⟨by repeat (first | (with_reducible first | exact HB.out | apply qA | apply qN | apply qD | refine qS ?_ GE205.out) | exact HB.out)⟩⟩
      case round =>
        clear H'
        try clear p2
        try clear c4
        try clear c4b0
        try clear c4b1
        try clear c4b2
        try clear c6
        try clear c7
        try clear hcz5_0
        try clear hcz5_1
        try clear hcz6_0
        try clear hcz6_1
        try clear hcz8_0
        try clear hcz8_1
        try clear hfz5_0
        try clear hfz5_1
        try clear hfz6_0
        try clear hfz6_1
        try clear hfz8_0
        try clear hfz8_1
        try clear p2
        obtain ⟨x21_2, rfl, HA, HK2, BK205, HB⟩ := hrel
        cases gk with
        | zero => exact absurd HA.out (by simp [impl_SheetOk.l0])
        | succ k2 =>
          have H := HA.out
          clear HA
          simp only [impl_SheetOk.l0] at H
          by_cases c9 : x21_2 < (l0_1.length : Int)
          rotate_left
          · rw [if_neg c9] at H
            have c9b0 : decide (x21_2 < (l0_1.length : Int)) = false := decide_eq_false c9
            clear c9
            obtain rfl := Option.some.inj H
            go_wp2
            go_ret
            exact ⟨by first | rfl | (simp [errW_none, errW_some] <;> rfl) | (simp [*, errW_none, errW_some] <;> rfl), by repeat (first | (with_reducible first | exact HB.out | apply qA | apply qN | apply qD | refine qS ?_ GE205.out) | exact HB.out)⟩
          rw [if_pos c9] at H
          have c9b0 : decide (x21_2 < (l0_1.length : Int)) = true := decide_eq_true c9
          clear c9
          by_cases c10 : 0 ≤ x21_2
          rotate_left
          · rw [if_neg c10] at H
            exact absurd H (by simp)
          rw [if_pos c10] at H
          have c10b0 : decide (0 ≤ x21_2) = true := decide_eq_true c10
          clear c10
          by_cases c11 : x21_2 < (l0_1.length : Int)
          rotate_left
          · rw [if_neg c11] at H
            exact absurd H (by simp)
          rw [if_pos c11] at H
          have c11b0 : decide (x21_2 < (l0_1.length : Int)) = true := decide_eq_true c11
          clear c11
          replace H := Option.bind_eq_some_iff.mp H
          obtain ⟨t208, A120, H⟩ := H
          replace H : (if t208 = true then (if x21_2 < (l0_0.length : Int) then (if rdOf false l0_0 x21_2 = true then (impl_SheetOk.l0 k2 l0_1 (l0_1.length : Int) (wrap64 (x21_2 + 1)) l0_0 l0_1) else (if ((rd_T141 l0_1 x21_2).f0) = 0 then (if ((rd_T141 l0_1 x21_2).f1) = 0 then (impl_SheetOk.l0 k2 l0_1 (l0_1.length : Int) (wrap64 (x21_2 + 1)) l0_0 l0_1) else (some false)) else (some false))) else (none)) else (some false)) = some r := H
          have A12 := qM A120
          clear A120
          by_cases c13 : t208 = true
          rotate_left
          · replace c13 := Bool.eq_false_iff.mpr c13
            subst c13
            have H1 : (some false) = some r := by rw [if_neg (show ¬ (false = true) by decide)] at H; exact H
            clear H
            have H := H1
            clear H1
            obtain rfl := Option.some.inj H
            have p206 : 0 ≤ (x21_2 : Int) := qO (by first | (with_reducible assumption) | assumption)
            have q206 : x21_2 < (l0_1.length : Int) := qO (by first | (with_reducible assumption) | assumption)
            obtain ⟨ad206, A206_2, c206_2, e206, hx206_0, hx206_1, hx206_2, hl206_2, hi206_2⟩ := at_T141 HR0_1.out x21_2 p206 q206
            cases e206
            replace hx206_0 := (HB.out.cell (qL w _ hx206_0)).trans hx206_0
            replace hx206_1 := (HB.out.cell (qL w _ hx206_1)).trans hx206_1
            replace hx206_2 := (HB.out.cell (qL w _ hx206_2)).trans hx206_2
            have HR206_2 := qM hi206_2
            have HC206_2 := qM hl206_2
            clear hi206_2 hl206_2
            replace p206 := eq_true p206
            replace q206 := eq_true q206
            go_wp2_with (first | ((with_reducible refine gate_dst (N := 4) rfl ?_); (try (refine gate_guard (by rfl) ?_; dsimp only)); refine box_event ?hg (N := 4) ?hd (cs := #[.int .i64 0, .int .i64 0, .slice none 0 0]) (t := 141) ?hr ?_; (case hd => rfl); (case hg => rfl); (case hr => first | (go_simp; done) | (go_simp; rfl)); intro gb207 hg w42 hbox hb; have n0_ := qM (blk_below (g := gb205) (o := .cells #[.slice A0_0 l0_0.length c0_0, .slice (some ad206) l0_1.length c0_1] 30 (0, 0)) (by (with_reducible repeat (first | refine qn ?_ _ | refine qd ?_ | refine qa ?_ _)); exact BK205.out) hb); have n1_ := qM (qs (by repeat (first | (with_reducible first | exact HB.out | apply qA | apply qN | apply qD | refine qS ?_ GE205.out) | exact HB.out)) hb); have n2_ := qM (hbox); have n3_ := qM ((by rw [hg]; exact (qz (by repeat (first | (with_reducible first | exact HB.out | apply qA | apply qN | apply qD | refine qS ?_ GE205.out) | exact HB.out))) : w.heap.size ≤ gb207)); have n4_ := qM ((by rw [hg]; exact (qz (by repeat (first | (with_reducible first | exact HB.out | apply qA | apply qN | apply qD | refine qS ?_ GE205.out) | exact HB.out))) : w.heap.size ≤ gb207)); have n5_ := qM ((by rw [hg]; exact Nat.ne_of_lt (blk_lt (g := gb205) (o := .cells #[.slice A0_0 l0_0.length c0_0, .slice (some ad206) l0_1.length c0_1] 30 (0, 0)) (by (with_reducible repeat (first | refine qn ?_ _ | refine qd ?_ | refine qa ?_ _)); exact BK205.out)) : gb205 ≠ gb207)); have n6_ := qM ((by rw [hg]; exact Nat.ne_of_gt (blk_lt (g := gb205) (o := .cells #[.slice A0_0 l0_0.length c0_0, .slice (some ad206) l0_1.length c0_1] 30 (0, 0)) (by (with_reducible repeat (first | refine qn ?_ _ | refine qd ?_ | refine qa ?_ _)); exact BK205.out)) : gb207 ≠ gb205)); clear BK205; clear HB; have BK205 := n0_; have HB := n1_; have BK207 := n2_; have GW207 := n3_; have GE207 := n4_; have NB205_207 := n5_; have NB207_205 := n6_; clear n0_ n1_ n2_ n3_ n4_ n5_ n6_; clear hb hbox hg; have hnb43 := NB207_205.out; have hnc43 := NB205_207.out; have hcz44_0 : w42.cell? ⟨gb207, 0, none⟩ = some (.int .i64 0) := (qC BK207.out 0).trans rfl; have hcz44_1 : w42.cell? ⟨gb207, 1, none⟩ = some (.int .i64 0) := (qC BK207.out 1).trans rfl; have hcz44_2 : w42.cell? ⟨gb207, 2, none⟩ = some (.slice none 0 0) := (qC BK207.out 2).trans rfl; have hfz44_0 := qF BK207.out 0; have hfz44_1 := qF BK207.out 1; have hfz44_2 := qF BK207.out 2) | ((with_reducible refine gate_callee (f := 110) rfl ?_); refine goesL_ (some 27) rfl rfl Try.func110 (by kernel_rfl) rfl #[.agg #[.int .i64 ((rd_T141 l0_1 x21_2).f0), .int .i64 ((rd_T141 l0_1 x21_2).f1), .slice A206_2 ((rd_T141 l0_1 x21_2).f2).length c206_2]] rfl (by (try simp only [List.map_toArray, List.map_cons, List.map_nil]); first | done | rfl | (simp only [List.length_drop, List.length_take]; rfl)) ?_; (with_reducible refine (impl_TaskOk.calls k2 ((rd_T141 l0_1 x21_2).f0) ((rd_T141 l0_1 x21_2).f1) _ _ ((rd_T141 l0_1 x21_2).f2) false _ ?side1 ?side2 A12.out).mono ?_); (case side1 => exact qB HR206_2.out (by repeat (first | (with_reducible first | exact HB.out | apply qA | apply qN | apply qD | refine qS ?_ GE205.out | refine qS ?_ GE207.out) | exact HB.out))); (case side2 => exact HC206_2.out); rintro e w45 ⟨rfl, hb⟩; refine ⟨_, rfl, ?_⟩; have n0_ := qM (blk_below (g := gb205) (o := .cells #[.slice A0_0 l0_0.length c0_0, .slice (some ad206) l0_1.length c0_1] 30 (0, 0)) (by (with_reducible repeat (first | refine qn ?_ _ | refine qd ?_ | refine qa ?_ _)); refine blk_far ?_ NB205_207.out _; (with_reducible repeat (first | refine qn ?_ _ | refine qd ?_ | refine qa ?_ _)); refine blk_far ?_ NB205_207.out _; (with_reducible repeat (first | refine qn ?_ _ | refine qd ?_ | refine qa ?_ _)); refine blk_far ?_ NB205_207.out _; (with_reducible repeat (first | refine qn ?_ _ | refine qd ?_ | refine qa ?_ _)); exact BK205.out) hb); have n1_ := qM (blk_below (g := gb207) (o := .cells #[.int .i64 ((rd_T141 l0_1 x21_2).f0), .int .i64 ((rd_T141 l0_1 x21_2).f1), .slice A206_2 ((rd_T141 l0_1 x21_2).f2).length c206_2] 141 (0, 0)) (by (with_reducible repeat (first | refine qn ?_ _ | refine qd ?_ | refine qa ?_ _)); refine blk_put (cs := #[.int .i64 ((rd_T141 l0_1 x21_2).f0), .int .i64 ((rd_T141 l0_1 x21_2).f1), .slice none 0 0]) ?_ 2 _ rfl; (with_reducible repeat (first | refine qn ?_ _ | refine qd ?_ | refine qa ?_ _)); refine blk_put (cs := #[.int .i64 ((rd_T141 l0_1 x21_2).f0), .int .i64 0, .slice none 0 0]) ?_ 1 _ rfl; (with_reducible repeat (first | refine qn ?_ _ | refine qd ?_ | refine qa ?_ _)); refine blk_put (cs := #[.int .i64 0, .int .i64 0, .slice none 0 0]) ?_ 0 _ rfl; (with_reducible repeat (first | refine qn ?_ _ | refine qd ?_ | refine qa ?_ _)); exact BK207.out) hb); have n2_ := qM (qs (by repeat (first | (with_reducible first | exact HB.out | apply qA | apply qN | apply qD | refine qS ?_ GE205.out | refine qS ?_ GE207.out) | exact HB.out)) hb); clear BK205; clear BK207; clear HB; have BK205 := n0_; have BK207 := n1_; have HB := n2_; clear n0_ n1_ n2_; (try clear hb); (try clear hb2); (try clear hk); (try clear hi)))
            go_ret
            exact ⟨by first | rfl | (simp [errW_none, errW_some] <;> rfl) | (simp [*, errW_none, errW_some] <;> rfl), by repeat (first | (with_reducible first | exact HB.out | apply qA | apply qN | apply qD | refine qS ?_ GE205.out | refine qS ?_ GE207.out) | exact HB.out)⟩
          subst c13
          have H1 : (if x21_2 < (l0_0.length : Int) then (if rdOf false l0_0 x21_2 = true then (impl_SheetOk.l0 k2 l0_1 (l0_1.length : Int) (wrap64 (x21_2 + 1)) l0_0 l0_1) else (if ((rd_T141 l0_1 x21_2).f0) = 0 then (if ((rd_T141 l0_1 x21_2).f1) = 0 then (impl_SheetOk.l0 k2 l0_1 (l0_1.length : Int) (wrap64 (x21_2 + 1)) l0_0 l0_1) else (some false)) else (some false))) else (none)) = some r := by rw [if_pos rfl] at H; exact H
          clear H
          have H := H1
          clear H1
          by_cases c14 : x21_2 < (l0_0.length : Int)
          rotate_left
          · rw [if_neg c14] at H
            exact absurd H (by simp)
          rw [if_pos c14] at H
          have c14b0 : decide (x21_2 < (l0_0.length : Int)) = true := decide_eq_true c14
          clear c14
          obtain ⟨bq15, hbq15⟩ : ∃ b_ : Bool, b_ = (rdOf false l0_0 x21_2) := ⟨_, rfl⟩
          replace H : (if bq15 = true then (impl_SheetOk.l0 k2 l0_1 (l0_1.length : Int) (wrap64 (x21_2 + 1)) l0_0 l0_1) else (if ((rd_T141 l0_1 x21_2).f0) = 0 then (if ((rd_T141 l0_1 x21_2).f1) = 0 then (impl_SheetOk.l0 k2 l0_1 (l0_1.length : Int) (wrap64 (x21_2 + 1)) l0_0 l0_1) else (some false)) else (some false))) = some r := by rw [← hbq15] at H; exact H
          have Nbq15 := qM hbq15
          clear hbq15
          by_cases c16 : bq15 = true
          · subst c16
            have H1 : (impl_SheetOk.l0 k2 l0_1 (l0_1.length : Int) (wrap64 (x21_2 + 1)) l0_0 l0_1) = some r := by rw [if_pos rfl] at H; exact H
            clear H
            have H := H1
            clear H1
            have H' := qM H
            clear H
            have p206 : 0 ≤ (x21_2 : Int) := qO (by first | (with_reducible assumption) | assumption)
            have q206 : x21_2 < (l0_1.length : Int) := qO (by first | (with_reducible assumption) | assumption)
            obtain ⟨ad206, A206_2, c206_2, e206, hx206_0, hx206_1, hx206_2, hl206_2, hi206_2⟩ := at_T141 HR0_1.out x21_2 p206 q206
            cases e206
            replace hx206_0 := (HB.out.cell (qL w _ hx206_0)).trans hx206_0
            replace hx206_1 := (HB.out.cell (qL w _ hx206_1)).trans hx206_1
            replace hx206_2 := (HB.out.cell (qL w _ hx206_2)).trans hx206_2
            have HR206_2 := qM hi206_2
            have HC206_2 := qM hl206_2
            clear hi206_2 hl206_2
            replace p206 := eq_true p206
            replace q206 := eq_true q206
            go_wp2_with (first | ((with_reducible refine gate_dst (N := 4) rfl ?_); (try (refine gate_guard (by rfl) ?_; dsimp only)); refine box_event ?hg (N := 4) ?hd (cs := #[.int .i64 0, .int .i64 0, .slice none 0 0]) (t := 141) ?hr ?_; (case hd => rfl); (case hg => rfl); (case hr => first | (go_simp; done) | (go_simp; rfl)); intro gb207 hg w17 hbox hb; have n0_ := qM (blk_below (g := gb205) (o := .cells #[.slice A0_0 l0_0.length c0_0, .slice (some ad206) l0_1.length c0_1] 30 (0, 0)) (by (with_reducible repeat (first | refine qn ?_ _ | refine qd ?_ | refine qa ?_ _)); exact BK205.out) hb); have n1_ := qM (qs (by repeat (first | (with_reducible first | exact HB.out | apply qA | apply qN | apply qD | refine qS ?_ GE205.out) | exact HB.out)) hb); have n2_ := qM (hbox); have n3_ := qM ((by rw [hg]; exact (qz (by repeat (first | (with_reducible first | exact HB.out | apply qA | apply qN | apply qD | refine qS ?_ GE205.out) | exact HB.out))) : w.heap.size ≤ gb207)); have n4_ := qM ((by rw [hg]; exact (qz (by repeat (first | (with_reducible first | exact HB.out | apply qA | apply qN | apply qD | refine qS ?_ GE205.out) | exact HB.out))) : w.heap.size ≤ gb207)); have n5_ := qM ((by rw [hg]; exact Nat.ne_of_lt (blk_lt (g := gb205) (o := .cells #[.slice A0_0 l0_0.length c0_0, .slice (some ad206) l0_1.length c0_1] 30 (0, 0)) (by (with_reducible repeat (first | refine qn ?_ _ | refine qd ?_ | refine qa ?_ _)); exact BK205.out)) : gb205 ≠ gb207)); have n6_ := qM ((by rw [hg]; exact Nat.ne_of_gt (blk_lt (g := gb205) (o := .cells #[.slice A0_0 l0_0.length c0_0, .slice (some ad206) l0_1.length c0_1] 30 (0, 0)) (by (with_reducible repeat (first | refine qn ?_ _ | refine qd ?_ | refine qa ?_ _)); exact BK205.out)) : gb207 ≠ gb205)); clear BK205; clear HB; have BK205 := n0_; have HB := n1_; have BK207 := n2_; have GW207 := n3_; have GE207 := n4_; have NB205_207 := n5_; have NB207_205 := n6_; clear n0_ n1_ n2_ n3_ n4_ n5_ n6_; clear hb hbox hg; have hnb18 := NB207_205.out; have hnc18 := NB205_207.out; have hcz19_0 : w17.cell? ⟨gb207, 0, none⟩ = some (.int .i64 0) := (qC BK207.out 0).trans rfl; have hcz19_1 : w17.cell? ⟨gb207, 1, none⟩ = some (.int .i64 0) := (qC BK207.out 1).trans rfl; have hcz19_2 : w17.cell? ⟨gb207, 2, none⟩ = some (.slice none 0 0) := (qC BK207.out 2).trans rfl; have hfz19_0 := qF BK207.out 0; have hfz19_1 := qF BK207.out 1; have hfz19_2 := qF BK207.out 2) | ((with_reducible refine gate_callee (f := 110) rfl ?_); refine goesL_ (some 27) rfl rfl Try.func110 (by kernel_rfl) rfl #[.agg #[.int .i64 ((rd_T141 l0_1 x21_2).f0), .int .i64 ((rd_T141 l0_1 x21_2).f1), .slice A206_2 ((rd_T141 l0_1 x21_2).f2).length c206_2]] rfl (by (try simp only [List.map_toArray, List.map_cons, List.map_nil]); first | done | rfl | (simp only [List.length_drop, List.length_take]; rfl)) ?_; (with_reducible refine (impl_TaskOk.calls k2 ((rd_T141 l0_1 x21_2).f0) ((rd_T141 l0_1 x21_2).f1) _ _ ((rd_T141 l0_1 x21_2).f2) true _ ?side1 ?side2 A12.out).mono ?_); (case side1 => exact qB HR206_2.out (by repeat (first | (with_reducible first | exact HB.out | apply qA | apply qN | apply qD | refine qS ?_ GE205.out | refine qS ?_ GE207.out) | exact HB.out))); (case side2 => exact HC206_2.out); rintro e w20 ⟨rfl, hb⟩; refine ⟨_, rfl, ?_⟩; have n0_ := qM (blk_below (g := gb205) (o := .cells #[.slice A0_0 l0_0.length c0_0, .slice (some ad206) l0_1.length c0_1] 30 (0, 0)) (by (with_reducible repeat (first | refine qn ?_ _ | refine qd ?_ | refine qa ?_ _)); refine blk_far ?_ NB205_207.out _; (with_reducible repeat (first | refine qn ?_ _ | refine qd ?_ | refine qa ?_ _)); refine blk_far ?_ NB205_207.out _; (with_reducible repeat (first | refine qn ?_ _ | refine qd ?_ | refine qa ?_ _)); refine blk_far ?_ NB205_207.out _; (with_reducible repeat (first | refine qn ?_ _ | refine qd ?_ | refine qa ?_ _)); exact BK205.out) hb); have n1_ := qM (blk_below (g := gb207) (o := .cells #[.int .i64 ((rd_T141 l0_1 x21_2).f0), .int .i64 ((rd_T141 l0_1 x21_2).f1), .slice A206_2 ((rd_T141 l0_1 x21_2).f2).length c206_2] 141 (0, 0)) (by (with_reducible repeat (first | refine qn ?_ _ | refine qd ?_ | refine qa ?_ _)); refine blk_put (cs := #[.int .i64 ((rd_T141 l0_1 x21_2).f0), .int .i64 ((rd_T141 l0_1 x21_2).f1), .slice none 0 0]) ?_ 2 _ rfl; (with_reducible repeat (first | refine qn ?_ _ | refine qd ?_ | refine qa ?_ _)); refine blk_put (cs := #[.int .i64 ((rd_T141 l0_1 x21_2).f0), .int .i64 0, .slice none 0 0]) ?_ 1 _ rfl; (with_reducible repeat (first | refine qn ?_ _ | refine qd ?_ | refine qa ?_ _)); refine blk_put (cs := #[.int .i64 0, .int .i64 0, .slice none 0 0]) ?_ 0 _ rfl; (with_reducible repeat (first | refine qn ?_ _ | refine qd ?_ | refine qa ?_ _)); exact BK207.out) hb); have n2_ := qM (qs (by repeat (first | (with_reducible first | exact HB.out | apply qA | apply qN | apply qD | refine qS ?_ GE205.out | refine qS ?_ GE207.out) | exact HB.out)) hb); clear BK205; clear BK207; clear HB; have BK205 := n0_; have BK207 := n1_; have HB := n2_; clear n0_ n1_ n2_; (try clear hb); (try clear hb2); (try clear hk); (try clear hi); have hcz21_0 : w20.cell? ⟨gb205, 0, none⟩ = some (.slice A0_0 l0_0.length c0_0) := (qC BK205.out 0).trans rfl; have hcz21_1 : w20.cell? ⟨gb205, 1, none⟩ = some (.slice (some ad206) l0_1.length c0_1) := (qC BK205.out 1).trans rfl; have hfz21_0 := qF BK205.out 0; have hfz21_1 := qF BK205.out 1; have p209 : 0 ≤ (x21_2 : Int) := qO (by first | (with_reducible assumption) | assumption); have q209 : x21_2 < (l0_0.length : Int) := qO (by first | (with_reducible assumption) | assumption); obtain ⟨ad209, e209, hx209_0⟩ := Kd.at_bool HR0_0.out x21_2 p209 q209; (try rw [← Nbq15.out] at hx209_0); cases e209; replace hx209_0 := (HB.out.cell (qL w _ hx209_0)).trans hx209_0; replace p209 := eq_true p209; replace q209 := eq_true q209))
            go_roundg k2
            case measure => have := HJ1.out; have := HK2.out; omega
            case rel => exact ⟨(wrap64 (x21_2 + 1)), (by first | rfl | (simp; done) | (simp [*]; done)), H', ⟨by have := HJ1.out; have := HK2.out; omega⟩, ⟨by (with_reducible repeat (first | refine qn ?_ _ | refine qd ?_ | refine qa ?_ _)); exact BK205.out⟩, ⟨by repeat (first | (with_reducible first | exact HB.out | apply qA | apply qN | apply qD | refine qS ?_ GE205.out | refine qS ?_ GE207.out) | exact HB.out)⟩⟩
          replace c16 := Bool.eq_false_iff.mpr c16
          subst c16
          have H1 : (if ((rd_T141 l0_1 x21_2).f0) = 0 then (if ((rd_T141 l0_1 x21_2).f1) = 0 then (impl_SheetOk.l0 k2 l0_1 (l0_1.length : Int) (wrap64 (x21_2 + 1)) l0_0 l0_1) else (some false)) else (some false)) = some r := by rw [if_neg (show ¬ (false = true) by decide)] at H; exact H
          clear H
          have H := H1
          clear H1
          by_cases c22 : ((rd_T141 l0_1 x21_2).f0) = 0
          rotate_left
          · rw [if_neg c22] at H
            have c22b0 : (((rd_T141 l0_1 x21_2).f0) == 0) = false := beq_eq_false_iff_ne.mpr c22
            have c22b1 : (((rd_T141 l0_1 x21_2).f0) != 0) = true := bne_iff_ne.mpr c22
            obtain rfl := Option.some.inj H
            have p206 : 0 ≤ (x21_2 : Int) := qO (by first | (with_reducible assumption) | assumption)
            have q206 : x21_2 < (l0_1.length : Int) := qO (by first | (with_reducible assumption) | assumption)
            obtain ⟨ad206, A206_2, c206_2, e206, hx206_0, hx206_1, hx206_2, hl206_2, hi206_2⟩ := at_T141 HR0_1.out x21_2 p206 q206
            cases e206
            replace hx206_0 := (HB.out.cell (qL w _ hx206_0)).trans hx206_0
            replace hx206_1 := (HB.out.cell (qL w _ hx206_1)).trans hx206_1
            replace hx206_2 := (HB.out.cell (qL w _ hx206_2)).trans hx206_2
            have HR206_2 := qM hi206_2
            have HC206_2 := qM hl206_2
            clear hi206_2 hl206_2
            replace p206 := eq_true p206
            replace q206 := eq_true q206
            go_wp2_with (first | ((with_reducible refine gate_dst (N := 4) rfl ?_); (try (refine gate_guard (by rfl) ?_; dsimp only)); refine box_event ?hg (N := 4) ?hd (cs := #[.int .i64 0, .int .i64 0, .slice none 0 0]) (t := 141) ?hr ?_; (case hd => rfl); (case hg => rfl); (case hr => first | (go_simp; done) | (go_simp; rfl)); intro gb207 hg w36 hbox hb; have n0_ := qM (blk_below (g := gb205) (o := .cells #[.slice A0_0 l0_0.length c0_0, .slice (some ad206) l0_1.length c0_1] 30 (0, 0)) (by (with_reducible repeat (first | refine qn ?_ _ | refine qd ?_ | refine qa ?_ _)); exact BK205.out) hb); have n1_ := qM (qs (by repeat (first | (with_reducible first | exact HB.out | apply qA | apply qN | apply qD | refine qS ?_ GE205.out) | exact HB.out)) hb); have n2_ := qM (hbox); have n3_ := qM ((by rw [hg]; exact (qz (by repeat (first | (with_reducible first | exact HB.out | apply qA | apply qN | apply qD | refine qS ?_ GE205.out) | exact HB.out))) : w.heap.size ≤ gb207)); have n4_ := qM ((by rw [hg]; exact (qz (by repeat (first | (with_reducible first | exact HB.out | apply qA | apply qN | apply qD | refine qS ?_ GE205.out) | exact HB.out))) : w.heap.size ≤ gb207)); have n5_ := qM ((by rw [hg]; exact Nat.ne_of_lt (blk_lt (g := gb205) (o := .cells #[.slice A0_0 l0_0.length c0_0, .slice (some ad206) l0_1.length c0_1] 30 (0, 0)) (by (with_reducible repeat (first | refine qn ?_ _ | refine qd ?_ | refine qa ?_ _)); exact BK205.out)) : gb205 ≠ gb207)); have n6_ := qM ((by rw [hg]; exact Nat.ne_of_gt (blk_lt (g := gb205) (o := .cells #[.slice A0_0 l0_0.length c0_0, .slice (some ad206) l0_1.length c0_1] 30 (0, 0)) (by (with_reducible repeat (first | refine qn ?_ _ | refine qd ?_ | refine qa ?_ _)); exact BK205.out)) : gb207 ≠ gb205)); clear BK205; clear HB; have BK205 := n0_; have HB := n1_; have BK207 := n2_; have GW207 := n3_; have GE207 := n4_; have NB205_207 := n5_; have NB207_205 := n6_; clear n0_ n1_ n2_ n3_ n4_ n5_ n6_; clear hb hbox hg; have hnb37 := NB207_205.out; have hnc37 := NB205_207.out; have hcz38_0 : w36.cell? ⟨gb207, 0, none⟩ = some (.int .i64 0) := (qC BK207.out 0).trans rfl; have hcz38_1 : w36.cell? ⟨gb207, 1, none⟩ = some (.int .i64 0) := (qC BK207.out 1).trans rfl; have hcz38_2 : w36.cell? ⟨gb207, 2, none⟩ = some (.slice none 0 0) := (qC BK207.out 2).trans rfl; have hfz38_0 := qF BK207.out 0; have hfz38_1 := qF BK207.out 1; have hfz38_2 := qF BK207.out 2) | ((with_reducible refine gate_callee (f := 110) rfl ?_); refine goesL_ (some 27) rfl rfl Try.func110 (by kernel_rfl) rfl #[.agg #[.int .i64 ((rd_T141 l0_1 x21_2).f0), .int .i64 ((rd_T141 l0_1 x21_2).f1), .slice A206_2 ((rd_T141 l0_1 x21_2).f2).length c206_2]] rfl (by (try simp only [List.map_toArray, List.map_cons, List.map_nil]); first | done | rfl | (simp only [List.length_drop, List.length_take]; rfl)) ?_; (with_reducible refine (impl_TaskOk.calls k2 ((rd_T141 l0_1 x21_2).f0) ((rd_T141 l0_1 x21_2).f1) _ _ ((rd_T141 l0_1 x21_2).f2) true _ ?side1 ?side2 A12.out).mono ?_); (case side1 => exact qB HR206_2.out (by repeat (first | (with_reducible first | exact HB.out | apply qA | apply qN | apply qD | refine qS ?_ GE205.out | refine qS ?_ GE207.out) | exact HB.out))); (case side2 => exact HC206_2.out); rintro e w39 ⟨rfl, hb⟩; refine ⟨_, rfl, ?_⟩; have n0_ := qM (blk_below (g := gb205) (o := .cells #[.slice A0_0 l0_0.length c0_0, .slice (some ad206) l0_1.length c0_1] 30 (0, 0)) (by (with_reducible repeat (first | refine qn ?_ _ | refine qd ?_ | refine qa ?_ _)); refine blk_far ?_ NB205_207.out _; (with_reducible repeat (first | refine qn ?_ _ | refine qd ?_ | refine qa ?_ _)); refine blk_far ?_ NB205_207.out _; (with_reducible repeat (first | refine qn ?_ _ | refine qd ?_ | refine qa ?_ _)); refine blk_far ?_ NB205_207.out _; (with_reducible repeat (first | refine qn ?_ _ | refine qd ?_ | refine qa ?_ _)); exact BK205.out) hb); have n1_ := qM (blk_below (g := gb207) (o := .cells #[.int .i64 ((rd_T141 l0_1 x21_2).f0), .int .i64 ((rd_T141 l0_1 x21_2).f1), .slice A206_2 ((rd_T141 l0_1 x21_2).f2).length c206_2] 141 (0, 0)) (by (with_reducible repeat (first | refine qn ?_ _ | refine qd ?_ | refine qa ?_ _)); refine blk_put (cs := #[.int .i64 ((rd_T141 l0_1 x21_2).f0), .int .i64 ((rd_T141 l0_1 x21_2).f1), .slice none 0 0]) ?_ 2 _ rfl; (with_reducible repeat (first | refine qn ?_ _ | refine qd ?_ | refine qa ?_ _)); refine blk_put (cs := #[.int .i64 ((rd_T141 l0_1 x21_2).f0), .int .i64 0, .slice none 0 0]) ?_ 1 _ rfl; (with_reducible repeat (first | refine qn ?_ _ | refine qd ?_ | refine qa ?_ _)); refine blk_put (cs := #[.int .i64 0, .int .i64 0, .slice none 0 0]) ?_ 0 _ rfl; (with_reducible repeat (first | refine qn ?_ _ | refine qd ?_ | refine qa ?_ _)); exact BK207.out) hb); have n2_ := qM (qs (by repeat (first | (with_reducible first | exact HB.out | apply qA | apply qN | apply qD | refine qS ?_ GE205.out | refine qS ?_ GE207.out) | exact HB.out)) hb); clear BK205; clear BK207; clear HB; have BK205 := n0_; have BK207 := n1_; have HB := n2_; clear n0_ n1_ n2_; (try clear hb); (try clear hb2); (try clear hk); (try clear hi); have hcz40_0 : w39.cell? ⟨gb205, 0, none⟩ = some (.slice A0_0 l0_0.length c0_0) := (qC BK205.out 0).trans rfl; have hcz40_1 : w39.cell? ⟨gb205, 1, none⟩ = some (.slice (some ad206) l0_1.length c0_1) := (qC BK205.out 1).trans rfl; have hfz40_0 := qF BK205.out 0; have hfz40_1 := qF BK205.out 1; have p209 : 0 ≤ (x21_2 : Int) := qO (by first | (with_reducible assumption) | assumption); have q209 : x21_2 < (l0_0.length : Int) := qO (by first | (with_reducible assumption) | assumption); obtain ⟨ad209, e209, hx209_0⟩ := Kd.at_bool HR0_0.out x21_2 p209 q209; (try rw [← Nbq15.out] at hx209_0); cases e209; replace hx209_0 := (HB.out.cell (qL w _ hx209_0)).trans hx209_0; replace p209 := eq_true p209; replace q209 := eq_true q209; have hcz41_0 : w39.cell? ⟨gb207, 0, none⟩ = some (.int .i64 ((rd_T141 l0_1 x21_2).f0)) := (qC BK207.out 0).trans rfl; have hcz41_1 : w39.cell? ⟨gb207, 1, none⟩ = some (.int .i64 ((rd_T141 l0_1 x21_2).f1)) := (qC BK207.out 1).trans rfl; have hcz41_2 : w39.cell? ⟨gb207, 2, none⟩ = some (.slice A206_2 ((rd_T141 l0_1 x21_2).f2).length c206_2) := (qC BK207.out 2).trans rfl; have hfz41_0 := qF BK207.out 0; have hfz41_1 := qF BK207.out 1; have hfz41_2 := qF BK207.out 2))
            go_ret
            exact ⟨by first | rfl | (simp [errW_none, errW_some] <;> rfl) | (simp [*, errW_none, errW_some] <;> rfl), by repeat (first | (with_reducible first | exact HB.out | apply qA | apply qN | apply qD | refine qS ?_ GE205.out | refine qS ?_ GE207.out) | exact HB.out)⟩
          rw [if_pos c22] at H
          have c22b0 : (((rd_T141 l0_1 x21_2).f0) == 0) = true := beq_iff_eq.mpr c22
          have c22b1 : (((rd_T141 l0_1 x21_2).f0) != 0) = false := bne_eq_false_iff_eq.mpr c22
          clear c22
          by_cases c23 : ((rd_T141 l0_1 x21_2).f1) = 0
          rotate_left
          · rw [if_neg c23] at H
            have c23b0 : (((rd_T141 l0_1 x21_2).f1) == 0) = false := beq_eq_false_iff_ne.mpr c23
            have c23b1 : (((rd_T141 l0_1 x21_2).f1) != 0) = true := bne_iff_ne.mpr c23
            obtain rfl := Option.some.inj H
            have p206 : 0 ≤ (x21_2 : Int) := qO (by first | (with_reducible assumption) | assumption)
            have q206 : x21_2 < (l0_1.length : Int) := qO (by first | (with_reducible assumption) | assumption)
            obtain ⟨ad206, A206_2, c206_2, e206, hx206_0, hx206_1, hx206_2, hl206_2, hi206_2⟩ := at_T141 HR0_1.out x21_2 p206 q206
            cases e206
            replace hx206_0 := (HB.out.cell (qL w _ hx206_0)).trans hx206_0
            replace hx206_1 := (HB.out.cell (qL w _ hx206_1)).trans hx206_1
            replace hx206_2 := (HB.out.cell (qL w _ hx206_2)).trans hx206_2
            have HR206_2 := qM hi206_2
            have HC206_2 := qM hl206_2
            clear hi206_2 hl206_2
            replace p206 := eq_true p206
            replace q206 := eq_true q206
            go_wp2_with (first | ((with_reducible refine gate_dst (N := 4) rfl ?_); (try (refine gate_guard (by rfl) ?_; dsimp only)); refine box_event ?hg (N := 4) ?hd (cs := #[.int .i64 0, .int .i64 0, .slice none 0 0]) (t := 141) ?hr ?_; (case hd => rfl); (case hg => rfl); (case hr => first | (go_simp; done) | (go_simp; rfl)); intro gb207 hg w30 hbox hb; have n0_ := qM (blk_below (g := gb205) (o := .cells #[.slice A0_0 l0_0.length c0_0, .slice (some ad206) l0_1.length c0_1] 30 (0, 0)) (by (with_reducible repeat (first | refine qn ?_ _ | refine qd ?_ | refine qa ?_ _)); exact BK205.out) hb); have n1_ := qM (qs (by repeat (first | (with_reducible first | exact HB.out | apply qA | apply qN | apply qD | refine qS ?_ GE205.out) | exact HB.out)) hb); have n2_ := qM (hbox); have n3_ := qM ((by rw [hg]; exact (qz (by repeat (first | (with_reducible first | exact HB.out | apply qA | apply qN | apply qD | refine qS ?_ GE205.out) | exact HB.out))) : w.heap.size ≤ gb207)); have n4_ := qM ((by rw [hg]; exact (qz (by repeat (first | (with_reducible first | exact HB.out | apply qA | apply qN | apply qD | refine qS ?_ GE205.out) | exact HB.out))) : w.heap.size ≤ gb207)); have n5_ := qM ((by rw [hg]; exact Nat.ne_of_lt (blk_lt (g := gb205) (o := .cells #[.slice A0_0 l0_0.length c0_0, .slice (some ad206) l0_1.length c0_1] 30 (0, 0)) (by (with_reducible repeat (first | refine qn ?_ _ | refine qd ?_ | refine qa ?_ _)); exact BK205.out)) : gb205 ≠ gb207)); have n6_ := qM ((by rw [hg]; exact Nat.ne_of_gt (blk_lt (g := gb205) (o := .cells #[.slice A0_0 l0_0.length c0_0, .slice (some ad206) l0_1.length c0_1] 30 (0, 0)) (by (with_reducible repeat (first | refine qn ?_ _ | refine qd ?_ | refine qa ?_ _)); exact BK205.out)) : gb207 ≠ gb205)); clear BK205; clear HB; have BK205 := n0_; have HB := n1_; have BK207 := n2_; have GW207 := n3_; have GE207 := n4_; have NB205_207 := n5_; have NB207_205 := n6_; clear n0_ n1_ n2_ n3_ n4_ n5_ n6_; clear hb hbox hg; have hnb31 := NB207_205.out; have hnc31 := NB205_207.out; have hcz32_0 : w30.cell? ⟨gb207, 0, none⟩ = some (.int .i64 0) := (qC BK207.out 0).trans rfl; have hcz32_1 : w30.cell? ⟨gb207, 1, none⟩ = some (.int .i64 0) := (qC BK207.out 1).trans rfl; have hcz32_2 : w30.cell? ⟨gb207, 2, none⟩ = some (.slice none 0 0) := (qC BK207.out 2).trans rfl; have hfz32_0 := qF BK207.out 0; have hfz32_1 := qF BK207.out 1; have hfz32_2 := qF BK207.out 2) | ((with_reducible refine gate_callee (f := 110) rfl ?_); refine goesL_ (some 27) rfl rfl Try.func110 (by kernel_rfl) rfl #[.agg #[.int .i64 ((rd_T141 l0_1 x21_2).f0), .int .i64 ((rd_T141 l0_1 x21_2).f1), .slice A206_2 ((rd_T141 l0_1 x21_2).f2).length c206_2]] rfl (by (try simp only [List.map_toArray, List.map_cons, List.map_nil]); first | done | rfl | (simp only [List.length_drop, List.length_take]; rfl)) ?_; (with_reducible refine (impl_TaskOk.calls k2 ((rd_T141 l0_1 x21_2).f0) ((rd_T141 l0_1 x21_2).f1) _ _ ((rd_T141 l0_1 x21_2).f2) true _ ?side1 ?side2 A12.out).mono ?_); (case side1 => exact qB HR206_2.out (by repeat (first | (with_reducible first | exact HB.out | apply qA | apply qN | apply qD | refine qS ?_ GE205.out | refine qS ?_ GE207.out) | exact HB.out))); (case side2 => exact HC206_2.out); rintro e w33 ⟨rfl, hb⟩; refine ⟨_, rfl, ?_⟩; have n0_ := qM (blk_below (g := gb205) (o := .cells #[.slice A0_0 l0_0.length c0_0, .slice (some ad206) l0_1.length c0_1] 30 (0, 0)) (by (with_reducible repeat (first | refine qn ?_ _ | refine qd ?_ | refine qa ?_ _)); refine blk_far ?_ NB205_207.out _; (with_reducible repeat (first | refine qn ?_ _ | refine qd ?_ | refine qa ?_ _)); refine blk_far ?_ NB205_207.out _; (with_reducible repeat (first | refine qn ?_ _ | refine qd ?_ | refine qa ?_ _)); refine blk_far ?_ NB205_207.out _; (with_reducible repeat (first | refine qn ?_ _ | refine qd ?_ | refine qa ?_ _)); exact BK205.out) hb); have n1_ := qM (blk_below (g := gb207) (o := .cells #[.int .i64 ((rd_T141 l0_1 x21_2).f0), .int .i64 ((rd_T141 l0_1 x21_2).f1), .slice A206_2 ((rd_T141 l0_1 x21_2).f2).length c206_2] 141 (0, 0)) (by (with_reducible repeat (first | refine qn ?_ _ | refine qd ?_ | refine qa ?_ _)); refine blk_put (cs := #[.int .i64 ((rd_T141 l0_1 x21_2).f0), .int .i64 ((rd_T141 l0_1 x21_2).f1), .slice none 0 0]) ?_ 2 _ rfl; (with_reducible repeat (first | refine qn ?_ _ | refine qd ?_ | refine qa ?_ _)); refine blk_put (cs := #[.int .i64 ((rd_T141 l0_1 x21_2).f0), .int .i64 0, .slice none 0 0]) ?_ 1 _ rfl; (with_reducible repeat (first | refine qn ?_ _ | refine qd ?_ | refine qa ?_ _)); refine blk_put (cs := #[.int .i64 0, .int .i64 0, .slice none 0 0]) ?_ 0 _ rfl; (with_reducible repeat (first | refine qn ?_ _ | refine qd ?_ | refine qa ?_ _)); exact BK207.out) hb); have n2_ := qM (qs (by repeat (first | (with_reducible first | exact HB.out | apply qA | apply qN | apply qD | refine qS ?_ GE205.out | refine qS ?_ GE207.out) | exact HB.out)) hb); clear BK205; clear BK207; clear HB; have BK205 := n0_; have BK207 := n1_; have HB := n2_; clear n0_ n1_ n2_; (try clear hb); (try clear hb2); (try clear hk); (try clear hi); have hcz34_0 : w33.cell? ⟨gb205, 0, none⟩ = some (.slice A0_0 l0_0.length c0_0) := (qC BK205.out 0).trans rfl; have hcz34_1 : w33.cell? ⟨gb205, 1, none⟩ = some (.slice (some ad206) l0_1.length c0_1) := (qC BK205.out 1).trans rfl; have hfz34_0 := qF BK205.out 0; have hfz34_1 := qF BK205.out 1; have p209 : 0 ≤ (x21_2 : Int) := qO (by first | (with_reducible assumption) | assumption); have q209 : x21_2 < (l0_0.length : Int) := qO (by first | (with_reducible assumption) | assumption); obtain ⟨ad209, e209, hx209_0⟩ := Kd.at_bool HR0_0.out x21_2 p209 q209; (try rw [← Nbq15.out] at hx209_0); cases e209; replace hx209_0 := (HB.out.cell (qL w _ hx209_0)).trans hx209_0; replace p209 := eq_true p209; replace q209 := eq_true q209; have hcz35_0 : w33.cell? ⟨gb207, 0, none⟩ = some (.int .i64 ((rd_T141 l0_1 x21_2).f0)) := (qC BK207.out 0).trans rfl; have hcz35_1 : w33.cell? ⟨gb207, 1, none⟩ = some (.int .i64 ((rd_T141 l0_1 x21_2).f1)) := (qC BK207.out 1).trans rfl; have hcz35_2 : w33.cell? ⟨gb207, 2, none⟩ = some (.slice A206_2 ((rd_T141 l0_1 x21_2).f2).length c206_2) := (qC BK207.out 2).trans rfl; have hfz35_0 := qF BK207.out 0; have hfz35_1 := qF BK207.out 1; have hfz35_2 := qF BK207.out 2))
            go_ret
            exact ⟨by first | rfl | (simp [errW_none, errW_some] <;> rfl) | (simp [*, errW_none, errW_some] <;> rfl), by repeat (first | (with_reducible first | exact HB.out | apply qA | apply qN | apply qD | refine qS ?_ GE205.out | refine qS ?_ GE207.out) | exact HB.out)⟩
          rw [if_pos c23] at H
          have c23b0 : (((rd_T141 l0_1 x21_2).f1) == 0) = true := beq_iff_eq.mpr c23
          have c23b1 : (((rd_T141 l0_1 x21_2).f1) != 0) = false := bne_eq_false_iff_eq.mpr c23
          clear c23
          have H' := qM H
          clear H
          have p206 : 0 ≤ (x21_2 : Int) := qO (by first | (with_reducible assumption) | assumption)
          have q206 : x21_2 < (l0_1.length : Int) := qO (by first | (with_reducible assumption) | assumption)
          obtain ⟨ad206, A206_2, c206_2, e206, hx206_0, hx206_1, hx206_2, hl206_2, hi206_2⟩ := at_T141 HR0_1.out x21_2 p206 q206
          cases e206
          replace hx206_0 := (HB.out.cell (qL w _ hx206_0)).trans hx206_0
          replace hx206_1 := (HB.out.cell (qL w _ hx206_1)).trans hx206_1
          replace hx206_2 := (HB.out.cell (qL w _ hx206_2)).trans hx206_2
          have HR206_2 := qM hi206_2
          have HC206_2 := qM hl206_2
          clear hi206_2 hl206_2
          replace p206 := eq_true p206
          replace q206 := eq_true q206
          go_wp2_with (first | ((with_reducible refine gate_dst (N := 4) rfl ?_); (try (refine gate_guard (by rfl) ?_; dsimp only)); refine box_event ?hg (N := 4) ?hd (cs := #[.int .i64 0, .int .i64 0, .slice none 0 0]) (t := 141) ?hr ?_; (case hd => rfl); (case hg => rfl); (case hr => first | (go_simp; done) | (go_simp; rfl)); intro gb207 hg w24 hbox hb; have n0_ := qM (blk_below (g := gb205) (o := .cells #[.slice A0_0 l0_0.length c0_0, .slice (some ad206) l0_1.length c0_1] 30 (0, 0)) (by (with_reducible repeat (first | refine qn ?_ _ | refine qd ?_ | refine qa ?_ _)); exact BK205.out) hb); have n1_ := qM (qs (by repeat (first | (with_reducible first | exact HB.out | apply qA | apply qN | apply qD | refine qS ?_ GE205.out) | exact HB.out)) hb); have n2_ := qM (hbox); have n3_ := qM ((by rw [hg]; exact (qz (by repeat (first | (with_reducible first | exact HB.out | apply qA | apply qN | apply qD | refine qS ?_ GE205.out) | exact HB.out))) : w.heap.size ≤ gb207)); have n4_ := qM ((by rw [hg]; exact (qz (by repeat (first | (with_reducible first | exact HB.out | apply qA | apply qN | apply qD | refine qS ?_ GE205.out) | exact HB.out))) : w.heap.size ≤ gb207)); have n5_ := qM ((by rw [hg]; exact Nat.ne_of_lt (blk_lt (g := gb205) (o := .cells #[.slice A0_0 l0_0.length c0_0, .slice (some ad206) l0_1.length c0_1] 30 (0, 0)) (by (with_reducible repeat (first | refine qn ?_ _ | refine qd ?_ | refine qa ?_ _)); exact BK205.out)) : gb205 ≠ gb207)); have n6_ := qM ((by rw [hg]; exact Nat.ne_of_gt (blk_lt (g := gb205) (o := .cells #[.slice A0_0 l0_0.length c0_0, .slice (some ad206) l0_1.length c0_1] 30 (0, 0)) (by (with_reducible repeat (first | refine qn ?_ _ | refine qd ?_ | refine qa ?_ _)); exact BK205.out)) : gb207 ≠ gb205)); clear BK205; clear HB; have BK205 := n0_; have HB := n1_; have BK207 := n2_; have GW207 := n3_; have GE207 := n4_; have NB205_207 := n5_; have NB207_205 := n6_; clear n0_ n1_ n2_ n3_ n4_ n5_ n6_; clear hb hbox hg; have hnb25 := NB207_205.out; have hnc25 := NB205_207.out; have hcz26_0 : w24.cell? ⟨gb207, 0, none⟩ = some (.int .i64 0) := (qC BK207.out 0).trans rfl; have hcz26_1 : w24.cell? ⟨gb207, 1, none⟩ = some (.int .i64 0) := (qC BK207.out 1).trans rfl; have hcz26_2 : w24.cell? ⟨gb207, 2, none⟩ = some (.slice none 0 0) := (qC BK207.out 2).trans rfl; have hfz26_0 := qF BK207.out 0; have hfz26_1 := qF BK207.out 1; have hfz26_2 := qF BK207.out 2) | ((with_reducible refine gate_callee (f := 110) rfl ?_); refine goesL_ (some 27) rfl rfl Try.func110 (by kernel_rfl) rfl #[.agg #[.int .i64 ((rd_T141 l0_1 x21_2).f0), .int .i64 ((rd_T141 l0_1 x21_2).f1), .slice A206_2 ((rd_T141 l0_1 x21_2).f2).length c206_2]] rfl (by (try simp only [List.map_toArray, List.map_cons, List.map_nil]); first | done | rfl | (simp only [List.length_drop, List.length_take]; rfl)) ?_; (with_reducible refine (impl_TaskOk.calls k2 ((rd_T141 l0_1 x21_2).f0) ((rd_T141 l0_1 x21_2).f1) _ _ ((rd_T141 l0_1 x21_2).f2) true _ ?side1 ?side2 A12.out).mono ?_); (case side1 => exact qB HR206_2.out (by repeat (first | (with_reducible first | exact HB.out | apply qA | apply qN | apply qD | refine qS ?_ GE205.out | refine qS ?_ GE207.out) | exact HB.out))); (case side2 => exact HC206_2.out); rintro e w27 ⟨rfl, hb⟩; refine ⟨_, rfl, ?_⟩; have n0_ := qM (blk_below (g := gb205) (o := .cells #[.slice A0_0 l0_0.length c0_0, .slice (some ad206) l0_1.length c0_1] 30 (0, 0)) (by (with_reducible repeat (first | refine qn ?_ _ | refine qd ?_ | refine qa ?_ _)); refine blk_far ?_ NB205_207.out _; (with_reducible repeat (first | refine qn ?_ _ | refine qd ?_ | refine qa ?_ _)); refine blk_far ?_ NB205_207.out _; (with_reducible repeat (first | refine qn ?_ _ | refine qd ?_ | refine qa ?_ _)); refine blk_far ?_ NB205_207.out _; (with_reducible repeat (first | refine qn ?_ _ | refine qd ?_ | refine qa ?_ _)); exact BK205.out) hb); have n1_ := qM (blk_below (g := gb207) (o := .cells #[.int .i64 ((rd_T141 l0_1 x21_2).f0), .int .i64 ((rd_T141 l0_1 x21_2).f1), .slice A206_2 ((rd_T141 l0_1 x21_2).f2).length c206_2] 141 (0, 0)) (by (with_reducible repeat (first | refine qn ?_ _ | refine qd ?_ | refine qa ?_ _)); refine blk_put (cs := #[.int .i64 ((rd_T141 l0_1 x21_2).f0), .int .i64 ((rd_T141 l0_1 x21_2).f1), .slice none 0 0]) ?_ 2 _ rfl; (with_reducible repeat (first | refine qn ?_ _ | refine qd ?_ | refine qa ?_ _)); refine blk_put (cs := #[.int .i64 ((rd_T141 l0_1 x21_2).f0), .int .i64 0, .slice none 0 0]) ?_ 1 _ rfl; (with_reducible repeat (first | refine qn ?_ _ | refine qd ?_ | refine qa ?_ _)); refine blk_put (cs := #[.int .i64 0, .int .i64 0, .slice none 0 0]) ?_ 0 _ rfl; (with_reducible repeat (first | refine qn ?_ _ | refine qd ?_ | refine qa ?_ _)); exact BK207.out) hb); have n2_ := qM (qs (by repeat (first | (with_reducible first | exact HB.out | apply qA | apply qN | apply qD | refine qS ?_ GE205.out | refine qS ?_ GE207.out) | exact HB.out)) hb); clear BK205; clear BK207; clear HB; have BK205 := n0_; have BK207 := n1_; have HB := n2_; clear n0_ n1_ n2_; (try clear hb); (try clear hb2); (try clear hk); (try clear hi); have hcz28_0 : w27.cell? ⟨gb205, 0, none⟩ = some (.slice A0_0 l0_0.length c0_0) := (qC BK205.out 0).trans rfl; have hcz28_1 : w27.cell? ⟨gb205, 1, none⟩ = some (.slice (some ad206) l0_1.length c0_1) := (qC BK205.out 1).trans rfl; have hfz28_0 := qF BK205.out 0; have hfz28_1 := qF BK205.out 1; have p209 : 0 ≤ (x21_2 : Int) := qO (by first | (with_reducible assumption) | assumption); have q209 : x21_2 < (l0_0.length : Int) := qO (by first | (with_reducible assumption) | assumption); obtain ⟨ad209, e209, hx209_0⟩ := Kd.at_bool HR0_0.out x21_2 p209 q209; (try rw [← Nbq15.out] at hx209_0); cases e209; replace hx209_0 := (HB.out.cell (qL w _ hx209_0)).trans hx209_0; replace p209 := eq_true p209; replace q209 := eq_true q209; have hcz29_0 : w27.cell? ⟨gb207, 0, none⟩ = some (.int .i64 ((rd_T141 l0_1 x21_2).f0)) := (qC BK207.out 0).trans rfl; have hcz29_1 : w27.cell? ⟨gb207, 1, none⟩ = some (.int .i64 ((rd_T141 l0_1 x21_2).f1)) := (qC BK207.out 1).trans rfl; have hcz29_2 : w27.cell? ⟨gb207, 2, none⟩ = some (.slice A206_2 ((rd_T141 l0_1 x21_2).f2).length c206_2) := (qC BK207.out 2).trans rfl; have hfz29_0 := qF BK207.out 0; have hfz29_1 := qF BK207.out 1; have hfz29_2 := qF BK207.out 2))
          go_roundg k2
          case measure => have := HJ1.out; have := HK2.out; omega
          case rel => exact ⟨(wrap64 (x21_2 + 1)), (by first | rfl | (simp; done) | (simp [*]; done)), H', ⟨by have := HJ1.out; have := HK2.out; omega⟩, ⟨by (with_reducible repeat (first | refine qn ?_ _ | refine qd ?_ | refine qa ?_ _)); exact BK205.out⟩, ⟨by repeat (first | (with_reducible first | exact HB.out | apply qA | apply qN | apply qD | refine qS ?_ GE205.out | refine qS ?_ GE207.out) | exact HB.out)⟩⟩
end Go.Proofs.Ythfemojaabejiaa.G
end
section
namespace Go.Proofs.Ythfemojaabejiaa.G
open Go.RowKit Go.Proofs.YthfemojaabejiaaW.PrintWords
set_option linter.unusedVariables false
set_option linter.unusedSimpArgs false
abbrev Tk := S141
theorem tk_size (t p : Tk) (hp : p ∈ t.f2) : SizeOf.sizeOf p < SizeOf.sizeOf t := by
  have h := List.sizeOf_lt_of_mem hp
  cases t with
  | mk a b c => simp only [S141.mk.sizeOf_spec] at *; omega
theorem tk_ind {P : Tk → Prop} (h : ∀ t : Tk, (∀ p ∈ t.f2, P p) → P t) : ∀ t, P t := by
  intro t
  induction hn : SizeOf.sizeOf t using Nat.strongRecOn generalizing t with
  | _ n ih => exact h t (fun p hp => ih (SizeOf.sizeOf p) (by rw [← hn]; exact tk_size t p hp) p rfl)
def shapeB (k n : Int) (len : Nat) : Bool :=
  if k = 0 then decide (0 ≤ n ∧ n ≤ 96) && decide (len = 0)
  else if k = 1 then decide (0 ≤ n ∧ n < 10) && decide (len = 0)
  else if k = 2 then decide (n = 0) && decide (len = 2)
  else if k = 3 then decide (n = 0) && decide (len = 2)
  else if k = 4 then decide (n = 0) && decide (len = 3)
  else if k = 5 then decide (0 ≤ n ∧ n < 10) && decide (len = 1)
  else false
mutual
def fitT : Tk → Bool
  | ⟨k, n, ps⟩ => shapeB k n ps.length && fitL ps
def fitL : List Tk → Bool
  | [] => true
  | p :: ps => fitT p && fitL ps
end
mutual
def nodT : Tk → Nat
  | ⟨_, _, ps⟩ => 1 + nodL ps
def nodL : List Tk → Nat
  | [] => 0
  | p :: ps => nodT p + nodL ps
end
def okT (t : Tk) : Bool := fitT t && decide (nodT t ≤ 15)
theorem fitT_eq (t : Tk) : fitT t = (shapeB t.f0 t.f1 t.f2.length && fitL t.f2) := by cases t; simp [fitT]
theorem nodT_eq (t : Tk) : nodT t = 1 + nodL t.f2 := by cases t; simp [nodT]
theorem nodT_pos (t : Tk) : 1 ≤ nodT t := by rw [nodT_eq]; omega
theorem fitL_mem {ps : List Tk} (h : fitL ps = true) : ∀ p ∈ ps, fitT p = true := by
  induction ps with
  | nil => intro p hp; cases hp
  | cons q ps ih =>
    simp only [fitL, Bool.and_eq_true] at h
    intro p hp
    rcases List.mem_cons.1 hp with rfl | hp
    · exact h.1
    · exact ih h.2 p hp
theorem nodL_mem {ps : List Tk} : ∀ p ∈ ps, nodT p ≤ nodL ps := by
  induction ps with
  | nil => intro p hp; cases hp
  | cons q ps ih =>
    intro p hp
    simp only [nodL]
    rcases List.mem_cons.1 hp with rfl | hp
    · omega
    · have := ih p hp; omega
theorem nodL_len (ps : List Tk) : ps.length ≤ nodL ps := by
  induction ps with
  | nil => simp
  | cons q ps ih => simp only [nodL, List.length_cons]; have := nodT_pos q; omega
theorem shapeB_len {k n : Int} {len : Nat} (h : shapeB k n len = true) : len ≤ 3 := by
  unfold shapeB at h
  repeat' split at h
  all_goals first | (simp at h; done) | (simp only [Bool.and_eq_true, decide_eq_true_eq] at h; omega)
theorem okT_fit {t : Tk} (h : okT t = true) : fitT t = true := by simp only [okT, Bool.and_eq_true] at h; exact h.1
theorem okT_nod {t : Tk} (h : okT t = true) : nodT t ≤ 15 := by simp only [okT, Bool.and_eq_true, decide_eq_true_eq] at h; exact h.2
theorem rd_tk (ps : List Tk) (i : Nat) (h : i < ps.length) : rd_T141 ps (i : Int) = ps[i] := by
  simp only [rd_T141, Int.toNat_natCast, List.getD_eq_getElem?_getD, List.getElem?_eq_getElem h, Option.getD_some]
theorem drop_tk {α : Type} (ps : List α) (i : Nat) (h : i < ps.length) : ps.drop i = ps[i] :: ps.drop (i + 1) := List.drop_eq_getElem_cons h
theorem wrap_nat (i : Nat) (h : i + 1 ≤ 9223372036854775807) : wrap64 ((i : Int) + 1) = ((i + 1 : Nat) : Int) := by unfold wrap64; omega
theorem wrap_id (x : Int) (h1 : -9223372036854775808 ≤ x) (h2 : x ≤ 9223372036854775807) : wrap64 x = x := by unfold wrap64; omega
end Go.Proofs.Ythfemojaabejiaa.G
end
section
namespace Go.Proofs.Ythfemojaabejiaa.G
open Go.RowKit Go.Proofs.YthfemojaabejiaaW.PrintWords Go.Proofs.YthfemojaabejiaaW.PrintLast Go.Proofs.YthfemojaabejiaaW.PrintMore
set_option linter.unusedVariables false
set_option linter.unusedSimpArgs false
def mark1 (k n : Int) (bs : List Bool) : List Bool := if k = 1 then bs.set n.toNat true else if k = 5 then List.replicate 10 true else bs
mutual
def mayT : Tk → List Bool → List Bool
  | ⟨k, n, ps⟩, bs => mayL ps (mark1 k n bs)
def mayL : List Tk → List Bool → List Bool
  | [], bs => bs
  | p :: ps, bs => mayL ps (mayT p bs)
end
theorem mayT_eq (t : Tk) (bs : List Bool) : mayT t bs = mayL t.f2 (mark1 t.f0 t.f1 bs) := by cases t; simp [mayT]
theorem mayL_foldl (ps : List Tk) (bs : List Bool) : mayL ps bs = ps.foldl (fun b p => mayT p b) bs := by
  induction ps generalizing bs with
  | nil => simp [mayL]
  | cons p ps ih => simp [mayL, ih]
theorem mark1_len {k n : Int} {bs : List Bool} (h : bs.length = 10) : (mark1 k n bs).length = 10 := by
  unfold mark1
  split
  · rw [List.length_set]; exact h
  · split
    · simp
    · exact h
theorem mayT_len : ∀ t : Tk, ∀ bs : List Bool, bs.length = 10 → (mayT t bs).length = 10 := by
  refine tk_ind fun t ih bs hb => ?_
  rw [mayT_eq, mayL_foldl]
  have key : ∀ (ps : List Tk) (b : List Bool), (∀ p ∈ ps, p ∈ t.f2) → b.length = 10 → (ps.foldl (fun b p => mayT p b) b).length = 10 := by
    intro ps
    induction ps with
    | nil => intro b _ h; exact h
    | cons p ps ihp => intro b hm h; exact ihp _ (fun q hq => hm q (by simp [hq])) (ih p (hm p (by simp)) b h)
  exact key t.f2 _ (fun _ h => h) (mark1_len hb)
theorem mayL_take (ps : List Tk) (bs : List Bool) (i : Nat) (h : i < ps.length) : mayL (ps.take (i + 1)) bs = mayT ps[i] (mayL (ps.take i) bs) := by
  rw [mayL_foldl, mayL_foldl, List.take_succ_eq_append_getElem h, List.foldl_append]
  rfl
def arr10 (bs : List Bool) : Array Value := (bs.map Value.bool).toArray
theorem arr10_at {bs : List Bool} {i : Nat} (h : i < bs.length) : (arr10 bs)[i]? = some (.bool bs[i]) := by
  simp [arr10, h]
theorem arr10_set (bs : List Bool) (i : Nat) (b : Bool) : (arr10 bs).setIfInBounds i (.bool b) = arr10 (bs.set i b) := by
  simp [arr10, List.map_set]
theorem fill_step (bs : List Bool) (hb : bs.length = 10) (i : Nat) (h : i < 10) : (List.replicate i true ++ bs.drop i).set i true = List.replicate (i + 1) true ++ bs.drop (i + 1) := by
  rw [List.set_append_right _ _ (by simp), List.length_replicate, Nat.sub_self, List.drop_eq_getElem_cons (by omega), List.set_cons_zero, List.replicate_succ']
  simp
set_option maxHeartbeats 8000000 in
set_option maxRecDepth 100000 in
theorem may_w : ∀ (t : Tk) (A : Option Addr) (c : Nat) (g : Nat) (bs : List Bool) (w0 w : World) (_ : fitT t = true) (_ : bs.length = 10) (_ : Kd.C k141 w0 A t.f2.length t.f2) (_ : t.f2.length ≤ c) (_ : w0.heap.size ≤ g) (_ : Below w0.heap.size w0 w) (_ : w.heap[g]? = some (.cells (arr10 bs) 173 (0, 0))),
    Calls Try.prog 149 #[.agg #[.int .i64 t.f0, .int .i64 t.f1, .slice A t.f2.length c], .pointer (some ⟨g, 0, none⟩)] w fun e w' => e = .returned (.tuple #[]) ∧ w'.heap[g]? = some (.cells (arr10 (mayT t bs)) 173 (0, 0)) ∧ Below w0.heap.size w0 w' := by
  refine tk_ind fun t ih A c g bs w0 w hf hb hr hc hg hB hbs => ?_
  have hu1 := Try.underlying141
  have hu2 := Try.underlying173
  rw [fitT_eq, Bool.and_eq_true] at hf
  rw [mayT_eq]
  obtain ⟨k, n, ps⟩ := t
  simp only at ih hf hr hc ⊢
  have HI := qM ih
  have HF := qM hf
  have HLB := qM hb
  have HR := qM hr
  have HC := qM hc
  have HG := qM hg
  have HB := qM (hB.alloc hB.size (.cells #[.int .i64 k, .int .i64 n, .slice A ps.length c] 141))
  have HS := qM (qa hbs (.cells #[.int .i64 k, .int .i64 n, .slice A ps.length c] 141))
  have HX := qM (heap_alloc_new w (.cells #[.int .i64 k, .int .i64 n, .slice A ps.length c] 141))
  have HWG := qM (show w.heap.size ≠ g from fun e => by have := blk_lt hbs; omega)
  have hml := mark1_len (k := k) (n := n) hb
  obtain ⟨bs1, hbs1⟩ : ∃ x, x = mark1 k n bs := ⟨_, rfl⟩
  rw [← hbs1] at hml ⊢
  have HM1 := qM hbs1
  have HML := qM hml
  clear ih hf hb hr hc hg hB hbs hml hbs1
  go_enter Try.func149, Try.ntmps149
  go_upto_block 0 with fail
  go_cut [] (fun wc => Aside0 (wc.heap[g]? = some (.cells (arr10 bs1) 173 (0, 0))) ∧ Aside0 (Below w0.heap.size w0 wc) ∧ Aside0 (wc.heap[w.heap.size]? = some (.cells #[.int .i64 k, .int .i64 n, .slice A ps.length c] 141 (0, 0))))
  case first =>
    by_cases h1 : k = 1
    · subst h1
      have hn : 0 ≤ n ∧ n < 10 := by
        have h2 := HF.out.1
        simp only [shapeB] at h2
        simp at h2
        exact h2.1
      have HN := qM hn
      have hp : (0 ≤ n) = True := eq_true hn.1
      have hq : (n < 10) = True := eq_true hn.2
      have hnl : n.toNat < bs.length := by have := HLB.out; omega
      have hx : (w.alloc (.cells #[.int .i64 1, .int .i64 n, .slice A ps.length c] 141)).cell? ⟨g, n.toNat, none⟩ = some (.bool (bs[n.toNat]'hnl)) := (qC HS.out n.toNat).trans (arr10_at _)
      have hfz : (w.alloc (.cells #[.int .i64 1, .int .i64 n, .slice A ps.length c] 141)).frozen? ⟨g, n.toNat, none⟩ = false := qF HS.out n.toNat
      go_wp2_with fail
      go_region
      go_wp2
      go_meet
      refine ⟨⟨?_⟩, ⟨qD (HB.out.setCell HG.out _)⟩, ⟨qd (blk_far HX.out HWG.out _)⟩⟩
      have h3 := blk_set HS.out n.toNat (.bool true)
      rw [arr10_set] at h3
      have h4 := qd h3
      rw [HM1.out]
      unfold mark1
      rw [if_pos rfl]
      exact h4
    · by_cases h5 : k = 5
      · subst h5
        go_wp2
        go_loopg [18] 10 (fun kq v18 w' => ∃ i : Nat, v18 = .int .i64 (i : Int) ∧ Aside0 (i + kq = 10) ∧ Aside0 (w'.heap[g]? = some (.cells (arr10 (List.replicate i true ++ bs.drop i)) 173 (0, 0))) ∧ Aside0 (Below w0.heap.size w0 w') ∧ Aside0 (w'.heap[w.heap.size]? = some (.cells #[.int .i64 5, .int .i64 n, .slice A ps.length c] 141 (0, 0))))
        case atStart => exact ⟨0, rfl, ⟨by omega⟩, ⟨by simpa using HS.out⟩, HB, HX⟩
        case round =>
          obtain ⟨i, rfl, HIK, HSr, HBr, HXr⟩ := hrel
          cases gk with
          | zero =>
            have hi : i = 10 := by have := HIK.out; omega
            subst hi
            go_wp2
            go_meet
            refine ⟨⟨?_⟩, HBr, HXr⟩
            have h3 := HSr.out
            have hd : bs.drop 10 = [] := List.drop_of_length_le (by rw [HLB.out]; exact Nat.le_refl _)
            rw [hd, List.append_nil] at h3
            rw [HM1.out]
            unfold mark1
            rw [if_neg (by decide), if_pos rfl]
            exact h3
          | succ gk =>
            have hlt : i < 10 := by have := HIK.out; omega
            have HLT := qM hlt
            have hb' : decide ((i : Int) < 10) = true := decide_eq_true (by omega)
            have hll : (List.replicate i true ++ bs.drop i).length = 10 := by rw [List.length_append, List.length_replicate, List.length_drop, HLB.out]; omega
            have hx : wr.cell? ⟨g, i, none⟩ = some (.bool ((List.replicate i true ++ bs.drop i)[i]'(by rw [hll]; exact hlt))) := (qC HSr.out i).trans (arr10_at _)
            have hfz : wr.frozen? ⟨g, i, none⟩ = false := qF HSr.out i
            have hp : (0 ≤ (i : Int)) = True := eq_true (by omega)
            have hq : ((i : Int) < 10) = True := eq_true (by omega)
            go_wp2
            go_roundg gk
            case measure => omega
            case rel =>
              refine ⟨i + 1, by go_num, ⟨by have := HIK.out; omega⟩, ⟨?_⟩, ⟨HBr.out.setCell HG.out _⟩, ⟨blk_far HXr.out HWG.out _⟩⟩
              have h3 := blk_set HSr.out i (.bool true)
              rw [arr10_set, fill_step bs HLB.out i HLT.out] at h3
              exact h3
      · have hk1 : decide (k = 1) = false := decide_eq_false h1
        have hk5 : decide (k = 5) = false := decide_eq_false h5
        have hk1' : (k == 1) = false := by simp [h1]
        have hk5' : (k == 5) = false := by simp [h5]
        have HM : Aside0 (mark1 k n bs = bs) := ⟨by unfold mark1; rw [if_neg h1, if_neg h5]⟩
        clear h1 h5
        go_wp2
        go_meet
        exact ⟨⟨by rw [HM1.out, HM.out]; exact HS.out⟩, HB, HX⟩
  case rest =>
    obtain ⟨HS1, HB1, HX1⟩ := hcut
    have hx2 : wc.cell? ⟨w.heap.size, 2, none⟩ = some (.slice A ps.length c) := (qC HX1.out 2).trans rfl
    clear HS HB HX HLB
    go_wp2
    go_loopg [29] ps.length (fun kq v29 w' => ∃ i : Nat, v29 = .int .i64 (i : Int) ∧ Aside0 (i + kq = ps.length) ∧ Aside0 (w'.heap[g]? = some (.cells (arr10 (mayL (ps.take i) bs1)) 173 (0, 0))) ∧ Aside0 (Below w0.heap.size w0 w'))
    case atStart => exact ⟨0, rfl, ⟨by omega⟩, ⟨by simpa [mayL] using HS1.out⟩, HB1⟩
    case round =>
      obtain ⟨i, rfl, HIK, HSr, HBr⟩ := hrel
      cases gk with
      | zero =>
        have hi : i = ps.length := by have := HIK.out; omega
        subst hi
        have hb : decide ((ps.length : Int) < (ps.length : Int)) = false := decide_eq_false (by omega)
        go_wp2
        go_end0
        refine ⟨rfl, ?_, HBr.out⟩
        have h3 := HSr.out
        rw [List.take_length] at h3
        exact h3
      | succ gk =>
        have hlt : i < ps.length := by have := HIK.out; omega
        have HLT := qM hlt
        have hb : decide ((i : Int) < (ps.length : Int)) = true := decide_eq_true (by omega)
        obtain ⟨ad, A2, c2, e, hy0, hy1, hy2, hl2, hC2⟩ := at_T141 HR.out (i : Int) (by omega) (by omega)
        cases e
        have hlen := HR.out.2.1
        have hmax : (i : Int) + 1 ≤ 9223372036854775807 := by omega
        rw [rd_tk ps i hlt] at hy0 hy1 hy2 hl2 hC2
        have HIT := qM (mayL_take ps bs1 i hlt)
        have HFP := qM (fitL_mem HF.out.2 _ (List.getElem_mem hlt))
        have HIHP := qM (HI.out _ (List.getElem_mem hlt))
        generalize ps[i] = p at hy0 hy1 hy2 hl2 hC2 HIT HFP HIHP
        have hc0 : wr.cell? (ad.add (i * 3)) = some (.int .i64 p.f0) := by
          have h1 := (HBr.out.cell (qL w0 _ hy0)).trans hy0
          simpa only [Int.toNat_natCast] using h1
        have hc1 : wr.cell? ⟨(ad.add (i * 3)).block, (ad.add (i * 3)).off + 1, none⟩ = some (.int .i64 p.f1) := by
          have h1 := (HBr.out.cell (qL w0 _ hy1)).trans hy1
          simpa only [Int.toNat_natCast] using h1
        have hc2 : wr.cell? ⟨(ad.add (i * 3)).block, (ad.add (i * 3)).off + 2, none⟩ = some (.slice A2 p.f2.length c2) := by
          have h1 := (HBr.out.cell (qL w0 _ hy2)).trans hy2
          simpa only [Int.toNat_natCast] using h1
        clear hy0 hy1 hy2
        have p0 : (0 ≤ (i : Int)) = True := eq_true (by omega)
        have q0 : ((i : Int) < (ps.length : Int)) = True := eq_true (by omega)
        have HBt := qM (HBr.out.alloc HBr.out.size (.cells #[.int .i64 p.f0, .int .i64 p.f1, .slice A2 p.f2.length c2] 141))
        have hml2 : (mayL (ps.take i) bs1).length = 10 := by
          rw [mayL_foldl]
          have key : ∀ (qs : List Tk) (b : List Bool), b.length = 10 → (qs.foldl (fun b p => mayT p b) b).length = 10 := by
            intro qs
            induction qs with
            | nil => intro b h; exact h
            | cons q qs ihq => intro b h; exact ihq _ (mayT_len q b h)
          exact key _ _ HML.out
        have CK := qM (HIHP.out A2 c2 g (mayL (ps.take i) bs1) w0 _ HFP.out hml2 hC2 hl2 HG.out HBt.out (qa HSr.out (.cells #[.int .i64 p.f0, .int .i64 p.f1, .slice A2 p.f2.length c2] 141)))
        clear hl2 hC2 hml2
        go_wp2_with fail
        with_reducible refine CK.out.mono ?_
        rintro e w2 ⟨rfl, h3, h4⟩
        have HS2 := qM h3
        have HB2 := qM h4
        clear h3 h4 CK hc0 hc1 hc2
        go_wp2
        go_roundg gk
        case measure => omega
        case rel => exact ⟨i + 1, by go_num, ⟨by have := HIK.out; omega⟩, ⟨by rw [HIT.out]; exact HS2.out⟩, HB2⟩
end Go.Proofs.Ythfemojaabejiaa.G
end
section
namespace Go.Proofs.Ythfemojaabejiaa.G
open Go.RowKit Go.Proofs.YthfemojaabejiaaW.PrintWords Go.Proofs.YthfemojaabejiaaW.PrintLast Go.Proofs.YthfemojaabejiaaW.PrintMore
set_option linter.unusedVariables false
set_option linter.unusedSimpArgs false
def idxTo (bs : List Bool) : Nat → List Int
  | 0 => []
  | i + 1 => if bs.getD i false = true then idxTo bs i ++ [(i : Int)] else idxTo bs i
theorem idxTo_len (bs : List Bool) (i : Nat) : (idxTo bs i).length ≤ i := by
  induction i with
  | zero => simp [idxTo]
  | succ i ih =>
    rw [idxTo]
    split
    · rw [List.length_append, List.length_singleton]; omega
    · omega
def impl_TaskMay.f (k : Nat) (a0_0 : Int) (a0_1 : Int) (l0_2 : List Tk) : Option (List Int) := (impl_TaskOk.f k a0_0 a0_1 l0_2).bind fun b => if b = true then (if fitT ⟨a0_0, a0_1, l0_2⟩ = true then some (idxTo (mayT ⟨a0_0, a0_1, l0_2⟩ (List.replicate 10 false)) 10) else none) else some []
theorem infoInt : (Try.prog.info? 3).map (fun i => (i.zero, i.size, i.bytes)) = some (some (.int .i64 0), 1, 8) := by kernel_rfl
set_option maxHeartbeats 8000000 in
set_option maxRecDepth 100000 in
theorem impl_TaskMay.calls (k : Nat) (a0_0 : Int) (a0_1 : Int) (A0_2 : Option Addr) (c0_2 : Nat) (l0_2 : List S141) (r : List Int) (w : World) (hr0_2 : Kd.C k141 w A0_2 l0_2.length l0_2) (hc0_2 : l0_2.length ≤ c0_2) (h : impl_TaskMay.f k a0_0 a0_1 l0_2 = some r) :
    Calls Try.prog 116 #[.agg #[.int .i64 a0_0, .int .i64 a0_1, .slice A0_2 l0_2.length c0_2]] w fun e w' => ∃ v0_ : Value, e = .returned v0_ ∧ Kd.R (Kd.int .i64) 3 w' w.heap.size (fun _ => True) v0_ r ∧ Below w.heap.size w w' := by
  have hu1 := Try.underlying141
  have hu2 := Try.underlying173
  unfold impl_TaskMay.f at h
  obtain ⟨b, hb, h⟩ := Option.bind_eq_some_iff.mp h
  have CK := qM (impl_TaskOk.calls k a0_0 a0_1 A0_2 c0_2 l0_2 b (w.alloc (.cells #[.int .i64 a0_0, .int .i64 a0_1, .slice A0_2 l0_2.length c0_2] 141)) (qc hr0_2 _) hc0_2 hb)
  have hbx := heap_alloc_new w (.cells #[.int .i64 a0_0, .int .i64 a0_1, .slice A0_2 l0_2.length c0_2] 141)
  have BX := qM hbx
  have HR := qM hr0_2
  have HC := qM hc0_2
  have HA := qM ((Below.refl w.heap.size w).alloc (Nat.le_refl _) (.cells #[.int .i64 a0_0, .int .i64 a0_1, .slice A0_2 l0_2.length c0_2] 141))
  have hx0 : (w.alloc (.cells #[.int .i64 a0_0, .int .i64 a0_1, .slice A0_2 l0_2.length c0_2] 141)).cell? ⟨w.heap.size, 0, none⟩ = some (.int .i64 a0_0) := (qC hbx 0).trans rfl
  have hx1 : (w.alloc (.cells #[.int .i64 a0_0, .int .i64 a0_1, .slice A0_2 l0_2.length c0_2] 141)).cell? ⟨w.heap.size, 1, none⟩ = some (.int .i64 a0_1) := (qC hbx 1).trans rfl
  have hx2 : (w.alloc (.cells #[.int .i64 a0_0, .int .i64 a0_1, .slice A0_2 l0_2.length c0_2] 141)).cell? ⟨w.heap.size, 2, none⟩ = some (.slice A0_2 l0_2.length c0_2) := (qC hbx 2).trans rfl
  clear hbx hr0_2 hc0_2 hb
  cases b with
  | false =>
    simp only [Bool.false_eq_true, if_false] at h
    obtain rfl := Option.some.inj h
    clear h
    go_enter Try.func116, Try.ntmps116
    go_wp2_with fail
    with_reducible refine CK.out.mono ?_
    rintro e w1 ⟨rfl, hb1⟩
    have HB := qM (HA.out.trans (hb1.mono HA.out.size))
    clear CK hb1 hx0 hx1 hx2
    go_wp2
    go_ret
    exact ⟨_, rfl, Kd.R_nil _ _ _ _ _, HB.out⟩
  | true =>
    simp only [if_true] at h
    split at h
    · rename_i hf
      have hr := Option.some.inj h
      have hml := mayT_len ⟨a0_0, a0_1, l0_2⟩ (List.replicate 10 false) (by simp)
      generalize hbs : mayT ⟨a0_0, a0_1, l0_2⟩ (List.replicate 10 false) = bs at hr hml
      subst hr
      obtain ⟨b0, b1, b2, b3, b4, b5, b6, b7, b8, b9, rfl⟩ : ∃ b0 b1 b2 b3 b4 b5 b6 b7 b8 b9, bs = [b0, b1, b2, b3, b4, b5, b6, b7, b8, b9] := by
        match bs, hml with
        | [b0, b1, b2, b3, b4, b5, b6, b7, b8, b9], _ => exact ⟨b0, b1, b2, b3, b4, b5, b6, b7, b8, b9, rfl⟩
      have HBS := qM hbs
      have HF := qM hf
      clear h hf hml hbs
      go_enter Try.func116, Try.ntmps116
      go_wp2_with fail
      with_reducible refine CK.out.mono ?_
      rintro e w1 ⟨rfl, hb1⟩
      have HB := qM (HA.out.trans (hb1.mono HA.out.size))
      have BX1 := qM ((hb1.block _ (blk_lt BX.out)).trans BX.out)
      clear CK hb1 hx0 hx1 hx2 BX HA
      have BX2 := qM (qa BX1.out (.cells #[.bool false, .bool false, .bool false, .bool false, .bool false, .bool false, .bool false, .bool false, .bool false, .bool false] 173))
      have hx0 : (w1.alloc (.cells #[.bool false, .bool false, .bool false, .bool false, .bool false, .bool false, .bool false, .bool false, .bool false, .bool false] 173)).cell? ⟨w.heap.size, 0, none⟩ = some (.int .i64 a0_0) := (qC BX2.out 0).trans rfl
      have hx1 : (w1.alloc (.cells #[.bool false, .bool false, .bool false, .bool false, .bool false, .bool false, .bool false, .bool false, .bool false, .bool false] 173)).cell? ⟨w.heap.size, 1, none⟩ = some (.int .i64 a0_1) := (qC BX2.out 1).trans rfl
      have hx2 : (w1.alloc (.cells #[.bool false, .bool false, .bool false, .bool false, .bool false, .bool false, .bool false, .bool false, .bool false, .bool false] 173)).cell? ⟨w.heap.size, 2, none⟩ = some (.slice A0_2 l0_2.length c0_2) := (qC BX2.out 2).trans rfl
      have e10 : arr10 (List.replicate 10 false) = #[.bool false, .bool false, .bool false, .bool false, .bool false, .bool false, .bool false, .bool false, .bool false, .bool false] := rfl
      have hal : (w1.alloc (.cells #[.bool false, .bool false, .bool false, .bool false, .bool false, .bool false, .bool false, .bool false, .bool false, .bool false] 173)).heap[w1.heap.size]? = some (.cells (arr10 (List.replicate 10 false)) 173 (0, 0)) := by rw [e10]; exact heap_alloc_new w1 _
      have CK := qM (may_w ⟨a0_0, a0_1, l0_2⟩ A0_2 c0_2 w1.heap.size (List.replicate 10 false) w (w1.alloc (.cells #[.bool false, .bool false, .bool false, .bool false, .bool false, .bool false, .bool false, .bool false, .bool false, .bool false] 173)) HF.out (by simp) HR.out HC.out HB.out.size (HB.out.alloc HB.out.size _) hal)
      clear hal e10
      go_wp2_with fail
      with_reducible refine CK.out.mono ?_
      rintro e w2 ⟨rfl, h3, h4⟩
      rw [HBS.out] at h3
      have HS := qM h3
      have HB2 := qM h4
      clear CK h3 h4 hx0 hx1 hx2 BX1 BX2
      have hx0 : w2.cell? ⟨w1.heap.size, 0, none⟩ = some (.bool b0) := (qC HS.out 0).trans rfl
      have hx1 : w2.cell? ⟨w1.heap.size, 1, none⟩ = some (.bool b1) := (qC HS.out 1).trans rfl
      have hx2 : w2.cell? ⟨w1.heap.size, 2, none⟩ = some (.bool b2) := (qC HS.out 2).trans rfl
      have hx3 : w2.cell? ⟨w1.heap.size, 3, none⟩ = some (.bool b3) := (qC HS.out 3).trans rfl
      have hx4 : w2.cell? ⟨w1.heap.size, 4, none⟩ = some (.bool b4) := (qC HS.out 4).trans rfl
      have hx5 : w2.cell? ⟨w1.heap.size, 5, none⟩ = some (.bool b5) := (qC HS.out 5).trans rfl
      have hx6 : w2.cell? ⟨w1.heap.size, 6, none⟩ = some (.bool b6) := (qC HS.out 6).trans rfl
      have hx7 : w2.cell? ⟨w1.heap.size, 7, none⟩ = some (.bool b7) := (qC HS.out 7).trans rfl
      have hx8 : w2.cell? ⟨w1.heap.size, 8, none⟩ = some (.bool b8) := (qC HS.out 8).trans rfl
      have hx9 : w2.cell? ⟨w1.heap.size, 9, none⟩ = some (.bool b9) := (qC HS.out 9).trans rfl
      clear HS
      go_wp2
      go_loopg [4, 13] 10 (fun kq v4 v13 w' => ∃ i : Nat, v13 = .int .i64 (i : Int) ∧ Aside0 (i + kq = 10) ∧ Aside0 (Kd.R (Kd.int .i64) 3 w' w.heap.size (fun _ => True) v4 (idxTo [b0, b1, b2, b3, b4, b5, b6, b7, b8, b9] i)) ∧ Aside0 (Below w.heap.size w w'))
      case atStart => exact ⟨0, by simp, ⟨by omega⟩, ⟨Kd.R_nil _ _ _ _ _⟩, HB2⟩
      case round =>
        obtain ⟨i, rfl, HI, HO, HB3⟩ := hrel
        cases gk with
        | zero =>
          have hi : i = 10 := by have := HI.out; omega
          subst hi
          go_wp2
          go_ret
          exact ⟨_, rfl, HO.out, HB3.out⟩
        | succ gk =>
          have hlt : i < 10 := by have := HI.out; omega
          have HOL := qM (idxTo_len [b0, b1, b2, b3, b4, b5, b6, b7, b8, b9] i)
          have hc : i = 0 ∨ i = 1 ∨ i = 2 ∨ i = 3 ∨ i = 4 ∨ i = 5 ∨ i = 6 ∨ i = 7 ∨ i = 8 ∨ i = 9 := by omega
          rcases hc with rfl | rfl | rfl | rfl | rfl | rfl | rfl | rfl | rfl | rfl
          · have hg : gk = 9 := by have := HI.out; omega
            subst hg
            cases b0 with
            | true =>
              have hix : ∀ W : World, (Instr.index 173 (.agg #[.bool true, .bool b1, .bool b2, .bool b3, .bool b4, .bool b5, .bool b6, .bool b7, .bool b8, .bool b9]) (.int .i64 0)).run Try.prog W = .ok (.bool true) W := fun _ => rfl
              have HN : Aside0 (idxTo [true, b1, b2, b3, b4, b5, b6, b7, b8, b9] 1 = idxTo [true, b1, b2, b3, b4, b5, b6, b7, b8, b9] 0 ++ [(0 : Int)]) := ⟨by rw [idxTo]; rfl⟩
              generalize idxTo [true, b1, b2, b3, b4, b5, b6, b7, b8, b9] 0 = out at HO HOL HN
              obtain ⟨Ao, co, eo⟩ := Kd.R_slice HO.out
              subst eo
              go_wp2_with (first | (at_builtin; refine Kd.R_append (Kd.int .i64) (w0 := w) w.heap.size rfl (.tmp 18) (.tmp 20) 34 3 (.int .i64 0) 8 rfl Try.underlying34 infoInt rfl (by decide) (by omega) (.slice Ao out.length co) out (0 : Int) [.int .i64 0] (fun _ => True) (fun _ => False) rfl rfl ?aP (fun _ hk => hk.elim) ?aF ?aO ?aB ?aS ?aL ?_; (case aP => rfl); (case aB => exact HB3.out); (case aF => exact (fun _ _ => trivial)); (case aO => exact HO.out); (case aS => exact HB3.out.size); (case aL => have := HOL.out; omega); intro v2 w4 ho hb hg hat; have HO2 := qM ho; have HB4 := qM hb; clear ho hb hg hat))
              go_roundg 9
              case measure => omega
              case rel => exact ⟨1, by go_num, ⟨by omega⟩, ⟨by rw [HN.out]; exact HO2.out⟩, HB4⟩
            | false =>
              have hix : ∀ W : World, (Instr.index 173 (.agg #[.bool false, .bool b1, .bool b2, .bool b3, .bool b4, .bool b5, .bool b6, .bool b7, .bool b8, .bool b9]) (.int .i64 0)).run Try.prog W = .ok (.bool false) W := fun _ => rfl
              have HN : Aside0 (idxTo [false, b1, b2, b3, b4, b5, b6, b7, b8, b9] 1 = idxTo [false, b1, b2, b3, b4, b5, b6, b7, b8, b9] 0) := ⟨by rw [idxTo]; rfl⟩
              go_wp2
              go_roundg 9
              case measure => omega
              case rel => exact ⟨1, by go_num, ⟨by omega⟩, ⟨by rw [HN.out]; exact HO.out⟩, HB3⟩
          · have hg : gk = 8 := by have := HI.out; omega
            subst hg
            cases b1 with
            | true =>
              have hix : ∀ W : World, (Instr.index 173 (.agg #[.bool b0, .bool true, .bool b2, .bool b3, .bool b4, .bool b5, .bool b6, .bool b7, .bool b8, .bool b9]) (.int .i64 1)).run Try.prog W = .ok (.bool true) W := fun _ => rfl
              have HN : Aside0 (idxTo [b0, true, b2, b3, b4, b5, b6, b7, b8, b9] 2 = idxTo [b0, true, b2, b3, b4, b5, b6, b7, b8, b9] 1 ++ [(1 : Int)]) := ⟨by rw [idxTo]; rfl⟩
              generalize idxTo [b0, true, b2, b3, b4, b5, b6, b7, b8, b9] 1 = out at HO HOL HN
              obtain ⟨Ao, co, eo⟩ := Kd.R_slice HO.out
              subst eo
              go_wp2_with (first | (at_builtin; refine Kd.R_append (Kd.int .i64) (w0 := w) w.heap.size rfl (.tmp 18) (.tmp 20) 34 3 (.int .i64 0) 8 rfl Try.underlying34 infoInt rfl (by decide) (by omega) (.slice Ao out.length co) out (1 : Int) [.int .i64 1] (fun _ => True) (fun _ => False) rfl rfl ?aP (fun _ hk => hk.elim) ?aF ?aO ?aB ?aS ?aL ?_; (case aP => rfl); (case aB => exact HB3.out); (case aF => exact (fun _ _ => trivial)); (case aO => exact HO.out); (case aS => exact HB3.out.size); (case aL => have := HOL.out; omega); intro v2 w4 ho hb hg hat; have HO2 := qM ho; have HB4 := qM hb; clear ho hb hg hat))
              go_roundg 8
              case measure => omega
              case rel => exact ⟨2, by go_num, ⟨by omega⟩, ⟨by rw [HN.out]; exact HO2.out⟩, HB4⟩
            | false =>
              have hix : ∀ W : World, (Instr.index 173 (.agg #[.bool b0, .bool false, .bool b2, .bool b3, .bool b4, .bool b5, .bool b6, .bool b7, .bool b8, .bool b9]) (.int .i64 1)).run Try.prog W = .ok (.bool false) W := fun _ => rfl
              have HN : Aside0 (idxTo [b0, false, b2, b3, b4, b5, b6, b7, b8, b9] 2 = idxTo [b0, false, b2, b3, b4, b5, b6, b7, b8, b9] 1) := ⟨by rw [idxTo]; rfl⟩
              go_wp2
              go_roundg 8
              case measure => omega
              case rel => exact ⟨2, by go_num, ⟨by omega⟩, ⟨by rw [HN.out]; exact HO.out⟩, HB3⟩
          · have hg : gk = 7 := by have := HI.out; omega
            subst hg
            cases b2 with
            | true =>
              have hix : ∀ W : World, (Instr.index 173 (.agg #[.bool b0, .bool b1, .bool true, .bool b3, .bool b4, .bool b5, .bool b6, .bool b7, .bool b8, .bool b9]) (.int .i64 2)).run Try.prog W = .ok (.bool true) W := fun _ => rfl
              have HN : Aside0 (idxTo [b0, b1, true, b3, b4, b5, b6, b7, b8, b9] 3 = idxTo [b0, b1, true, b3, b4, b5, b6, b7, b8, b9] 2 ++ [(2 : Int)]) := ⟨by rw [idxTo]; rfl⟩
              generalize idxTo [b0, b1, true, b3, b4, b5, b6, b7, b8, b9] 2 = out at HO HOL HN
              obtain ⟨Ao, co, eo⟩ := Kd.R_slice HO.out
              subst eo
              go_wp2_with (first | (at_builtin; refine Kd.R_append (Kd.int .i64) (w0 := w) w.heap.size rfl (.tmp 18) (.tmp 20) 34 3 (.int .i64 0) 8 rfl Try.underlying34 infoInt rfl (by decide) (by omega) (.slice Ao out.length co) out (2 : Int) [.int .i64 2] (fun _ => True) (fun _ => False) rfl rfl ?aP (fun _ hk => hk.elim) ?aF ?aO ?aB ?aS ?aL ?_; (case aP => rfl); (case aB => exact HB3.out); (case aF => exact (fun _ _ => trivial)); (case aO => exact HO.out); (case aS => exact HB3.out.size); (case aL => have := HOL.out; omega); intro v2 w4 ho hb hg hat; have HO2 := qM ho; have HB4 := qM hb; clear ho hb hg hat))
              go_roundg 7
              case measure => omega
              case rel => exact ⟨3, by go_num, ⟨by omega⟩, ⟨by rw [HN.out]; exact HO2.out⟩, HB4⟩
            | false =>
              have hix : ∀ W : World, (Instr.index 173 (.agg #[.bool b0, .bool b1, .bool false, .bool b3, .bool b4, .bool b5, .bool b6, .bool b7, .bool b8, .bool b9]) (.int .i64 2)).run Try.prog W = .ok (.bool false) W := fun _ => rfl
              have HN : Aside0 (idxTo [b0, b1, false, b3, b4, b5, b6, b7, b8, b9] 3 = idxTo [b0, b1, false, b3, b4, b5, b6, b7, b8, b9] 2) := ⟨by rw [idxTo]; rfl⟩
              go_wp2
              go_roundg 7
              case measure => omega
              case rel => exact ⟨3, by go_num, ⟨by omega⟩, ⟨by rw [HN.out]; exact HO.out⟩, HB3⟩
          · have hg : gk = 6 := by have := HI.out; omega
            subst hg
            cases b3 with
            | true =>
              have hix : ∀ W : World, (Instr.index 173 (.agg #[.bool b0, .bool b1, .bool b2, .bool true, .bool b4, .bool b5, .bool b6, .bool b7, .bool b8, .bool b9]) (.int .i64 3)).run Try.prog W = .ok (.bool true) W := fun _ => rfl
              have HN : Aside0 (idxTo [b0, b1, b2, true, b4, b5, b6, b7, b8, b9] 4 = idxTo [b0, b1, b2, true, b4, b5, b6, b7, b8, b9] 3 ++ [(3 : Int)]) := ⟨by rw [idxTo]; rfl⟩
              generalize idxTo [b0, b1, b2, true, b4, b5, b6, b7, b8, b9] 3 = out at HO HOL HN
              obtain ⟨Ao, co, eo⟩ := Kd.R_slice HO.out
              subst eo
              go_wp2_with (first | (at_builtin; refine Kd.R_append (Kd.int .i64) (w0 := w) w.heap.size rfl (.tmp 18) (.tmp 20) 34 3 (.int .i64 0) 8 rfl Try.underlying34 infoInt rfl (by decide) (by omega) (.slice Ao out.length co) out (3 : Int) [.int .i64 3] (fun _ => True) (fun _ => False) rfl rfl ?aP (fun _ hk => hk.elim) ?aF ?aO ?aB ?aS ?aL ?_; (case aP => rfl); (case aB => exact HB3.out); (case aF => exact (fun _ _ => trivial)); (case aO => exact HO.out); (case aS => exact HB3.out.size); (case aL => have := HOL.out; omega); intro v2 w4 ho hb hg hat; have HO2 := qM ho; have HB4 := qM hb; clear ho hb hg hat))
              go_roundg 6
              case measure => omega
              case rel => exact ⟨4, by go_num, ⟨by omega⟩, ⟨by rw [HN.out]; exact HO2.out⟩, HB4⟩
            | false =>
              have hix : ∀ W : World, (Instr.index 173 (.agg #[.bool b0, .bool b1, .bool b2, .bool false, .bool b4, .bool b5, .bool b6, .bool b7, .bool b8, .bool b9]) (.int .i64 3)).run Try.prog W = .ok (.bool false) W := fun _ => rfl
              have HN : Aside0 (idxTo [b0, b1, b2, false, b4, b5, b6, b7, b8, b9] 4 = idxTo [b0, b1, b2, false, b4, b5, b6, b7, b8, b9] 3) := ⟨by rw [idxTo]; rfl⟩
              go_wp2
              go_roundg 6
              case measure => omega
              case rel => exact ⟨4, by go_num, ⟨by omega⟩, ⟨by rw [HN.out]; exact HO.out⟩, HB3⟩
          · have hg : gk = 5 := by have := HI.out; omega
            subst hg
            cases b4 with
            | true =>
              have hix : ∀ W : World, (Instr.index 173 (.agg #[.bool b0, .bool b1, .bool b2, .bool b3, .bool true, .bool b5, .bool b6, .bool b7, .bool b8, .bool b9]) (.int .i64 4)).run Try.prog W = .ok (.bool true) W := fun _ => rfl
              have HN : Aside0 (idxTo [b0, b1, b2, b3, true, b5, b6, b7, b8, b9] 5 = idxTo [b0, b1, b2, b3, true, b5, b6, b7, b8, b9] 4 ++ [(4 : Int)]) := ⟨by rw [idxTo]; rfl⟩
              generalize idxTo [b0, b1, b2, b3, true, b5, b6, b7, b8, b9] 4 = out at HO HOL HN
              obtain ⟨Ao, co, eo⟩ := Kd.R_slice HO.out
              subst eo
              go_wp2_with (first | (at_builtin; refine Kd.R_append (Kd.int .i64) (w0 := w) w.heap.size rfl (.tmp 18) (.tmp 20) 34 3 (.int .i64 0) 8 rfl Try.underlying34 infoInt rfl (by decide) (by omega) (.slice Ao out.length co) out (4 : Int) [.int .i64 4] (fun _ => True) (fun _ => False) rfl rfl ?aP (fun _ hk => hk.elim) ?aF ?aO ?aB ?aS ?aL ?_; (case aP => rfl); (case aB => exact HB3.out); (case aF => exact (fun _ _ => trivial)); (case aO => exact HO.out); (case aS => exact HB3.out.size); (case aL => have := HOL.out; omega); intro v2 w4 ho hb hg hat; have HO2 := qM ho; have HB4 := qM hb; clear ho hb hg hat))
              go_roundg 5
              case measure => omega
              case rel => exact ⟨5, by go_num, ⟨by omega⟩, ⟨by rw [HN.out]; exact HO2.out⟩, HB4⟩
            | false =>
              have hix : ∀ W : World, (Instr.index 173 (.agg #[.bool b0, .bool b1, .bool b2, .bool b3, .bool false, .bool b5, .bool b6, .bool b7, .bool b8, .bool b9]) (.int .i64 4)).run Try.prog W = .ok (.bool false) W := fun _ => rfl
              have HN : Aside0 (idxTo [b0, b1, b2, b3, false, b5, b6, b7, b8, b9] 5 = idxTo [b0, b1, b2, b3, false, b5, b6, b7, b8, b9] 4) := ⟨by rw [idxTo]; rfl⟩
              go_wp2
              go_roundg 5
              case measure => omega
              case rel => exact ⟨5, by go_num, ⟨by omega⟩, ⟨by rw [HN.out]; exact HO.out⟩, HB3⟩
          · have hg : gk = 4 := by have := HI.out; omega
            subst hg
            cases b5 with
            | true =>
              have hix : ∀ W : World, (Instr.index 173 (.agg #[.bool b0, .bool b1, .bool b2, .bool b3, .bool b4, .bool true, .bool b6, .bool b7, .bool b8, .bool b9]) (.int .i64 5)).run Try.prog W = .ok (.bool true) W := fun _ => rfl
              have HN : Aside0 (idxTo [b0, b1, b2, b3, b4, true, b6, b7, b8, b9] 6 = idxTo [b0, b1, b2, b3, b4, true, b6, b7, b8, b9] 5 ++ [(5 : Int)]) := ⟨by rw [idxTo]; rfl⟩
              generalize idxTo [b0, b1, b2, b3, b4, true, b6, b7, b8, b9] 5 = out at HO HOL HN
              obtain ⟨Ao, co, eo⟩ := Kd.R_slice HO.out
              subst eo
              go_wp2_with (first | (at_builtin; refine Kd.R_append (Kd.int .i64) (w0 := w) w.heap.size rfl (.tmp 18) (.tmp 20) 34 3 (.int .i64 0) 8 rfl Try.underlying34 infoInt rfl (by decide) (by omega) (.slice Ao out.length co) out (5 : Int) [.int .i64 5] (fun _ => True) (fun _ => False) rfl rfl ?aP (fun _ hk => hk.elim) ?aF ?aO ?aB ?aS ?aL ?_; (case aP => rfl); (case aB => exact HB3.out); (case aF => exact (fun _ _ => trivial)); (case aO => exact HO.out); (case aS => exact HB3.out.size); (case aL => have := HOL.out; omega); intro v2 w4 ho hb hg hat; have HO2 := qM ho; have HB4 := qM hb; clear ho hb hg hat))
              go_roundg 4
              case measure => omega
              case rel => exact ⟨6, by go_num, ⟨by omega⟩, ⟨by rw [HN.out]; exact HO2.out⟩, HB4⟩
            | false =>
              have hix : ∀ W : World, (Instr.index 173 (.agg #[.bool b0, .bool b1, .bool b2, .bool b3, .bool b4, .bool false, .bool b6, .bool b7, .bool b8, .bool b9]) (.int .i64 5)).run Try.prog W = .ok (.bool false) W := fun _ => rfl
              have HN : Aside0 (idxTo [b0, b1, b2, b3, b4, false, b6, b7, b8, b9] 6 = idxTo [b0, b1, b2, b3, b4, false, b6, b7, b8, b9] 5) := ⟨by rw [idxTo]; rfl⟩
              go_wp2
              go_roundg 4
              case measure => omega
              case rel => exact ⟨6, by go_num, ⟨by omega⟩, ⟨by rw [HN.out]; exact HO.out⟩, HB3⟩
          · have hg : gk = 3 := by have := HI.out; omega
            subst hg
            cases b6 with
            | true =>
              have hix : ∀ W : World, (Instr.index 173 (.agg #[.bool b0, .bool b1, .bool b2, .bool b3, .bool b4, .bool b5, .bool true, .bool b7, .bool b8, .bool b9]) (.int .i64 6)).run Try.prog W = .ok (.bool true) W := fun _ => rfl
              have HN : Aside0 (idxTo [b0, b1, b2, b3, b4, b5, true, b7, b8, b9] 7 = idxTo [b0, b1, b2, b3, b4, b5, true, b7, b8, b9] 6 ++ [(6 : Int)]) := ⟨by rw [idxTo]; rfl⟩
              generalize idxTo [b0, b1, b2, b3, b4, b5, true, b7, b8, b9] 6 = out at HO HOL HN
              obtain ⟨Ao, co, eo⟩ := Kd.R_slice HO.out
              subst eo
              go_wp2_with (first | (at_builtin; refine Kd.R_append (Kd.int .i64) (w0 := w) w.heap.size rfl (.tmp 18) (.tmp 20) 34 3 (.int .i64 0) 8 rfl Try.underlying34 infoInt rfl (by decide) (by omega) (.slice Ao out.length co) out (6 : Int) [.int .i64 6] (fun _ => True) (fun _ => False) rfl rfl ?aP (fun _ hk => hk.elim) ?aF ?aO ?aB ?aS ?aL ?_; (case aP => rfl); (case aB => exact HB3.out); (case aF => exact (fun _ _ => trivial)); (case aO => exact HO.out); (case aS => exact HB3.out.size); (case aL => have := HOL.out; omega); intro v2 w4 ho hb hg hat; have HO2 := qM ho; have HB4 := qM hb; clear ho hb hg hat))
              go_roundg 3
              case measure => omega
              case rel => exact ⟨7, by go_num, ⟨by omega⟩, ⟨by rw [HN.out]; exact HO2.out⟩, HB4⟩
            | false =>
              have hix : ∀ W : World, (Instr.index 173 (.agg #[.bool b0, .bool b1, .bool b2, .bool b3, .bool b4, .bool b5, .bool false, .bool b7, .bool b8, .bool b9]) (.int .i64 6)).run Try.prog W = .ok (.bool false) W := fun _ => rfl
              have HN : Aside0 (idxTo [b0, b1, b2, b3, b4, b5, false, b7, b8, b9] 7 = idxTo [b0, b1, b2, b3, b4, b5, false, b7, b8, b9] 6) := ⟨by rw [idxTo]; rfl⟩
              go_wp2
              go_roundg 3
              case measure => omega
              case rel => exact ⟨7, by go_num, ⟨by omega⟩, ⟨by rw [HN.out]; exact HO.out⟩, HB3⟩
          · have hg : gk = 2 := by have := HI.out; omega
            subst hg
            cases b7 with
            | true =>
              have hix : ∀ W : World, (Instr.index 173 (.agg #[.bool b0, .bool b1, .bool b2, .bool b3, .bool b4, .bool b5, .bool b6, .bool true, .bool b8, .bool b9]) (.int .i64 7)).run Try.prog W = .ok (.bool true) W := fun _ => rfl
              have HN : Aside0 (idxTo [b0, b1, b2, b3, b4, b5, b6, true, b8, b9] 8 = idxTo [b0, b1, b2, b3, b4, b5, b6, true, b8, b9] 7 ++ [(7 : Int)]) := ⟨by rw [idxTo]; rfl⟩
              generalize idxTo [b0, b1, b2, b3, b4, b5, b6, true, b8, b9] 7 = out at HO HOL HN
              obtain ⟨Ao, co, eo⟩ := Kd.R_slice HO.out
              subst eo
              go_wp2_with (first | (at_builtin; refine Kd.R_append (Kd.int .i64) (w0 := w) w.heap.size rfl (.tmp 18) (.tmp 20) 34 3 (.int .i64 0) 8 rfl Try.underlying34 infoInt rfl (by decide) (by omega) (.slice Ao out.length co) out (7 : Int) [.int .i64 7] (fun _ => True) (fun _ => False) rfl rfl ?aP (fun _ hk => hk.elim) ?aF ?aO ?aB ?aS ?aL ?_; (case aP => rfl); (case aB => exact HB3.out); (case aF => exact (fun _ _ => trivial)); (case aO => exact HO.out); (case aS => exact HB3.out.size); (case aL => have := HOL.out; omega); intro v2 w4 ho hb hg hat; have HO2 := qM ho; have HB4 := qM hb; clear ho hb hg hat))
              go_roundg 2
              case measure => omega
              case rel => exact ⟨8, by go_num, ⟨by omega⟩, ⟨by rw [HN.out]; exact HO2.out⟩, HB4⟩
            | false =>
              have hix : ∀ W : World, (Instr.index 173 (.agg #[.bool b0, .bool b1, .bool b2, .bool b3, .bool b4, .bool b5, .bool b6, .bool false, .bool b8, .bool b9]) (.int .i64 7)).run Try.prog W = .ok (.bool false) W := fun _ => rfl
              have HN : Aside0 (idxTo [b0, b1, b2, b3, b4, b5, b6, false, b8, b9] 8 = idxTo [b0, b1, b2, b3, b4, b5, b6, false, b8, b9] 7) := ⟨by rw [idxTo]; rfl⟩
              go_wp2
              go_roundg 2
              case measure => omega
              case rel => exact ⟨8, by go_num, ⟨by omega⟩, ⟨by rw [HN.out]; exact HO.out⟩, HB3⟩
          · have hg : gk = 1 := by have := HI.out; omega
            subst hg
            cases b8 with
            | true =>
              have hix : ∀ W : World, (Instr.index 173 (.agg #[.bool b0, .bool b1, .bool b2, .bool b3, .bool b4, .bool b5, .bool b6, .bool b7, .bool true, .bool b9]) (.int .i64 8)).run Try.prog W = .ok (.bool true) W := fun _ => rfl
              have HN : Aside0 (idxTo [b0, b1, b2, b3, b4, b5, b6, b7, true, b9] 9 = idxTo [b0, b1, b2, b3, b4, b5, b6, b7, true, b9] 8 ++ [(8 : Int)]) := ⟨by rw [idxTo]; rfl⟩
              generalize idxTo [b0, b1, b2, b3, b4, b5, b6, b7, true, b9] 8 = out at HO HOL HN
              obtain ⟨Ao, co, eo⟩ := Kd.R_slice HO.out
              subst eo
              go_wp2_with (first | (at_builtin; refine Kd.R_append (Kd.int .i64) (w0 := w) w.heap.size rfl (.tmp 18) (.tmp 20) 34 3 (.int .i64 0) 8 rfl Try.underlying34 infoInt rfl (by decide) (by omega) (.slice Ao out.length co) out (8 : Int) [.int .i64 8] (fun _ => True) (fun _ => False) rfl rfl ?aP (fun _ hk => hk.elim) ?aF ?aO ?aB ?aS ?aL ?_; (case aP => rfl); (case aB => exact HB3.out); (case aF => exact (fun _ _ => trivial)); (case aO => exact HO.out); (case aS => exact HB3.out.size); (case aL => have := HOL.out; omega); intro v2 w4 ho hb hg hat; have HO2 := qM ho; have HB4 := qM hb; clear ho hb hg hat))
              go_roundg 1
              case measure => omega
              case rel => exact ⟨9, by go_num, ⟨by omega⟩, ⟨by rw [HN.out]; exact HO2.out⟩, HB4⟩
            | false =>
              have hix : ∀ W : World, (Instr.index 173 (.agg #[.bool b0, .bool b1, .bool b2, .bool b3, .bool b4, .bool b5, .bool b6, .bool b7, .bool false, .bool b9]) (.int .i64 8)).run Try.prog W = .ok (.bool false) W := fun _ => rfl
              have HN : Aside0 (idxTo [b0, b1, b2, b3, b4, b5, b6, b7, false, b9] 9 = idxTo [b0, b1, b2, b3, b4, b5, b6, b7, false, b9] 8) := ⟨by rw [idxTo]; rfl⟩
              go_wp2
              go_roundg 1
              case measure => omega
              case rel => exact ⟨9, by go_num, ⟨by omega⟩, ⟨by rw [HN.out]; exact HO.out⟩, HB3⟩
          · have hg : gk = 0 := by have := HI.out; omega
            subst hg
            cases b9 with
            | true =>
              have hix : ∀ W : World, (Instr.index 173 (.agg #[.bool b0, .bool b1, .bool b2, .bool b3, .bool b4, .bool b5, .bool b6, .bool b7, .bool b8, .bool true]) (.int .i64 9)).run Try.prog W = .ok (.bool true) W := fun _ => rfl
              have HN : Aside0 (idxTo [b0, b1, b2, b3, b4, b5, b6, b7, b8, true] 10 = idxTo [b0, b1, b2, b3, b4, b5, b6, b7, b8, true] 9 ++ [(9 : Int)]) := ⟨by rw [idxTo]; rfl⟩
              generalize idxTo [b0, b1, b2, b3, b4, b5, b6, b7, b8, true] 9 = out at HO HOL HN
              obtain ⟨Ao, co, eo⟩ := Kd.R_slice HO.out
              subst eo
              go_wp2_with (first | (at_builtin; refine Kd.R_append (Kd.int .i64) (w0 := w) w.heap.size rfl (.tmp 18) (.tmp 20) 34 3 (.int .i64 0) 8 rfl Try.underlying34 infoInt rfl (by decide) (by omega) (.slice Ao out.length co) out (9 : Int) [.int .i64 9] (fun _ => True) (fun _ => False) rfl rfl ?aP (fun _ hk => hk.elim) ?aF ?aO ?aB ?aS ?aL ?_; (case aP => rfl); (case aB => exact HB3.out); (case aF => exact (fun _ _ => trivial)); (case aO => exact HO.out); (case aS => exact HB3.out.size); (case aL => have := HOL.out; omega); intro v2 w4 ho hb hg hat; have HO2 := qM ho; have HB4 := qM hb; clear ho hb hg hat))
              go_roundg 0
              case measure => omega
              case rel => exact ⟨10, by go_num, ⟨by omega⟩, ⟨by rw [HN.out]; exact HO2.out⟩, HB4⟩
            | false =>
              have hix : ∀ W : World, (Instr.index 173 (.agg #[.bool b0, .bool b1, .bool b2, .bool b3, .bool b4, .bool b5, .bool b6, .bool b7, .bool b8, .bool false]) (.int .i64 9)).run Try.prog W = .ok (.bool false) W := fun _ => rfl
              have HN : Aside0 (idxTo [b0, b1, b2, b3, b4, b5, b6, b7, b8, false] 10 = idxTo [b0, b1, b2, b3, b4, b5, b6, b7, b8, false] 9) := ⟨by rw [idxTo]; rfl⟩
              go_wp2
              go_roundg 0
              case measure => omega
              case rel => exact ⟨10, by go_num, ⟨by omega⟩, ⟨by rw [HN.out]; exact HO.out⟩, HB3⟩
    · cases h
end Go.Proofs.Ythfemojaabejiaa.G
end
section
namespace Go.Proofs.Ythfemojaabejiaa.G
open Go.RowKit Go.Proofs.YthfemojaabejiaaW.PrintWords Go.Proofs.YthfemojaabejiaaW.PrintLast Go.Proofs.YthfemojaabejiaaW.PrintMore
set_option linter.unusedVariables false
set_option linter.unusedSimpArgs false
set_option maxHeartbeats 8000000 in
set_option maxRecDepth 100000 in
theorem l2may_w : ∀ (t : Tk) (A : Option Addr) (c : Nat) (g : Nat) (bs : List Bool) (w0 w : World) (_ : fitT t = true) (_ : bs.length = 10) (_ : Kd.C k141 w0 A t.f2.length t.f2) (_ : t.f2.length ≤ c) (_ : w0.heap.size ≤ g) (_ : Below w0.heap.size w0 w) (_ : w.heap[g]? = some (.cells (arr10 bs) 4 (0, 0))),
    Calls Try.prog 146 #[.agg #[.int .i64 t.f0, .int .i64 t.f1, .slice A t.f2.length c], .slice (some ⟨g, 0, none⟩) 10 10] w fun e w' => e = .returned (.tuple #[]) ∧ w'.heap[g]? = some (.cells (arr10 (mayT t bs)) 4 (0, 0)) ∧ Below w0.heap.size w0 w' ∧ ∀ (j : Nat) (o : Obj), j ≠ g → w.heap[j]? = some o → w'.heap[j]? = some o := by
  refine tk_ind fun t ih A c g bs w0 w hf hb hr hc hg hB hbs => ?_
  have hu1 := Try.underlying141
  have hu2 := Try.underlying22
  have hu3 := Try.underlying28
  rw [fitT_eq, Bool.and_eq_true] at hf
  rw [mayT_eq]
  obtain ⟨k, n, ps⟩ := t
  simp only at ih hf hr hc ⊢
  have HI := qM ih
  have HF := qM hf
  have HLB := qM hb
  have HR := qM hr
  have HC := qM hc
  have HG := qM hg
  have HB := qM (hB.alloc hB.size (.cells #[.int .i64 k, .int .i64 n, .slice A ps.length c] 141))
  have HS := qM (qa hbs (.cells #[.int .i64 k, .int .i64 n, .slice A ps.length c] 141))
  have HX := qM (heap_alloc_new w (.cells #[.int .i64 k, .int .i64 n, .slice A ps.length c] 141))
  have HWG := qM (show w.heap.size ≠ g from fun e => by have := blk_lt hbs; omega)
  have hml := mark1_len (k := k) (n := n) hb
  obtain ⟨bs1, hbs1⟩ : ∃ x, x = mark1 k n bs := ⟨_, rfl⟩
  rw [← hbs1] at hml ⊢
  have HM1 := qM hbs1
  have HML := qM hml
  have HK : Aside0 (∀ (j : Nat) (o : Obj), j ≠ g → w.heap[j]? = some o → (w.alloc (.cells #[.int .i64 k, .int .i64 n, .slice A ps.length c] 141)).heap[j]? = some o) := ⟨fun j o _ h => qa h _⟩
  clear ih hf hb hr hc hg hB hbs hml hbs1
  by_cases h1 : k = 1
  · subst h1
    have hn : 0 ≤ n ∧ n < 10 := by
      have h2 := HF.out.1
      simp only [shapeB] at h2
      simp at h2
      exact h2.1
    have HN := qM hn
    have hp : (0 ≤ n) = True := eq_true hn.1
    have hq : (n < 10) = True := eq_true hn.2
    have hnl : n.toNat < bs.length := by have := HLB.out; omega
    have hx : (w.alloc (.cells #[.int .i64 1, .int .i64 n, .slice A ps.length c] 141)).cell? ⟨g, n.toNat, none⟩ = some (.bool (bs[n.toNat]'hnl)) := (qC HS.out n.toNat).trans (arr10_at _)
    have hfz : (w.alloc (.cells #[.int .i64 1, .int .i64 n, .slice A ps.length c] 141)).frozen? ⟨g, n.toNat, none⟩ = false := qF HS.out n.toNat
    have h3 := blk_set HS.out n.toNat (.bool true)
    rw [arr10_set] at h3
    have hm : mark1 1 n bs = bs.set n.toNat true := by unfold mark1; rw [if_pos rfl]
    rw [← hm, ← HM1.out] at h3
    have HS1 := qM h3
    have HB1 : Aside0 _ := ⟨HB.out.setCell (p := ⟨g, n.toNat, none⟩) HG.out (.bool true)⟩
    have HX1 := qM (blk_far (p := ⟨g, n.toNat, none⟩) HX.out HWG.out (.bool true))
    have HK1 : Aside0 (∀ (j : Nat) (o : Obj), j ≠ g → w.heap[j]? = some o → ((w.alloc (.cells #[.int .i64 1, .int .i64 n, .slice A ps.length c] 141)).setCell ⟨g, n.toNat, none⟩ (.bool true)).heap[j]? = some o) := ⟨fun j o hj h => (Below.heap_setCell _ _ _ _ hj).trans (HK.out j o hj h)⟩
    clear h3 hm
    go_enter Try.func146, Try.ntmps146
    go_wp2
    go_loopg [4] 0 (fun kq v4 w' => v4 = .int .i64 0 ∧ Aside0 (kq = 0) ∧ Aside0 (w'.heap[g]? = some (.cells (arr10 bs1) 4 (0, 0))) ∧ Aside0 (Below w0.heap.size w0 w') ∧ Aside0 (w'.heap[w.heap.size]? = some (.cells #[.int .i64 1, .int .i64 n, .slice A ps.length c] 141 (0, 0))) ∧ Aside0 (∀ (j : Nat) (o : Obj), j ≠ g → w.heap[j]? = some o → w'.heap[j]? = some o))
    case atStart => exact ⟨rfl, ⟨rfl⟩, HS1, HB1, HX1, HK1⟩
    case round =>
      obtain ⟨rfl, HQ, HS1, HB1, HX1, HK1⟩ := hrel
      have hx0 : wr.cell? ⟨w.heap.size, 0, none⟩ = some (.int .i64 1) := (qC HX1.out 0).trans rfl
      have hk5 : ((1 : Int) == 5) = false := rfl
      have hk5' : decide ((1 : Int) = 5) = false := by decide
      go_wp2
      go_loopg [5] ps.length (fun kq v5 w' => ∃ i : Nat, v5 = .int .i64 (i : Int) ∧ Aside0 (i + kq = ps.length) ∧ Aside0 (w'.heap[g]? = some (.cells (arr10 (mayL (ps.take i) bs1)) 4 (0, 0))) ∧ Aside0 (Below w0.heap.size w0 w') ∧ Aside0 (w'.heap[w.heap.size]? = some (.cells #[.int .i64 1, .int .i64 n, .slice A ps.length c] 141 (0, 0))) ∧ Aside0 (∀ (j : Nat) (o : Obj), j ≠ g → w.heap[j]? = some o → w'.heap[j]? = some o))
      case atStart => exact ⟨0, rfl, ⟨by omega⟩, ⟨by simpa [mayL] using HS1.out⟩, HB1, HX1, HK1⟩
      case round =>
        obtain ⟨i, rfl, HIK, HSr, HBr, HXr, HKr⟩ := hrel
        have hx2 : wr.cell? ⟨w.heap.size, 2, none⟩ = some (.slice A ps.length c) := (qC HXr.out 2).trans rfl
        cases gk with
        | zero =>
          have hi : i = ps.length := by have := HIK.out; omega
          subst hi
          have hb : decide ((ps.length : Int) < (ps.length : Int)) = false := decide_eq_false (by omega)
          go_wp2
          go_end0
          refine ⟨rfl, ?_, HBr.out, HKr.out⟩
          have h3 := HSr.out
          rw [List.take_length] at h3
          exact h3
        | succ gk =>
          have hlt : i < ps.length := by have := HIK.out; omega
          have HLT := qM hlt
          have hb : decide ((i : Int) < (ps.length : Int)) = true := decide_eq_true (by omega)
          obtain ⟨ad, A2, c2, e, hy0, hy1, hy2, hl2, hC2⟩ := at_T141 HR.out (i : Int) (by omega) (by omega)
          cases e
          have hlen := HR.out.2.1
          have hmax : (i : Int) + 1 ≤ 9223372036854775807 := by omega
          rw [rd_tk ps i hlt] at hy0 hy1 hy2 hl2 hC2
          have HIT := qM (mayL_take ps bs1 i hlt)
          have HFP := qM (fitL_mem HF.out.2 _ (List.getElem_mem hlt))
          have HIHP := qM (HI.out _ (List.getElem_mem hlt))
          generalize ps[i] = p at hy0 hy1 hy2 hl2 hC2 HIT HFP HIHP
          have hc0 : wr.cell? (ad.add (i * 3)) = some (.int .i64 p.f0) := by
            have h1 := (HBr.out.cell (qL w0 _ hy0)).trans hy0
            simpa only [Int.toNat_natCast] using h1
          have hc1 : wr.cell? ⟨(ad.add (i * 3)).block, (ad.add (i * 3)).off + 1, none⟩ = some (.int .i64 p.f1) := by
            have h1 := (HBr.out.cell (qL w0 _ hy1)).trans hy1
            simpa only [Int.toNat_natCast] using h1
          have hc2 : wr.cell? ⟨(ad.add (i * 3)).block, (ad.add (i * 3)).off + 2, none⟩ = some (.slice A2 p.f2.length c2) := by
            have h1 := (HBr.out.cell (qL w0 _ hy2)).trans hy2
            simpa only [Int.toNat_natCast] using h1
          clear hy0 hy1 hy2
          have p0 : (0 ≤ (i : Int)) = True := eq_true (by omega)
          have q0 : ((i : Int) < (ps.length : Int)) = True := eq_true (by omega)
          have hml2 : (mayL (ps.take i) bs1).length = 10 := by
            rw [mayL_foldl]
            have key : ∀ (qs : List Tk) (b : List Bool), b.length = 10 → (qs.foldl (fun b p => mayT p b) b).length = 10 := by
              intro qs
              induction qs with
              | nil => intro b h; exact h
              | cons q qs ihq => intro b h; exact ihq _ (mayT_len q b h)
            exact key _ _ HML.out
          have CK := qM (HIHP.out A2 c2 g (mayL (ps.take i) bs1) w0 wr HFP.out hml2 hC2 hl2 HG.out HBr.out HSr.out)
          clear hl2 hC2 hml2
          go_wp2_with fail
          with_reducible refine CK.out.mono ?_
          rintro e w2 ⟨rfl, h3, h4, h5⟩
          have HS2 := qM h3
          have HB2 := qM h4
          have HX2 := qM (h5 _ _ HWG.out HXr.out)
          have HK2 : Aside0 (∀ (j : Nat) (o : Obj), j ≠ g → w.heap[j]? = some o → w2.heap[j]? = some o) := ⟨fun j o hj h => h5 j o hj (HKr.out j o hj h)⟩
          clear h3 h4 h5 CK hc0 hc1 hc2 hx2
          go_wp2
          go_roundg gk
          case measure => omega
          case rel => exact ⟨i + 1, by go_num, ⟨by have := HIK.out; omega⟩, ⟨by rw [HIT.out]; exact HS2.out⟩, HB2, HX2, HK2⟩
  by_cases h5 : k = 5
  · subst h5
    go_enter Try.func146, Try.ntmps146
    go_wp2
    go_loopg [4] 10 (fun kq v4 w' => ∃ i : Nat, v4 = .int .i64 (i : Int) ∧ Aside0 (i + kq = 10) ∧ Aside0 (w'.heap[g]? = some (.cells (arr10 (List.replicate i true ++ bs.drop i)) 4 (0, 0))) ∧ Aside0 (Below w0.heap.size w0 w') ∧ Aside0 (w'.heap[w.heap.size]? = some (.cells #[.int .i64 5, .int .i64 n, .slice A ps.length c] 141 (0, 0))) ∧ Aside0 (∀ (j : Nat) (o : Obj), j ≠ g → w.heap[j]? = some o → w'.heap[j]? = some o))
    case atStart => exact ⟨0, rfl, ⟨by omega⟩, ⟨by simpa using HS.out⟩, HB, HX, HK⟩
    case round =>
      obtain ⟨i, rfl, HIK, HSr, HBr, HX1, HK1⟩ := hrel
      have hx0 : wr.cell? ⟨w.heap.size, 0, none⟩ = some (.int .i64 5) := (qC HX1.out 0).trans rfl
      cases gk with
      | zero =>
        have hi : i = 10 := by have := HIK.out; omega
        subst hi
        have h3 := HSr.out
        have hd : bs.drop 10 = [] := List.drop_of_length_le (by rw [HLB.out]; exact Nat.le_refl _)
        have hm : mark1 5 n bs = List.replicate 10 true := by unfold mark1; rw [if_neg (by decide), if_pos rfl]
        rw [hd, List.append_nil, ← hm, ← HM1.out] at h3
        have HS1 := qM h3
        have HB1 := HBr
        clear h3 hd hm
        go_wp2
        go_loopg [5] ps.length (fun kq v5 w' => ∃ i : Nat, v5 = .int .i64 (i : Int) ∧ Aside0 (i + kq = ps.length) ∧ Aside0 (w'.heap[g]? = some (.cells (arr10 (mayL (ps.take i) bs1)) 4 (0, 0))) ∧ Aside0 (Below w0.heap.size w0 w') ∧ Aside0 (w'.heap[w.heap.size]? = some (.cells #[.int .i64 5, .int .i64 n, .slice A ps.length c] 141 (0, 0))) ∧ Aside0 (∀ (j : Nat) (o : Obj), j ≠ g → w.heap[j]? = some o → w'.heap[j]? = some o))
        case atStart => exact ⟨0, rfl, ⟨by omega⟩, ⟨by simpa [mayL] using HS1.out⟩, HB1, HX1, HK1⟩
        case round =>
          obtain ⟨i, rfl, HIK, HSr, HBr, HXr, HKr⟩ := hrel
          have hx2 : wr.cell? ⟨w.heap.size, 2, none⟩ = some (.slice A ps.length c) := (qC HXr.out 2).trans rfl
          cases gk with
          | zero =>
            have hi : i = ps.length := by have := HIK.out; omega
            subst hi
            have hb : decide ((ps.length : Int) < (ps.length : Int)) = false := decide_eq_false (by omega)
            go_wp2
            go_end0
            refine ⟨rfl, ?_, HBr.out, HKr.out⟩
            have h3 := HSr.out
            rw [List.take_length] at h3
            exact h3
          | succ gk =>
            have hlt : i < ps.length := by have := HIK.out; omega
            have HLT := qM hlt
            have hb : decide ((i : Int) < (ps.length : Int)) = true := decide_eq_true (by omega)
            obtain ⟨ad, A2, c2, e, hy0, hy1, hy2, hl2, hC2⟩ := at_T141 HR.out (i : Int) (by omega) (by omega)
            cases e
            have hlen := HR.out.2.1
            have hmax : (i : Int) + 1 ≤ 9223372036854775807 := by omega
            rw [rd_tk ps i hlt] at hy0 hy1 hy2 hl2 hC2
            have HIT := qM (mayL_take ps bs1 i hlt)
            have HFP := qM (fitL_mem HF.out.2 _ (List.getElem_mem hlt))
            have HIHP := qM (HI.out _ (List.getElem_mem hlt))
            generalize ps[i] = p at hy0 hy1 hy2 hl2 hC2 HIT HFP HIHP
            have hc0 : wr.cell? (ad.add (i * 3)) = some (.int .i64 p.f0) := by
              have h1 := (HBr.out.cell (qL w0 _ hy0)).trans hy0
              simpa only [Int.toNat_natCast] using h1
            have hc1 : wr.cell? ⟨(ad.add (i * 3)).block, (ad.add (i * 3)).off + 1, none⟩ = some (.int .i64 p.f1) := by
              have h1 := (HBr.out.cell (qL w0 _ hy1)).trans hy1
              simpa only [Int.toNat_natCast] using h1
            have hc2 : wr.cell? ⟨(ad.add (i * 3)).block, (ad.add (i * 3)).off + 2, none⟩ = some (.slice A2 p.f2.length c2) := by
              have h1 := (HBr.out.cell (qL w0 _ hy2)).trans hy2
              simpa only [Int.toNat_natCast] using h1
            clear hy0 hy1 hy2
            have p0 : (0 ≤ (i : Int)) = True := eq_true (by omega)
            have q0 : ((i : Int) < (ps.length : Int)) = True := eq_true (by omega)
            have hml2 : (mayL (ps.take i) bs1).length = 10 := by
              rw [mayL_foldl]
              have key : ∀ (qs : List Tk) (b : List Bool), b.length = 10 → (qs.foldl (fun b p => mayT p b) b).length = 10 := by
                intro qs
                induction qs with
                | nil => intro b h; exact h
                | cons q qs ihq => intro b h; exact ihq _ (mayT_len q b h)
              exact key _ _ HML.out
            have CK := qM (HIHP.out A2 c2 g (mayL (ps.take i) bs1) w0 wr HFP.out hml2 hC2 hl2 HG.out HBr.out HSr.out)
            clear hl2 hC2 hml2
            go_wp2_with fail
            with_reducible refine CK.out.mono ?_
            rintro e w2 ⟨rfl, h3, h4, h5⟩
            have HS2 := qM h3
            have HB2 := qM h4
            have HX2 := qM (h5 _ _ HWG.out HXr.out)
            have HK2 : Aside0 (∀ (j : Nat) (o : Obj), j ≠ g → w.heap[j]? = some o → w2.heap[j]? = some o) := ⟨fun j o hj h => h5 j o hj (HKr.out j o hj h)⟩
            clear h3 h4 h5 CK hc0 hc1 hc2 hx2
            go_wp2
            go_roundg gk
            case measure => omega
            case rel => exact ⟨i + 1, by go_num, ⟨by have := HIK.out; omega⟩, ⟨by rw [HIT.out]; exact HS2.out⟩, HB2, HX2, HK2⟩
      | succ gk =>
        have hlt : i < 10 := by have := HIK.out; omega
        have HLT := qM hlt
        have hb' : decide ((i : Int) < 10) = true := decide_eq_true (by omega)
        have hll : (List.replicate i true ++ bs.drop i).length = 10 := by rw [List.length_append, List.length_replicate, List.length_drop, HLB.out]; omega
        have hx : wr.cell? ⟨g, i, none⟩ = some (.bool ((List.replicate i true ++ bs.drop i)[i]'(by rw [hll]; exact hlt))) := (qC HSr.out i).trans (arr10_at _)
        have hfz : wr.frozen? ⟨g, i, none⟩ = false := qF HSr.out i
        have hp : (0 ≤ (i : Int)) = True := eq_true (by omega)
        have hq : ((i : Int) < 10) = True := eq_true (by omega)
        go_wp2
        go_roundg gk
        case measure => omega
        case rel =>
          refine ⟨i + 1, by go_num, ⟨by have := HIK.out; omega⟩, ⟨?_⟩, ⟨HBr.out.setCell HG.out _⟩, ⟨blk_far HX1.out HWG.out _⟩, ⟨fun j o hj h => (Below.heap_setCell _ _ _ _ hj).trans (HK1.out j o hj h)⟩⟩
          have h3 := blk_set HSr.out i (.bool true)
          rw [arr10_set, fill_step bs HLB.out i HLT.out] at h3
          exact h3
  · have hk1 : decide (k = 1) = false := decide_eq_false h1
    have hk1' : (k == 1) = false := by simp [h1]
    have HS1 : Aside0 ((w.alloc (.cells #[.int .i64 k, .int .i64 n, .slice A ps.length c] 141)).heap[g]? = some (.cells (arr10 bs1) 4 (0, 0))) := ⟨by rw [HM1.out]; unfold mark1; rw [if_neg h1, if_neg h5]; exact HS.out⟩
    have HB1 := HB
    have HX1 := HX
    have HK1 := HK
    have H5 := qM h5
    clear h1 h5
    go_enter Try.func146, Try.ntmps146
    go_wp2
    go_loopg [4] 0 (fun kq v4 w' => v4 = .int .i64 0 ∧ Aside0 (kq = 0) ∧ Aside0 (w'.heap[g]? = some (.cells (arr10 bs1) 4 (0, 0))) ∧ Aside0 (Below w0.heap.size w0 w') ∧ Aside0 (w'.heap[w.heap.size]? = some (.cells #[.int .i64 k, .int .i64 n, .slice A ps.length c] 141 (0, 0))) ∧ Aside0 (∀ (j : Nat) (o : Obj), j ≠ g → w.heap[j]? = some o → w'.heap[j]? = some o))
    case atStart => exact ⟨rfl, ⟨rfl⟩, HS1, HB1, HX1, HK1⟩
    case round =>
      obtain ⟨rfl, HQ, HS1, HB1, HX1, HK1⟩ := hrel
      have hx0 : wr.cell? ⟨w.heap.size, 0, none⟩ = some (.int .i64 k) := (qC HX1.out 0).trans rfl
      have hk5 : ((k : Int) == 5) = false := by simp [H5.out]
      have hk5' : decide ((k : Int) = 5) = false := decide_eq_false H5.out
      go_wp2
      go_loopg [5] ps.length (fun kq v5 w' => ∃ i : Nat, v5 = .int .i64 (i : Int) ∧ Aside0 (i + kq = ps.length) ∧ Aside0 (w'.heap[g]? = some (.cells (arr10 (mayL (ps.take i) bs1)) 4 (0, 0))) ∧ Aside0 (Below w0.heap.size w0 w') ∧ Aside0 (w'.heap[w.heap.size]? = some (.cells #[.int .i64 k, .int .i64 n, .slice A ps.length c] 141 (0, 0))) ∧ Aside0 (∀ (j : Nat) (o : Obj), j ≠ g → w.heap[j]? = some o → w'.heap[j]? = some o))
      case atStart => exact ⟨0, rfl, ⟨by omega⟩, ⟨by simpa [mayL] using HS1.out⟩, HB1, HX1, HK1⟩
      case round =>
        obtain ⟨i, rfl, HIK, HSr, HBr, HXr, HKr⟩ := hrel
        have hx2 : wr.cell? ⟨w.heap.size, 2, none⟩ = some (.slice A ps.length c) := (qC HXr.out 2).trans rfl
        cases gk with
        | zero =>
          have hi : i = ps.length := by have := HIK.out; omega
          subst hi
          have hb : decide ((ps.length : Int) < (ps.length : Int)) = false := decide_eq_false (by omega)
          go_wp2
          go_end0
          refine ⟨rfl, ?_, HBr.out, HKr.out⟩
          have h3 := HSr.out
          rw [List.take_length] at h3
          exact h3
        | succ gk =>
          have hlt : i < ps.length := by have := HIK.out; omega
          have HLT := qM hlt
          have hb : decide ((i : Int) < (ps.length : Int)) = true := decide_eq_true (by omega)
          obtain ⟨ad, A2, c2, e, hy0, hy1, hy2, hl2, hC2⟩ := at_T141 HR.out (i : Int) (by omega) (by omega)
          cases e
          have hlen := HR.out.2.1
          have hmax : (i : Int) + 1 ≤ 9223372036854775807 := by omega
          rw [rd_tk ps i hlt] at hy0 hy1 hy2 hl2 hC2
          have HIT := qM (mayL_take ps bs1 i hlt)
          have HFP := qM (fitL_mem HF.out.2 _ (List.getElem_mem hlt))
          have HIHP := qM (HI.out _ (List.getElem_mem hlt))
          generalize ps[i] = p at hy0 hy1 hy2 hl2 hC2 HIT HFP HIHP
          have hc0 : wr.cell? (ad.add (i * 3)) = some (.int .i64 p.f0) := by
            have h1 := (HBr.out.cell (qL w0 _ hy0)).trans hy0
            simpa only [Int.toNat_natCast] using h1
          have hc1 : wr.cell? ⟨(ad.add (i * 3)).block, (ad.add (i * 3)).off + 1, none⟩ = some (.int .i64 p.f1) := by
            have h1 := (HBr.out.cell (qL w0 _ hy1)).trans hy1
            simpa only [Int.toNat_natCast] using h1
          have hc2 : wr.cell? ⟨(ad.add (i * 3)).block, (ad.add (i * 3)).off + 2, none⟩ = some (.slice A2 p.f2.length c2) := by
            have h1 := (HBr.out.cell (qL w0 _ hy2)).trans hy2
            simpa only [Int.toNat_natCast] using h1
          clear hy0 hy1 hy2
          have p0 : (0 ≤ (i : Int)) = True := eq_true (by omega)
          have q0 : ((i : Int) < (ps.length : Int)) = True := eq_true (by omega)
          have hml2 : (mayL (ps.take i) bs1).length = 10 := by
            rw [mayL_foldl]
            have key : ∀ (qs : List Tk) (b : List Bool), b.length = 10 → (qs.foldl (fun b p => mayT p b) b).length = 10 := by
              intro qs
              induction qs with
              | nil => intro b h; exact h
              | cons q qs ihq => intro b h; exact ihq _ (mayT_len q b h)
            exact key _ _ HML.out
          have CK := qM (HIHP.out A2 c2 g (mayL (ps.take i) bs1) w0 wr HFP.out hml2 hC2 hl2 HG.out HBr.out HSr.out)
          clear hl2 hC2 hml2
          go_wp2_with fail
          with_reducible refine CK.out.mono ?_
          rintro e w2 ⟨rfl, h3, h4, h5⟩
          have HS2 := qM h3
          have HB2 := qM h4
          have HX2 := qM (h5 _ _ HWG.out HXr.out)
          have HK2 : Aside0 (∀ (j : Nat) (o : Obj), j ≠ g → w.heap[j]? = some o → w2.heap[j]? = some o) := ⟨fun j o hj h => h5 j o hj (HKr.out j o hj h)⟩
          clear h3 h4 h5 CK hc0 hc1 hc2 hx2
          go_wp2
          go_roundg gk
          case measure => omega
          case rel => exact ⟨i + 1, by go_num, ⟨by have := HIK.out; omega⟩, ⟨by rw [HIT.out]; exact HS2.out⟩, HB2, HX2, HK2⟩
end Go.Proofs.Ythfemojaabejiaa.G
end
section
namespace Go.Proofs.Ythfemojaabejiaa.G
open Go.RowKit Go.Proofs.YthfemojaabejiaaW.PrintWords
set_option linter.unusedVariables false
set_option linter.unusedSimpArgs false
theorem idxTo_mem (bs : List Bool) (n : Nat) (j : Int) : j ∈ idxTo bs n ↔ ∃ i : Nat, i < n ∧ j = (i : Int) ∧ bs.getD i false = true := by
  induction n with
  | zero => simp [idxTo]
  | succ n ih =>
    rw [idxTo]
    split
    · rename_i h
      rw [List.mem_append, ih, List.mem_singleton]
      constructor
      · rintro (⟨i, a, b, c⟩ | rfl)
        · exact ⟨i, by omega, b, c⟩
        · exact ⟨n, by omega, rfl, h⟩
      · rintro ⟨i, a, b, c⟩
        by_cases e : i = n
        · exact .inr (by rw [b, e])
        · exact .inl ⟨i, by omega, b, c⟩
    · rename_i h
      rw [ih]
      constructor
      · rintro ⟨i, a, b, c⟩; exact ⟨i, by omega, b, c⟩
      · rintro ⟨i, a, b, c⟩
        by_cases e : i = n
        · rw [e] at c; exact absurd c h
        · exact ⟨i, by omega, b, c⟩
def mayK (t : Tk) : List Int := if okT t = true then idxTo (mayT t (List.replicate 10 false)) 10 else []
theorem mayK_len (t : Tk) : (mayK t).length ≤ 10 := by
  unfold mayK
  split
  · exact idxTo_len _ _
  · simp
theorem mayK_rng (t : Tk) (j : Int) (h : j ∈ mayK t) : 0 ≤ j ∧ j ≤ 9 := by
  unfold mayK at h
  split at h
  · obtain ⟨i, a, b, _⟩ := (idxTo_mem _ _ _).1 h
    omega
  · cases h
end Go.Proofs.Ythfemojaabejiaa.G
end
section
namespace Go.Proofs.Ythfemojaabejiaa.G
open Go.RowKit Go.Proofs.YthfemojaabejiaaW.PrintWords Go.Proofs.YthfemojaabejiaaW.PrintLast Go.Proofs.YthfemojaabejiaaW.PrintMore
set_option linter.unusedVariables false
set_option linter.unusedSimpArgs false
def spec_TaskMay.f (k : Nat) (a0_0 : Int) (a0_1 : Int) (l0_2 : List Tk) : Option (List Int) := (spec_TaskOk.f k a0_0 a0_1 l0_2).bind fun b => if b = true then (if fitT ⟨a0_0, a0_1, l0_2⟩ = true then some (idxTo (mayT ⟨a0_0, a0_1, l0_2⟩ (List.replicate 10 false)) 10) else none) else some []
theorem infoBool : (Try.prog.info? 4).map (fun i => (i.zero, i.size, i.bytes)) = some (some (.bool false), 1, 1) := by kernel_rfl
theorem make10 (w : World) : (Instr.makeSlice 22 (.int .i64 10) (.int .i64 10)).run Try.prog w = .ok (.slice (some ⟨w.heap.size, 0, none⟩) 10 10) (w.alloc (.cells #[.bool false, .bool false, .bool false, .bool false, .bool false, .bool false, .bool false, .bool false, .bool false, .bool false] 4)) := by
  have h := infoBool
  cases hi : Try.prog.info? 4 with
  | none => rw [hi] at h; cases h
  | some i =>
    rw [hi] at h
    simp only [Option.map_some, Option.some.injEq, Prod.mk.injEq] at h
    obtain ⟨hz, hs, hb⟩ := h
    have h1 := run_make w 22 4 i (.bool false) Try.underlying22 hi hz .i64 .i64 10 10 (by omega) (by omega) (by rw [hb]; decide) (by omega)
    rw [hs] at h1
    rw [show madeCells (Value.bool false).cells (Int.toNat 10 * 1) = #[.bool false, .bool false, .bool false, .bool false, .bool false, .bool false, .bool false, .bool false, .bool false, .bool false] from by kernel_rfl] at h1
    exact h1
set_option maxHeartbeats 8000000 in
set_option maxRecDepth 100000 in
theorem spec_TaskMay.calls (k : Nat) (a0_0 : Int) (a0_1 : Int) (A0_2 : Option Addr) (c0_2 : Nat) (l0_2 : List S141) (r : List Int) (w : World) (hr0_2 : Kd.C k141 w A0_2 l0_2.length l0_2) (hc0_2 : l0_2.length ≤ c0_2) (h : spec_TaskMay.f k a0_0 a0_1 l0_2 = some r) :
    Calls Try.prog 108 #[.agg #[.int .i64 a0_0, .int .i64 a0_1, .slice A0_2 l0_2.length c0_2]] w fun e w' => ∃ v0_ : Value, e = .returned v0_ ∧ Kd.R (Kd.int .i64) 3 w' w.heap.size (fun _ => True) v0_ r ∧ Below w.heap.size w w' := by
  have hu1 := Try.underlying141
  have hu2 := Try.underlying22
  have hu3 := Try.underlying34
  have hmk := make10
  unfold spec_TaskMay.f at h
  obtain ⟨b, hb, h⟩ := Option.bind_eq_some_iff.mp h
  have hbx := heap_alloc_new w (.cells #[.int .i64 a0_0, .int .i64 a0_1, .slice A0_2 l0_2.length c0_2] 141)
  have BX := qM hbx
  have HR := qM hr0_2
  have HC := qM hc0_2
  have HOK := qM hb
  have HA := qM ((Below.refl w.heap.size w).alloc (Nat.le_refl _) (.cells #[.int .i64 a0_0, .int .i64 a0_1, .slice A0_2 l0_2.length c0_2] 141))
  clear hbx hr0_2 hc0_2 hb
  have H := qM h
  clear h
  go_enter Try.func108, Try.ntmps108
  go_wp2_with (first | ((with_reducible refine gate_dst (N := 6) rfl ?_); refine Kd.R_lit (Kd.int .i64) (w0 := w) w.heap.size 3 ?hg (N := 6) ?hd (xs := ([] : List Int)) (inner := []) (ok := fun _ => True) (okp := fun _ => True) ?hr ?hp (fun _ hk => hk) trivial HA.out HA.out.size (by simp) ?_; (case hd => rfl); (case hg => rfl); (case hr => first | (go_simp; done) | (go_simp; rfl)); (case hp => exact (Reps.none _ _)); intro v1 w1 ho hb hg hnew; have HO := qM ho; have HB := qM hb; have BX1 := qM ((hg.block _ (blk_lt BX.out) (by simp)).trans BX.out); clear ho hb hg hnew BX HA; have hx0 : w1.cell? ⟨w.heap.size, 0, none⟩ = some (.int .i64 a0_0) := (qC BX1.out 0).trans rfl; have hx1 : w1.cell? ⟨w.heap.size, 1, none⟩ = some (.int .i64 a0_1) := (qC BX1.out 1).trans rfl; have hx2 : w1.cell? ⟨w.heap.size, 2, none⟩ = some (.slice A0_2 l0_2.length c0_2) := (qC BX1.out 2).trans rfl))
  have CK := qM (spec_TaskOk.calls k a0_0 a0_1 A0_2 c0_2 l0_2 b w1 (qB HR.out HB.out) HC.out HOK.out)
  clear HOK
  with_reducible refine CK.out.mono ?_
  rintro e w2 ⟨rfl, hb1⟩
  have HB2 := qM (HB.out.trans (hb1.mono HB.out.size))
  have BX2 := qM ((hb1.block _ (blk_lt BX1.out)).trans BX1.out)
  have HO2 := qM (Kd.R_below HO.out hb1)
  clear CK hb1 hx0 hx1 hx2 BX1 HO HB
  have hx0 : w2.cell? ⟨w.heap.size, 0, none⟩ = some (.int .i64 a0_0) := (qC BX2.out 0).trans rfl
  have hx1 : w2.cell? ⟨w.heap.size, 1, none⟩ = some (.int .i64 a0_1) := (qC BX2.out 1).trans rfl
  have hx2 : w2.cell? ⟨w.heap.size, 2, none⟩ = some (.slice A0_2 l0_2.length c0_2) := (qC BX2.out 2).trans rfl
  cases b with
  | false =>
    have h := H.out
    simp only [Bool.false_eq_true, if_false] at h
    obtain rfl := Option.some.inj h
    clear h H
    go_wp2
    go_ret
    exact ⟨_, rfl, HO2.out, HB2.out⟩
  | true =>
    have h := H.out
    simp only [if_true] at h
    clear H
    split at h
    · rename_i hf
      have hr := Option.some.inj h
      have hml := mayT_len ⟨a0_0, a0_1, l0_2⟩ (List.replicate 10 false) (by simp)
      have HF := qM hf
      obtain ⟨g, hg⟩ : ∃ g, g = w2.heap.size := ⟨_, rfl⟩
      have HG := qM hg
      have hal : (w2.alloc (.cells #[.bool false, .bool false, .bool false, .bool false, .bool false, .bool false, .bool false, .bool false, .bool false, .bool false] 4)).heap[w2.heap.size]? = some (.cells (arr10 (List.replicate 10 false)) 4 (0, 0)) := heap_alloc_new w2 _
      have BXa := qM (qa BX2.out (.cells #[.bool false, .bool false, .bool false, .bool false, .bool false, .bool false, .bool false, .bool false, .bool false, .bool false] 4))
      have HBa := qM (HB2.out.alloc HB2.out.size (.cells #[.bool false, .bool false, .bool false, .bool false, .bool false, .bool false, .bool false, .bool false, .bool false, .bool false] 4))
      have CK := qM (l2may_w ⟨a0_0, a0_1, l0_2⟩ A0_2 c0_2 w2.heap.size (List.replicate 10 false) w (w2.alloc (.cells #[.bool false, .bool false, .bool false, .bool false, .bool false, .bool false, .bool false, .bool false, .bool false, .bool false] 4)) hf (by simp) HR.out HC.out HB2.out.size HBa.out hal)
      have HOa : Aside0 (Kd.R (Kd.int .i64) 3 (w2.alloc (.cells #[.bool false, .bool false, .bool false, .bool false, .bool false, .bool false, .bool false, .bool false, .bool false, .bool false] 4)) w.heap.size (fun j => j ≠ w2.heap.size) v1 []) := ⟨Kd.R_alloc (Kd.R_mono (Kd.R_bound HO2.out) (fun j hj => by have := hj.2.2.1; omega)) _⟩
      have HWS := qM HB2.out.size
      have hxa0 : (w2.alloc (.cells #[.bool false, .bool false, .bool false, .bool false, .bool false, .bool false, .bool false, .bool false, .bool false, .bool false] 4)).cell? ⟨w.heap.size, 0, none⟩ = some (.int .i64 a0_0) := (qC BXa.out 0).trans rfl
      have hxa1 : (w2.alloc (.cells #[.bool false, .bool false, .bool false, .bool false, .bool false, .bool false, .bool false, .bool false, .bool false, .bool false] 4)).cell? ⟨w.heap.size, 1, none⟩ = some (.int .i64 a0_1) := (qC BXa.out 1).trans rfl
      have hxa2 : (w2.alloc (.cells #[.bool false, .bool false, .bool false, .bool false, .bool false, .bool false, .bool false, .bool false, .bool false, .bool false] 4)).cell? ⟨w.heap.size, 2, none⟩ = some (.slice A0_2 l0_2.length c0_2) := (qC BXa.out 2).trans rfl
      generalize mayT ⟨a0_0, a0_1, l0_2⟩ (List.replicate 10 false) = bs at hr hml CK
      subst hr
      have HML := qM hml
      clear h hf hml hal hx0 hx1 hx2 HO2 BX2 BXa hg HG
      go_wp2_with fail
      with_reducible refine CK.out.mono ?_
      rintro e w3 ⟨rfl, h3, h4, h5⟩
      have HS := qM h3
      have HB3 := qM h4
      have HO3 : Aside0 (Kd.R (Kd.int .i64) 3 w3 w.heap.size (fun j => j ≠ w2.heap.size) v1 []) := ⟨Kd.R_mono (Kd.R_move (Kd.R_bound HOa.out) (fun j hj => by
        obtain ⟨q1, q2, q3, q4⟩ := hj
        have hq : ∃ o, (w2.alloc (.cells #[.bool false, .bool false, .bool false, .bool false, .bool false, .bool false, .bool false, .bool false, .bool false, .bool false] 4)).heap[j]? = some o := ⟨_, Array.getElem?_eq_getElem q3⟩
        obtain ⟨o, ho⟩ := hq
        rw [ho]
        exact h5 j o q1 ho)) (fun j hj => hj.1)⟩
      clear CK h3 h4 h5 hxa0 hxa1 hxa2 HBa HOa
      obtain ⟨g, hg⟩ : ∃ g, g = w2.heap.size := ⟨_, rfl⟩
      rw [← hg] at HS HO3
      have HGW : Aside0 (w.heap.size ≤ g) := ⟨by rw [hg]; exact HWS.out⟩
      have HG := qM hg
      clear hg HWS
      go_wp2
      go_loopg [3, 5] 10 (fun kq v3 v5 w' => ∃ i : Nat, v5 = .int .i64 (i : Int) ∧ Aside0 (i + kq = 10) ∧ Aside0 (Kd.R (Kd.int .i64) 3 w' w.heap.size (fun j => j ≠ g) v3 (idxTo bs i)) ∧ Aside0 (Below w.heap.size w w') ∧ Aside0 (w'.heap[g]? = some (.cells (arr10 bs) 4 (0, 0))))
      case atStart => exact ⟨0, by simp, ⟨by omega⟩, HO3, HB3, HS⟩
      case round =>
        obtain ⟨i, rfl, HI, HO, HB4, HS4⟩ := hrel
        cases gk with
        | zero =>
          have hi : i = 10 := by have := HI.out; omega
          subst hi
          go_wp2
          go_ret
          exact ⟨_, rfl, Kd.R_mono HO.out (fun _ _ => trivial), HB4.out⟩
        | succ gk =>
          have hlt : i < 10 := by have := HI.out; omega
          have HLT := qM hlt
          have HOL := qM (idxTo_len bs i)
          have hb' : decide ((i : Int) < 10) = true := decide_eq_true (by omega)
          have hp : (0 ≤ (i : Int)) = True := eq_true (by omega)
          have hq : ((i : Int) < 10) = True := eq_true (by omega)
          have hlb : i < bs.length := by rw [HML.out]; exact hlt
          have hx : wr.cell? ⟨g, i, none⟩ = some (.bool (bs.getD i false)) := (qC HS4.out i).trans (by rw [arr10_at hlb, List.getD_eq_getElem?_getD, List.getElem?_eq_getElem hlb, Option.getD_some])
          have hx' : wr.cell? ⟨w2.heap.size, i, none⟩ = some (.bool (bs.getD i false)) := by rw [← HG.out]; exact hx
          cases hbi : bs.getD i false with
          | true =>
            rw [hbi] at hx hx'
            have HN : Aside0 (idxTo bs (i + 1) = idxTo bs i ++ [(i : Int)]) := ⟨by rw [idxTo, if_pos hbi]⟩
            clear hbi hlb
            generalize idxTo bs i = out at HO HOL HN
            obtain ⟨Ao, co, eo⟩ := Kd.R_slice HO.out
            subst eo
            go_wp2_with (first | (at_builtin; refine Kd.R_append (Kd.int .i64) (w0 := w) w.heap.size rfl (.tmp 25) (.tmp 27) 34 3 (.int .i64 0) 8 rfl Try.underlying34 infoInt rfl (by decide) (by omega) (.slice Ao out.length co) out (i : Int) [.int .i64 (i : Int)] (fun j => j ≠ g) (fun _ => False) rfl rfl ?aP (fun _ hk => hk.elim) ?aF ?aO ?aB ?aS ?aL ?_; (case aP => rfl); (case aB => exact HB4.out); (case aF => exact (fun j hj e => by have := blk_lt HS4.out; omega)); (case aO => exact HO.out); (case aS => exact HB4.out.size); (case aL => have := HOL.out; have := HLT.out; omega); intro v2 w4 ho hb hg hat; have HO2 := qM ho; have HB5 := qM hb; have HS5 := qM ((hg.block g (blk_lt HS4.out) (fun e => HO.out.1 g e.symm rfl)).trans HS4.out); clear ho hb hg hat))
            go_roundg gk
            case measure => omega
            case rel => exact ⟨i + 1, by go_num, ⟨by have := HI.out; omega⟩, ⟨by rw [HN.out]; exact HO2.out⟩, HB5, HS5⟩
          | false =>
            rw [hbi] at hx hx'
            have HN : Aside0 (idxTo bs (i + 1) = idxTo bs i) := ⟨by rw [idxTo, if_neg (by rw [hbi]; decide)]⟩
            clear hbi hlb
            go_wp2
            go_roundg gk
            case measure => omega
            case rel => exact ⟨i + 1, by go_num, ⟨by have := HI.out; omega⟩, ⟨by rw [HN.out]; exact HO.out⟩, HB4, HS4⟩
    · cases h
end Go.Proofs.Ythfemojaabejiaa.G
end
