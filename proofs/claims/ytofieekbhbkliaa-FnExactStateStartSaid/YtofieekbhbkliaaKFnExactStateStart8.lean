-- Written by pack.py (ours): the claim's texts, cut down to what its theorem reaches.
import Derived.Test.YtofieekbhbkliaaKFnExactStateStart7
section
namespace Go.Proofs.Ytofieekbhbkliaa.G
open Go.RowKit Go.Proofs.YtofieekbhbkliaaW.PrintWords Go.Proofs.YtofieekbhbkliaaW.PrintLast Go.Proofs.YtofieekbhbkliaaW.PrintMore
attribute [local go_sem] max2_int min2_int max_two min_two max_three min_three max_four min_four
set_option linter.unusedVariables false
set_option linter.unusedSimpArgs false
def laws_markBoolS.l0 : Nat → List Bool → Int → Int → Option (Int × List Bool)
  | 0, _, _, _ => none
  | k + 1, x0, x1, x5 => if x5 < (x0.length : Int) then (if 0 ≤ x5 then (laws_markBoolS.l0 k (x0.set (x5 : Int).toNat ((Int.tmod x1 3) == 0)) (wrap64 (x1 + 1)) (wrap64 (x5 + 1))) else (none)) else (some (x1, x0))
def laws_markBoolS.f (k : Nat) (l0 : List Bool) (a1 : Int) : Option (Int × List Bool) := laws_markBoolS.l0 k l0 a1 0
set_option maxHeartbeats 8000000 in
set_option maxRecDepth 100000 in
theorem laws_markBoolS.calls (k : Nat) (P0_ : Nat → Prop) (u9000_ : Value) (l0 : List Bool) (a1 : Int) (r1 : Int) (r2 : List Bool) (w0 w : World) (hB : Below w0.heap.size w0 w) (ho0 : Kd.R Kd.bool 4 w w0.heap.size P0_ u9000_ l0) (h : laws_markBoolS.f k l0 a1 = some (r1, r2)) :
    Calls Try.prog 107 #[u9000_, .int .i64 a1] w fun e w' => e = .returned (.int .i64 r1) ∧ Kd.R Kd.bool 4 w' w0.heap.size (fun k_ => (P0_ k_ ∨ w.heap.size ≤ k_)) u9000_ r2 ∧ Below w0.heap.size w0 w' ∧ Kept w w' (fun k_ => P0_ k_) := by
  have HO0 := Aside0.mk (show Kd.R Kd.bool 4 w w0.heap.size (fun k_ => (P0_ k_ ∨ w.heap.size ≤ k_)) u9000_ l0 from Kd.R_mono ho0 (fun k_ hk => (.inl hk)))
  have HK := Aside0.mk (Kept.refl w (fun k_ => P0_ k_))
  have HW0 := Aside0.mk hB.size
  have HB := Aside0.mk hB
  clear hB
  have H : (laws_markBoolS.l0 k l0 a1 0) = some (r1, r2) := h
  clear h
  have H' := Aside0.mk H
  clear H
  go_enter Try.func107, Try.ntmps107
  go_wp2
  go_loopg [1, 5] k (fun kq v1 v5 w' => ∃ (x0_1 : List Bool) (x1_1 : Int) (x5_1 : Int), v1 = .int .i64 x1_1 ∧ v5 = .int .i64 x5_1 ∧ Aside0 (laws_markBoolS.l0 kq x0_1 x1_1 x5_1 = some (r1, r2)) ∧ Aside0 (kq ≤ k) ∧ Aside0 (Kd.R Kd.bool 4 w' w0.heap.size (fun k_ => (P0_ k_ ∨ w.heap.size ≤ k_)) u9000_ x0_1) ∧ Aside0 (Kept w w' (fun k_ => P0_ k_)) ∧ Aside0 (Below w0.heap.size w0 w'))
  case atStart => exact ⟨(l0), (a1), (0), (by first | rfl | (simp; done) | (simp [*]; done)), (by first | rfl | (simp; done) | (simp [*]; done)), H', ⟨Nat.le_refl _⟩, ⟨by (with_reducible repeat (first | apply Kd.R_alloc | apply Kd.R_drewN | apply Kd.R_drew)); exact HO0.out⟩, ⟨by repeat (first | (with_reducible first | exact HK.out | apply Kept.alloc | apply Kept.drewN | apply Kept.drew) | exact HK.out)⟩, ⟨by repeat (first | (with_reducible first | exact HB.out | apply below_alloc | apply pw_below_drewN | apply below_drew1) | exact HB.out)⟩⟩
  case round =>
    clear H'
    try clear c1
    try clear p2
    obtain ⟨x0_1, x1_1, x5_1, rfl, rfl, HA, HK1, HO_0, HK, HB⟩ := hrel
    cases gk with
    | zero => exact absurd HA.out (by simp [laws_markBoolS.l0])
    | succ k1 =>
      have H := HA.out
      clear HA
      simp only [laws_markBoolS.l0] at H
      by_cases c3 : x5_1 < (x0_1.length : Int)
      · rw [if_pos c3] at H
        have c3b0 : decide (x5_1 < (x0_1.length : Int)) = true := decide_eq_true c3
        clear c3
        by_cases c4 : 0 ≤ x5_1
        · rw [if_pos c4] at H
          have c4b0 : decide (0 ≤ x5_1) = true := decide_eq_true c4
          clear c4
          obtain ⟨y911, hy911⟩ : ∃ y_ : List Bool, y_ = (x0_1.set (x5_1 : Int).toNat ((Int.tmod x1_1 3) == 0)) := ⟨_, rfl⟩
          replace H : (laws_markBoolS.l0 k1 y911 (wrap64 (x1_1 + 1)) (wrap64 (x5_1 + 1))) = some (r1, r2) := by first | (rw [hy911]; with_reducible exact H) | (have H2_ := (Option.bind_some _ _).symm.trans H; rw [hy911]; with_reducible exact H2_) | (have H2_ := (Option.bind_some _ _).symm.trans H; with_reducible exact H2_) | with_reducible exact H | (rw [hy911]; exact H) | exact H
          have Ny911 := Aside0.mk hy911
          clear hy911
          have H' := Aside0.mk H
          clear H
          obtain ⟨Ao6, co6, eo6⟩ := Kd.R_slice HO_0.out
          subst eo6
          have p5 : 0 ≤ (x5_1 : Int) := of_decide_eq_true (by first | (with_reducible assumption) | assumption)
          have q5 : (x5_1 : Int) < ((x0_1.length : Int) : Int) := of_decide_eq_true (by first | (with_reducible assumption) | assumption)
          obtain ⟨go5, co5, eo5, gb5, gl5, cl5, HG5⟩ := Kd.R_form HO_0.out (by omega)
          (first | cases eo5 | (injection eo5 with ea_ en_ ec_; (first | subst ea_ | (injection ea_ with ea_; subst ea_)); subst ec_; clear en_))
          have GB5 := Aside0.mk gb5
          have GG5 := Aside0.mk HG5
          clear gb5 gl5 HG5
          have HMgo5 := Aside0.mk (show (P0_ go5 ∨ w.heap.size ≤ go5) from (HO_0.out.1 _ rfl))
          obtain ⟨hx5_0, hf5_0⟩ := Kd.R_celln false HO_0.out (x5_1 : Int) p5 q5
          replace p5 := eq_true p5
          replace q5 := eq_true q5
          have HP7 := Kd.R_putg HO_0.out (x5_1 : Int) ((Int.tmod x1_1 3) == 0)
          go_wp2_with (first | ((with_reducible refine gate_store (t := 4) (p := 17) rfl ?_); refine store_event (t := 4) (p := 17) (v := ?vo_w8) (w1 := (wr.setCell ⟨go5, (x5_1 : Int).toNat, none⟩ (.bool ((Int.tmod x1_1 3) == 0)))) ?hg ?ho ?hn ?hr ?_; (case ho => rfl); (case hg => rfl); (case hn => rfl); (case hr => first | (go_simp; done) | (go_simp; rfl)); intro w8 hw; have hg : wr.grownBy w8 (some go5) := (by rw [hw]; exact HP7.2); have hp_ : Kd.R Kd.bool 4 w8 w0.heap.size (fun k_ => (P0_ k_ ∨ w.heap.size ≤ k_)) (.slice (some ⟨go5, 0, none⟩) x0_1.length co6) y911 := (by rw [hw, Ny911.out]; exact HP7.1); clear HP7; have n0_ := Aside0.mk (hp_); have n1_ := Aside0.mk ((by rw [hw]; exact below_set (HB.out) GB5.out : Below w0.heap.size w0 w8)); have n2_ := Aside0.mk (Kept.of_grown (S := (fun k_ => P0_ k_)) hg (by repeat (first | (with_reducible first | exact HK.out | apply Kept.alloc | apply Kept.drewN | apply Kept.drew) | exact HK.out)) (fun k_ e_ => (HO_0.out.1 k_ e_))); clear HO_0; clear HB; clear HK; have HO_0 := n0_; have HB := n1_; have HK := n2_; clear n0_ n1_ n2_; clear hg hw hp_))
          go_roundg k1
          case measure => have := HK1.out; omega
          case rel => exact ⟨(y911), (wrap64 (x1_1 + 1)), (wrap64 (x5_1 + 1)), (by first | rfl | (simp; done) | (simp [*]; done)), (by first | rfl | (simp; done) | (simp [*]; done)), H', ⟨by have := HK1.out; omega⟩, ⟨by (with_reducible repeat (first | apply Kd.R_alloc | apply Kd.R_drewN | apply Kd.R_drew)); exact HO_0.out⟩, ⟨by repeat (first | (with_reducible first | exact HK.out | apply Kept.alloc | apply Kept.drewN | apply Kept.drew) | exact HK.out)⟩, ⟨by repeat (first | (with_reducible first | exact HB.out | apply below_alloc | apply pw_below_drewN | apply below_drew1) | exact HB.out)⟩⟩
        · rw [if_neg c4] at H
          exact absurd H (by simp)
      · rw [if_neg c3] at H
        have c3b0 : decide (x5_1 < (x0_1.length : Int)) = false := decide_eq_false c3
        clear c3
        simp only [Option.some.injEq, Prod.mk.injEq] at H
        obtain ⟨rfl, rfl⟩ := H
        obtain ⟨Ao9, co9, eo9⟩ := Kd.R_slice HO_0.out
        subst eo9
        go_wp2
        go_ret
        exact ⟨by first | rfl | (simp [errW_none, errW_some] <;> rfl) | (simp [*, errW_none, errW_some] <;> rfl), by (with_reducible repeat (first | apply Kd.R_alloc | apply Kd.R_drewN | apply Kd.R_drew)); exact HO_0.out, by repeat (first | (with_reducible first | exact HB.out | apply below_alloc | apply pw_below_drewN | apply below_drew1) | exact HB.out), by repeat (first | (with_reducible first | exact HK.out | apply Kept.alloc | apply Kept.drewN | apply Kept.drew) | exact HK.out)⟩
def laws_heldIntS.l0 : Nat → List Int → Int → Int → Option (Int)
  | 0, _, _, _ => none
  | k + 1, x0, x1, x5 => if x5 < (x0.length : Int) then (if 0 ≤ x5 then (if (rd x0 x5) = x1 then (laws_heldIntS.l0 k x0 (wrap64 (x1 + 1)) (wrap64 (x5 + 1))) else (some (-1))) else (none)) else (some x1)
def laws_heldIntS.f (k : Nat) (l0 : List Int) (a1 : Int) : Option (Int) := laws_heldIntS.l0 k l0 a1 0
set_option maxHeartbeats 8000000 in
set_option maxRecDepth 100000 in
theorem laws_heldIntS.calls (k : Nat) (A0 : Option Addr) (c0 : Nat) (l0 : List Int) (a1 : Int) (r : Int) (w : World) (hr0 : Kd.C (Kd.int .i64) w A0 l0.length l0) (hc0 : l0.length ≤ c0) (h : laws_heldIntS.f k l0 a1 = some r) :
    Calls Try.prog 109 #[.slice A0 l0.length c0, .int .i64 a1] w fun e w' => e = .returned (.int .i64 r) ∧ Drawn0 w w' := by
  have HR0 := Aside0.mk hr0
  have HC0 := Aside0.mk hc0
  clear hr0 hc0
  have H : (laws_heldIntS.l0 k l0 a1 0) = some r := h
  clear h
  have H' := Aside0.mk H
  clear H
  go_enter Try.func109, Try.ntmps109
  go_wp2
  go_loopg [1, 5] k (fun kq v1 v5 w' => ∃ (x1_1 : Int) (x5_1 : Int), v1 = .int .i64 x1_1 ∧ v5 = .int .i64 x5_1 ∧ Aside0 (laws_heldIntS.l0 kq l0 x1_1 x5_1 = some r) ∧ Aside0 (kq ≤ k) ∧ Drawn0 w w')
  case atStart => exact ⟨(a1), (0), (by first | rfl | (simp; done) | (simp [*]; done)), (by first | rfl | (simp; done) | (simp [*]; done)), H', ⟨Nat.le_refl _⟩, by repeat (first | exact Drawn0.refl _ | apply Drawn0.step)⟩
  case round =>
    clear H'
    try clear c1
    try clear p2
    obtain ⟨x1_1, x5_1, rfl, rfl, HA, HK1, ⟨m1, rfl⟩⟩ := hrel
    cases gk with
    | zero => exact absurd HA.out (by simp [laws_heldIntS.l0])
    | succ k1 =>
      have H := HA.out
      clear HA
      simp only [laws_heldIntS.l0] at H
      by_cases c3 : x5_1 < (l0.length : Int)
      · rw [if_pos c3] at H
        have c3b0 : decide (x5_1 < (l0.length : Int)) = true := decide_eq_true c3
        clear c3
        by_cases c4 : 0 ≤ x5_1
        · rw [if_pos c4] at H
          have c4b0 : decide (0 ≤ x5_1) = true := decide_eq_true c4
          clear c4
          by_cases c5 : (rd l0 x5_1) = x1_1
          · rw [if_pos c5] at H
            have c5b0 : ((rd l0 x5_1) == x1_1) = true := beq_iff_eq.mpr c5
            have c5b1 : ((rd l0 x5_1) != x1_1) = false := bne_eq_false_iff_eq.mpr c5
            clear c5
            have H' := Aside0.mk H
            clear H
            have p922 : 0 ≤ (x5_1 : Int) := of_decide_eq_true (by first | (with_reducible assumption) | assumption)
            have q922 : x5_1 < (l0.length : Int) := of_decide_eq_true (by first | (with_reducible assumption) | assumption)
            obtain ⟨ad922, e922, hx922_0⟩ := Kd.at_int HR0.out x5_1 p922 q922
            cases e922
            replace p922 := eq_true p922
            replace q922 := eq_true q922
            go_wp2
            go_roundg k1
            case measure => have := HK1.out; omega
            case rel => exact ⟨(wrap64 (x1_1 + 1)), (wrap64 (x5_1 + 1)), (by first | rfl | (simp; done) | (simp [*]; done)), (by first | rfl | (simp; done) | (simp [*]; done)), H', ⟨by have := HK1.out; omega⟩, by repeat (first | exact Drawn0.refl _ | apply Drawn0.step)⟩
          · rw [if_neg c5] at H
            have c5b0 : ((rd l0 x5_1) == x1_1) = false := beq_eq_false_iff_ne.mpr c5
            have c5b1 : ((rd l0 x5_1) != x1_1) = true := bne_iff_ne.mpr c5
            obtain rfl := Option.some.inj H
            have p922 : 0 ≤ (x5_1 : Int) := of_decide_eq_true (by first | (with_reducible assumption) | assumption)
            have q922 : x5_1 < (l0.length : Int) := of_decide_eq_true (by first | (with_reducible assumption) | assumption)
            obtain ⟨ad922, e922, hx922_0⟩ := Kd.at_int HR0.out x5_1 p922 q922
            cases e922
            replace p922 := eq_true p922
            replace q922 := eq_true q922
            go_wp2
            go_ret
            exact ⟨by first | rfl | (simp; done) | (simp [*]; done), by repeat (first | exact Drawn0.refl _ | apply Drawn0.step)⟩
        · rw [if_neg c4] at H
          exact absurd H (by simp)
      · rw [if_neg c3] at H
        have c3b0 : decide (x5_1 < (l0.length : Int)) = false := decide_eq_false c3
        clear c3
        obtain rfl := Option.some.inj H
        go_wp2
        go_ret
        exact ⟨by first | rfl | (simp; done) | (simp [*]; done), by repeat (first | exact Drawn0.refl _ | apply Drawn0.step)⟩
def laws_heldBoolS.l0 : Nat → List Bool → Int → Int → Option (Int)
  | 0, _, _, _ => none
  | k + 1, x0, x1, x5 => if x5 < (x0.length : Int) then (if 0 ≤ x5 then (if ((rdOf false x0 x5) != ((Int.tmod x1 3) == 0)) = true then (some (-1)) else (laws_heldBoolS.l0 k x0 (wrap64 (x1 + 1)) (wrap64 (x5 + 1)))) else (none)) else (some x1)
def laws_heldBoolS.f (k : Nat) (l0 : List Bool) (a1 : Int) : Option (Int) := laws_heldBoolS.l0 k l0 a1 0
set_option maxHeartbeats 8000000 in
set_option maxRecDepth 100000 in
theorem laws_heldBoolS.calls (k : Nat) (A0 : Option Addr) (c0 : Nat) (l0 : List Bool) (a1 : Int) (r : Int) (w : World) (hr0 : Kd.C Kd.bool w A0 l0.length l0) (hc0 : l0.length ≤ c0) (h : laws_heldBoolS.f k l0 a1 = some r) :
    Calls Try.prog 110 #[.slice A0 l0.length c0, .int .i64 a1] w fun e w' => e = .returned (.int .i64 r) ∧ Drawn0 w w' := by
  have HR0 := Aside0.mk hr0
  have HC0 := Aside0.mk hc0
  clear hr0 hc0
  have H : (laws_heldBoolS.l0 k l0 a1 0) = some r := h
  clear h
  have H' := Aside0.mk H
  clear H
  go_enter Try.func110, Try.ntmps110
  go_wp2
  go_loopg [1, 5] k (fun kq v1 v5 w' => ∃ (x1_1 : Int) (x5_1 : Int), v1 = .int .i64 x1_1 ∧ v5 = .int .i64 x5_1 ∧ Aside0 (laws_heldBoolS.l0 kq l0 x1_1 x5_1 = some r) ∧ Aside0 (kq ≤ k) ∧ Drawn0 w w')
  case atStart => exact ⟨(a1), (0), (by first | rfl | (simp; done) | (simp [*]; done)), (by first | rfl | (simp; done) | (simp [*]; done)), H', ⟨Nat.le_refl _⟩, by repeat (first | exact Drawn0.refl _ | apply Drawn0.step)⟩
  case round =>
    clear H'
    try clear c1
    try clear p2
    obtain ⟨x1_1, x5_1, rfl, rfl, HA, HK1, ⟨m1, rfl⟩⟩ := hrel
    cases gk with
    | zero => exact absurd HA.out (by simp [laws_heldBoolS.l0])
    | succ k1 =>
      have H := HA.out
      clear HA
      simp only [laws_heldBoolS.l0] at H
      by_cases c3 : x5_1 < (l0.length : Int)
      · rw [if_pos c3] at H
        have c3b0 : decide (x5_1 < (l0.length : Int)) = true := decide_eq_true c3
        clear c3
        by_cases c4 : 0 ≤ x5_1
        · rw [if_pos c4] at H
          have c4b0 : decide (0 ≤ x5_1) = true := decide_eq_true c4
          clear c4
          by_cases c5 : ((rdOf false l0 x5_1) != ((Int.tmod x1_1 3) == 0)) = true
          · rw [if_pos c5] at H
            have c5b0 : ((rdOf false l0 x5_1) != ((Int.tmod x1_1 3) == 0)) = true := c5
            (try (have c5b1 : decide ((rdOf false l0 x5_1) = ((Int.tmod x1_1 3) == 0)) = false := by simpa using c5))
            (try (have c5b2 : ((rdOf false l0 x5_1) == ((Int.tmod x1_1 3) == 0)) = false := by simpa using c5))
            (try (have c5b3 : ¬ ((rdOf false l0 x5_1) = ((Int.tmod x1_1 3) == 0)) := by simpa using c5))
            clear c5
            obtain rfl := Option.some.inj H
            have p923 : 0 ≤ (x5_1 : Int) := of_decide_eq_true (by first | (with_reducible assumption) | assumption)
            have q923 : x5_1 < (l0.length : Int) := of_decide_eq_true (by first | (with_reducible assumption) | assumption)
            obtain ⟨ad923, e923, hx923_0⟩ := Kd.at_bool HR0.out x5_1 p923 q923
            cases e923
            replace p923 := eq_true p923
            replace q923 := eq_true q923
            go_wp2
            go_ret
            exact ⟨by first | rfl | (simp; done) | (simp [*]; done), by repeat (first | exact Drawn0.refl _ | apply Drawn0.step)⟩
          · rw [if_neg c5] at H
            have c5b0 : ((rdOf false l0 x5_1) != ((Int.tmod x1_1 3) == 0)) = false := by simpa using c5
            (try (have c5b1 : decide ((rdOf false l0 x5_1) = ((Int.tmod x1_1 3) == 0)) = true := by simpa using c5))
            (try (have c5b2 : ((rdOf false l0 x5_1) == ((Int.tmod x1_1 3) == 0)) = true := by simpa using c5))
            clear c5
            have H' := Aside0.mk H
            clear H
            have p923 : 0 ≤ (x5_1 : Int) := of_decide_eq_true (by first | (with_reducible assumption) | assumption)
            have q923 : x5_1 < (l0.length : Int) := of_decide_eq_true (by first | (with_reducible assumption) | assumption)
            obtain ⟨ad923, e923, hx923_0⟩ := Kd.at_bool HR0.out x5_1 p923 q923
            cases e923
            replace p923 := eq_true p923
            replace q923 := eq_true q923
            go_wp2
            go_roundg k1
            case measure => have := HK1.out; omega
            case rel => exact ⟨(wrap64 (x1_1 + 1)), (wrap64 (x5_1 + 1)), (by first | rfl | (simp; done) | (simp [*]; done)), (by first | rfl | (simp; done) | (simp [*]; done)), H', ⟨by have := HK1.out; omega⟩, by repeat (first | exact Drawn0.refl _ | apply Drawn0.step)⟩
        · rw [if_neg c4] at H
          exact absurd H (by simp)
      · rw [if_neg c3] at H
        have c3b0 : decide (x5_1 < (l0.length : Int)) = false := decide_eq_false c3
        clear c3
        obtain rfl := Option.some.inj H
        go_wp2
        go_ret
        exact ⟨by first | rfl | (simp; done) | (simp [*]; done), by repeat (first | exact Drawn0.refl _ | apply Drawn0.step)⟩
def laws_heldState.f (k : Nat) (l0_0 : List Int) (l0_1 : List Bool) (l0_2 : List Int) (l0_3 : List (S29)) (a1 : Int) : Option (Int) := (laws_heldIntS.f k l0_0 a1).bind fun t925 => (if t925 < 0 then (some (-1)) else ((laws_heldBoolS.f k l0_1 t925).bind fun t926 => (if t926 < 0 then (some (-1)) else ((laws_heldIntS.f k l0_2 t926).bind fun t927 => (if t927 < 0 then (some (-1)) else ((laws_heldTraceS.f k l0_3 t927).bind fun t928 => (if t928 < 0 then (some (-1)) else (some t928))))))))
set_option maxHeartbeats 8000000 in
set_option maxRecDepth 100000 in
theorem laws_heldState.calls (k : Nat) (A0_0 : Option Addr) (c0_0 : Nat) (l0_0 : List Int) (A0_1 : Option Addr) (c0_1 : Nat) (l0_1 : List Bool) (A0_2 : Option Addr) (c0_2 : Nat) (l0_2 : List Int) (A0_3 : Option Addr) (c0_3 : Nat) (l0_3 : List (S29)) (a1 : Int) (r : Int) (w : World) (hr0_0 : Kd.C (Kd.int .i64) w A0_0 l0_0.length l0_0) (hc0_0 : l0_0.length ≤ c0_0) (hr0_1 : Kd.C Kd.bool w A0_1 l0_1.length l0_1) (hc0_1 : l0_1.length ≤ c0_1) (hr0_2 : Kd.C (Kd.int .i64) w A0_2 l0_2.length l0_2) (hc0_2 : l0_2.length ≤ c0_2) (hr0_3 : Kd.C k29 w A0_3 l0_3.length l0_3) (hc0_3 : l0_3.length ≤ c0_3) (h : laws_heldState.f k l0_0 l0_1 l0_2 l0_3 a1 = some r) :
    Calls Try.prog 51 #[.agg #[.slice A0_0 l0_0.length c0_0, .slice A0_1 l0_1.length c0_1, .slice A0_2 l0_2.length c0_2, .slice A0_3 l0_3.length c0_3], .int .i64 a1] w fun e w' => e = .returned (.int .i64 r) ∧ Below w.heap.size w w' := by
  have hu72 := Try.underlying72
  have HR0_0 := Aside0.mk hr0_0
  have HC0_0 := Aside0.mk hc0_0
  clear hr0_0 hc0_0
  have HR0_1 := Aside0.mk hr0_1
  have HC0_1 := Aside0.mk hc0_1
  clear hr0_1 hc0_1
  have HR0_2 := Aside0.mk hr0_2
  have HC0_2 := Aside0.mk hc0_2
  clear hr0_2 hc0_2
  have HR0_3 := Aside0.mk hr0_3
  have HC0_3 := Aside0.mk hc0_3
  clear hr0_3 hc0_3
  have HB := Aside0.mk (Below.refl w.heap.size w)
  have H : ((laws_heldIntS.f k l0_0 a1).bind fun t925 => (if t925 < 0 then (some (-1)) else ((laws_heldBoolS.f k l0_1 t925).bind fun t926 => (if t926 < 0 then (some (-1)) else ((laws_heldIntS.f k l0_2 t926).bind fun t927 => (if t927 < 0 then (some (-1)) else ((laws_heldTraceS.f k l0_3 t927).bind fun t928 => (if t928 < 0 then (some (-1)) else (some t928))))))))) = some r := h
  clear h
  replace H := Option.bind_eq_some_iff.mp H
  obtain ⟨t925, A30, H⟩ := H
  replace H : (if t925 < 0 then (some (-1)) else ((laws_heldBoolS.f k l0_1 t925).bind fun t926 => (if t926 < 0 then (some (-1)) else ((laws_heldIntS.f k l0_2 t926).bind fun t927 => (if t927 < 0 then (some (-1)) else ((laws_heldTraceS.f k l0_3 t927).bind fun t928 => (if t928 < 0 then (some (-1)) else (some t928)))))))) = some r := H
  have A3 := Aside0.mk A30
  clear A30
  by_cases c4 : t925 < 0
  · rw [if_pos c4] at H
    have c4b0 : decide (t925 < 0) = true := decide_eq_true c4
    clear c4
    obtain rfl := Option.some.inj H
    go_enter Try.func51, Try.ntmps51
    go_wp2_with (first | ((with_reducible refine gate_dst (N := 2) rfl ?_); refine box_event ?hg (N := 2) ?hd (cs := #[.slice A0_0 l0_0.length c0_0, .slice A0_1 l0_1.length c0_1, .slice A0_2 l0_2.length c0_2, .slice A0_3 l0_3.length c0_3]) (t := 72) ?hr ?_; (case hd => rfl); (case hg => rfl); (case hr => first | (go_simp; done) | (go_simp; rfl)); intro gb924 hg w5 hbox hb; have n0_ := Aside0.mk (below_step (by repeat (first | (with_reducible first | exact HB.out | apply below_alloc | apply pw_below_drewN | apply below_drew1) | exact HB.out)) hb); have n1_ := Aside0.mk (hbox); have n2_ := Aside0.mk ((by rw [hg]; exact (below_size (by repeat (first | (with_reducible first | exact HB.out | apply below_alloc | apply pw_below_drewN | apply below_drew1) | exact HB.out))) : w.heap.size ≤ gb924)); have n3_ := Aside0.mk ((by rw [hg]; exact (below_size (by repeat (first | (with_reducible first | exact HB.out | apply below_alloc | apply pw_below_drewN | apply below_drew1) | exact HB.out))) : w.heap.size ≤ gb924)); clear HB; have HB := n0_; have BK924 := n1_; have GW924 := n2_; have GE924 := n3_; clear n0_ n1_ n2_ n3_; clear hb hbox hg; have hcz6_0 : w5.cell? ⟨gb924, 0, none⟩ = some (.slice A0_0 l0_0.length c0_0) := (blk_cell BK924.out 0).trans rfl; have hcz6_1 : w5.cell? ⟨gb924, 1, none⟩ = some (.slice A0_1 l0_1.length c0_1) := (blk_cell BK924.out 1).trans rfl; have hcz6_2 : w5.cell? ⟨gb924, 2, none⟩ = some (.slice A0_2 l0_2.length c0_2) := (blk_cell BK924.out 2).trans rfl; have hcz6_3 : w5.cell? ⟨gb924, 3, none⟩ = some (.slice A0_3 l0_3.length c0_3) := (blk_cell BK924.out 3).trans rfl; have hfz6_0 := blk_frozen BK924.out 0; have hfz6_1 := blk_frozen BK924.out 1; have hfz6_2 := blk_frozen BK924.out 2; have hfz6_3 := blk_frozen BK924.out 3) | ((with_reducible refine gate_callee (f := 109) rfl ?_); refine goesL_ (some 8) rfl rfl Try.func109 (by kernel_rfl) rfl #[.slice A0_0 l0_0.length c0_0, .int .i64 a1] rfl (by (try simp only [List.map_toArray, List.map_cons, List.map_nil]); first | done | rfl | (simp only [List.length_drop, List.length_take]; rfl)) ?_; (with_reducible refine (laws_heldIntS.calls k _ _ l0_0 a1 t925 _ ?side1 ?side2 A3.out).mono ?_); (case side1 => repeat (first | exact (Kd.C_below HR0_0.out HB.out) | (with_reducible refine Kd.C_alloc ?_ _) | (with_reducible refine Kd.C_drewN ?_ _) | (with_reducible refine Kd.C_drew ?_))); (case side2 => exact HC0_0.out); rintro e w' ⟨rfl, ⟨nd, rfl⟩⟩; refine ⟨_, rfl, ?_⟩))
    go_ret
    exact ⟨by first | rfl | (simp [errW_none, errW_some] <;> rfl) | (simp [*, errW_none, errW_some] <;> rfl), by repeat (first | (with_reducible first | exact HB.out | apply below_alloc | apply pw_below_drewN | apply below_drew1 | refine below_set ?_ GE924.out) | exact HB.out)⟩
  · rw [if_neg c4] at H
    have c4b0 : decide (t925 < 0) = false := decide_eq_false c4
    clear c4
    replace H := Option.bind_eq_some_iff.mp H
    obtain ⟨t926, A70, H⟩ := H
    replace H : (if t926 < 0 then (some (-1)) else ((laws_heldIntS.f k l0_2 t926).bind fun t927 => (if t927 < 0 then (some (-1)) else ((laws_heldTraceS.f k l0_3 t927).bind fun t928 => (if t928 < 0 then (some (-1)) else (some t928)))))) = some r := H
    have A7 := Aside0.mk A70
    clear A70
    by_cases c8 : t926 < 0
    · rw [if_pos c8] at H
      have c8b0 : decide (t926 < 0) = true := decide_eq_true c8
      clear c8
      obtain rfl := Option.some.inj H
      go_enter Try.func51, Try.ntmps51
      go_wp2_with (first | ((with_reducible refine gate_dst (N := 2) rfl ?_); refine box_event ?hg (N := 2) ?hd (cs := #[.slice A0_0 l0_0.length c0_0, .slice A0_1 l0_1.length c0_1, .slice A0_2 l0_2.length c0_2, .slice A0_3 l0_3.length c0_3]) (t := 72) ?hr ?_; (case hd => rfl); (case hg => rfl); (case hr => first | (go_simp; done) | (go_simp; rfl)); intro gb924 hg w9 hbox hb; have n0_ := Aside0.mk (below_step (by repeat (first | (with_reducible first | exact HB.out | apply below_alloc | apply pw_below_drewN | apply below_drew1) | exact HB.out)) hb); have n1_ := Aside0.mk (hbox); have n2_ := Aside0.mk ((by rw [hg]; exact (below_size (by repeat (first | (with_reducible first | exact HB.out | apply below_alloc | apply pw_below_drewN | apply below_drew1) | exact HB.out))) : w.heap.size ≤ gb924)); have n3_ := Aside0.mk ((by rw [hg]; exact (below_size (by repeat (first | (with_reducible first | exact HB.out | apply below_alloc | apply pw_below_drewN | apply below_drew1) | exact HB.out))) : w.heap.size ≤ gb924)); clear HB; have HB := n0_; have BK924 := n1_; have GW924 := n2_; have GE924 := n3_; clear n0_ n1_ n2_ n3_; clear hb hbox hg; have hcz10_0 : w9.cell? ⟨gb924, 0, none⟩ = some (.slice A0_0 l0_0.length c0_0) := (blk_cell BK924.out 0).trans rfl; have hcz10_1 : w9.cell? ⟨gb924, 1, none⟩ = some (.slice A0_1 l0_1.length c0_1) := (blk_cell BK924.out 1).trans rfl; have hcz10_2 : w9.cell? ⟨gb924, 2, none⟩ = some (.slice A0_2 l0_2.length c0_2) := (blk_cell BK924.out 2).trans rfl; have hcz10_3 : w9.cell? ⟨gb924, 3, none⟩ = some (.slice A0_3 l0_3.length c0_3) := (blk_cell BK924.out 3).trans rfl; have hfz10_0 := blk_frozen BK924.out 0; have hfz10_1 := blk_frozen BK924.out 1; have hfz10_2 := blk_frozen BK924.out 2; have hfz10_3 := blk_frozen BK924.out 3) | ((with_reducible refine gate_callee (f := 109) rfl ?_); refine goesL_ (some 8) rfl rfl Try.func109 (by kernel_rfl) rfl #[.slice A0_0 l0_0.length c0_0, .int .i64 a1] rfl (by (try simp only [List.map_toArray, List.map_cons, List.map_nil]); first | done | rfl | (simp only [List.length_drop, List.length_take]; rfl)) ?_; (with_reducible refine (laws_heldIntS.calls k _ _ l0_0 a1 t925 _ ?side1 ?side2 A3.out).mono ?_); (case side1 => repeat (first | exact (Kd.C_below HR0_0.out HB.out) | (with_reducible refine Kd.C_alloc ?_ _) | (with_reducible refine Kd.C_drewN ?_ _) | (with_reducible refine Kd.C_drew ?_))); (case side2 => exact HC0_0.out); rintro e w' ⟨rfl, ⟨nd, rfl⟩⟩; refine ⟨_, rfl, ?_⟩) | ((with_reducible refine gate_callee (f := 110) rfl ?_); refine goesL_ (some 14) rfl rfl Try.func110 (by kernel_rfl) rfl #[.slice A0_1 l0_1.length c0_1, .int .i64 t925] rfl (by (try simp only [List.map_toArray, List.map_cons, List.map_nil]); first | done | rfl | (simp only [List.length_drop, List.length_take]; rfl)) ?_; (with_reducible refine (laws_heldBoolS.calls k _ _ l0_1 t925 t926 _ ?side1 ?side2 A7.out).mono ?_); (case side1 => repeat (first | exact (Kd.C_below HR0_1.out (by repeat (first | (with_reducible first | exact HB.out | apply below_alloc | apply pw_below_drewN | apply below_drew1 | refine below_set ?_ GE924.out) | exact HB.out))) | (with_reducible refine Kd.C_alloc ?_ _) | (with_reducible refine Kd.C_drewN ?_ _) | (with_reducible refine Kd.C_drew ?_))); (case side2 => exact HC0_1.out); rintro e w' ⟨rfl, ⟨nd, rfl⟩⟩; refine ⟨_, rfl, ?_⟩))
      go_ret
      exact ⟨by first | rfl | (simp [errW_none, errW_some] <;> rfl) | (simp [*, errW_none, errW_some] <;> rfl), by repeat (first | (with_reducible first | exact HB.out | apply below_alloc | apply pw_below_drewN | apply below_drew1 | refine below_set ?_ GE924.out) | exact HB.out)⟩
    · rw [if_neg c8] at H
      have c8b0 : decide (t926 < 0) = false := decide_eq_false c8
      clear c8
      replace H := Option.bind_eq_some_iff.mp H
      obtain ⟨t927, A110, H⟩ := H
      replace H : (if t927 < 0 then (some (-1)) else ((laws_heldTraceS.f k l0_3 t927).bind fun t928 => (if t928 < 0 then (some (-1)) else (some t928)))) = some r := H
      have A11 := Aside0.mk A110
      clear A110
      by_cases c12 : t927 < 0
      · rw [if_pos c12] at H
        have c12b0 : decide (t927 < 0) = true := decide_eq_true c12
        clear c12
        obtain rfl := Option.some.inj H
        go_enter Try.func51, Try.ntmps51
        go_wp2_with (first | ((with_reducible refine gate_dst (N := 2) rfl ?_); refine box_event ?hg (N := 2) ?hd (cs := #[.slice A0_0 l0_0.length c0_0, .slice A0_1 l0_1.length c0_1, .slice A0_2 l0_2.length c0_2, .slice A0_3 l0_3.length c0_3]) (t := 72) ?hr ?_; (case hd => rfl); (case hg => rfl); (case hr => first | (go_simp; done) | (go_simp; rfl)); intro gb924 hg w13 hbox hb; have n0_ := Aside0.mk (below_step (by repeat (first | (with_reducible first | exact HB.out | apply below_alloc | apply pw_below_drewN | apply below_drew1) | exact HB.out)) hb); have n1_ := Aside0.mk (hbox); have n2_ := Aside0.mk ((by rw [hg]; exact (below_size (by repeat (first | (with_reducible first | exact HB.out | apply below_alloc | apply pw_below_drewN | apply below_drew1) | exact HB.out))) : w.heap.size ≤ gb924)); have n3_ := Aside0.mk ((by rw [hg]; exact (below_size (by repeat (first | (with_reducible first | exact HB.out | apply below_alloc | apply pw_below_drewN | apply below_drew1) | exact HB.out))) : w.heap.size ≤ gb924)); clear HB; have HB := n0_; have BK924 := n1_; have GW924 := n2_; have GE924 := n3_; clear n0_ n1_ n2_ n3_; clear hb hbox hg; have hcz14_0 : w13.cell? ⟨gb924, 0, none⟩ = some (.slice A0_0 l0_0.length c0_0) := (blk_cell BK924.out 0).trans rfl; have hcz14_1 : w13.cell? ⟨gb924, 1, none⟩ = some (.slice A0_1 l0_1.length c0_1) := (blk_cell BK924.out 1).trans rfl; have hcz14_2 : w13.cell? ⟨gb924, 2, none⟩ = some (.slice A0_2 l0_2.length c0_2) := (blk_cell BK924.out 2).trans rfl; have hcz14_3 : w13.cell? ⟨gb924, 3, none⟩ = some (.slice A0_3 l0_3.length c0_3) := (blk_cell BK924.out 3).trans rfl; have hfz14_0 := blk_frozen BK924.out 0; have hfz14_1 := blk_frozen BK924.out 1; have hfz14_2 := blk_frozen BK924.out 2; have hfz14_3 := blk_frozen BK924.out 3) | ((with_reducible refine gate_callee (f := 109) rfl ?_); refine goesL_ (some 8) rfl rfl Try.func109 (by kernel_rfl) rfl #[.slice A0_0 l0_0.length c0_0, .int .i64 a1] rfl (by (try simp only [List.map_toArray, List.map_cons, List.map_nil]); first | done | rfl | (simp only [List.length_drop, List.length_take]; rfl)) ?_; (with_reducible refine (laws_heldIntS.calls k _ _ l0_0 a1 t925 _ ?side1 ?side2 A3.out).mono ?_); (case side1 => repeat (first | exact (Kd.C_below HR0_0.out HB.out) | (with_reducible refine Kd.C_alloc ?_ _) | (with_reducible refine Kd.C_drewN ?_ _) | (with_reducible refine Kd.C_drew ?_))); (case side2 => exact HC0_0.out); rintro e w' ⟨rfl, ⟨nd, rfl⟩⟩; refine ⟨_, rfl, ?_⟩) | ((with_reducible refine gate_callee (f := 110) rfl ?_); refine goesL_ (some 14) rfl rfl Try.func110 (by kernel_rfl) rfl #[.slice A0_1 l0_1.length c0_1, .int .i64 t925] rfl (by (try simp only [List.map_toArray, List.map_cons, List.map_nil]); first | done | rfl | (simp only [List.length_drop, List.length_take]; rfl)) ?_; (with_reducible refine (laws_heldBoolS.calls k _ _ l0_1 t925 t926 _ ?side1 ?side2 A7.out).mono ?_); (case side1 => repeat (first | exact (Kd.C_below HR0_1.out (by repeat (first | (with_reducible first | exact HB.out | apply below_alloc | apply pw_below_drewN | apply below_drew1 | refine below_set ?_ GE924.out) | exact HB.out))) | (with_reducible refine Kd.C_alloc ?_ _) | (with_reducible refine Kd.C_drewN ?_ _) | (with_reducible refine Kd.C_drew ?_))); (case side2 => exact HC0_1.out); rintro e w' ⟨rfl, ⟨nd, rfl⟩⟩; refine ⟨_, rfl, ?_⟩) | ((with_reducible refine gate_callee (f := 109) rfl ?_); refine goesL_ (some 20) rfl rfl Try.func109 (by kernel_rfl) rfl #[.slice A0_2 l0_2.length c0_2, .int .i64 t926] rfl (by (try simp only [List.map_toArray, List.map_cons, List.map_nil]); first | done | rfl | (simp only [List.length_drop, List.length_take]; rfl)) ?_; (with_reducible refine (laws_heldIntS.calls k _ _ l0_2 t926 t927 _ ?side1 ?side2 A11.out).mono ?_); (case side1 => repeat (first | exact (Kd.C_below HR0_2.out (by repeat (first | (with_reducible first | exact HB.out | apply below_alloc | apply pw_below_drewN | apply below_drew1 | refine below_set ?_ GE924.out) | exact HB.out))) | (with_reducible refine Kd.C_alloc ?_ _) | (with_reducible refine Kd.C_drewN ?_ _) | (with_reducible refine Kd.C_drew ?_))); (case side2 => exact HC0_2.out); rintro e w' ⟨rfl, ⟨nd, rfl⟩⟩; refine ⟨_, rfl, ?_⟩))
        go_ret
        exact ⟨by first | rfl | (simp [errW_none, errW_some] <;> rfl) | (simp [*, errW_none, errW_some] <;> rfl), by repeat (first | (with_reducible first | exact HB.out | apply below_alloc | apply pw_below_drewN | apply below_drew1 | refine below_set ?_ GE924.out) | exact HB.out)⟩
      · rw [if_neg c12] at H
        have c12b0 : decide (t927 < 0) = false := decide_eq_false c12
        clear c12
        replace H := Option.bind_eq_some_iff.mp H
        obtain ⟨t928, A150, H⟩ := H
        replace H : (if t928 < 0 then (some (-1)) else (some t928)) = some r := H
        have A15 := Aside0.mk A150
        clear A150
        by_cases c16 : t928 < 0
        · rw [if_pos c16] at H
          have c16b0 : decide (t928 < 0) = true := decide_eq_true c16
          clear c16
          obtain rfl := Option.some.inj H
          go_enter Try.func51, Try.ntmps51
          go_wp2_with (first | ((with_reducible refine gate_dst (N := 2) rfl ?_); refine box_event ?hg (N := 2) ?hd (cs := #[.slice A0_0 l0_0.length c0_0, .slice A0_1 l0_1.length c0_1, .slice A0_2 l0_2.length c0_2, .slice A0_3 l0_3.length c0_3]) (t := 72) ?hr ?_; (case hd => rfl); (case hg => rfl); (case hr => first | (go_simp; done) | (go_simp; rfl)); intro gb924 hg w17 hbox hb; have n0_ := Aside0.mk (below_step (by repeat (first | (with_reducible first | exact HB.out | apply below_alloc | apply pw_below_drewN | apply below_drew1) | exact HB.out)) hb); have n1_ := Aside0.mk (hbox); have n2_ := Aside0.mk ((by rw [hg]; exact (below_size (by repeat (first | (with_reducible first | exact HB.out | apply below_alloc | apply pw_below_drewN | apply below_drew1) | exact HB.out))) : w.heap.size ≤ gb924)); have n3_ := Aside0.mk ((by rw [hg]; exact (below_size (by repeat (first | (with_reducible first | exact HB.out | apply below_alloc | apply pw_below_drewN | apply below_drew1) | exact HB.out))) : w.heap.size ≤ gb924)); clear HB; have HB := n0_; have BK924 := n1_; have GW924 := n2_; have GE924 := n3_; clear n0_ n1_ n2_ n3_; clear hb hbox hg; have hcz18_0 : w17.cell? ⟨gb924, 0, none⟩ = some (.slice A0_0 l0_0.length c0_0) := (blk_cell BK924.out 0).trans rfl; have hcz18_1 : w17.cell? ⟨gb924, 1, none⟩ = some (.slice A0_1 l0_1.length c0_1) := (blk_cell BK924.out 1).trans rfl; have hcz18_2 : w17.cell? ⟨gb924, 2, none⟩ = some (.slice A0_2 l0_2.length c0_2) := (blk_cell BK924.out 2).trans rfl; have hcz18_3 : w17.cell? ⟨gb924, 3, none⟩ = some (.slice A0_3 l0_3.length c0_3) := (blk_cell BK924.out 3).trans rfl; have hfz18_0 := blk_frozen BK924.out 0; have hfz18_1 := blk_frozen BK924.out 1; have hfz18_2 := blk_frozen BK924.out 2; have hfz18_3 := blk_frozen BK924.out 3) | ((with_reducible refine gate_callee (f := 109) rfl ?_); refine goesL_ (some 8) rfl rfl Try.func109 (by kernel_rfl) rfl #[.slice A0_0 l0_0.length c0_0, .int .i64 a1] rfl (by (try simp only [List.map_toArray, List.map_cons, List.map_nil]); first | done | rfl | (simp only [List.length_drop, List.length_take]; rfl)) ?_; (with_reducible refine (laws_heldIntS.calls k _ _ l0_0 a1 t925 _ ?side1 ?side2 A3.out).mono ?_); (case side1 => repeat (first | exact (Kd.C_below HR0_0.out HB.out) | (with_reducible refine Kd.C_alloc ?_ _) | (with_reducible refine Kd.C_drewN ?_ _) | (with_reducible refine Kd.C_drew ?_))); (case side2 => exact HC0_0.out); rintro e w' ⟨rfl, ⟨nd, rfl⟩⟩; refine ⟨_, rfl, ?_⟩) | ((with_reducible refine gate_callee (f := 110) rfl ?_); refine goesL_ (some 14) rfl rfl Try.func110 (by kernel_rfl) rfl #[.slice A0_1 l0_1.length c0_1, .int .i64 t925] rfl (by (try simp only [List.map_toArray, List.map_cons, List.map_nil]); first | done | rfl | (simp only [List.length_drop, List.length_take]; rfl)) ?_; (with_reducible refine (laws_heldBoolS.calls k _ _ l0_1 t925 t926 _ ?side1 ?side2 A7.out).mono ?_); (case side1 => repeat (first | exact (Kd.C_below HR0_1.out (by repeat (first | (with_reducible first | exact HB.out | apply below_alloc | apply pw_below_drewN | apply below_drew1 | refine below_set ?_ GE924.out) | exact HB.out))) | (with_reducible refine Kd.C_alloc ?_ _) | (with_reducible refine Kd.C_drewN ?_ _) | (with_reducible refine Kd.C_drew ?_))); (case side2 => exact HC0_1.out); rintro e w' ⟨rfl, ⟨nd, rfl⟩⟩; refine ⟨_, rfl, ?_⟩) | ((with_reducible refine gate_callee (f := 109) rfl ?_); refine goesL_ (some 20) rfl rfl Try.func109 (by kernel_rfl) rfl #[.slice A0_2 l0_2.length c0_2, .int .i64 t926] rfl (by (try simp only [List.map_toArray, List.map_cons, List.map_nil]); first | done | rfl | (simp only [List.length_drop, List.length_take]; rfl)) ?_; (with_reducible refine (laws_heldIntS.calls k _ _ l0_2 t926 t927 _ ?side1 ?side2 A11.out).mono ?_); (case side1 => repeat (first | exact (Kd.C_below HR0_2.out (by repeat (first | (with_reducible first | exact HB.out | apply below_alloc | apply pw_below_drewN | apply below_drew1 | refine below_set ?_ GE924.out) | exact HB.out))) | (with_reducible refine Kd.C_alloc ?_ _) | (with_reducible refine Kd.C_drewN ?_ _) | (with_reducible refine Kd.C_drew ?_))); (case side2 => exact HC0_2.out); rintro e w' ⟨rfl, ⟨nd, rfl⟩⟩; refine ⟨_, rfl, ?_⟩) | ((with_reducible refine gate_callee (f := 30) rfl ?_); refine goesL_ (some 26) rfl rfl Try.func30 (by kernel_rfl) rfl #[.slice A0_3 l0_3.length c0_3, .int .i64 t927] rfl (by (try simp only [List.map_toArray, List.map_cons, List.map_nil]); first | done | rfl | (simp only [List.length_drop, List.length_take]; rfl)) ?_; (with_reducible refine (laws_heldTraceS.calls k _ _ l0_3 t927 t928 _ ?side1 ?side2 A15.out).mono ?_); (case side1 => repeat (first | exact (Kd.C_below HR0_3.out (by repeat (first | (with_reducible first | exact HB.out | apply below_alloc | apply pw_below_drewN | apply below_drew1 | refine below_set ?_ GE924.out) | exact HB.out))) | (with_reducible refine Kd.C_alloc ?_ _) | (with_reducible refine Kd.C_drewN ?_ _) | (with_reducible refine Kd.C_drew ?_))); (case side2 => exact HC0_3.out); rintro e w' ⟨rfl, ⟨nd, rfl⟩⟩; refine ⟨_, rfl, ?_⟩))
          go_ret
          exact ⟨by first | rfl | (simp [errW_none, errW_some] <;> rfl) | (simp [*, errW_none, errW_some] <;> rfl), by repeat (first | (with_reducible first | exact HB.out | apply below_alloc | apply pw_below_drewN | apply below_drew1 | refine below_set ?_ GE924.out) | exact HB.out)⟩
        · rw [if_neg c16] at H
          have c16b0 : decide (t928 < 0) = false := decide_eq_false c16
          clear c16
          obtain rfl := Option.some.inj H
          go_enter Try.func51, Try.ntmps51
          go_wp2_with (first | ((with_reducible refine gate_dst (N := 2) rfl ?_); refine box_event ?hg (N := 2) ?hd (cs := #[.slice A0_0 l0_0.length c0_0, .slice A0_1 l0_1.length c0_1, .slice A0_2 l0_2.length c0_2, .slice A0_3 l0_3.length c0_3]) (t := 72) ?hr ?_; (case hd => rfl); (case hg => rfl); (case hr => first | (go_simp; done) | (go_simp; rfl)); intro gb924 hg w19 hbox hb; have n0_ := Aside0.mk (below_step (by repeat (first | (with_reducible first | exact HB.out | apply below_alloc | apply pw_below_drewN | apply below_drew1) | exact HB.out)) hb); have n1_ := Aside0.mk (hbox); have n2_ := Aside0.mk ((by rw [hg]; exact (below_size (by repeat (first | (with_reducible first | exact HB.out | apply below_alloc | apply pw_below_drewN | apply below_drew1) | exact HB.out))) : w.heap.size ≤ gb924)); have n3_ := Aside0.mk ((by rw [hg]; exact (below_size (by repeat (first | (with_reducible first | exact HB.out | apply below_alloc | apply pw_below_drewN | apply below_drew1) | exact HB.out))) : w.heap.size ≤ gb924)); clear HB; have HB := n0_; have BK924 := n1_; have GW924 := n2_; have GE924 := n3_; clear n0_ n1_ n2_ n3_; clear hb hbox hg; have hcz20_0 : w19.cell? ⟨gb924, 0, none⟩ = some (.slice A0_0 l0_0.length c0_0) := (blk_cell BK924.out 0).trans rfl; have hcz20_1 : w19.cell? ⟨gb924, 1, none⟩ = some (.slice A0_1 l0_1.length c0_1) := (blk_cell BK924.out 1).trans rfl; have hcz20_2 : w19.cell? ⟨gb924, 2, none⟩ = some (.slice A0_2 l0_2.length c0_2) := (blk_cell BK924.out 2).trans rfl; have hcz20_3 : w19.cell? ⟨gb924, 3, none⟩ = some (.slice A0_3 l0_3.length c0_3) := (blk_cell BK924.out 3).trans rfl; have hfz20_0 := blk_frozen BK924.out 0; have hfz20_1 := blk_frozen BK924.out 1; have hfz20_2 := blk_frozen BK924.out 2; have hfz20_3 := blk_frozen BK924.out 3) | ((with_reducible refine gate_callee (f := 109) rfl ?_); refine goesL_ (some 8) rfl rfl Try.func109 (by kernel_rfl) rfl #[.slice A0_0 l0_0.length c0_0, .int .i64 a1] rfl (by (try simp only [List.map_toArray, List.map_cons, List.map_nil]); first | done | rfl | (simp only [List.length_drop, List.length_take]; rfl)) ?_; (with_reducible refine (laws_heldIntS.calls k _ _ l0_0 a1 t925 _ ?side1 ?side2 A3.out).mono ?_); (case side1 => repeat (first | exact (Kd.C_below HR0_0.out HB.out) | (with_reducible refine Kd.C_alloc ?_ _) | (with_reducible refine Kd.C_drewN ?_ _) | (with_reducible refine Kd.C_drew ?_))); (case side2 => exact HC0_0.out); rintro e w' ⟨rfl, ⟨nd, rfl⟩⟩; refine ⟨_, rfl, ?_⟩) | ((with_reducible refine gate_callee (f := 110) rfl ?_); refine goesL_ (some 14) rfl rfl Try.func110 (by kernel_rfl) rfl #[.slice A0_1 l0_1.length c0_1, .int .i64 t925] rfl (by (try simp only [List.map_toArray, List.map_cons, List.map_nil]); first | done | rfl | (simp only [List.length_drop, List.length_take]; rfl)) ?_; (with_reducible refine (laws_heldBoolS.calls k _ _ l0_1 t925 t926 _ ?side1 ?side2 A7.out).mono ?_); (case side1 => repeat (first | exact (Kd.C_below HR0_1.out (by repeat (first | (with_reducible first | exact HB.out | apply below_alloc | apply pw_below_drewN | apply below_drew1 | refine below_set ?_ GE924.out) | exact HB.out))) | (with_reducible refine Kd.C_alloc ?_ _) | (with_reducible refine Kd.C_drewN ?_ _) | (with_reducible refine Kd.C_drew ?_))); (case side2 => exact HC0_1.out); rintro e w' ⟨rfl, ⟨nd, rfl⟩⟩; refine ⟨_, rfl, ?_⟩) | ((with_reducible refine gate_callee (f := 109) rfl ?_); refine goesL_ (some 20) rfl rfl Try.func109 (by kernel_rfl) rfl #[.slice A0_2 l0_2.length c0_2, .int .i64 t926] rfl (by (try simp only [List.map_toArray, List.map_cons, List.map_nil]); first | done | rfl | (simp only [List.length_drop, List.length_take]; rfl)) ?_; (with_reducible refine (laws_heldIntS.calls k _ _ l0_2 t926 t927 _ ?side1 ?side2 A11.out).mono ?_); (case side1 => repeat (first | exact (Kd.C_below HR0_2.out (by repeat (first | (with_reducible first | exact HB.out | apply below_alloc | apply pw_below_drewN | apply below_drew1 | refine below_set ?_ GE924.out) | exact HB.out))) | (with_reducible refine Kd.C_alloc ?_ _) | (with_reducible refine Kd.C_drewN ?_ _) | (with_reducible refine Kd.C_drew ?_))); (case side2 => exact HC0_2.out); rintro e w' ⟨rfl, ⟨nd, rfl⟩⟩; refine ⟨_, rfl, ?_⟩) | ((with_reducible refine gate_callee (f := 30) rfl ?_); refine goesL_ (some 26) rfl rfl Try.func30 (by kernel_rfl) rfl #[.slice A0_3 l0_3.length c0_3, .int .i64 t927] rfl (by (try simp only [List.map_toArray, List.map_cons, List.map_nil]); first | done | rfl | (simp only [List.length_drop, List.length_take]; rfl)) ?_; (with_reducible refine (laws_heldTraceS.calls k _ _ l0_3 t927 t928 _ ?side1 ?side2 A15.out).mono ?_); (case side1 => repeat (first | exact (Kd.C_below HR0_3.out (by repeat (first | (with_reducible first | exact HB.out | apply below_alloc | apply pw_below_drewN | apply below_drew1 | refine below_set ?_ GE924.out) | exact HB.out))) | (with_reducible refine Kd.C_alloc ?_ _) | (with_reducible refine Kd.C_drewN ?_ _) | (with_reducible refine Kd.C_drew ?_))); (case side2 => exact HC0_3.out); rintro e w' ⟨rfl, ⟨nd, rfl⟩⟩; refine ⟨_, rfl, ?_⟩))
          go_ret
          exact ⟨by first | rfl | (simp [errW_none, errW_some] <;> rfl) | (simp [*, errW_none, errW_some] <;> rfl), by repeat (first | (with_reducible first | exact HB.out | apply below_alloc | apply pw_below_drewN | apply below_drew1 | refine below_set ?_ GE924.out) | exact HB.out)⟩
end Go.Proofs.Ytofieekbhbkliaa.G
end
section
namespace Go.Proofs.Ytofieekbhbkliaa.G
open Go.RowKit Go.Proofs.YtofieekbhbkliaaW.PrintWords
set_option linter.unusedVariables false
set_option linter.unusedSimpArgs false
structure Ist {α : Type} (d : Kd α) : Prop where
  set : ∀ {w : World} {base : Nat} {ok : Nat → Prop} {x : α} {cs : List Value} {j : Nat} {z0 : Int} (z : Int), cs[j]? = some (.int .i64 z0) → d.M w base ok x cs → d.M w base ok x (cs.set j (.int .i64 z))
  mv : ∀ {w : World} {base : Nat} {ok : Nat → Prop} {x : α} {cs : List Value} {g o : Nat} {z0 : Int} (z : Int), w.cell? ⟨g, o, none⟩ = some (.int .i64 z0) → d.M w base ok x cs → d.M (w.setCell ⟨g, o, none⟩ (.int .i64 z)) base ok x cs
theorem chunk_set {inner : List Value} {o a n : Nat} (u : Value) (h1 : a ≤ o) (h2 : o < a + n) : ((inner.set o u).drop a).take n = ((inner.drop a).take n).set (o - a) u := by
  apply List.ext_getElem?
  intro q
  rw [List.getElem?_take, List.getElem?_drop, List.getElem?_set, List.getElem?_set, List.getElem?_take, List.getElem?_drop, List.length_take, List.length_drop]
  by_cases hq : q < n
  · rw [if_pos hq, if_pos hq]
    by_cases e : o = a + q
    · rw [if_pos e, if_pos (show o - a = q by omega)]
      by_cases hl : o < inner.length
      · rw [if_pos (by omega), if_pos (by omega)]
      · rw [if_neg (by omega), if_neg (by omega)]
    · rw [if_neg e, if_neg (by omega)]
  · rw [if_neg hq, if_neg hq]
    rw [if_neg (by omega)]
theorem chunk_far {inner : List Value} {o a n : Nat} (u : Value) (h : ¬ (a ≤ o ∧ o < a + n)) : ((inner.set o u).drop a).take n = (inner.drop a).take n := by
  apply List.ext_getElem?
  intro q
  rw [List.getElem?_take, List.getElem?_drop, List.getElem?_set, List.getElem?_take, List.getElem?_drop]
  by_cases hq : q < n
  · rw [if_pos hq, if_pos hq, if_neg (by omega)]
  · rw [if_neg hq, if_neg hq]
theorem ist_R {α : Type} {d : Kd α} (hd : Ist d) {e : Nat} {w : World} {base : Nat} {ok : Nat → Prop} {v : Value} {xs : List α} {g o : Nat} {z0 : Int} (z : Int) (hc : w.cell? ⟨g, o, none⟩ = some (.int .i64 z0)) (h : d.R e w base ok v xs) : d.R e (w.setCell ⟨g, o, none⟩ (.int .i64 z)) base ok v xs := by
  obtain ⟨h0, inner, ho, hr⟩ := h
  by_cases hg : v.ownBlock = some g
  · obtain ⟨A, c, rfl⟩ : ∃ A c, v = .slice A xs.length c := own_slice ho
    obtain ⟨gb, ho2⟩ : ∃ ad : Addr, A = some ad := by
      cases A with
      | none => simp [Value.ownBlock] at hg
      | some ad => exact ⟨ad, rfl⟩
    subst ho2
    have hgb : gb = ⟨g, 0, none⟩ := by
      rcases ho.2 with ⟨h1, _⟩ | ⟨g', cap, cur, h1, _⟩
      · cases h1
      · injection h1 with h1 _ _
        injection h1 with h1
        have h2 : gb.block = g := by simpa [Value.ownBlock] using hg
        rw [h1] at h2
        rw [h1, ← h2]
    subst hgb
    refine ⟨h0, inner.set o (.int .i64 z), (ho.stored o _).1, by rw [List.length_set]; exact hr.1, fun j p hj => ?_⟩
    have hM := hr.2 j p hj
    by_cases hin : j * d.sz ≤ o ∧ o < j * d.sz + d.sz
    · rw [chunk_set _ hin.1 hin.2]
      refine hd.mv z hc (hd.set (z0 := z0) z ?_ hM)
      have hlen := d.K_len (d.K_of_M hM)
      rw [List.length_take, List.length_drop] at hlen
      have hol : o < inner.length := by omega
      have h3 := ho.cells (g := g) (by simp [Value.ownBlock]) o _ (List.getElem?_eq_getElem hol)
      rw [add_plain, hc] at h3
      injection h3 with h3
      rw [List.getElem?_take, if_pos (by omega), List.getElem?_drop, show j * d.sz + (o - j * d.sz) = o by omega, List.getElem?_eq_getElem hol, h3]
    · rw [chunk_far _ hin]
      exact hd.mv z hc hM
  · exact ⟨h0, inner, own_setCell ho (fun e => hg e.symm) _, hr.imp_ (fun p c hp => hd.mv z hc hp)⟩
def anyInt : Kd Unit where
  sz := 1
  E := []
  K := fun _ _ cs => ∃ z : Int, cs = [.int .i64 z]
  M := fun _ _ _ _ cs => ∃ z : Int, cs = [.int .i64 z]
  K_len := by rintro w x cs ⟨z, rfl⟩; rfl
  K_one := by
    rintro w x cs ⟨z, rfl⟩ u hu
    rw [List.mem_singleton.1 hu]
    rfl
  K_below := fun _ h => h
  K_of_M := fun h => h
  M_mono := fun _ h => h
  M_bound := fun h => h
  M_move := fun _ h => h
  M_lower := fun _ h => h
theorem ist_anyInt : Ist anyInt := by
  refine ⟨?_, ?_⟩
  · rintro w base ok x cs j z0 z hj ⟨z1, rfl⟩
    cases j with
    | zero => exact ⟨z, rfl⟩
    | succ j => simp at hj
  · rintro w base ok x cs g o z0 z _ h
    exact h
theorem ist_slice {α : Type} {d : Kd α} (e : Nat) (hd : Ist d) : Ist (Kd.slice e d) := by
  refine ⟨?_, ?_⟩
  · rintro w base ok x cs j z0 z hj ⟨v, rfl, h⟩
    obtain ⟨A, c, rfl⟩ := Kd.R_slice h
    cases j with
    | zero => simp at hj
    | succ j => simp at hj
  · rintro w base ok x cs g o z0 z hc ⟨v, rfl, h⟩
    exact ⟨v, rfl, ist_R hd z hc h⟩
theorem ist_pair {α β : Type} {a : Kd α} {b : Kd β} (ha : Ist a) (hb : Ist b) : Ist (Kd.pair a b) := by
  refine ⟨?_, ?_⟩
  · rintro w base ok x cs j z0 z hj ⟨c0, c1, rfl, h0, h1⟩
    by_cases hl : j < c0.length
    · rw [List.getElem?_append_left hl] at hj
      exact ⟨c0.set j (.int .i64 z), c1, by rw [List.set_append_left _ _ hl], ha.set z hj h0, h1⟩
    · rw [List.getElem?_append_right (by omega)] at hj
      exact ⟨c0, c1.set (j - c0.length) (.int .i64 z), by rw [List.set_append_right _ _ (by omega)], h0, hb.set z hj h1⟩
  · rintro w base ok x cs g o z0 z hc ⟨c0, c1, rfl, h0, h1⟩
    exact ⟨c0, c1, rfl, ha.mv z hc h0, hb.mv z hc h1⟩
theorem ist_iso {α β : Type} {d : Kd α} (f : β → α) (hd : Ist d) : Ist (Kd.iso d f) := ⟨fun z hj h => hd.set z hj h, fun z hc h => hd.mv z hc h⟩
theorem ist_bot {α : Type} (sz : Nat) (E : List Nat) : Ist (Kd.bot (α := α) sz E) := ⟨fun _ _ h => h.elim, fun _ _ h => h.elim⟩
theorem ist_upto {α : Type} {F : Kd α → Kd α} {sz : Nat} {E : List Nat} (hF : ∀ d, Ist d → Ist (F d)) : ∀ n, Ist (Kd.upto F sz E n)
  | 0 => ist_bot sz E
  | n + 1 => hF _ (ist_upto hF n)
theorem ist_fix {α : Type} {F : Kd α → Kd α} {sz : Nat} {E : List Nat} {hs : ∀ n, (Kd.upto F sz E n).sz = sz} {hE : ∀ n q, q ∈ (Kd.upto F sz E n).E → q ∈ E} (hF : ∀ d, Ist d → Ist (F d)) : Ist (Kd.fix F sz E hs hE) := by
  refine ⟨?_, ?_⟩
  · rintro w base ok x cs j z0 z hj ⟨n, h⟩
    exact ⟨n, (ist_upto hF n).set z hj h⟩
  · rintro w base ok x cs g o z0 z hc ⟨n, h⟩
    exact ⟨n, (ist_upto hF n).mv z hc h⟩
theorem R_map {α β : Type} {d : Kd α} {d' : Kd β} (f : α → β) (hs : d.sz = d'.sz) (hM : ∀ w base ok x cs, d.M w base ok x cs → d'.M w base ok (f x) cs) {e : Nat} {w : World} {base : Nat} {ok : Nat → Prop} {v : Value} {xs : List α} (h : d.R e w base ok v xs) : d'.R e w base ok v (xs.map f) := by
  obtain ⟨h0, inner, ho, hr⟩ := h
  refine ⟨h0, inner, by rw [List.length_map, ← hs]; exact ho, by rw [List.length_map, ← hs]; exact hr.1, fun j p hj => ?_⟩
  rw [List.getElem?_map] at hj
  obtain ⟨x, hx, rfl⟩ := Option.map_eq_some_iff.1 hj
  rw [← hs]
  exact hM _ _ _ _ _ (hr.2 j x hx)
structure Marked (w w' : World) (base : Nat) (ok : Nat → Prop) : Prop where
  below : Below base w w'
  kept : Kept w w' ok
  size : w'.heap.size = w.heap.size
  rows : ∀ {α : Type} {d : Kd α}, Ist d → ∀ {e b : Nat} {o : Nat → Prop} {v : Value} {xs : List α}, d.R e w b o v xs → d.R e w' b o v xs
theorem Marked.refl (w : World) (base : Nat) (ok : Nat → Prop) : Marked w w base ok := ⟨Below.refl _ _, Kept.refl _ _, rfl, fun _ _ _ _ _ _ h => h⟩
theorem Marked.trans {w w1 w2 : World} {base : Nat} {ok : Nat → Prop} (h : Marked w w1 base ok) (k : Marked w1 w2 base ok) : Marked w w2 base ok :=
  ⟨h.below.trans k.below, h.kept.then_ k.kept (fun _ hk => .inl hk), k.size.trans h.size, fun hd _ _ _ _ _ hr => k.rows hd (h.rows hd hr)⟩
theorem Marked.mono {w w1 : World} {base base' : Nat} {ok ok' : Nat → Prop} (h : Marked w w1 base ok) (hb : base' ≤ base) (hk : ∀ k, ok k → ok' k) : Marked w w1 base' ok' := ⟨h.below.mono hb, h.kept.mono hk, h.size, h.rows⟩
theorem Marked.drew {w w1 : World} {base : Nat} {ok : Nat → Prop} (h : Marked w w1 base ok) (n : Nat) : Marked w (w1.drewN n) base ok := ⟨pw_below_drewN h.below n, h.kept.drewN n, h.size, fun hd _ _ _ _ _ hr => Kd.R_drewN (h.rows hd hr) n⟩
theorem Marked.store {w w1 : World} {base : Nat} {ok : Nat → Prop} (h : Marked w w1 base ok) {g o : Nat} {z0 : Int} (z : Int) (hc : w1.cell? ⟨g, o, none⟩ = some (.int .i64 z0)) (hg : ok g) (hb : base ≤ g) : Marked w (w1.setCell ⟨g, o, none⟩ (.int .i64 z)) base ok :=
  ⟨h.below.setCell hb _, h.kept.setCell (.inl hg) _, by simpa [World.setCell] using h.size, fun hd _ _ _ _ _ hr => ist_R hd z hc (h.rows hd hr)⟩
end Go.Proofs.Ytofieekbhbkliaa.G
end
section
namespace Go.Proofs.Ytofieekbhbkliaa.G
open Go.RowKit Go.Proofs.YtofieekbhbkliaaW.PrintWords
set_option linter.unusedVariables false
set_option linter.unusedSimpArgs false
def OwnI {α : Type} (d : Kd α) (e : Nat) (W0 W : World) (lo hi : Nat) (v : Value) (xs : List α) : Prop := W0.heap.size ≤ lo ∧ hi ≤ W.heap.size ∧ Kd.R d e W W0.heap.size (fun k => lo ≤ k ∧ k < hi) v xs
def OwnS {α : Type} (d : Kd α) (e : Nat) (W0 W : World) (lo hi : Nat) (v : Value) (xs : List α) : Prop := W0.heap.size ≤ lo ∧ hi ≤ W.heap.size ∧ Kd.S d e W W0.heap.size (fun k => lo ≤ k ∧ k < hi) v xs
section
variable {α : Type} {d : Kd α} {e : Nat} {W0 W W' : World} {lo hi lo' hi' : Nat} {ok : Nat → Prop} {v : Value} {xs : List α}
theorem OwnI.new (hB : W0.heap.size ≤ W.heap.size) (hl : W.heap.size ≤ W'.heap.size) (ho : Kd.R d e W' W.heap.size ok v xs) : OwnI d e W0 W' W.heap.size W'.heap.size v xs :=
  ⟨hB, Nat.le_refl _, Kd.R_lower (Kd.R_mono (Kd.R_bound ho) (fun k hk => ⟨hk.2.1, hk.2.2.1⟩)) hB⟩
theorem OwnS.new (hB : W0.heap.size ≤ W.heap.size) (hl : W.heap.size ≤ W'.heap.size) (ho : Kd.S d e W' W.heap.size ok v xs) : OwnS d e W0 W' W.heap.size W'.heap.size v xs :=
  ⟨hB, Nat.le_refl _, Kd.S_lower (Kd.S_mono (Kd.S_bound ho) (fun k hk => ⟨hk.2.1, hk.2.2.1⟩)) hB⟩
theorem OwnI.below (h : OwnI d e W0 W lo hi v xs) (hb : Below W.heap.size W W') : OwnI d e W0 W' lo hi v xs := ⟨h.1, Nat.le_trans h.2.1 hb.size, Kd.R_below h.2.2 hb⟩
theorem OwnS.below (h : OwnS d e W0 W lo hi v xs) (hb : Below W.heap.size W W') : OwnS d e W0 W' lo hi v xs := ⟨h.1, Nat.le_trans h.2.1 hb.size, Kd.S_below h.2.2 hb⟩
theorem OwnI.kept (h : OwnI d e W0 W lo hi v xs) (hk : Kept W W' (fun k => lo' ≤ k ∧ k < hi')) (hd : hi ≤ lo' ∨ hi' ≤ lo) : OwnI d e W0 W' lo hi v xs :=
  ⟨h.1, Nat.le_trans h.2.1 hk.1, Kd.R_kept h.2.2 hk (fun k h1 h2 => by omega)⟩
theorem OwnS.kept (h : OwnS d e W0 W lo hi v xs) (hk : Kept W W' (fun k => lo' ≤ k ∧ k < hi')) (hd : hi ≤ lo' ∨ hi' ≤ lo) : OwnS d e W0 W' lo hi v xs :=
  ⟨h.1, Nat.le_trans h.2.1 hk.1, Kd.S_kept h.2.2 hk (fun k h1 h2 => by omega)⟩
theorem OwnI.reads (h : OwnI d e W0 W lo hi v xs) : ∃ A c, v = .slice A xs.length c ∧ xs.length ≤ c ∧ d.C W A xs.length xs := Kd.R_reads h.2.2
theorem OwnS.reads (h : OwnS d e W0 W lo hi v xs) : ∃ A c, v = .slice A xs.length c ∧ xs.length ≤ c ∧ d.C W A xs.length xs := Kd.S_reads h.2.2
theorem OwnI.slice (h : OwnI d e W0 W lo hi v xs) : ∃ A c, v = .slice A xs.length c := Kd.R_slice h.2.2
theorem OwnS.slice (h : OwnS d e W0 W lo hi v xs) : ∃ A c, v = .slice A xs.length c := Kd.S_slice h.2.2
theorem OwnI.C {A : Option Addr} {n c : Nat} (h : OwnI d e W0 W lo hi (.slice A n c) xs) : d.C W A xs.length xs := (Kd.R_reads' h.2.2).2.2
theorem OwnS.C {A : Option Addr} {n c : Nat} (h : OwnS d e W0 W lo hi (.slice A n c) xs) : d.C W A xs.length xs := (Kd.S_reads' h.2.2).2.2
theorem OwnI.room {A : Option Addr} {n c : Nat} (h : OwnI d e W0 W lo hi (.slice A n c) xs) : xs.length ≤ c := by have h1 := Kd.R_reads' h.2.2; omega
theorem OwnS.room {A : Option Addr} {n c : Nat} (h : OwnS d e W0 W lo hi (.slice A n c) xs) : xs.length ≤ c := by have h1 := Kd.S_reads' h.2.2; omega
theorem OwnI.len {A : Option Addr} {n c : Nat} (h : OwnI d e W0 W lo hi (.slice A n c) xs) : xs.length = n := (Kd.R_reads' h.2.2).1.symm
theorem OwnS.len {A : Option Addr} {n c : Nat} (h : OwnS d e W0 W lo hi (.slice A n c) xs) : xs.length = n := (Kd.S_reads' h.2.2).1.symm
theorem blkI {g : Nat} {o : Obj} (hb : W.heap[g]? = some o) (hk : Kept W W' (fun k => lo' ≤ k ∧ k < hi')) (hd : g < lo' ∨ hi' ≤ g) : W'.heap[g]? = some o := blk_kept hb hk (by omega)
end
theorem own_back {α : Type} {d : Kd α} (hE : d.E = []) {e : Nat} {W0 W W' : World} {lo hi : Nat} {v : Value} {xs ys : List α} {ok : Nat → Prop} (h : OwnI d e W0 W lo hi v xs) (hk : Kept W W' (fun k => lo ≤ k ∧ k < hi)) (h' : Kd.R d e W' W0.heap.size ok v ys) : OwnI d e W0 W' lo hi v ys :=
  ⟨h.1, Nat.le_trans h.2.1 hk.1, Kd.R_mono (Kd.R_tight hE h') (fun k e => h.2.2.1 k e.symm)⟩
end Go.Proofs.Ytofieekbhbkliaa.G
end
section
namespace Go.Proofs.Ytofieekbhbkliaa.G
open Go.RowKit Go.Proofs.YtofieekbhbkliaaW.PrintWords Go.Proofs.YtofieekbhbkliaaW.PrintLast Go.Proofs.YtofieekbhbkliaaW.PrintMore
set_option linter.unusedVariables false
set_option linter.unusedSimpArgs false
section
variable {α β : Type} {d : Kd α} {d' : Kd β} {e e' : Nat} {W0 W W' : World} {lo hi : Nat} {ok ok' : Nat → Prop} {b b' : Nat} {u v : Value} {xs ys : List α} {zs : List β}
def InSpan (u : Value) (lo hi : Nat) (k : Nat) : Prop := some k = u.ownBlock ∧ (lo ≤ k ∧ k < hi)
theorem own_ne (h : d.R e W b ok v xs) (h' : d'.R e' W b' ok' u zs) (hne : e ≠ e') : ∀ k, v.ownBlock = some k → some k ≠ u.ownBlock := by
  intro k hk hk'
  obtain ⟨c, hc⟩ := Kd.R_typed h k hk
  obtain ⟨c', hc'⟩ := Kd.R_typed h' k hk'.symm
  rw [hc] at hc'
  injection hc' with hc'
  injection hc' with _ hc'
  exact hne hc'
theorem OwnI.tight (h : OwnI d e W0 W lo hi v xs) (hE : d.E = []) : d.R e W W0.heap.size (InSpan v lo hi) v xs := Kd.R_tight2 hE h.2.2
theorem OwnI.apart (h : OwnI d e W0 W lo hi v xs) (hE : d.E = []) (hk : Kept W W' (InSpan u lo hi)) (hne : ∀ k, v.ownBlock = some k → some k ≠ u.ownBlock) : OwnI d e W0 W' lo hi v xs :=
  ⟨h.1, Nat.le_trans h.2.1 hk.1, Kd.R_mono (Kd.R_kept (h.tight hE) hk (fun k h1 h2 => hne k h1.1.symm h2.1)) (fun k h => h.2)⟩
theorem OwnI.apartT (h : OwnI d e W0 W lo hi v xs) (hu : d'.R e' W b' ok' u zs) (ht : ∀ q, q ∈ e :: d.E → q ≠ e') (hk : Kept W W' (InSpan u lo hi)) : OwnI d e W0 W' lo hi v xs :=
  ⟨h.1, Nat.le_trans h.2.1 hk.1, Kd.R_mono (Kd.R_kept (Kd.R_apartR h.2.2 hu ht) hk (fun k h1 h2 => h1.2 h2.1)) (fun k h => h.1)⟩
theorem OwnS.apartT (h : OwnS d e W0 W lo hi v xs) (hu : d'.R e' W b' ok' u zs) (ht : ∀ q, q ∈ e :: d.E → q ≠ e') (hk : Kept W W' (InSpan u lo hi)) : OwnS d e W0 W' lo hi v xs :=
  ⟨h.1, Nat.le_trans h.2.1 hk.1, Kd.S_mono (Kd.S_kept (Kd.S_apart' h.2.2 (Kd.R_typed hu) ht) hk (fun k h1 h2 => h1.2 h2.1)) (fun k h => h.1)⟩
theorem span_kept (hk : Kept W W' (InSpan u lo hi)) : Kept W W' (fun k => lo ≤ k ∧ k < hi) := hk.mono fun _ h => h.2
theorem OwnI.alloc (h : OwnI d e W0 W lo hi v xs) (o : Obj) : OwnI d e W0 (W.alloc o) lo hi v xs := h.below (below_alloc (Below.refl _ _) o)
theorem OwnS.alloc (h : OwnS d e W0 W lo hi v xs) (o : Obj) : OwnS d e W0 (W.alloc o) lo hi v xs := h.below (below_alloc (Below.refl _ _) o)
end
end Go.Proofs.Ytofieekbhbkliaa.G
end
section
namespace Go.Proofs.Ytofieekbhbkliaa.G
open Go.RowKit Go.Proofs.YtofieekbhbkliaaW.PrintWords Go.Proofs.YtofieekbhbkliaaW.PrintLast Go.Proofs.YtofieekbhbkliaaW.PrintMore
set_option linter.unusedVariables false
set_option linter.unusedSimpArgs false
theorem lwBoolT (k : Nat) {W0 W : World} {lo hi : Nat} {v : Value} {xs ys : List Bool} {a r : Int} (hB : Below W0.heap.size W0 W) (h : OwnI Kd.bool 4 W0 W lo hi v xs) (hf : laws_markBoolS.f k xs a = some (r, ys)) :
    Calls Try.prog 107 #[v, .int .i64 a] W fun e W' => e = .returned (.int .i64 r) ∧ OwnI Kd.bool 4 W0 W' lo hi v ys ∧ Below W0.heap.size W0 W' ∧ Kept W W' (InSpan v lo hi) :=
  (laws_markBoolS.calls k _ v xs a r ys W0 W hB (h.tight rfl) hf).mono fun e W' ⟨h1, h2, h3, h4⟩ => ⟨h1, own_back rfl h (span_kept h4) h2, h3, h4⟩
end Go.Proofs.Ytofieekbhbkliaa.G
end
section
namespace Go.Proofs.Ytofieekbhbkliaa.G
open Go.RowKit Go.Proofs.YtofieekbhbkliaaW.PrintWords Go.Proofs.YtofieekbhbkliaaW.PrintLast Go.Proofs.YtofieekbhbkliaaW.PrintMore
set_option linter.unusedVariables false
set_option linter.unusedSimpArgs false
inductive Sh where
  | mk : List Sh → Sh
def Sh.parts : Sh → List Sh
  | .mk ps => ps
mutual
def Sh.cnt : Sh → Nat
  | .mk ps => 1 + Sh.cntL ps
def Sh.cntL : List Sh → Nat
  | [] => 0
  | p :: ps => Sh.cnt p + Sh.cntL ps
end
mutual
def shT : S90 → Sh
  | ⟨_, _, ps⟩ => .mk (shL ps)
def shL : List S90 → List Sh
  | [] => []
  | p :: ps => shT p :: shL ps
end
theorem shL_map (ps : List S90) : shL ps = ps.map shT := by
  induction ps with
  | nil => simp [shL]
  | cons p ps ih => simp [shL, ih]
theorem shT_parts (t : S90) : (shT t).parts = t.f2.map shT := by
  cases t
  simp only [shT, Sh.parts, shL_map]
theorem cnt_parts (s : Sh) : s.cnt = 1 + Sh.cntL s.parts := by cases s; simp [Sh.cnt, Sh.parts]
theorem cntL_take (ss : List Sh) (i : Nat) (h : i < ss.length) : Sh.cntL (ss.take (i + 1)) = Sh.cntL (ss.take i) + ss[i].cnt := by
  induction ss generalizing i with
  | nil => simp at h
  | cons s ss ih =>
    cases i with
    | zero => simp [Sh.cntL]
    | succ i =>
      have := ih i (by simpa using h)
      simp only [List.take_succ_cons, Sh.cntL, List.getElem_cons_succ, this]
      omega
theorem cntL_le (ss : List Sh) (i : Nat) (h : i < ss.length) : Sh.cntL (ss.take i) + ss[i].cnt ≤ Sh.cntL ss := by
  induction ss generalizing i with
  | nil => simp at h
  | cons s ss ih =>
    cases i with
    | zero => simp [Sh.cntL]
    | succ i =>
      have := ih i (by simpa using h)
      simp only [List.take_succ_cons, Sh.cntL, List.getElem_cons_succ]
      omega
def FSh (d : Kd Sh) : Kd Sh := Kd.iso (Kd.pair anyInt (Kd.pair anyInt (Kd.slice 90 d))) (fun s : Sh => ((), (), s.parts))
theorem FSh_sub : Kd.Sub FSh [90] := Kd.sub_iso _ (Kd.sub_pair (Kd.sub_const _ (by decide)) (Kd.sub_pair (Kd.sub_const _ (by decide)) (Kd.sub_slice 90 (by decide) Kd.sub_id)))
theorem FSh_sz : ∀ n, (Kd.upto FSh 3 [90] n).sz = 3 := Kd.upto_sz (fun _ => rfl)
def kSh : Kd Sh := Kd.fix FSh 3 [90] FSh_sz (Kd.upto_E FSh_sub)
theorem ist_FSh (d : Kd Sh) (h : Ist d) : Ist (FSh d) := ist_iso _ (ist_pair ist_anyInt (ist_pair ist_anyInt (ist_slice _ h)))
theorem ist_kSh : Ist kSh := ist_fix ist_FSh
theorem kSh_openM {w : World} {base : Nat} {ok : Nat → Prop} {x : Sh} {cs : List Value} (h : kSh.M w base ok x cs) : ∃ (a b : Int) (v : Value), cs = [.int .i64 a, .int .i64 b, v] ∧ kSh.R 90 w base ok v x.parts := by
  obtain ⟨n, h⟩ := h
  cases n with
  | zero => exact h.elim
  | succ n =>
    obtain ⟨_, _, rfl, ⟨a, rfl⟩, ⟨_, _, rfl, ⟨b, rfl⟩, ⟨v, rfl, g⟩⟩⟩ := h
    exact ⟨a, b, v, rfl, Kd.fix_R g⟩
theorem sh_upto : ∀ (n : Nat) {w : World} {base : Nat} {ok : Nat → Prop} {x : S90} {cs : List Value}, (Kd.upto F90 3 [90] n).M w base ok x cs → (Kd.upto FSh 3 [90] n).M w base ok (shT x) cs := by
  intro n
  induction n with
  | zero => intro w base ok x cs h; exact h.elim
  | succ n ih =>
    intro w base ok x cs h
    obtain ⟨_, _, rfl, rfl, ⟨_, _, rfl, rfl, ⟨v, rfl, g⟩⟩⟩ := h
    refine ⟨_, _, rfl, ⟨_, rfl⟩, ⟨_, _, rfl, ⟨_, rfl⟩, ⟨v, rfl, ?_⟩⟩⟩
    show (Kd.upto FSh 3 [90] n).R _ w base ok v (shT x).parts
    rw [shT_parts]
    exact R_map shT ((sz90 n).trans (FSh_sz n).symm) (fun _ _ _ _ _ h => ih h) g
theorem sh_R {w : World} {base : Nat} {ok : Nat → Prop} {v : Value} {xs : List S90} (h : k90.R 90 w base ok v xs) : kSh.R 90 w base ok v (xs.map shT) :=
  R_map shT rfl (fun w base ok x cs h => by obtain ⟨n, h⟩ := h; exact ⟨n, sh_upto n h⟩) h
set_option maxHeartbeats 8000000 in
set_option maxRecDepth 100000 in
theorem markTask_w : ∀ (N : Nat) (ss : List Sh) (_ : Sh.cntL ss ≤ N) (A : Option Addr) (c : Nat) (k : Int) (w : World) (base : Nat) (ok : Nat → Prop) (_ : kSh.R 90 w base ok (.slice A ss.length c) ss) (_ : 0 ≤ k) (_ : k + 2 * (Sh.cntL ss : Int) ≤ 4611686018427387904),
    Calls Try.prog 108 #[.slice A ss.length c, .int .i64 k] w fun e w' => e = .returned (.int .i64 (k + 2 * (Sh.cntL ss : Int))) ∧ Marked w w' base ok := by
  intro N
  induction N using Nat.strongRecOn with
  | _ N ih =>
  intro ss hN A c k w base ok hR h0 hk
  have HI := Aside0.mk ih
  have HR := Aside0.mk hR
  have HN := Aside0.mk hN
  have H0 := Aside0.mk (And.intro h0 hk)
  clear ih hR hN h0 hk
  go_enter Try.func108, Try.ntmps108
  go_wp2
  go_loopg [1, 5] ss.length (fun kq v1 v5 w' => ∃ (i : Nat) (x1 x5 : Int), v1 = .int .i64 x1 ∧ v5 = .int .i64 x5 ∧ Aside0 (x1 = k + 2 * (Sh.cntL (ss.take i) : Int)) ∧ Aside0 (x5 = (i : Int)) ∧ Aside0 (i + kq = ss.length) ∧ Aside0 (Marked w w' base ok))
  case atStart => exact ⟨0, k, 0, rfl, rfl, ⟨by simp [Sh.cntL]⟩, ⟨rfl⟩, ⟨by omega⟩, ⟨Marked.refl _ _ _⟩⟩
  case round =>
    obtain ⟨i, x1, x5, rfl, rfl, HX1, HX5, HIK, HM⟩ := hrel
    cases gk with
    | zero =>
      have hb : decide (x5 < (ss.length : Int)) = false := decide_eq_false (by have := HX5.out; have := HIK.out; omega)
      have HE : Aside0 (x1 = k + 2 * (Sh.cntL ss : Int)) := ⟨by have h1 := HX1.out; have h2 := HIK.out; rw [List.take_of_length_le (by omega)] at h1; exact h1⟩
      clear HX1
      go_wp2
      go_ret
      exact ⟨by rw [HE.out]; rfl, HM.out⟩
    | succ gk =>
      have HLT : Aside0 (i < ss.length) := ⟨by have := HIK.out; omega⟩
      have hb : decide (x5 < (ss.length : Int)) = true := decide_eq_true (by have := HX5.out; have := HLT.out; omega)
      have HC := Aside0.mk (cntL_le ss i HLT.out)
      have HC2 := Aside0.mk (cntL_take ss i HLT.out)
      have HCP := Aside0.mk (cnt_parts (ss[i]'HLT.out))
      have HRr := Aside0.mk (HM.out.rows ist_kSh HR.out)
      have hp : 0 ≤ x5 := by have := HX5.out; omega
      have hq : x5 < (ss.length : Int) := by have := HX5.out; have := HLT.out; omega
      have HP := Aside0.mk hp
      have HQ := Aside0.mk hq
      obtain ⟨g, cap, e, hbg, _, _, _⟩ := Kd.R_form HRr.out (by have := HLT.out; omega)
      cases e
      have hOKg := HRr.out.1 g rfl
      have HG := Aside0.mk (And.intro hOKg hbg)
      clear hOKg hbg
      obtain ⟨ce, hcl, hM, hcc, hfr⟩ := Kd.R_elem HRr.out (.mk []) x5 hp hq
      obtain ⟨a, b, v, rfl, _⟩ := kSh_openM hM
      have hx0 : wr.cell? ⟨g, x5.toNat * 3, none⟩ = some (.int .i64 a) := hcc 0 _ rfl
      have hf0 : wr.frozen? ⟨g, x5.toNat * 3, none⟩ = false := hfr 0
      have HX0 := Aside0.mk hx0
      clear hcl hcc hfr hM
      have hp' : (0 ≤ x5) = True := eq_true hp
      have hq' : (x5 < (ss.length : Int)) = True := eq_true hq
      clear hp hq
      have HEI0 : Aside0 (ss.getD x5.toNat (.mk []) = ss[i]'HLT.out) := ⟨by rw [HX5.out, Int.toNat_natCast, List.getD_eq_getElem?_getD, List.getElem?_eq_getElem HLT.out, Option.getD_some]⟩
      go_wp2_with (first
        | ((with_reducible refine gate_store (t := 3) (p := 16) rfl ?_); refine store_event (t := 3) (p := 16) (v := ?vo_1) (w1 := (wr.setCell ⟨g, x5.toNat * 3, none⟩ (.int .i64 x1))) ?hg ?ho ?hn ?hr ?_; (case ho => rfl); (case hg => rfl); (case hn => rfl); (case hr => first | (go_simp; done) | (go_simp; rfl)); intro w9 hw; have HM9 := Aside0.mk (show Marked w w9 base ok from by rw [hw]; exact HM.out.store _ HX0.out HG.out.1 HG.out.2); clear hw hx0 hf0;
           obtain ⟨ce, hcl, hM, hcc, hfr⟩ := Kd.R_elem (HM9.out.rows ist_kSh HR.out) (.mk []) x5 HP.out HQ.out; obtain ⟨a9, b9, v9, rfl, _⟩ := kSh_openM hM; have hx1 : w9.cell? ⟨g, x5.toNat * 3 + 1, none⟩ = some (.int .i64 b9) := hcc 1 _ rfl; have hf1 : w9.frozen? ⟨g, x5.toNat * 3 + 1, none⟩ = false := hfr 1; have HX1' := Aside0.mk hx1; clear hcl hcc hfr hM)
        | ((with_reducible refine gate_store (t := 3) (p := 23) rfl ?_); refine store_event (t := 3) (p := 23) (v := ?vo_2) (w1 := (w9.setCell ⟨g, x5.toNat * 3 + 1, none⟩ (.int .i64 (wrap64 (x1 + 1))))) ?hg ?ho ?hn ?hr ?_; (case ho => rfl); (case hg => rfl); (case hn => rfl); (case hr => first | (go_simp; done) | (go_simp; rfl)); intro w11 hw; have HM11 := Aside0.mk (show Marked w w11 base ok from by rw [hw]; exact HM9.out.store _ HX1'.out HG.out.1 HG.out.2); clear hw hx1 hf1;
           obtain ⟨ce, hcl, hM, hcc, hfr⟩ := Kd.R_elem (HM11.out.rows ist_kSh HR.out) (.mk []) x5 HP.out HQ.out; have hsi := HEI0.out; clear HEI0; generalize ss.getD x5.toNat (.mk []) = si at hM hsi; have HEI := Aside0.mk hsi; clear hsi; obtain ⟨a11, b11, v11, rfl, hRv⟩ := kSh_openM hM; obtain ⟨Av, cv, rfl⟩ := Kd.R_slice hRv; have HRV := Aside0.mk hRv; have hx2 : w11.cell? ⟨g, x5.toNat * 3 + 2, none⟩ = some (.slice Av si.parts.length cv) := hcc 2 _ rfl; clear hcl hcc hfr hM hRv))
      have hA : Sh.cntL si.parts < N := by
        rw [HEI.out]
        have h1 := HC.out
        have h2 := HCP.out
        have h3 := HN.out
        omega
      have hB : 0 ≤ wrap64 (wrap64 (x1 + 1) + 1) := by
        have h1 := HX1.out
        have h2 := H0.out
        have h3 := HC.out
        have h4 := HCP.out
        unfold wrap64
        omega
      have hD : wrap64 (wrap64 (x1 + 1) + 1) + 2 * (Sh.cntL si.parts : Int) ≤ 4611686018427387904 := by
        rw [HEI.out]
        have h1 := HX1.out
        have h2 := H0.out
        have h3 := HC.out
        have h4 := HCP.out
        unfold wrap64
        omega
      have HCALL := Aside0.mk (HI.out _ hA si.parts (Nat.le_refl _) Av cv (wrap64 (wrap64 (x1 + 1) + 1)) w11 base _ HRV.out hB hD)
      clear hA hB hD
      with_reducible refine HCALL.out.mono ?_
      rintro e w1 ⟨rfl, hm⟩
      have HMM := Aside0.mk (HM11.out.trans (hm.mono (Nat.le_refl _) (fun _ hk => hk.1)))
      clear hm
      go_wp2
      go_roundg gk
      case measure => omega
      case rel => exact ⟨i + 1, _, _, rfl, rfl, ⟨by rw [HEI.out]; have h1 := HX1.out; have h2 := H0.out; have h3 := HC.out; have h4 := HCP.out; have h5 := HC2.out; unfold wrap64; omega⟩, ⟨by have h1 := HX5.out; have h2 := HLT.out; have h3 := (Kd.R_reads' HR.out).2.2.2.1; unfold wrap64; omega⟩, ⟨by have := HIK.out; omega⟩, HMM⟩
end Go.Proofs.Ytofieekbhbkliaa.G
end
section
namespace Go.Proofs.Ytofieekbhbkliaa.G
open Go.RowKit Go.Proofs.YtofieekbhbkliaaW.PrintWords Go.Proofs.YtofieekbhbkliaaW.PrintLast Go.Proofs.YtofieekbhbkliaaW.PrintMore
set_option linter.unusedVariables false
set_option linter.unusedSimpArgs false
theorem lwTaskS {W0 W : World} {lo hi : Nat} {v : Value} {xs : List S90} {a : Int} (hB : Below W0.heap.size W0 W) (h : OwnI k90 90 W0 W lo hi v xs) (h0 : 0 ≤ a) (h1 : a + 2 * (Sh.cntL (xs.map shT) : Int) ≤ 4611686018427387904) :
    Calls Try.prog 108 #[v, .int .i64 a] W fun e W' => e = .returned (.int .i64 (a + 2 * (Sh.cntL (xs.map shT) : Int))) ∧ Below W0.heap.size W0 W' ∧ Kept W W' (fun k => lo ≤ k ∧ k < hi) := by
  obtain ⟨A, c, rfl⟩ := h.slice
  have hR := sh_R h.2.2
  have hl : (xs.map shT).length = xs.length := List.length_map ..
  have := markTask_w _ (xs.map shT) (Nat.le_refl _) A c a W W0.heap.size _ (by rw [hl]; exact hR) h0 h1
  rw [hl] at this
  exact this.mono fun e W' ⟨e1, hm⟩ => ⟨e1, hB.trans hm.below, hm.kept⟩
end Go.Proofs.Ytofieekbhbkliaa.G
end
section
namespace Go.Proofs.Ytofieekbhbkliaa.G
open Go.RowKit Go.Proofs.YtofieekbhbkliaaW.PrintWords Go.Proofs.YtofieekbhbkliaaW.PrintLast Go.Proofs.YtofieekbhbkliaaW.PrintMore
set_option linter.unusedVariables false
set_option linter.unusedSimpArgs false
set_option maxHeartbeats 8000000 in
set_option maxRecDepth 100000 in
theorem lwSheet (k : Nat) {W0 W : World} {lo hi : Nat} {v0 v1 : Value} {bs bs' : List Bool} {ts : List S90} {a r : Int} (hB : Below W0.heap.size W0 W) (h0 : OwnI Kd.bool 4 W0 W lo hi v0 bs) (h1 : OwnI k90 90 W0 W lo hi v1 ts) (hf : laws_markBoolS.f k bs a = some (r, bs')) (hr0 : 0 ≤ r) (hr1 : r + 2 * (Sh.cntL (ts.map shT) : Int) ≤ 4611686018427387904) :
    Calls Try.prog 49 #[.agg #[v0, v1], .int .i64 a] W fun e W' => e = .returned (.int .i64 (r + 2 * (Sh.cntL (ts.map shT) : Int))) ∧ Below W0.heap.size W0 W' ∧ Kept W W' (fun k => lo ≤ k ∧ k < hi) := by
  obtain ⟨A0, c0, rfl⟩ := h0.slice
  obtain ⟨A1, c1, rfl⟩ := h1.slice
  have hu := Try.underlying67
  have hbx := heap_alloc_new W (.cells #[.slice A0 bs.length c0, .slice A1 ts.length c1] 67)
  have CK := Aside0.mk (lwBoolT k (below_alloc hB (.cells #[.slice A0 bs.length c0, .slice A1 ts.length c1] 67)) (h0.alloc _) hf)
  have H0 := Aside0.mk (h0.alloc (.cells #[.slice A0 bs.length c0, .slice A1 ts.length c1] 67))
  have H1 := Aside0.mk (h1.alloc (.cells #[.slice A0 bs.length c0, .slice A1 ts.length c1] 67))
  have BX := Aside0.mk hbx
  have HHI := Aside0.mk h0.2.1
  have KA := Aside0.mk ((Kept.refl W (fun k => lo ≤ k ∧ k < hi)).alloc (.cells #[.slice A0 bs.length c0, .slice A1 ts.length c1] 67))
  have HR0 := Aside0.mk hr0
  have HR1 := Aside0.mk hr1
  have hx0 : (W.alloc (.cells #[.slice A0 bs.length c0, .slice A1 ts.length c1] 67)).cell? ⟨W.heap.size, 0, none⟩ = some (.slice A0 bs.length c0) := (blk_cell hbx 0).trans rfl
  clear h0 h1 hf hbx hB hr0 hr1
  go_enter Try.func49, Try.ntmps49
  go_wp2_with fail
  with_reducible refine CK.out.mono ?_
  rintro e w1 ⟨rfl, ho, hb, hk⟩
  have BX1 := Aside0.mk (blk_kept BX.out hk (fun h => by have h1 := h.2.2; have h2 := HHI.out; omega))
  have H11 := Aside0.mk (H1.out.apartT H0.out.2.2 (by decide) hk)
  have KA1 := Aside0.mk (KA.out.then_ hk (fun k h => .inl h.2))
  have HB1 := Aside0.mk hb
  clear CK ho hb hk H0 H1 BX KA hx0
  have hx1 : w1.cell? ⟨W.heap.size, 1, none⟩ = some (.slice A1 ts.length c1) := (blk_cell BX1.out 1).trans rfl
  have CK := Aside0.mk (lwTaskS (a := r) HB1.out H11.out HR0.out HR1.out)
  go_wp2_with fail
  with_reducible refine CK.out.mono ?_
  rintro e w2 ⟨rfl, hb, hk⟩
  have KA2 := Aside0.mk (KA1.out.then_ hk (fun k h => .inl h))
  have HB2 := Aside0.mk hb
  clear CK hb hk BX1 H11 KA1 HB1 hx1
  go_wp2
  go_ret
  exact ⟨rfl, HB2.out, KA2.out⟩
end Go.Proofs.Ytofieekbhbkliaa.G
end
section
namespace Go.Proofs.Ytofieekbhbkliaa.G
open Go.RowKit Go.Proofs.YtofieekbhbkliaaW.PrintWords Go.Proofs.YtofieekbhbkliaaW.PrintLast Go.Proofs.YtofieekbhbkliaaW.PrintMore
set_option linter.unusedVariables false
set_option linter.unusedSimpArgs false
theorem lwIntT (k : Nat) {W0 W : World} {lo hi : Nat} {v : Value} {xs ys : List Int} {a r : Int} (hB : Below W0.heap.size W0 W) (h : OwnI (Kd.int .i64) 3 W0 W lo hi v xs) (hf : laws_markIntS.f k xs a = some (r, ys)) :
    Calls Try.prog 38 #[v, .int .i64 a] W fun e W' => e = .returned (.int .i64 r) ∧ OwnI (Kd.int .i64) 3 W0 W' lo hi v ys ∧ Below W0.heap.size W0 W' ∧ Kept W W' (InSpan v lo hi) :=
  (laws_markIntS.calls k _ v xs a r ys W0 W hB (h.tight rfl) hf).mono fun e W' ⟨h1, h2, h3, h4⟩ => ⟨h1, own_back rfl h (span_kept h4) h2, h3, h4⟩
end Go.Proofs.Ytofieekbhbkliaa.G
end
section
namespace Go.Proofs.Ytofieekbhbkliaa.G
open Go.RowKit Go.Proofs.YtofieekbhbkliaaW.PrintWords
set_option linter.unusedVariables false
set_option linter.unusedSimpArgs false
theorem isKey_ev (a : Int) : impl_isKey.f a = some (decide (0 ≤ a ∧ a < 10)) := by
  unfold impl_isKey.f
  by_cases h : a ≥ 0
  · rw [if_pos h]; simp only [ge_iff_le] at h; simp [h]
  · rw [if_neg h]; simp only [ge_iff_le] at h; simp [h]
theorem isValue_ev (a : Int) : impl_isValue.f a = some (decide (0 ≤ a ∧ a ≤ 96)) := by
  unfold impl_isValue.f
  by_cases h : a ≥ 0
  · rw [if_pos h]; simp only [ge_iff_le] at h; simp [h]
  · rw [if_neg h]; simp only [ge_iff_le] at h; simp [h]
theorem ite_prop (P : Prop) [Decidable P] (c : Bool) : (if P then some c else some false) = some (decide P && c) := by by_cases h : P <;> simp [h]
theorem fits_now (k : Nat) (a b : Int) (l : List Tk) : impl_Task_fits.f (k + 1) a b l = some (shapeB a b l.length) := by
  unfold impl_Task_fits.f
  have e0 : ∀ m : Nat, ((l.length : Int) == (m : Int)) = decide (l.length = m) := fun m => by rw [Bool.eq_iff_iff]; simp only [beq_iff_eq, decide_eq_true_eq]; omega
  have e1 : ((l.length : Int) == 0) = decide (l.length = 0) := e0 0
  have e2 : ((l.length : Int) == 1) = decide (l.length = 1) := e0 1
  have e3 : ((l.length : Int) == 2) = decide (l.length = 2) := e0 2
  have e4 : ((l.length : Int) == 3) = decide (l.length = 3) := e0 3
  simp only [impl_Task_fits.j0, isKey_ev, isValue_ev, Option.bind_some, e1, e2, e3, e4, ite_prop, Bool.decide_eq_true]
  clear e0 e1 e2 e3 e4
  unfold shapeB
  by_cases h0 : a = 0
  · simp only [h0, if_true]
  by_cases h1 : a = 1
  · simp only [h0, h1, if_true, if_false, show ¬ ((1 : Int) = 0) by decide]
  by_cases h2 : a = 2
  · simp only [h2, if_true, if_false, show ¬ ((2 : Int) = 0) by decide, show ¬ ((2 : Int) = 1) by decide, show ((2 : Int) == 2) = true by decide]
  by_cases h3 : a = 3
  · simp only [h3, if_true, if_false, show ¬ ((3 : Int) = 0) by decide, show ¬ ((3 : Int) = 1) by decide, show ¬ ((3 : Int) = 2) by decide, show ((3 : Int) == 3) = true by decide]
  have h3b : (a == 3) = false := beq_eq_false_iff_ne.mpr h3
  by_cases h4 : a = 4
  · simp only [h4, if_true, if_false, show ¬ ((4 : Int) = 0) by decide, show ¬ ((4 : Int) = 1) by decide, show ¬ ((4 : Int) = 2) by decide, show ¬ ((4 : Int) = 3) by decide, show ((4 : Int) == 3) = false by decide, Bool.false_eq_true, decide_true, Bool.true_and]
  by_cases h5 : a = 5
  · simp only [h5, if_true, if_false, show ¬ ((5 : Int) = 0) by decide, show ¬ ((5 : Int) = 1) by decide, show ¬ ((5 : Int) = 2) by decide, show ¬ ((5 : Int) = 3) by decide, show ¬ ((5 : Int) = 4) by decide, show ((5 : Int) == 3) = false by decide, Bool.false_eq_true, decide_true, Bool.true_and]
  simp only [h0, h1, h2, h3, h4, h5, h3b, if_false, Bool.false_eq_true, decide_false, Bool.false_and]
theorem fits_ev (a b : Int) (l : List Tk) : Ev (fun k => impl_Task_fits.f k a b l) (shapeB a b l.length) := ⟨1, fun k hk => by
  obtain ⟨m, rfl⟩ : ∃ m, k = m + 1 := ⟨k - 1, by omega⟩
  exact fits_now m a b l⟩
end Go.Proofs.Ytofieekbhbkliaa.G
end
section
namespace Go.Proofs.Ytofieekbhbkliaa.G
open Go.RowKit Go.Proofs.YtofieekbhbkliaaW.PrintWords
set_option linter.unusedVariables false
set_option linter.unusedSimpArgs false
theorem Ev.eq {α : Type} {g : Nat → Option α} {r r' : α} (h : Ev g r) (e : r = r') : Ev g r' := e ▸ h
theorem Ev.of_eq {α : Type} {o : Option α} {r : α} (h : o = some r) : Ev (fun _ => o) r := ⟨0, fun _ _ => h⟩
def CountsTo (t : Tk) (room r : Int) : Prop := ((fitT t = true ∧ (nodT t : Int) ≤ room) → r = nodT t) ∧ (¬ (fitT t = true ∧ (nodT t : Int) ≤ room) → room < r) ∧ 1 ≤ r ∧ r ≤ 16 + 16 * room
theorem countTo_loop (ps : List Tk) (hlen : ps.length ≤ 3) (room : Int) (h0 : 0 ≤ room) (h1 : room ≤ 15)
    (ih : ∀ p ∈ ps, ∀ rm : Int, 0 ≤ rm → rm ≤ 15 → ∃ r, Ev (fun k => impl_Task_countTo.f k p.f0 p.f1 p.f2 rm) r ∧ CountsTo p rm r) :
    ∀ (d i : Nat) (n : Int), d = ps.length - i → i ≤ ps.length → 1 ≤ n → n ≤ 16 + 16 * room →
      ∃ r, Ev (fun k => impl_Task_countTo.l0 k room n ps (ps.length : Int) (i : Int)) r ∧ ((fitL (ps.drop i) = true ∧ n + (nodL (ps.drop i) : Int) ≤ room) → r = n + nodL (ps.drop i)) ∧ (¬ (fitL (ps.drop i) = true ∧ n + (nodL (ps.drop i) : Int) ≤ room) → room < r) ∧ 1 ≤ r ∧ r ≤ 16 + 16 * room := by
  intro d
  induction d with
  | zero =>
    intro i n hd hi hn hn2
    have e : i = ps.length := by omega
    subst e
    refine ⟨n, Ev.step (fun k => by rw [impl_Task_countTo.l0]) ?_, ?_⟩
    · simp only [if_neg (show ¬ ((ps.length : Int) < (ps.length : Int)) by omega)]
      exact Ev.now n
    · simp only [List.drop_length, fitL, nodL]
      refine ⟨fun _ => by simp, fun h => ?_, hn, hn2⟩
      simp at h
      omega
  | succ d ihd =>
    intro i n hd hi hn hn2
    have hlt : i < ps.length := by omega
    have hrd := rd_tk ps i hlt
    have hdr := drop_tk ps i hlt
    have hmem : ps[i] ∈ ps := List.getElem_mem hlt
    by_cases hg : n > room
    · refine ⟨16, Ev.step (fun k => by rw [impl_Task_countTo.l0]) ?_, fun h => ?_, fun _ => by omega, by omega, by omega⟩
      · simp only [if_pos (show (i : Int) < (ps.length : Int) by omega), if_pos (show (0 : Int) ≤ (i : Int) by omega), if_pos hg]
        exact Ev.now 16
      · exfalso
        have := h.2
        omega
    · obtain ⟨c, hc, hc1, hc2, hc3, hc4⟩ := ih ps[i] hmem (room - n) (by omega) (by omega)
      obtain ⟨r, hr, hr1, hr2, hr3, hr4⟩ := ihd (i + 1) (n + c) (by omega) (by omega) (by omega) (by omega)
      refine ⟨r, Ev.step (fun k => by rw [impl_Task_countTo.l0]) ?_, ?_, ?_, hr3, hr4⟩
      · simp only [if_pos (show (i : Int) < (ps.length : Int) by omega), if_pos (show (0 : Int) ≤ (i : Int) by omega), if_neg hg, hrd]
        rw [wrap_id (room - n) (by omega) (by omega), wrap_nat i (by omega)]
        refine Ev.bind hc ?_
        simp only [wrap_id (n + c) (by omega) (by omega)]
        exact hr
      · rw [hdr]
        simp only [fitL, nodL, Bool.and_eq_true]
        rintro ⟨⟨f1, f2⟩, h3⟩
        have e := hc1 ⟨f1, by omega⟩
        rw [hr1 ⟨f2, by omega⟩]
        omega
      · rw [hdr]
        simp only [fitL, nodL, Bool.and_eq_true]
        intro hno
        by_cases hp : fitT ps[i] = true ∧ (nodT ps[i] : Int) ≤ room - n
        · have e := hc1 hp
          exact hr2 (fun h => hno ⟨⟨hp.1, h.1⟩, by have := h.2; omega⟩)
        · have := hc2 hp
          exact hr2 (fun h => by have := h.2; omega)
theorem countTo_ev : ∀ t : Tk, ∀ room : Int, 0 ≤ room → room ≤ 15 → ∃ r, Ev (fun k => impl_Task_countTo.f k t.f0 t.f1 t.f2 room) r ∧ CountsTo t room r := by
  refine tk_ind fun t ih room h0 h1 => ?_
  by_cases hr : room < 1
  · refine ⟨16, Ev.step (fun k => by rw [impl_Task_countTo.f]) ?_, ?_, ?_, by omega, by omega⟩
    · simp only [if_pos hr]
      refine Ev.step (fun k => by rw [impl_Task_countTo.j0]) ?_
      simp only [if_true]
      exact Ev.now 16
    · rintro ⟨_, h⟩
      have := nodT_pos t
      omega
    · intro _
      omega
  · have hshape := fits_ev t.f0 t.f1 t.f2
    by_cases hf : shapeB t.f0 t.f1 t.f2.length = true
    · obtain ⟨r, hr1, hr2, hr3, hr4, hr5⟩ := countTo_loop t.f2 (shapeB_len hf) room h0 h1 ih t.f2.length 0 1 (by omega) (by omega) (by omega) (by omega)
      refine ⟨r, Ev.step (fun k => by rw [impl_Task_countTo.f]) ?_, ?_, ?_, hr4, hr5⟩
      · simp only [if_neg hr]
        refine Ev.bind hshape ?_
        simp only [hf, Bool.not_true]
        refine Ev.step (fun k => by rw [impl_Task_countTo.j0]) ?_
        simp only [Bool.false_eq_true, if_false]
        exact hr1
      · rw [fitT_eq, nodT_eq, hf]
        simp only [List.drop_zero, Bool.true_and] at hr2 ⊢
        rintro ⟨a, b⟩
        rw [hr2 ⟨a, by omega⟩]
        omega
      · rw [fitT_eq, nodT_eq, hf]
        simp only [List.drop_zero, Bool.true_and] at hr3 ⊢
        intro h
        exact hr3 (fun ⟨a, b⟩ => h ⟨a, by omega⟩)
    · refine ⟨16, Ev.step (fun k => by rw [impl_Task_countTo.f]) ?_, ?_, ?_, by omega, by omega⟩
      · simp only [if_neg hr]
        refine Ev.bind hshape ?_
        simp only [Bool.not_eq_true] at hf
        simp only [hf, Bool.not_false]
        refine Ev.step (fun k => by rw [impl_Task_countTo.j0]) ?_
        simp only [if_true]
        exact Ev.now 16
      · rw [fitT_eq]
        intro h
        simp [hf] at h
      · intro _
        omega
theorem count_loop (ps : List Tk) (hlen : ps.length ≤ 3) :
    ∀ (d i : Nat) (n : Int), d = ps.length - i → i ≤ ps.length → 1 ≤ n → n ≤ 300 →
      ∃ r, Ev (fun k => impl_Task_count.l0 k n ps (ps.length : Int) (i : Int)) r ∧ ((fitL (ps.drop i) = true ∧ n + (nodL (ps.drop i) : Int) ≤ 15) → r = n + nodL (ps.drop i)) ∧ (¬ (fitL (ps.drop i) = true ∧ n + (nodL (ps.drop i) : Int) ≤ 15) → 15 < r) := by
  intro d
  induction d with
  | zero =>
    intro i n hd hi hn hn2
    have e : i = ps.length := by omega
    subst e
    refine ⟨n, Ev.step (fun k => by rw [impl_Task_count.l0]) ?_, ?_⟩
    · simp only [if_neg (show ¬ ((ps.length : Int) < (ps.length : Int)) by omega)]
      exact Ev.now n
    · simp only [List.drop_length, fitL, nodL]
      refine ⟨fun _ => by simp, fun h => ?_⟩
      simp at h
      omega
  | succ d ihd =>
    intro i n hd hi hn hn2
    have hlt : i < ps.length := by omega
    have hrd := rd_tk ps i hlt
    have hdr := drop_tk ps i hlt
    by_cases hg : n > 15
    · refine ⟨n, Ev.step (fun k => by rw [impl_Task_count.l0]) ?_, fun h => ?_, fun _ => by omega⟩
      · simp only [if_pos (show (i : Int) < (ps.length : Int) by omega), if_pos (show (0 : Int) ≤ (i : Int) by omega), if_pos hg]
        exact Ev.now n
      · exfalso
        have := h.2
        omega
    · obtain ⟨c, hc, hc1, hc2, hc3, hc4⟩ := countTo_ev ps[i] (15 - n) (by omega) (by omega)
      obtain ⟨r, hr, hr1, hr2⟩ := ihd (i + 1) (n + c) (by omega) (by omega) (by omega) (by omega)
      refine ⟨r, Ev.step (fun k => by rw [impl_Task_count.l0]) ?_, ?_, ?_⟩
      · simp only [if_pos (show (i : Int) < (ps.length : Int) by omega), if_pos (show (0 : Int) ≤ (i : Int) by omega), if_neg hg, hrd]
        rw [wrap_id (15 - n) (by omega) (by omega), wrap_nat i (by omega)]
        refine Ev.bind hc ?_
        simp only [wrap_id (n + c) (by omega) (by omega)]
        exact hr
      · rw [hdr]
        simp only [fitL, nodL, Bool.and_eq_true]
        rintro ⟨⟨f1, f2⟩, h3⟩
        have e := hc1 ⟨f1, by omega⟩
        rw [hr1 ⟨f2, by omega⟩]
        omega
      · rw [hdr]
        simp only [fitL, nodL, Bool.and_eq_true]
        intro hno
        by_cases hp : fitT ps[i] = true ∧ (nodT ps[i] : Int) ≤ 15 - n
        · have e := hc1 hp
          exact hr2 (fun h => hno ⟨⟨hp.1, h.1⟩, by have := h.2; omega⟩)
        · have := hc2 hp
          exact hr2 (fun h => by have := h.2; omega)
theorem count_ev (t : Tk) : ∃ r, Ev (fun k => impl_Task_count.f k t.f0 t.f1 t.f2) r ∧ (okT t = true → r = nodT t) ∧ (okT t = false → 15 < r) := by
  have hshape := fits_ev t.f0 t.f1 t.f2
  by_cases hf : shapeB t.f0 t.f1 t.f2.length = true
  · obtain ⟨r, hr1, hr2, hr3⟩ := count_loop t.f2 (shapeB_len hf) t.f2.length 0 1 (by omega) (by omega) (by omega) (by omega)
    refine ⟨r, ?_, ?_, ?_⟩
    · unfold impl_Task_count.f
      refine Ev.bind hshape ?_
      simp only [hf, if_true]
      exact hr1
    · intro h
      have h1 := okT_fit h
      have h2 := okT_nod h
      rw [fitT_eq, Bool.and_eq_true] at h1
      rw [nodT_eq] at h2 ⊢
      simp only [List.drop_zero] at hr2
      rw [hr2 ⟨h1.2, by omega⟩]
      omega
    · intro h
      simp only [List.drop_zero] at hr3
      refine hr3 (fun ⟨a, b⟩ => ?_)
      rw [okT, fitT_eq, nodT_eq, hf, a] at h
      simp at h
      omega
  · refine ⟨16, ?_, ?_, fun _ => by omega⟩
    · unfold impl_Task_count.f
      refine Ev.bind hshape ?_
      simp only [hf, Bool.false_eq_true, if_false]
      exact Ev.now 16
    · intro h
      have h1 := okT_fit h
      rw [fitT_eq, Bool.and_eq_true] at h1
      exact absurd h1.1 hf
theorem implOk_ev (t : Tk) : Ev (fun k => impl_TaskOk.f k t.f0 t.f1 t.f2) (okT t) := by
  obtain ⟨r, hr, h1, h2⟩ := count_ev t
  unfold impl_TaskOk.f
  refine Ev.bind hr ?_
  refine Ev.of_eq ?_
  cases h : okT t with
  | true => have := h1 h; have := okT_nod h; simp; omega
  | false => have := h2 h; simp; omega
theorem l1Shape_now (k : Nat) (a : Int) : spec_l1Shape.f (k + 1) a = some (if a = 0 then (0, 96, true) else if a = 1 then (0, 9, true) else if a = 2 then (2, 0, true) else if a = 3 then (2, 0, true) else if a = 4 then (3, 0, true) else if a = 5 then (1, 9, true) else (0, 0, false)) := by
  unfold spec_l1Shape.f
  simp only [spec_l1Shape.j0]
  repeat' split
  all_goals simp_all
theorem l1Shape_ev (a : Int) : Ev (fun k => spec_l1Shape.f k a) (if a = 0 then (0, 96, true) else if a = 1 then (0, 9, true) else if a = 2 then (2, 0, true) else if a = 3 then (2, 0, true) else if a = 4 then (3, 0, true) else if a = 5 then (1, 9, true) else (0, 0, false)) := ⟨1, fun k hk => by
  obtain ⟨m, rfl⟩ : ∃ m, k = m + 1 := ⟨k - 1, by omega⟩
  exact l1Shape_now m a⟩
theorem l6In_ev (a b c : Int) : spec_l6In.f a b c = some (decide (b ≤ a ∧ a ≤ c)) := by
  unfold spec_l6In.f
  by_cases h : a ≥ b
  · rw [if_pos h]; simp only [ge_iff_le] at h; simp [h]
  · rw [if_neg h]; simp only [ge_iff_le] at h; simp [h]
theorem l1Fit_loop (a b : Int) (ps : List Tk) (hlen : ps.length ≤ 3) (ih : ∀ p ∈ ps, Ev (fun k => spec_l1Fit.f k p.f0 p.f1 p.f2) (fitT p)) :
    ∀ (d i : Nat), d = ps.length - i → i ≤ ps.length → Ev (fun k => spec_l1Fit.l0 k (i : Int) a b ps) (fitL (ps.drop i)) := by
  intro d
  induction d with
  | zero =>
    intro i hd hi
    have e : i = ps.length := by omega
    subst e
    refine Ev.step (fun k => by rw [spec_l1Fit.l0]) ?_
    simp only [if_neg (show ¬ ((ps.length : Int) < (ps.length : Int)) by omega), List.drop_length, fitL]
    exact Ev.now true
  | succ d ihd =>
    intro i hd hi
    have hlt : i < ps.length := by omega
    have hrd := rd_tk ps i hlt
    have hmem : ps[i] ∈ ps := List.getElem_mem hlt
    rw [drop_tk ps i hlt]
    refine Ev.step (fun k => by rw [spec_l1Fit.l0]) ?_
    simp only [if_pos (show (i : Int) < (ps.length : Int) by omega), if_pos (show (0 : Int) ≤ (i : Int) by omega), hrd]
    refine Ev.bind (ih _ hmem) ?_
    simp only [fitL]
    cases h : fitT ps[i] with
    | true =>
      simp only [if_true, Bool.true_and, wrap_nat i (by omega)]
      exact ihd (i + 1) (by omega) (by omega)
    | false =>
      simp only [Bool.false_eq_true, if_false, Bool.false_and]
      exact Ev.now false
theorem l1Fit_ev : ∀ t : Tk, Ev (fun k => spec_l1Fit.f k t.f0 t.f1 t.f2) (fitT t) := by
  refine tk_ind fun t ih => ?_
  refine Ev.step (fun k => by rw [spec_l1Fit.f]) ?_
  refine Ev.bind (l1Shape_ev t.f0) ?_
  rw [fitT_eq]
  have bad : Ev (fun k => spec_l1Fit.j0 k true t.f0 t.f1 t.f2) false := by
    refine Ev.step (fun k => by rw [spec_l1Fit.j0]) ?_
    simp only [if_true]
    exact Ev.now false
  have good : t.f2.length ≤ 3 → ∀ c : Bool, Ev (fun k => spec_l1Fit.j0 k (!c) t.f0 t.f1 t.f2) (c && fitL t.f2) := by
    intro hl c
    refine Ev.step (fun k => by rw [spec_l1Fit.j0]) ?_
    cases c with
    | false =>
      simp only [Bool.not_false, if_true, Bool.false_and]
      exact Ev.now false
    | true =>
      simp only [Bool.not_true, Bool.false_eq_true, if_false, Bool.true_and]
      exact l1Fit_loop t.f0 t.f1 t.f2 hl ih t.f2.length 0 (by omega) (by omega)
  have e0 : ∀ m : Nat, ((t.f2.length : Int) = (m : Int)) = (t.f2.length = m) := fun m => by rw [eq_iff_iff]; omega
  have e1 : ((t.f2.length : Int) = 0) = (t.f2.length = 0) := e0 0
  have e2 : ((t.f2.length : Int) = 1) = (t.f2.length = 1) := e0 1
  have e3 : ((t.f2.length : Int) = 2) = (t.f2.length = 2) := e0 2
  have e4 : ((t.f2.length : Int) = 3) = (t.f2.length = 3) := e0 3
  simp only [l6In_ev, Option.bind_some]
  unfold shapeB
  by_cases h0 : t.f0 = 0
  · simp only [h0, if_true, e1] at good bad ⊢
    by_cases hl : t.f2.length = 0
    · simp only [hl, if_true, decide_true, Bool.and_true] at good ⊢
      exact good (by omega) _
    · simp only [hl, if_false, decide_false, Bool.and_false, Bool.false_and]
      exact bad
  by_cases h1 : t.f0 = 1
  · have e9 : ∀ x : Int, (0 ≤ x ∧ x < 10) = (0 ≤ x ∧ x ≤ 9) := fun x => by rw [eq_iff_iff]; omega
    simp only [h1, if_true, e1, e9, show ¬ ((1 : Int) = 0) by decide, if_false] at good bad ⊢
    by_cases hl : t.f2.length = 0
    · simp only [hl, if_true, decide_true, Bool.and_true] at good ⊢
      exact good (by omega) _
    · simp only [hl, if_false, decide_false, Bool.and_false, Bool.false_and]
      exact bad
  by_cases h2 : t.f0 = 2
  · have e9 : ∀ x : Int, (x = 0) = (0 ≤ x ∧ x ≤ 0) := fun x => by rw [eq_iff_iff]; omega
    simp only [h2, if_true, e3, e9 t.f1, show ¬ ((2 : Int) = 0) by decide, show ¬ ((2 : Int) = 1) by decide, if_false] at good bad ⊢
    by_cases hl : t.f2.length = 2
    · simp only [hl, if_true, decide_true, Bool.and_true] at good ⊢
      exact good (by omega) _
    · simp only [hl, if_false, decide_false, Bool.and_false, Bool.false_and]
      exact bad
  by_cases h3 : t.f0 = 3
  · have e9 : ∀ x : Int, (x = 0) = (0 ≤ x ∧ x ≤ 0) := fun x => by rw [eq_iff_iff]; omega
    simp only [h3, if_true, e3, e9 t.f1, show ¬ ((3 : Int) = 0) by decide, show ¬ ((3 : Int) = 1) by decide, show ¬ ((3 : Int) = 2) by decide, if_false] at good bad ⊢
    by_cases hl : t.f2.length = 2
    · simp only [hl, if_true, decide_true, Bool.and_true] at good ⊢
      exact good (by omega) _
    · simp only [hl, if_false, decide_false, Bool.and_false, Bool.false_and]
      exact bad
  by_cases h4 : t.f0 = 4
  · have e9 : ∀ x : Int, (x = 0) = (0 ≤ x ∧ x ≤ 0) := fun x => by rw [eq_iff_iff]; omega
    simp only [h4, if_true, e4, e9 t.f1, show ¬ ((4 : Int) = 0) by decide, show ¬ ((4 : Int) = 1) by decide, show ¬ ((4 : Int) = 2) by decide, show ¬ ((4 : Int) = 3) by decide, if_false] at good bad ⊢
    by_cases hl : t.f2.length = 3
    · simp only [hl, if_true, decide_true, Bool.and_true] at good ⊢
      exact good (by omega) _
    · simp only [hl, if_false, decide_false, Bool.and_false, Bool.false_and]
      exact bad
  by_cases h5 : t.f0 = 5
  · have e9 : ∀ x : Int, (0 ≤ x ∧ x < 10) = (0 ≤ x ∧ x ≤ 9) := fun x => by rw [eq_iff_iff]; omega
    simp only [h5, if_true, e2, e9 t.f1, show ¬ ((5 : Int) = 0) by decide, show ¬ ((5 : Int) = 1) by decide, show ¬ ((5 : Int) = 2) by decide, show ¬ ((5 : Int) = 3) by decide, show ¬ ((5 : Int) = 4) by decide, if_false] at good bad ⊢
    by_cases hl : t.f2.length = 1
    · simp only [hl, if_true, decide_true, Bool.and_true] at good ⊢
      exact good (by omega) _
    · simp only [hl, if_false, decide_false, Bool.and_false, Bool.false_and]
      exact bad
  · simp only [h0, h1, h2, h3, h4, h5, if_false, Bool.false_eq_true, Bool.false_and]
    exact bad
theorem l1Nodes_loop (a b : Int) (ps : List Tk) (hlen : ps.length ≤ 4000000000) (ih : ∀ p ∈ ps, (nodT p : Int) ≤ 4000000000 → Ev (fun k => spec_l1Nodes.f k p.f0 p.f1 p.f2) (nodT p : Int)) :
    ∀ (d i : Nat) (n : Int), d = ps.length - i → i ≤ ps.length → 0 ≤ n → n + (nodL (ps.drop i) : Int) ≤ 4000000000 → Ev (fun k => spec_l1Nodes.l0 k n (i : Int) a b ps) (n + nodL (ps.drop i)) := by
  intro d
  induction d with
  | zero =>
    intro i n hd hi hn hb
    have e : i = ps.length := by omega
    subst e
    refine Ev.step (fun k => by rw [spec_l1Nodes.l0]) ?_
    simp only [if_neg (show ¬ ((ps.length : Int) < (ps.length : Int)) by omega), List.drop_length, nodL]
    exact Ev.eq (Ev.now n) (by omega)
  | succ d ihd =>
    intro i n hd hi hn hb
    have hlt : i < ps.length := by omega
    have hrd := rd_tk ps i hlt
    have hmem : ps[i] ∈ ps := List.getElem_mem hlt
    rw [drop_tk ps i hlt] at hb ⊢
    simp only [nodL] at hb ⊢
    refine Ev.step (fun k => by rw [spec_l1Nodes.l0]) ?_
    simp only [if_pos (show (i : Int) < (ps.length : Int) by omega), if_pos (show (0 : Int) ≤ (i : Int) by omega), hrd]
    refine Ev.bind (ih _ hmem (by omega)) ?_
    simp only [wrap_nat i (by omega), wrap_id (n + (nodT ps[i] : Int)) (by omega) (by omega)]
    exact Ev.eq (ihd (i + 1) (n + nodT ps[i]) (by omega) (by omega) (by omega) (by omega)) (by omega)
theorem l1Nodes_ev : ∀ t : Tk, (nodT t : Int) ≤ 4000000000 → Ev (fun k => spec_l1Nodes.f k t.f0 t.f1 t.f2) (nodT t : Int) := by
  refine tk_ind fun t ih hb => ?_
  rw [nodT_eq] at hb ⊢
  have := nodL_len t.f2
  refine Ev.step (fun k => by rw [spec_l1Nodes.f]) ?_
  exact Ev.eq (l1Nodes_loop t.f0 t.f1 t.f2 (by omega) ih t.f2.length 0 1 (by omega) (by omega) (by omega) (by rw [List.drop_zero]; omega)) (by rw [List.drop_zero]; omega)
theorem specOk_ev (t : Tk) (hb : (nodT t : Int) ≤ 4000000000) : Ev (fun k => spec_TaskOk.f k t.f0 t.f1 t.f2) (okT t) := by
  unfold spec_TaskOk.f
  refine Ev.bind (l1Fit_ev t) ?_
  unfold okT
  cases h : fitT t with
  | false =>
    simp only [Bool.false_eq_true, if_false, Bool.false_and]
    exact Ev.now false
  | true =>
    simp only [if_true, Bool.true_and]
    refine Ev.bind (l1Nodes_ev t hb) ?_
    refine Ev.of_eq ?_
    congr 1
    rw [Bool.eq_iff_iff]
    simp only [decide_eq_true_eq]
    omega
end Go.Proofs.Ytofieekbhbkliaa.G
end
