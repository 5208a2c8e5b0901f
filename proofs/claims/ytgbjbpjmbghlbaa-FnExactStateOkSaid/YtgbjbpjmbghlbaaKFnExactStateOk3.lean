-- Written by pack.py (ours): the claim's texts, cut down to what its theorem reaches.
import Derived.Test.YtgbjbpjmbghlbaaKFnExactStateOk2
section
namespace Go.Proofs.Ytgbjbpjmbghlbaa.G
open Go.RowKit Go.Proofs.YtgbjbpjmbghlbaaW.PrintWords Go.Proofs.YtgbjbpjmbghlbaaW.PrintLast Go.Proofs.YtgbjbpjmbghlbaaW.PrintMore
attribute [local go_sem] max2_int min2_int max_two min_two max_three min_three max_four min_four
set_option linter.unusedVariables false
set_option linter.unusedSimpArgs false
def laws_szBoolS.f (l0 : List Bool) (a1 : Int) : Option (Int) := if (wrap64 (a1 - (l0.length : Int))) < 0 then (some (-1)) else (some (wrap64 (a1 - (l0.length : Int))))
set_option maxHeartbeats 8000000 in
set_option maxRecDepth 100000 in
theorem laws_szBoolS.calls (A0 : Option Addr) (c0 : Nat) (l0 : List Bool) (a1 : Int) (r : Int) (w : World) (hr0 : Kd.C Kd.bool w A0 l0.length l0) (hc0 : l0.length ≤ c0) (h : laws_szBoolS.f l0 a1 = some r) :
    Calls Try.prog 83 #[.slice A0 l0.length c0, .int .i64 a1] w fun e w' => e = .returned (.int .i64 r) ∧ Drawn0 w w' := by
  have HR0 := qM hr0
  have HC0 := qM hc0
  clear hr0 hc0
  have H : (if (wrap64 (a1 - (l0.length : Int))) < 0 then (some (-1)) else (some (wrap64 (a1 - (l0.length : Int))))) = some r := h
  clear h
  by_cases c3 : (wrap64 (a1 - (l0.length : Int))) < 0
  rotate_left
  · rw [if_neg c3] at H
    have c3b0 : decide ((wrap64 (a1 - (l0.length : Int))) < 0) = false := decide_eq_false c3
    clear c3
    obtain rfl := Option.some.inj H
    go_enter Try.func83, Try.ntmps83
    go_wp2
    go_ret
    exact ⟨by first | rfl | (simp; done) | (simp [*]; done), by repeat (first | exact Drawn0.refl _ | apply Drawn0.step)⟩
  rw [if_pos c3] at H
  have c3b0 : decide ((wrap64 (a1 - (l0.length : Int))) < 0) = true := decide_eq_true c3
  clear c3
  obtain rfl := Option.some.inj H
  go_enter Try.func83, Try.ntmps83
  go_wp2
  go_ret
  exact ⟨by first | rfl | (simp; done) | (simp [*]; done), by repeat (first | exact Drawn0.refl _ | apply Drawn0.step)⟩
def laws_szSheet.f (k : Nat) (l0_0 : List Bool) (l0_1 : List (S24)) (a1 : Int) : Option (Int) := (laws_szBoolS.f l0_0 a1).bind fun t477 => (if t477 < 0 then (some (-1)) else ((laws_szTaskS.f k l0_1 t477).bind fun t478 => (if t478 < 0 then (some (-1)) else (some t478))))
set_option maxHeartbeats 8000000 in
set_option maxRecDepth 100000 in
theorem laws_szSheet.calls (k : Nat) (A0_0 : Option Addr) (c0_0 : Nat) (l0_0 : List Bool) (A0_1 : Option Addr) (c0_1 : Nat) (l0_1 : List (S24)) (a1 : Int) (r : Int) (w : World) (hr0_0 : Kd.C Kd.bool w A0_0 l0_0.length l0_0) (hc0_0 : l0_0.length ≤ c0_0) (hr0_1 : Kd.C k24 w A0_1 l0_1.length l0_1) (hc0_1 : l0_1.length ≤ c0_1) (h : laws_szSheet.f k l0_0 l0_1 a1 = some r) :
    Calls Try.prog 32 #[.agg #[.slice A0_0 l0_0.length c0_0, .slice A0_1 l0_1.length c0_1], .int .i64 a1] w fun e w' => e = .returned (.int .i64 r) ∧ Below w.heap.size w w' := by
  have hu48 := Try.underlying48
  have HR0_0 := qM hr0_0
  have HC0_0 := qM hc0_0
  clear hr0_0 hc0_0
  have HR0_1 := qM hr0_1
  have HC0_1 := qM hc0_1
  clear hr0_1 hc0_1
  have HB := qM (Below.refl w.heap.size w)
  have H : ((laws_szBoolS.f l0_0 a1).bind fun t477 => (if t477 < 0 then (some (-1)) else ((laws_szTaskS.f k l0_1 t477).bind fun t478 => (if t478 < 0 then (some (-1)) else (some t478))))) = some r := h
  clear h
  replace H := Option.bind_eq_some_iff.mp H
  obtain ⟨t477, A30, H⟩ := H
  replace H : (if t477 < 0 then (some (-1)) else ((laws_szTaskS.f k l0_1 t477).bind fun t478 => (if t478 < 0 then (some (-1)) else (some t478)))) = some r := H
  have A3 := qM A30
  clear A30
  by_cases c4 : t477 < 0
  · rw [if_pos c4] at H
    have c4b0 : decide (t477 < 0) = true := decide_eq_true c4
    clear c4
    obtain rfl := Option.some.inj H
    go_enter Try.func32, Try.ntmps32
    go_wp2_with (first | ((with_reducible refine gate_dst (N := 2) rfl ?_); refine box_event ?hg (N := 2) ?hd (cs := #[.slice A0_0 l0_0.length c0_0, .slice A0_1 l0_1.length c0_1]) (t := 48) ?hr ?_; (case hd => rfl); (case hg => rfl); (case hr => first | (go_simp; done) | (go_simp; rfl)); intro gb476 hg w5 hbox hb; have n0_ := qM (qs (by repeat (first | (with_reducible first | exact HB.out | apply qA | apply qN | apply qD) | exact HB.out)) hb); have n1_ := qM (hbox); have n2_ := qM ((by rw [hg]; exact (qz (by repeat (first | (with_reducible first | exact HB.out | apply qA | apply qN | apply qD) | exact HB.out))) : w.heap.size ≤ gb476)); have n3_ := qM ((by rw [hg]; exact (qz (by repeat (first | (with_reducible first | exact HB.out | apply qA | apply qN | apply qD) | exact HB.out))) : w.heap.size ≤ gb476)); clear HB; have HB := n0_; have BK476 := n1_; have GW476 := n2_; have GE476 := n3_; clear n0_ n1_ n2_ n3_; clear hb hbox hg; have hcz6_0 : w5.cell? ⟨gb476, 0, none⟩ = some (.slice A0_0 l0_0.length c0_0) := (qC BK476.out 0).trans rfl; have hcz6_1 : w5.cell? ⟨gb476, 1, none⟩ = some (.slice A0_1 l0_1.length c0_1) := (qC BK476.out 1).trans rfl; have hfz6_0 := qF BK476.out 0; have hfz6_1 := qF BK476.out 1) | ((with_reducible refine gate_callee (f := 83) rfl ?_); refine goesL_ (some 8) rfl rfl Try.func83 (by kernel_rfl) rfl #[.slice A0_0 l0_0.length c0_0, .int .i64 a1] rfl (by (try simp only [List.map_toArray, List.map_cons, List.map_nil]); first | done | rfl | (simp only [List.length_drop, List.length_take]; rfl)) ?_; (with_reducible refine (laws_szBoolS.calls _ _ l0_0 a1 t477 _ ?side1 ?side2 A3.out).mono ?_); (case side1 => repeat (first | exact (qB HR0_0.out HB.out) | (with_reducible refine qc ?_ _) | (with_reducible refine qe ?_ _) | (with_reducible refine qf ?_))); (case side2 => exact HC0_0.out); rintro e w' ⟨rfl, ⟨nd, rfl⟩⟩; refine ⟨_, rfl, ?_⟩))
    go_ret
    exact ⟨by first | rfl | (simp [errW_none, errW_some] <;> rfl) | (simp [*, errW_none, errW_some] <;> rfl), by repeat (first | (with_reducible first | exact HB.out | apply qA | apply qN | apply qD | refine qS ?_ GE476.out) | exact HB.out)⟩
  rw [if_neg c4] at H
  have c4b0 : decide (t477 < 0) = false := decide_eq_false c4
  clear c4
  replace H := Option.bind_eq_some_iff.mp H
  obtain ⟨t478, A70, H⟩ := H
  replace H : (if t478 < 0 then (some (-1)) else (some t478)) = some r := H
  have A7 := qM A70
  clear A70
  by_cases c8 : t478 < 0
  rotate_left
  · rw [if_neg c8] at H
    have c8b0 : decide (t478 < 0) = false := decide_eq_false c8
    clear c8
    obtain rfl := Option.some.inj H
    go_enter Try.func32, Try.ntmps32
    go_wp2_with (first | ((with_reducible refine gate_dst (N := 2) rfl ?_); refine box_event ?hg (N := 2) ?hd (cs := #[.slice A0_0 l0_0.length c0_0, .slice A0_1 l0_1.length c0_1]) (t := 48) ?hr ?_; (case hd => rfl); (case hg => rfl); (case hr => first | (go_simp; done) | (go_simp; rfl)); intro gb476 hg w12 hbox hb; have n0_ := qM (qs (by repeat (first | (with_reducible first | exact HB.out | apply qA | apply qN | apply qD) | exact HB.out)) hb); have n1_ := qM (hbox); have n2_ := qM ((by rw [hg]; exact (qz (by repeat (first | (with_reducible first | exact HB.out | apply qA | apply qN | apply qD) | exact HB.out))) : w.heap.size ≤ gb476)); have n3_ := qM ((by rw [hg]; exact (qz (by repeat (first | (with_reducible first | exact HB.out | apply qA | apply qN | apply qD) | exact HB.out))) : w.heap.size ≤ gb476)); clear HB; have HB := n0_; have BK476 := n1_; have GW476 := n2_; have GE476 := n3_; clear n0_ n1_ n2_ n3_; clear hb hbox hg; have hcz13_0 : w12.cell? ⟨gb476, 0, none⟩ = some (.slice A0_0 l0_0.length c0_0) := (qC BK476.out 0).trans rfl; have hcz13_1 : w12.cell? ⟨gb476, 1, none⟩ = some (.slice A0_1 l0_1.length c0_1) := (qC BK476.out 1).trans rfl; have hfz13_0 := qF BK476.out 0; have hfz13_1 := qF BK476.out 1) | ((with_reducible refine gate_callee (f := 83) rfl ?_); refine goesL_ (some 8) rfl rfl Try.func83 (by kernel_rfl) rfl #[.slice A0_0 l0_0.length c0_0, .int .i64 a1] rfl (by (try simp only [List.map_toArray, List.map_cons, List.map_nil]); first | done | rfl | (simp only [List.length_drop, List.length_take]; rfl)) ?_; (with_reducible refine (laws_szBoolS.calls _ _ l0_0 a1 t477 _ ?side1 ?side2 A3.out).mono ?_); (case side1 => repeat (first | exact (qB HR0_0.out HB.out) | (with_reducible refine qc ?_ _) | (with_reducible refine qe ?_ _) | (with_reducible refine qf ?_))); (case side2 => exact HC0_0.out); rintro e w' ⟨rfl, ⟨nd, rfl⟩⟩; refine ⟨_, rfl, ?_⟩) | ((with_reducible refine gate_callee (f := 68) rfl ?_); refine goesL_ (some 14) rfl rfl Try.func68 (by kernel_rfl) rfl #[.slice A0_1 l0_1.length c0_1, .int .i64 t477] rfl (by (try simp only [List.map_toArray, List.map_cons, List.map_nil]); first | done | rfl | (simp only [List.length_drop, List.length_take]; rfl)) ?_; (with_reducible refine (laws_szTaskS.calls k _ _ l0_1 t477 t478 _ ?side1 ?side2 A7.out).mono ?_); (case side1 => repeat (first | exact (qB HR0_1.out (by repeat (first | (with_reducible first | exact HB.out | apply qA | apply qN | apply qD | refine qS ?_ GE476.out) | exact HB.out))) | (with_reducible refine qc ?_ _) | (with_reducible refine qe ?_ _) | (with_reducible refine qf ?_))); (case side2 => exact HC0_1.out); rintro e w14 ⟨rfl, hb⟩; refine ⟨_, rfl, ?_⟩; have n0_ := qM (blk_below (g := gb476) (o := .cells #[.slice A0_0 l0_0.length c0_0, .slice A0_1 l0_1.length c0_1] 48 (0, 0)) (by (with_reducible repeat (first | refine qn ?_ _ | refine qd ?_ | refine qa ?_ _)); exact BK476.out) hb); have n1_ := qM (qs (by repeat (first | (with_reducible first | exact HB.out | apply qA | apply qN | apply qD | refine qS ?_ GE476.out) | exact HB.out)) hb); clear BK476; clear HB; have BK476 := n0_; have HB := n1_; clear n0_ n1_; (try clear hb); (try clear hb2); (try clear hk); (try clear hi)))
    go_ret
    exact ⟨by first | rfl | (simp [errW_none, errW_some] <;> rfl) | (simp [*, errW_none, errW_some] <;> rfl), by repeat (first | (with_reducible first | exact HB.out | apply qA | apply qN | apply qD | refine qS ?_ GE476.out) | exact HB.out)⟩
  rw [if_pos c8] at H
  have c8b0 : decide (t478 < 0) = true := decide_eq_true c8
  clear c8
  obtain rfl := Option.some.inj H
  go_enter Try.func32, Try.ntmps32
  go_wp2_with (first | ((with_reducible refine gate_dst (N := 2) rfl ?_); refine box_event ?hg (N := 2) ?hd (cs := #[.slice A0_0 l0_0.length c0_0, .slice A0_1 l0_1.length c0_1]) (t := 48) ?hr ?_; (case hd => rfl); (case hg => rfl); (case hr => first | (go_simp; done) | (go_simp; rfl)); intro gb476 hg w9 hbox hb; have n0_ := qM (qs (by repeat (first | (with_reducible first | exact HB.out | apply qA | apply qN | apply qD) | exact HB.out)) hb); have n1_ := qM (hbox); have n2_ := qM ((by rw [hg]; exact (qz (by repeat (first | (with_reducible first | exact HB.out | apply qA | apply qN | apply qD) | exact HB.out))) : w.heap.size ≤ gb476)); have n3_ := qM ((by rw [hg]; exact (qz (by repeat (first | (with_reducible first | exact HB.out | apply qA | apply qN | apply qD) | exact HB.out))) : w.heap.size ≤ gb476)); clear HB; have HB := n0_; have BK476 := n1_; have GW476 := n2_; have GE476 := n3_; clear n0_ n1_ n2_ n3_; clear hb hbox hg; have hcz10_0 : w9.cell? ⟨gb476, 0, none⟩ = some (.slice A0_0 l0_0.length c0_0) := (qC BK476.out 0).trans rfl; have hcz10_1 : w9.cell? ⟨gb476, 1, none⟩ = some (.slice A0_1 l0_1.length c0_1) := (qC BK476.out 1).trans rfl; have hfz10_0 := qF BK476.out 0; have hfz10_1 := qF BK476.out 1) | ((with_reducible refine gate_callee (f := 83) rfl ?_); refine goesL_ (some 8) rfl rfl Try.func83 (by kernel_rfl) rfl #[.slice A0_0 l0_0.length c0_0, .int .i64 a1] rfl (by (try simp only [List.map_toArray, List.map_cons, List.map_nil]); first | done | rfl | (simp only [List.length_drop, List.length_take]; rfl)) ?_; (with_reducible refine (laws_szBoolS.calls _ _ l0_0 a1 t477 _ ?side1 ?side2 A3.out).mono ?_); (case side1 => repeat (first | exact (qB HR0_0.out HB.out) | (with_reducible refine qc ?_ _) | (with_reducible refine qe ?_ _) | (with_reducible refine qf ?_))); (case side2 => exact HC0_0.out); rintro e w' ⟨rfl, ⟨nd, rfl⟩⟩; refine ⟨_, rfl, ?_⟩) | ((with_reducible refine gate_callee (f := 68) rfl ?_); refine goesL_ (some 14) rfl rfl Try.func68 (by kernel_rfl) rfl #[.slice A0_1 l0_1.length c0_1, .int .i64 t477] rfl (by (try simp only [List.map_toArray, List.map_cons, List.map_nil]); first | done | rfl | (simp only [List.length_drop, List.length_take]; rfl)) ?_; (with_reducible refine (laws_szTaskS.calls k _ _ l0_1 t477 t478 _ ?side1 ?side2 A7.out).mono ?_); (case side1 => repeat (first | exact (qB HR0_1.out (by repeat (first | (with_reducible first | exact HB.out | apply qA | apply qN | apply qD | refine qS ?_ GE476.out) | exact HB.out))) | (with_reducible refine qc ?_ _) | (with_reducible refine qe ?_ _) | (with_reducible refine qf ?_))); (case side2 => exact HC0_1.out); rintro e w11 ⟨rfl, hb⟩; refine ⟨_, rfl, ?_⟩; have n0_ := qM (blk_below (g := gb476) (o := .cells #[.slice A0_0 l0_0.length c0_0, .slice A0_1 l0_1.length c0_1] 48 (0, 0)) (by (with_reducible repeat (first | refine qn ?_ _ | refine qd ?_ | refine qa ?_ _)); exact BK476.out) hb); have n1_ := qM (qs (by repeat (first | (with_reducible first | exact HB.out | apply qA | apply qN | apply qD | refine qS ?_ GE476.out) | exact HB.out)) hb); clear BK476; clear HB; have BK476 := n0_; have HB := n1_; clear n0_ n1_; (try clear hb); (try clear hb2); (try clear hk); (try clear hi)))
  go_ret
  exact ⟨by first | rfl | (simp [errW_none, errW_some] <;> rfl) | (simp [*, errW_none, errW_some] <;> rfl), by repeat (first | (with_reducible first | exact HB.out | apply qA | apply qN | apply qD | refine qS ?_ GE476.out) | exact HB.out)⟩
def laws_szFetchS.f (l0 : List (S165)) (a1 : Int) : Option (Int) := if (wrap64 (a1 - (l0.length : Int))) < 0 then (some (-1)) else (some (wrap64 (a1 - (l0.length : Int))))
set_option maxHeartbeats 8000000 in
set_option maxRecDepth 100000 in
theorem laws_szFetchS.calls (A0 : Option Addr) (c0 : Nat) (l0 : List (S165)) (a1 : Int) (r : Int) (w : World) (hr0 : Kd.C k165 w A0 l0.length l0) (hc0 : l0.length ≤ c0) (h : laws_szFetchS.f l0 a1 = some r) :
    Calls Try.prog 107 #[.slice A0 l0.length c0, .int .i64 a1] w fun e w' => e = .returned (.int .i64 r) ∧ Drawn0 w w' := by
  have HR0 := qM hr0
  have HC0 := qM hc0
  clear hr0 hc0
  have H : (if (wrap64 (a1 - (l0.length : Int))) < 0 then (some (-1)) else (some (wrap64 (a1 - (l0.length : Int))))) = some r := h
  clear h
  by_cases c3 : (wrap64 (a1 - (l0.length : Int))) < 0
  rotate_left
  · rw [if_neg c3] at H
    have c3b0 : decide ((wrap64 (a1 - (l0.length : Int))) < 0) = false := decide_eq_false c3
    clear c3
    obtain rfl := Option.some.inj H
    go_enter Try.func107, Try.ntmps107
    go_wp2
    go_ret
    exact ⟨by first | rfl | (simp; done) | (simp [*]; done), by repeat (first | exact Drawn0.refl _ | apply Drawn0.step)⟩
  rw [if_pos c3] at H
  have c3b0 : decide ((wrap64 (a1 - (l0.length : Int))) < 0) = true := decide_eq_true c3
  clear c3
  obtain rfl := Option.some.inj H
  go_enter Try.func107, Try.ntmps107
  go_wp2
  go_ret
  exact ⟨by first | rfl | (simp; done) | (simp [*]; done), by repeat (first | exact Drawn0.refl _ | apply Drawn0.step)⟩
def laws_szTrace.f (a0_0 : Int) (l0_1 : List (S165)) (a0_2 : Int) (a1 : Int) : Option (Int) := (laws_szFetchS.f l0_1 a1).bind fun t480 => (if t480 < 0 then (some (-1)) else (some t480))
set_option maxHeartbeats 8000000 in
set_option maxRecDepth 100000 in
theorem laws_szTrace.calls (a0_0 : Int) (A0_1 : Option Addr) (c0_1 : Nat) (l0_1 : List (S165)) (a0_2 : Int) (a1 : Int) (r : Int) (w : World) (hr0_1 : Kd.C k165 w A0_1 l0_1.length l0_1) (hc0_1 : l0_1.length ≤ c0_1) (h : laws_szTrace.f a0_0 l0_1 a0_2 a1 = some r) :
    Calls Try.prog 52 #[.agg #[.int .i64 a0_0, .slice A0_1 l0_1.length c0_1, .int .i64 a0_2], .int .i64 a1] w fun e w' => e = .returned (.int .i64 r) ∧ Below w.heap.size w w' := by
  have hu81 := Try.underlying81
  have HR0_1 := qM hr0_1
  have HC0_1 := qM hc0_1
  clear hr0_1 hc0_1
  have HB := qM (Below.refl w.heap.size w)
  have H : ((laws_szFetchS.f l0_1 a1).bind fun t480 => (if t480 < 0 then (some (-1)) else (some t480))) = some r := h
  clear h
  replace H := Option.bind_eq_some_iff.mp H
  obtain ⟨t480, A30, H⟩ := H
  replace H : (if t480 < 0 then (some (-1)) else (some t480)) = some r := H
  have A3 := qM A30
  clear A30
  by_cases c4 : t480 < 0
  rotate_left
  · rw [if_neg c4] at H
    have c4b0 : decide (t480 < 0) = false := decide_eq_false c4
    clear c4
    obtain rfl := Option.some.inj H
    go_enter Try.func52, Try.ntmps52
    go_wp2_with (first | ((with_reducible refine gate_dst (N := 2) rfl ?_); refine box_event ?hg (N := 2) ?hd (cs := #[.int .i64 a0_0, .slice A0_1 l0_1.length c0_1, .int .i64 a0_2]) (t := 81) ?hr ?_; (case hd => rfl); (case hg => rfl); (case hr => first | (go_simp; done) | (go_simp; rfl)); intro gb479 hg w7 hbox hb; have n0_ := qM (qs (by repeat (first | (with_reducible first | exact HB.out | apply qA | apply qN | apply qD) | exact HB.out)) hb); have n1_ := qM (hbox); have n2_ := qM ((by rw [hg]; exact (qz (by repeat (first | (with_reducible first | exact HB.out | apply qA | apply qN | apply qD) | exact HB.out))) : w.heap.size ≤ gb479)); have n3_ := qM ((by rw [hg]; exact (qz (by repeat (first | (with_reducible first | exact HB.out | apply qA | apply qN | apply qD) | exact HB.out))) : w.heap.size ≤ gb479)); clear HB; have HB := n0_; have BK479 := n1_; have GW479 := n2_; have GE479 := n3_; clear n0_ n1_ n2_ n3_; clear hb hbox hg; have hcz8_0 : w7.cell? ⟨gb479, 0, none⟩ = some (.int .i64 a0_0) := (qC BK479.out 0).trans rfl; have hcz8_1 : w7.cell? ⟨gb479, 1, none⟩ = some (.slice A0_1 l0_1.length c0_1) := (qC BK479.out 1).trans rfl; have hcz8_2 : w7.cell? ⟨gb479, 2, none⟩ = some (.int .i64 a0_2) := (qC BK479.out 2).trans rfl; have hfz8_0 := qF BK479.out 0; have hfz8_1 := qF BK479.out 1; have hfz8_2 := qF BK479.out 2) | ((with_reducible refine gate_callee (f := 107) rfl ?_); refine goesL_ (some 8) rfl rfl Try.func107 (by kernel_rfl) rfl #[.slice A0_1 l0_1.length c0_1, .int .i64 a1] rfl (by (try simp only [List.map_toArray, List.map_cons, List.map_nil]); first | done | rfl | (simp only [List.length_drop, List.length_take]; rfl)) ?_; (with_reducible refine (laws_szFetchS.calls _ _ l0_1 a1 t480 _ ?side1 ?side2 A3.out).mono ?_); (case side1 => repeat (first | exact (qB HR0_1.out HB.out) | (with_reducible refine qc ?_ _) | (with_reducible refine qe ?_ _) | (with_reducible refine qf ?_))); (case side2 => exact HC0_1.out); rintro e w' ⟨rfl, ⟨nd, rfl⟩⟩; refine ⟨_, rfl, ?_⟩))
    go_ret
    exact ⟨by first | rfl | (simp [errW_none, errW_some] <;> rfl) | (simp [*, errW_none, errW_some] <;> rfl), by repeat (first | (with_reducible first | exact HB.out | apply qA | apply qN | apply qD | refine qS ?_ GE479.out) | exact HB.out)⟩
  rw [if_pos c4] at H
  have c4b0 : decide (t480 < 0) = true := decide_eq_true c4
  clear c4
  obtain rfl := Option.some.inj H
  go_enter Try.func52, Try.ntmps52
  go_wp2_with (first | ((with_reducible refine gate_dst (N := 2) rfl ?_); refine box_event ?hg (N := 2) ?hd (cs := #[.int .i64 a0_0, .slice A0_1 l0_1.length c0_1, .int .i64 a0_2]) (t := 81) ?hr ?_; (case hd => rfl); (case hg => rfl); (case hr => first | (go_simp; done) | (go_simp; rfl)); intro gb479 hg w5 hbox hb; have n0_ := qM (qs (by repeat (first | (with_reducible first | exact HB.out | apply qA | apply qN | apply qD) | exact HB.out)) hb); have n1_ := qM (hbox); have n2_ := qM ((by rw [hg]; exact (qz (by repeat (first | (with_reducible first | exact HB.out | apply qA | apply qN | apply qD) | exact HB.out))) : w.heap.size ≤ gb479)); have n3_ := qM ((by rw [hg]; exact (qz (by repeat (first | (with_reducible first | exact HB.out | apply qA | apply qN | apply qD) | exact HB.out))) : w.heap.size ≤ gb479)); clear HB; have HB := n0_; have BK479 := n1_; have GW479 := n2_; have GE479 := n3_; clear n0_ n1_ n2_ n3_; clear hb hbox hg; have hcz6_0 : w5.cell? ⟨gb479, 0, none⟩ = some (.int .i64 a0_0) := (qC BK479.out 0).trans rfl; have hcz6_1 : w5.cell? ⟨gb479, 1, none⟩ = some (.slice A0_1 l0_1.length c0_1) := (qC BK479.out 1).trans rfl; have hcz6_2 : w5.cell? ⟨gb479, 2, none⟩ = some (.int .i64 a0_2) := (qC BK479.out 2).trans rfl; have hfz6_0 := qF BK479.out 0; have hfz6_1 := qF BK479.out 1; have hfz6_2 := qF BK479.out 2) | ((with_reducible refine gate_callee (f := 107) rfl ?_); refine goesL_ (some 8) rfl rfl Try.func107 (by kernel_rfl) rfl #[.slice A0_1 l0_1.length c0_1, .int .i64 a1] rfl (by (try simp only [List.map_toArray, List.map_cons, List.map_nil]); first | done | rfl | (simp only [List.length_drop, List.length_take]; rfl)) ?_; (with_reducible refine (laws_szFetchS.calls _ _ l0_1 a1 t480 _ ?side1 ?side2 A3.out).mono ?_); (case side1 => repeat (first | exact (qB HR0_1.out HB.out) | (with_reducible refine qc ?_ _) | (with_reducible refine qe ?_ _) | (with_reducible refine qf ?_))); (case side2 => exact HC0_1.out); rintro e w' ⟨rfl, ⟨nd, rfl⟩⟩; refine ⟨_, rfl, ?_⟩))
  go_ret
  exact ⟨by first | rfl | (simp [errW_none, errW_some] <;> rfl) | (simp [*, errW_none, errW_some] <;> rfl), by repeat (first | (with_reducible first | exact HB.out | apply qA | apply qN | apply qD | refine qS ?_ GE479.out) | exact HB.out)⟩
def laws_szTraceS.l0 : Nat → List (S81) → Int → Int → Option (Int)
  | 0, _, _, _ => none
  | k + 1, x0, x1, x5 => if x5 < (x0.length : Int) then (if 0 ≤ x5 then ((laws_szTrace.f ((rd_T81 x0 x5).f0) ((rd_T81 x0 x5).f1) ((rd_T81 x0 x5).f2) x1).bind fun t482 => (if t482 < 0 then (some (-1)) else (laws_szTraceS.l0 k x0 t482 (wrap64 (x5 + 1))))) else (none)) else (some x1)
def laws_szTraceS.f (k : Nat) (l0 : List (S81)) (a1 : Int) : Option (Int) := if (wrap64 (a1 - (l0.length : Int))) < 0 then (some (-1)) else (laws_szTraceS.l0 k l0 (wrap64 (a1 - (l0.length : Int))) 0)
set_option maxHeartbeats 8000000 in
set_option maxRecDepth 100000 in
theorem laws_szTraceS.calls (k : Nat) (A0 : Option Addr) (c0 : Nat) (l0 : List (S81)) (a1 : Int) (r : Int) (w : World) (hr0 : Kd.C k81 w A0 l0.length l0) (hc0 : l0.length ≤ c0) (h : laws_szTraceS.f k l0 a1 = some r) :
    Calls Try.prog 40 #[.slice A0 l0.length c0, .int .i64 a1] w fun e w' => e = .returned (.int .i64 r) ∧ Below w.heap.size w w' := by
  have hu81 := Try.underlying81
  have HR0 := qM hr0
  have HC0 := qM hc0
  clear hr0 hc0
  have HB := qM (Below.refl w.heap.size w)
  have H : (if (wrap64 (a1 - (l0.length : Int))) < 0 then (some (-1)) else (laws_szTraceS.l0 k l0 (wrap64 (a1 - (l0.length : Int))) 0)) = some r := h
  clear h
  by_cases c3 : (wrap64 (a1 - (l0.length : Int))) < 0
  · rw [if_pos c3] at H
    have c3b0 : decide ((wrap64 (a1 - (l0.length : Int))) < 0) = true := decide_eq_true c3
    clear c3
    obtain rfl := Option.some.inj H
    go_enter Try.func40, Try.ntmps40
    go_wp2
    go_ret
    exact ⟨by first | rfl | (simp [errW_none, errW_some] <;> rfl) | (simp [*, errW_none, errW_some] <;> rfl), by repeat (first | (with_reducible first | exact HB.out | apply qA | apply qN | apply qD) | exact HB.out)⟩
  rw [if_neg c3] at H
  have c3b0 : decide ((wrap64 (a1 - (l0.length : Int))) < 0) = false := decide_eq_false c3
  clear c3
  have H' := qM H
  clear H
  go_enter Try.func40, Try.ntmps40
  go_wp2
  go_loopg [1, 5] k (fun kq v1 v5 w' => ∃ (x1_1 : Int) (x5_1 : Int), v1 = .int .i64 x1_1 ∧ v5 = .int .i64 x5_1 ∧ Aside0 (laws_szTraceS.l0 kq l0 x1_1 x5_1 = some r) ∧ Aside0 (kq ≤ k) ∧ Aside0 (Below w.heap.size w w'))
  case atStart => exact ⟨(wrap64 (a1 - (l0.length : Int))), (0), (by first | rfl | (simp; done) | (simp [*]; done)), (by first | rfl | (simp; done) | (simp [*]; done)), H', ⟨Nat.le_refl _⟩, ⟨by repeat (first | (with_reducible first | exact HB.out | apply qA | apply qN | apply qD) | exact HB.out)⟩⟩
  case round =>
    clear H'
    try clear p2
    try clear c3
    try clear c3b0
    obtain ⟨x1_1, x5_1, rfl, rfl, HA, HK1, HB⟩ := hrel
    cases gk with
    | zero => exact absurd HA.out (by simp [laws_szTraceS.l0])
    | succ k1 =>
      have H := HA.out
      clear HA
      simp only [laws_szTraceS.l0] at H
      by_cases c4 : x5_1 < (l0.length : Int)
      rotate_left
      · rw [if_neg c4] at H
        have c4b0 : decide (x5_1 < (l0.length : Int)) = false := decide_eq_false c4
        clear c4
        obtain rfl := Option.some.inj H
        go_wp2
        go_ret
        exact ⟨by first | rfl | (simp [errW_none, errW_some] <;> rfl) | (simp [*, errW_none, errW_some] <;> rfl), by repeat (first | (with_reducible first | exact HB.out | apply qA | apply qN | apply qD) | exact HB.out)⟩
      rw [if_pos c4] at H
      have c4b0 : decide (x5_1 < (l0.length : Int)) = true := decide_eq_true c4
      clear c4
      by_cases c5 : 0 ≤ x5_1
      rotate_left
      · rw [if_neg c5] at H
        exact absurd H (by simp)
      rw [if_pos c5] at H
      have c5b0 : decide (0 ≤ x5_1) = true := decide_eq_true c5
      clear c5
      replace H := Option.bind_eq_some_iff.mp H
      obtain ⟨t482, A60, H⟩ := H
      replace H : (if t482 < 0 then (some (-1)) else (laws_szTraceS.l0 k1 l0 t482 (wrap64 (x5_1 + 1)))) = some r := H
      have A6 := qM A60
      clear A60
      by_cases c7 : t482 < 0
      · rw [if_pos c7] at H
        have c7b0 : decide (t482 < 0) = true := decide_eq_true c7
        clear c7
        obtain rfl := Option.some.inj H
        have p481 : 0 ≤ (x5_1 : Int) := qO (by first | (with_reducible assumption) | assumption)
        have q481 : x5_1 < (l0.length : Int) := qO (by first | (with_reducible assumption) | assumption)
        obtain ⟨ad481, A481_1, c481_1, e481, hx481_0, hx481_1, hx481_2, hl481_1, hi481_1⟩ := at_T81 HR0.out x5_1 p481 q481
        cases e481
        replace hx481_0 := (HB.out.cell (qL w _ hx481_0)).trans hx481_0
        replace hx481_1 := (HB.out.cell (qL w _ hx481_1)).trans hx481_1
        replace hx481_2 := (HB.out.cell (qL w _ hx481_2)).trans hx481_2
        have HR481_1 := qM hi481_1
        have HC481_1 := qM hl481_1
        clear hi481_1 hl481_1
        replace p481 := eq_true p481
        replace q481 := eq_true q481
        go_wp2_with (first | ((with_reducible refine gate_callee (f := 52) rfl ?_); refine goesL_ (some 23) rfl rfl Try.func52 (by kernel_rfl) rfl #[.agg #[.int .i64 ((rd_T81 l0 x5_1).f0), .slice A481_1 ((rd_T81 l0 x5_1).f1).length c481_1, .int .i64 ((rd_T81 l0 x5_1).f2)], .int .i64 x1_1] rfl (by (try simp only [List.map_toArray, List.map_cons, List.map_nil]); first | done | rfl | (simp only [List.length_drop, List.length_take]; rfl)) ?_; (with_reducible refine (laws_szTrace.calls ((rd_T81 l0 x5_1).f0) _ _ ((rd_T81 l0 x5_1).f1) ((rd_T81 l0 x5_1).f2) x1_1 t482 _ ?side1 ?side2 A6.out).mono ?_); (case side1 => repeat (first | exact (qB HR481_1.out HB.out) | (with_reducible refine qc ?_ _) | (with_reducible refine qe ?_ _) | (with_reducible refine qf ?_))); (case side2 => exact HC481_1.out); rintro e w8 ⟨rfl, hb⟩; refine ⟨_, rfl, ?_⟩; have n0_ := qM (qs (by repeat (first | (with_reducible first | exact HB.out | apply qA | apply qN | apply qD) | exact HB.out)) hb); clear HB; have HB := n0_; clear n0_; (try clear hb); (try clear hb2); (try clear hk); (try clear hi)))
        go_ret
        exact ⟨by first | rfl | (simp [errW_none, errW_some] <;> rfl) | (simp [*, errW_none, errW_some] <;> rfl), by repeat (first | (with_reducible first | exact HB.out | apply qA | apply qN | apply qD) | exact HB.out)⟩
      rw [if_neg c7] at H
      have c7b0 : decide (t482 < 0) = false := decide_eq_false c7
      clear c7
      have H' := qM H
      clear H
      have p481 : 0 ≤ (x5_1 : Int) := qO (by first | (with_reducible assumption) | assumption)
      have q481 : x5_1 < (l0.length : Int) := qO (by first | (with_reducible assumption) | assumption)
      obtain ⟨ad481, A481_1, c481_1, e481, hx481_0, hx481_1, hx481_2, hl481_1, hi481_1⟩ := at_T81 HR0.out x5_1 p481 q481
      cases e481
      replace hx481_0 := (HB.out.cell (qL w _ hx481_0)).trans hx481_0
      replace hx481_1 := (HB.out.cell (qL w _ hx481_1)).trans hx481_1
      replace hx481_2 := (HB.out.cell (qL w _ hx481_2)).trans hx481_2
      have HR481_1 := qM hi481_1
      have HC481_1 := qM hl481_1
      clear hi481_1 hl481_1
      replace p481 := eq_true p481
      replace q481 := eq_true q481
      go_wp2_with (first | ((with_reducible refine gate_callee (f := 52) rfl ?_); refine goesL_ (some 23) rfl rfl Try.func52 (by kernel_rfl) rfl #[.agg #[.int .i64 ((rd_T81 l0 x5_1).f0), .slice A481_1 ((rd_T81 l0 x5_1).f1).length c481_1, .int .i64 ((rd_T81 l0 x5_1).f2)], .int .i64 x1_1] rfl (by (try simp only [List.map_toArray, List.map_cons, List.map_nil]); first | done | rfl | (simp only [List.length_drop, List.length_take]; rfl)) ?_; (with_reducible refine (laws_szTrace.calls ((rd_T81 l0 x5_1).f0) _ _ ((rd_T81 l0 x5_1).f1) ((rd_T81 l0 x5_1).f2) x1_1 t482 _ ?side1 ?side2 A6.out).mono ?_); (case side1 => repeat (first | exact (qB HR481_1.out HB.out) | (with_reducible refine qc ?_ _) | (with_reducible refine qe ?_ _) | (with_reducible refine qf ?_))); (case side2 => exact HC481_1.out); rintro e w9 ⟨rfl, hb⟩; refine ⟨_, rfl, ?_⟩; have n0_ := qM (qs (by repeat (first | (with_reducible first | exact HB.out | apply qA | apply qN | apply qD) | exact HB.out)) hb); clear HB; have HB := n0_; clear n0_; (try clear hb); (try clear hb2); (try clear hk); (try clear hi)))
      go_roundg k1
      case measure => have := HK1.out; omega
      case rel => exact ⟨(t482), (wrap64 (x5_1 + 1)), (by first | rfl | (simp; done) | (simp [*]; done)), (by first | rfl | (simp; done) | (simp [*]; done)), H', ⟨by have := HK1.out; omega⟩, ⟨by repeat (first | (with_reducible first | exact HB.out | apply qA | apply qN | apply qD) | exact HB.out)⟩⟩
def laws_szIntS.f (l0 : List Int) (a1 : Int) : Option (Int) := if (wrap64 (a1 - (l0.length : Int))) < 0 then (some (-1)) else (some (wrap64 (a1 - (l0.length : Int))))
set_option maxHeartbeats 8000000 in
set_option maxRecDepth 100000 in
theorem laws_szIntS.calls (A0 : Option Addr) (c0 : Nat) (l0 : List Int) (a1 : Int) (r : Int) (w : World) (hr0 : Kd.C (Kd.int .i64) w A0 l0.length l0) (hc0 : l0.length ≤ c0) (h : laws_szIntS.f l0 a1 = some r) :
    Calls Try.prog 84 #[.slice A0 l0.length c0, .int .i64 a1] w fun e w' => e = .returned (.int .i64 r) ∧ Drawn0 w w' := by
  have HR0 := qM hr0
  have HC0 := qM hc0
  clear hr0 hc0
  have H : (if (wrap64 (a1 - (l0.length : Int))) < 0 then (some (-1)) else (some (wrap64 (a1 - (l0.length : Int))))) = some r := h
  clear h
  by_cases c3 : (wrap64 (a1 - (l0.length : Int))) < 0
  rotate_left
  · rw [if_neg c3] at H
    have c3b0 : decide ((wrap64 (a1 - (l0.length : Int))) < 0) = false := decide_eq_false c3
    clear c3
    obtain rfl := Option.some.inj H
    go_enter Try.func84, Try.ntmps84
    go_wp2
    go_ret
    exact ⟨by first | rfl | (simp; done) | (simp [*]; done), by repeat (first | exact Drawn0.refl _ | apply Drawn0.step)⟩
  rw [if_pos c3] at H
  have c3b0 : decide ((wrap64 (a1 - (l0.length : Int))) < 0) = true := decide_eq_true c3
  clear c3
  obtain rfl := Option.some.inj H
  go_enter Try.func84, Try.ntmps84
  go_wp2
  go_ret
  exact ⟨by first | rfl | (simp; done) | (simp [*]; done), by repeat (first | exact Drawn0.refl _ | apply Drawn0.step)⟩
def laws_szState.f (k : Nat) (l0_0 : List Int) (l0_1 : List Bool) (l0_2 : List Int) (l0_3 : List (S81)) (a1 : Int) : Option (Int) := (laws_szIntS.f l0_0 a1).bind fun t484 => (if t484 < 0 then (some (-1)) else ((laws_szBoolS.f l0_1 t484).bind fun t485 => (if t485 < 0 then (some (-1)) else ((laws_szIntS.f l0_2 t485).bind fun t486 => (if t486 < 0 then (some (-1)) else ((laws_szTraceS.f k l0_3 t486).bind fun t487 => (if t487 < 0 then (some (-1)) else (some t487))))))))
set_option maxHeartbeats 8000000 in
set_option maxRecDepth 100000 in
theorem laws_szState.calls (k : Nat) (A0_0 : Option Addr) (c0_0 : Nat) (l0_0 : List Int) (A0_1 : Option Addr) (c0_1 : Nat) (l0_1 : List Bool) (A0_2 : Option Addr) (c0_2 : Nat) (l0_2 : List Int) (A0_3 : Option Addr) (c0_3 : Nat) (l0_3 : List (S81)) (a1 : Int) (r : Int) (w : World) (hr0_0 : Kd.C (Kd.int .i64) w A0_0 l0_0.length l0_0) (hc0_0 : l0_0.length ≤ c0_0) (hr0_1 : Kd.C Kd.bool w A0_1 l0_1.length l0_1) (hc0_1 : l0_1.length ≤ c0_1) (hr0_2 : Kd.C (Kd.int .i64) w A0_2 l0_2.length l0_2) (hc0_2 : l0_2.length ≤ c0_2) (hr0_3 : Kd.C k81 w A0_3 l0_3.length l0_3) (hc0_3 : l0_3.length ≤ c0_3) (h : laws_szState.f k l0_0 l0_1 l0_2 l0_3 a1 = some r) :
    Calls Try.prog 33 #[.agg #[.slice A0_0 l0_0.length c0_0, .slice A0_1 l0_1.length c0_1, .slice A0_2 l0_2.length c0_2, .slice A0_3 l0_3.length c0_3], .int .i64 a1] w fun e w' => e = .returned (.int .i64 r) ∧ Below w.heap.size w w' := by
  have hu51 := Try.underlying51
  have HR0_0 := qM hr0_0
  have HC0_0 := qM hc0_0
  clear hr0_0 hc0_0
  have HR0_1 := qM hr0_1
  have HC0_1 := qM hc0_1
  clear hr0_1 hc0_1
  have HR0_2 := qM hr0_2
  have HC0_2 := qM hc0_2
  clear hr0_2 hc0_2
  have HR0_3 := qM hr0_3
  have HC0_3 := qM hc0_3
  clear hr0_3 hc0_3
  have HB := qM (Below.refl w.heap.size w)
  have H : ((laws_szIntS.f l0_0 a1).bind fun t484 => (if t484 < 0 then (some (-1)) else ((laws_szBoolS.f l0_1 t484).bind fun t485 => (if t485 < 0 then (some (-1)) else ((laws_szIntS.f l0_2 t485).bind fun t486 => (if t486 < 0 then (some (-1)) else ((laws_szTraceS.f k l0_3 t486).bind fun t487 => (if t487 < 0 then (some (-1)) else (some t487))))))))) = some r := h
  clear h
  replace H := Option.bind_eq_some_iff.mp H
  obtain ⟨t484, A30, H⟩ := H
  replace H : (if t484 < 0 then (some (-1)) else ((laws_szBoolS.f l0_1 t484).bind fun t485 => (if t485 < 0 then (some (-1)) else ((laws_szIntS.f l0_2 t485).bind fun t486 => (if t486 < 0 then (some (-1)) else ((laws_szTraceS.f k l0_3 t486).bind fun t487 => (if t487 < 0 then (some (-1)) else (some t487)))))))) = some r := H
  have A3 := qM A30
  clear A30
  by_cases c4 : t484 < 0
  · rw [if_pos c4] at H
    have c4b0 : decide (t484 < 0) = true := decide_eq_true c4
    clear c4
    obtain rfl := Option.some.inj H
    go_enter Try.func33, Try.ntmps33
    go_wp2_with (first | ((with_reducible refine gate_dst (N := 2) rfl ?_); refine box_event ?hg (N := 2) ?hd (cs := #[.slice A0_0 l0_0.length c0_0, .slice A0_1 l0_1.length c0_1, .slice A0_2 l0_2.length c0_2, .slice A0_3 l0_3.length c0_3]) (t := 51) ?hr ?_; (case hd => rfl); (case hg => rfl); (case hr => first | (go_simp; done) | (go_simp; rfl)); intro gb483 hg w5 hbox hb; have n0_ := qM (qs (by repeat (first | (with_reducible first | exact HB.out | apply qA | apply qN | apply qD) | exact HB.out)) hb); have n1_ := qM (hbox); have n2_ := qM ((by rw [hg]; exact (qz (by repeat (first | (with_reducible first | exact HB.out | apply qA | apply qN | apply qD) | exact HB.out))) : w.heap.size ≤ gb483)); have n3_ := qM ((by rw [hg]; exact (qz (by repeat (first | (with_reducible first | exact HB.out | apply qA | apply qN | apply qD) | exact HB.out))) : w.heap.size ≤ gb483)); clear HB; have HB := n0_; have BK483 := n1_; have GW483 := n2_; have GE483 := n3_; clear n0_ n1_ n2_ n3_; clear hb hbox hg; have hcz6_0 : w5.cell? ⟨gb483, 0, none⟩ = some (.slice A0_0 l0_0.length c0_0) := (qC BK483.out 0).trans rfl; have hcz6_1 : w5.cell? ⟨gb483, 1, none⟩ = some (.slice A0_1 l0_1.length c0_1) := (qC BK483.out 1).trans rfl; have hcz6_2 : w5.cell? ⟨gb483, 2, none⟩ = some (.slice A0_2 l0_2.length c0_2) := (qC BK483.out 2).trans rfl; have hcz6_3 : w5.cell? ⟨gb483, 3, none⟩ = some (.slice A0_3 l0_3.length c0_3) := (qC BK483.out 3).trans rfl; have hfz6_0 := qF BK483.out 0; have hfz6_1 := qF BK483.out 1; have hfz6_2 := qF BK483.out 2; have hfz6_3 := qF BK483.out 3) | ((with_reducible refine gate_callee (f := 84) rfl ?_); refine goesL_ (some 8) rfl rfl Try.func84 (by kernel_rfl) rfl #[.slice A0_0 l0_0.length c0_0, .int .i64 a1] rfl (by (try simp only [List.map_toArray, List.map_cons, List.map_nil]); first | done | rfl | (simp only [List.length_drop, List.length_take]; rfl)) ?_; (with_reducible refine (laws_szIntS.calls _ _ l0_0 a1 t484 _ ?side1 ?side2 A3.out).mono ?_); (case side1 => repeat (first | exact (qB HR0_0.out HB.out) | (with_reducible refine qc ?_ _) | (with_reducible refine qe ?_ _) | (with_reducible refine qf ?_))); (case side2 => exact HC0_0.out); rintro e w' ⟨rfl, ⟨nd, rfl⟩⟩; refine ⟨_, rfl, ?_⟩))
    go_ret
    exact ⟨by first | rfl | (simp [errW_none, errW_some] <;> rfl) | (simp [*, errW_none, errW_some] <;> rfl), by repeat (first | (with_reducible first | exact HB.out | apply qA | apply qN | apply qD | refine qS ?_ GE483.out) | exact HB.out)⟩
  rw [if_neg c4] at H
  have c4b0 : decide (t484 < 0) = false := decide_eq_false c4
  clear c4
  replace H := Option.bind_eq_some_iff.mp H
  obtain ⟨t485, A70, H⟩ := H
  replace H : (if t485 < 0 then (some (-1)) else ((laws_szIntS.f l0_2 t485).bind fun t486 => (if t486 < 0 then (some (-1)) else ((laws_szTraceS.f k l0_3 t486).bind fun t487 => (if t487 < 0 then (some (-1)) else (some t487)))))) = some r := H
  have A7 := qM A70
  clear A70
  by_cases c8 : t485 < 0
  · rw [if_pos c8] at H
    have c8b0 : decide (t485 < 0) = true := decide_eq_true c8
    clear c8
    obtain rfl := Option.some.inj H
    go_enter Try.func33, Try.ntmps33
    go_wp2_with (first | ((with_reducible refine gate_dst (N := 2) rfl ?_); refine box_event ?hg (N := 2) ?hd (cs := #[.slice A0_0 l0_0.length c0_0, .slice A0_1 l0_1.length c0_1, .slice A0_2 l0_2.length c0_2, .slice A0_3 l0_3.length c0_3]) (t := 51) ?hr ?_; (case hd => rfl); (case hg => rfl); (case hr => first | (go_simp; done) | (go_simp; rfl)); intro gb483 hg w9 hbox hb; have n0_ := qM (qs (by repeat (first | (with_reducible first | exact HB.out | apply qA | apply qN | apply qD) | exact HB.out)) hb); have n1_ := qM (hbox); have n2_ := qM ((by rw [hg]; exact (qz (by repeat (first | (with_reducible first | exact HB.out | apply qA | apply qN | apply qD) | exact HB.out))) : w.heap.size ≤ gb483)); have n3_ := qM ((by rw [hg]; exact (qz (by repeat (first | (with_reducible first | exact HB.out | apply qA | apply qN | apply qD) | exact HB.out))) : w.heap.size ≤ gb483)); clear HB; have HB := n0_; have BK483 := n1_; have GW483 := n2_; have GE483 := n3_; clear n0_ n1_ n2_ n3_; clear hb hbox hg; have hcz10_0 : w9.cell? ⟨gb483, 0, none⟩ = some (.slice A0_0 l0_0.length c0_0) := (qC BK483.out 0).trans rfl; have hcz10_1 : w9.cell? ⟨gb483, 1, none⟩ = some (.slice A0_1 l0_1.length c0_1) := (qC BK483.out 1).trans rfl; have hcz10_2 : w9.cell? ⟨gb483, 2, none⟩ = some (.slice A0_2 l0_2.length c0_2) := (qC BK483.out 2).trans rfl; have hcz10_3 : w9.cell? ⟨gb483, 3, none⟩ = some (.slice A0_3 l0_3.length c0_3) := (qC BK483.out 3).trans rfl; have hfz10_0 := qF BK483.out 0; have hfz10_1 := qF BK483.out 1; have hfz10_2 := qF BK483.out 2; have hfz10_3 := qF BK483.out 3) | ((with_reducible refine gate_callee (f := 84) rfl ?_); refine goesL_ (some 8) rfl rfl Try.func84 (by kernel_rfl) rfl #[.slice A0_0 l0_0.length c0_0, .int .i64 a1] rfl (by (try simp only [List.map_toArray, List.map_cons, List.map_nil]); first | done | rfl | (simp only [List.length_drop, List.length_take]; rfl)) ?_; (with_reducible refine (laws_szIntS.calls _ _ l0_0 a1 t484 _ ?side1 ?side2 A3.out).mono ?_); (case side1 => repeat (first | exact (qB HR0_0.out HB.out) | (with_reducible refine qc ?_ _) | (with_reducible refine qe ?_ _) | (with_reducible refine qf ?_))); (case side2 => exact HC0_0.out); rintro e w' ⟨rfl, ⟨nd, rfl⟩⟩; refine ⟨_, rfl, ?_⟩) | ((with_reducible refine gate_callee (f := 83) rfl ?_); refine goesL_ (some 14) rfl rfl Try.func83 (by kernel_rfl) rfl #[.slice A0_1 l0_1.length c0_1, .int .i64 t484] rfl (by (try simp only [List.map_toArray, List.map_cons, List.map_nil]); first | done | rfl | (simp only [List.length_drop, List.length_take]; rfl)) ?_; (with_reducible refine (laws_szBoolS.calls _ _ l0_1 t484 t485 _ ?side1 ?side2 A7.out).mono ?_); (case side1 => repeat (first | exact (qB HR0_1.out (by repeat (first | (with_reducible first | exact HB.out | apply qA | apply qN | apply qD | refine qS ?_ GE483.out) | exact HB.out))) | (with_reducible refine qc ?_ _) | (with_reducible refine qe ?_ _) | (with_reducible refine qf ?_))); (case side2 => exact HC0_1.out); rintro e w' ⟨rfl, ⟨nd, rfl⟩⟩; refine ⟨_, rfl, ?_⟩))
    go_ret
    exact ⟨by first | rfl | (simp [errW_none, errW_some] <;> rfl) | (simp [*, errW_none, errW_some] <;> rfl), by repeat (first | (with_reducible first | exact HB.out | apply qA | apply qN | apply qD | refine qS ?_ GE483.out) | exact HB.out)⟩
  rw [if_neg c8] at H
  have c8b0 : decide (t485 < 0) = false := decide_eq_false c8
  clear c8
  replace H := Option.bind_eq_some_iff.mp H
  obtain ⟨t486, A110, H⟩ := H
  replace H : (if t486 < 0 then (some (-1)) else ((laws_szTraceS.f k l0_3 t486).bind fun t487 => (if t487 < 0 then (some (-1)) else (some t487)))) = some r := H
  have A11 := qM A110
  clear A110
  by_cases c12 : t486 < 0
  · rw [if_pos c12] at H
    have c12b0 : decide (t486 < 0) = true := decide_eq_true c12
    clear c12
    obtain rfl := Option.some.inj H
    go_enter Try.func33, Try.ntmps33
    go_wp2_with (first | ((with_reducible refine gate_dst (N := 2) rfl ?_); refine box_event ?hg (N := 2) ?hd (cs := #[.slice A0_0 l0_0.length c0_0, .slice A0_1 l0_1.length c0_1, .slice A0_2 l0_2.length c0_2, .slice A0_3 l0_3.length c0_3]) (t := 51) ?hr ?_; (case hd => rfl); (case hg => rfl); (case hr => first | (go_simp; done) | (go_simp; rfl)); intro gb483 hg w13 hbox hb; have n0_ := qM (qs (by repeat (first | (with_reducible first | exact HB.out | apply qA | apply qN | apply qD) | exact HB.out)) hb); have n1_ := qM (hbox); have n2_ := qM ((by rw [hg]; exact (qz (by repeat (first | (with_reducible first | exact HB.out | apply qA | apply qN | apply qD) | exact HB.out))) : w.heap.size ≤ gb483)); have n3_ := qM ((by rw [hg]; exact (qz (by repeat (first | (with_reducible first | exact HB.out | apply qA | apply qN | apply qD) | exact HB.out))) : w.heap.size ≤ gb483)); clear HB; have HB := n0_; have BK483 := n1_; have GW483 := n2_; have GE483 := n3_; clear n0_ n1_ n2_ n3_; clear hb hbox hg; have hcz14_0 : w13.cell? ⟨gb483, 0, none⟩ = some (.slice A0_0 l0_0.length c0_0) := (qC BK483.out 0).trans rfl; have hcz14_1 : w13.cell? ⟨gb483, 1, none⟩ = some (.slice A0_1 l0_1.length c0_1) := (qC BK483.out 1).trans rfl; have hcz14_2 : w13.cell? ⟨gb483, 2, none⟩ = some (.slice A0_2 l0_2.length c0_2) := (qC BK483.out 2).trans rfl; have hcz14_3 : w13.cell? ⟨gb483, 3, none⟩ = some (.slice A0_3 l0_3.length c0_3) := (qC BK483.out 3).trans rfl; have hfz14_0 := qF BK483.out 0; have hfz14_1 := qF BK483.out 1; have hfz14_2 := qF BK483.out 2; have hfz14_3 := qF BK483.out 3) | ((with_reducible refine gate_callee (f := 84) rfl ?_); refine goesL_ (some 8) rfl rfl Try.func84 (by kernel_rfl) rfl #[.slice A0_0 l0_0.length c0_0, .int .i64 a1] rfl (by (try simp only [List.map_toArray, List.map_cons, List.map_nil]); first | done | rfl | (simp only [List.length_drop, List.length_take]; rfl)) ?_; (with_reducible refine (laws_szIntS.calls _ _ l0_0 a1 t484 _ ?side1 ?side2 A3.out).mono ?_); (case side1 => repeat (first | exact (qB HR0_0.out HB.out) | (with_reducible refine qc ?_ _) | (with_reducible refine qe ?_ _) | (with_reducible refine qf ?_))); (case side2 => exact HC0_0.out); rintro e w' ⟨rfl, ⟨nd, rfl⟩⟩; refine ⟨_, rfl, ?_⟩) | ((with_reducible refine gate_callee (f := 83) rfl ?_); refine goesL_ (some 14) rfl rfl Try.func83 (by kernel_rfl) rfl #[.slice A0_1 l0_1.length c0_1, .int .i64 t484] rfl (by (try simp only [List.map_toArray, List.map_cons, List.map_nil]); first | done | rfl | (simp only [List.length_drop, List.length_take]; rfl)) ?_; (with_reducible refine (laws_szBoolS.calls _ _ l0_1 t484 t485 _ ?side1 ?side2 A7.out).mono ?_); (case side1 => repeat (first | exact (qB HR0_1.out (by repeat (first | (with_reducible first | exact HB.out | apply qA | apply qN | apply qD | refine qS ?_ GE483.out) | exact HB.out))) | (with_reducible refine qc ?_ _) | (with_reducible refine qe ?_ _) | (with_reducible refine qf ?_))); (case side2 => exact HC0_1.out); rintro e w' ⟨rfl, ⟨nd, rfl⟩⟩; refine ⟨_, rfl, ?_⟩) | ((with_reducible refine gate_callee (f := 84) rfl ?_); refine goesL_ (some 20) rfl rfl Try.func84 (by kernel_rfl) rfl #[.slice A0_2 l0_2.length c0_2, .int .i64 t485] rfl (by (try simp only [List.map_toArray, List.map_cons, List.map_nil]); first | done | rfl | (simp only [List.length_drop, List.length_take]; rfl)) ?_; (with_reducible refine (laws_szIntS.calls _ _ l0_2 t485 t486 _ ?side1 ?side2 A11.out).mono ?_); (case side1 => repeat (first | exact (qB HR0_2.out (by repeat (first | (with_reducible first | exact HB.out | apply qA | apply qN | apply qD | refine qS ?_ GE483.out) | exact HB.out))) | (with_reducible refine qc ?_ _) | (with_reducible refine qe ?_ _) | (with_reducible refine qf ?_))); (case side2 => exact HC0_2.out); rintro e w' ⟨rfl, ⟨nd, rfl⟩⟩; refine ⟨_, rfl, ?_⟩))
    go_ret
    exact ⟨by first | rfl | (simp [errW_none, errW_some] <;> rfl) | (simp [*, errW_none, errW_some] <;> rfl), by repeat (first | (with_reducible first | exact HB.out | apply qA | apply qN | apply qD | refine qS ?_ GE483.out) | exact HB.out)⟩
  rw [if_neg c12] at H
  have c12b0 : decide (t486 < 0) = false := decide_eq_false c12
  clear c12
  replace H := Option.bind_eq_some_iff.mp H
  obtain ⟨t487, A150, H⟩ := H
  replace H : (if t487 < 0 then (some (-1)) else (some t487)) = some r := H
  have A15 := qM A150
  clear A150
  by_cases c16 : t487 < 0
  rotate_left
  · rw [if_neg c16] at H
    have c16b0 : decide (t487 < 0) = false := decide_eq_false c16
    clear c16
    obtain rfl := Option.some.inj H
    go_enter Try.func33, Try.ntmps33
    go_wp2_with (first | ((with_reducible refine gate_dst (N := 2) rfl ?_); refine box_event ?hg (N := 2) ?hd (cs := #[.slice A0_0 l0_0.length c0_0, .slice A0_1 l0_1.length c0_1, .slice A0_2 l0_2.length c0_2, .slice A0_3 l0_3.length c0_3]) (t := 51) ?hr ?_; (case hd => rfl); (case hg => rfl); (case hr => first | (go_simp; done) | (go_simp; rfl)); intro gb483 hg w20 hbox hb; have n0_ := qM (qs (by repeat (first | (with_reducible first | exact HB.out | apply qA | apply qN | apply qD) | exact HB.out)) hb); have n1_ := qM (hbox); have n2_ := qM ((by rw [hg]; exact (qz (by repeat (first | (with_reducible first | exact HB.out | apply qA | apply qN | apply qD) | exact HB.out))) : w.heap.size ≤ gb483)); have n3_ := qM ((by rw [hg]; exact (qz (by repeat (first | (with_reducible first | exact HB.out | apply qA | apply qN | apply qD) | exact HB.out))) : w.heap.size ≤ gb483)); clear HB; have HB := n0_; have BK483 := n1_; have GW483 := n2_; have GE483 := n3_; clear n0_ n1_ n2_ n3_; clear hb hbox hg; have hcz21_0 : w20.cell? ⟨gb483, 0, none⟩ = some (.slice A0_0 l0_0.length c0_0) := (qC BK483.out 0).trans rfl; have hcz21_1 : w20.cell? ⟨gb483, 1, none⟩ = some (.slice A0_1 l0_1.length c0_1) := (qC BK483.out 1).trans rfl; have hcz21_2 : w20.cell? ⟨gb483, 2, none⟩ = some (.slice A0_2 l0_2.length c0_2) := (qC BK483.out 2).trans rfl; have hcz21_3 : w20.cell? ⟨gb483, 3, none⟩ = some (.slice A0_3 l0_3.length c0_3) := (qC BK483.out 3).trans rfl; have hfz21_0 := qF BK483.out 0; have hfz21_1 := qF BK483.out 1; have hfz21_2 := qF BK483.out 2; have hfz21_3 := qF BK483.out 3) | ((with_reducible refine gate_callee (f := 84) rfl ?_); refine goesL_ (some 8) rfl rfl Try.func84 (by kernel_rfl) rfl #[.slice A0_0 l0_0.length c0_0, .int .i64 a1] rfl (by (try simp only [List.map_toArray, List.map_cons, List.map_nil]); first | done | rfl | (simp only [List.length_drop, List.length_take]; rfl)) ?_; (with_reducible refine (laws_szIntS.calls _ _ l0_0 a1 t484 _ ?side1 ?side2 A3.out).mono ?_); (case side1 => repeat (first | exact (qB HR0_0.out HB.out) | (with_reducible refine qc ?_ _) | (with_reducible refine qe ?_ _) | (with_reducible refine qf ?_))); (case side2 => exact HC0_0.out); rintro e w' ⟨rfl, ⟨nd, rfl⟩⟩; refine ⟨_, rfl, ?_⟩) | ((with_reducible refine gate_callee (f := 83) rfl ?_); refine goesL_ (some 14) rfl rfl Try.func83 (by kernel_rfl) rfl #[.slice A0_1 l0_1.length c0_1, .int .i64 t484] rfl (by (try simp only [List.map_toArray, List.map_cons, List.map_nil]); first | done | rfl | (simp only [List.length_drop, List.length_take]; rfl)) ?_; (with_reducible refine (laws_szBoolS.calls _ _ l0_1 t484 t485 _ ?side1 ?side2 A7.out).mono ?_); (case side1 => repeat (first | exact (qB HR0_1.out (by repeat (first | (with_reducible first | exact HB.out | apply qA | apply qN | apply qD | refine qS ?_ GE483.out) | exact HB.out))) | (with_reducible refine qc ?_ _) | (with_reducible refine qe ?_ _) | (with_reducible refine qf ?_))); (case side2 => exact HC0_1.out); rintro e w' ⟨rfl, ⟨nd, rfl⟩⟩; refine ⟨_, rfl, ?_⟩) | ((with_reducible refine gate_callee (f := 84) rfl ?_); refine goesL_ (some 20) rfl rfl Try.func84 (by kernel_rfl) rfl #[.slice A0_2 l0_2.length c0_2, .int .i64 t485] rfl (by (try simp only [List.map_toArray, List.map_cons, List.map_nil]); first | done | rfl | (simp only [List.length_drop, List.length_take]; rfl)) ?_; (with_reducible refine (laws_szIntS.calls _ _ l0_2 t485 t486 _ ?side1 ?side2 A11.out).mono ?_); (case side1 => repeat (first | exact (qB HR0_2.out (by repeat (first | (with_reducible first | exact HB.out | apply qA | apply qN | apply qD | refine qS ?_ GE483.out) | exact HB.out))) | (with_reducible refine qc ?_ _) | (with_reducible refine qe ?_ _) | (with_reducible refine qf ?_))); (case side2 => exact HC0_2.out); rintro e w' ⟨rfl, ⟨nd, rfl⟩⟩; refine ⟨_, rfl, ?_⟩) | ((with_reducible refine gate_callee (f := 40) rfl ?_); refine goesL_ (some 26) rfl rfl Try.func40 (by kernel_rfl) rfl #[.slice A0_3 l0_3.length c0_3, .int .i64 t486] rfl (by (try simp only [List.map_toArray, List.map_cons, List.map_nil]); first | done | rfl | (simp only [List.length_drop, List.length_take]; rfl)) ?_; (with_reducible refine (laws_szTraceS.calls k _ _ l0_3 t486 t487 _ ?side1 ?side2 A15.out).mono ?_); (case side1 => repeat (first | exact (qB HR0_3.out (by repeat (first | (with_reducible first | exact HB.out | apply qA | apply qN | apply qD | refine qS ?_ GE483.out) | exact HB.out))) | (with_reducible refine qc ?_ _) | (with_reducible refine qe ?_ _) | (with_reducible refine qf ?_))); (case side2 => exact HC0_3.out); rintro e w22 ⟨rfl, hb⟩; refine ⟨_, rfl, ?_⟩; have n0_ := qM (blk_below (g := gb483) (o := .cells #[.slice A0_0 l0_0.length c0_0, .slice A0_1 l0_1.length c0_1, .slice A0_2 l0_2.length c0_2, .slice A0_3 l0_3.length c0_3] 51 (0, 0)) (by (with_reducible repeat (first | refine qn ?_ _ | refine qd ?_ | refine qa ?_ _)); exact BK483.out) hb); have n1_ := qM (qs (by repeat (first | (with_reducible first | exact HB.out | apply qA | apply qN | apply qD | refine qS ?_ GE483.out) | exact HB.out)) hb); clear BK483; clear HB; have BK483 := n0_; have HB := n1_; clear n0_ n1_; (try clear hb); (try clear hb2); (try clear hk); (try clear hi)))
    go_ret
    exact ⟨by first | rfl | (simp [errW_none, errW_some] <;> rfl) | (simp [*, errW_none, errW_some] <;> rfl), by repeat (first | (with_reducible first | exact HB.out | apply qA | apply qN | apply qD | refine qS ?_ GE483.out) | exact HB.out)⟩
  rw [if_pos c16] at H
  have c16b0 : decide (t487 < 0) = true := decide_eq_true c16
  clear c16
  obtain rfl := Option.some.inj H
  go_enter Try.func33, Try.ntmps33
  go_wp2_with (first | ((with_reducible refine gate_dst (N := 2) rfl ?_); refine box_event ?hg (N := 2) ?hd (cs := #[.slice A0_0 l0_0.length c0_0, .slice A0_1 l0_1.length c0_1, .slice A0_2 l0_2.length c0_2, .slice A0_3 l0_3.length c0_3]) (t := 51) ?hr ?_; (case hd => rfl); (case hg => rfl); (case hr => first | (go_simp; done) | (go_simp; rfl)); intro gb483 hg w17 hbox hb; have n0_ := qM (qs (by repeat (first | (with_reducible first | exact HB.out | apply qA | apply qN | apply qD) | exact HB.out)) hb); have n1_ := qM (hbox); have n2_ := qM ((by rw [hg]; exact (qz (by repeat (first | (with_reducible first | exact HB.out | apply qA | apply qN | apply qD) | exact HB.out))) : w.heap.size ≤ gb483)); have n3_ := qM ((by rw [hg]; exact (qz (by repeat (first | (with_reducible first | exact HB.out | apply qA | apply qN | apply qD) | exact HB.out))) : w.heap.size ≤ gb483)); clear HB; have HB := n0_; have BK483 := n1_; have GW483 := n2_; have GE483 := n3_; clear n0_ n1_ n2_ n3_; clear hb hbox hg; have hcz18_0 : w17.cell? ⟨gb483, 0, none⟩ = some (.slice A0_0 l0_0.length c0_0) := (qC BK483.out 0).trans rfl; have hcz18_1 : w17.cell? ⟨gb483, 1, none⟩ = some (.slice A0_1 l0_1.length c0_1) := (qC BK483.out 1).trans rfl; have hcz18_2 : w17.cell? ⟨gb483, 2, none⟩ = some (.slice A0_2 l0_2.length c0_2) := (qC BK483.out 2).trans rfl; have hcz18_3 : w17.cell? ⟨gb483, 3, none⟩ = some (.slice A0_3 l0_3.length c0_3) := (qC BK483.out 3).trans rfl; have hfz18_0 := qF BK483.out 0; have hfz18_1 := qF BK483.out 1; have hfz18_2 := qF BK483.out 2; have hfz18_3 := qF BK483.out 3) | ((with_reducible refine gate_callee (f := 84) rfl ?_); refine goesL_ (some 8) rfl rfl Try.func84 (by kernel_rfl) rfl #[.slice A0_0 l0_0.length c0_0, .int .i64 a1] rfl (by (try simp only [List.map_toArray, List.map_cons, List.map_nil]); first | done | rfl | (simp only [List.length_drop, List.length_take]; rfl)) ?_; (with_reducible refine (laws_szIntS.calls _ _ l0_0 a1 t484 _ ?side1 ?side2 A3.out).mono ?_); (case side1 => repeat (first | exact (qB HR0_0.out HB.out) | (with_reducible refine qc ?_ _) | (with_reducible refine qe ?_ _) | (with_reducible refine qf ?_))); (case side2 => exact HC0_0.out); rintro e w' ⟨rfl, ⟨nd, rfl⟩⟩; refine ⟨_, rfl, ?_⟩) | ((with_reducible refine gate_callee (f := 83) rfl ?_); refine goesL_ (some 14) rfl rfl Try.func83 (by kernel_rfl) rfl #[.slice A0_1 l0_1.length c0_1, .int .i64 t484] rfl (by (try simp only [List.map_toArray, List.map_cons, List.map_nil]); first | done | rfl | (simp only [List.length_drop, List.length_take]; rfl)) ?_; (with_reducible refine (laws_szBoolS.calls _ _ l0_1 t484 t485 _ ?side1 ?side2 A7.out).mono ?_); (case side1 => repeat (first | exact (qB HR0_1.out (by repeat (first | (with_reducible first | exact HB.out | apply qA | apply qN | apply qD | refine qS ?_ GE483.out) | exact HB.out))) | (with_reducible refine qc ?_ _) | (with_reducible refine qe ?_ _) | (with_reducible refine qf ?_))); (case side2 => exact HC0_1.out); rintro e w' ⟨rfl, ⟨nd, rfl⟩⟩; refine ⟨_, rfl, ?_⟩) | ((with_reducible refine gate_callee (f := 84) rfl ?_); refine goesL_ (some 20) rfl rfl Try.func84 (by kernel_rfl) rfl #[.slice A0_2 l0_2.length c0_2, .int .i64 t485] rfl (by (try simp only [List.map_toArray, List.map_cons, List.map_nil]); first | done | rfl | (simp only [List.length_drop, List.length_take]; rfl)) ?_; (with_reducible refine (laws_szIntS.calls _ _ l0_2 t485 t486 _ ?side1 ?side2 A11.out).mono ?_); (case side1 => repeat (first | exact (qB HR0_2.out (by repeat (first | (with_reducible first | exact HB.out | apply qA | apply qN | apply qD | refine qS ?_ GE483.out) | exact HB.out))) | (with_reducible refine qc ?_ _) | (with_reducible refine qe ?_ _) | (with_reducible refine qf ?_))); (case side2 => exact HC0_2.out); rintro e w' ⟨rfl, ⟨nd, rfl⟩⟩; refine ⟨_, rfl, ?_⟩) | ((with_reducible refine gate_callee (f := 40) rfl ?_); refine goesL_ (some 26) rfl rfl Try.func40 (by kernel_rfl) rfl #[.slice A0_3 l0_3.length c0_3, .int .i64 t486] rfl (by (try simp only [List.map_toArray, List.map_cons, List.map_nil]); first | done | rfl | (simp only [List.length_drop, List.length_take]; rfl)) ?_; (with_reducible refine (laws_szTraceS.calls k _ _ l0_3 t486 t487 _ ?side1 ?side2 A15.out).mono ?_); (case side1 => repeat (first | exact (qB HR0_3.out (by repeat (first | (with_reducible first | exact HB.out | apply qA | apply qN | apply qD | refine qS ?_ GE483.out) | exact HB.out))) | (with_reducible refine qc ?_ _) | (with_reducible refine qe ?_ _) | (with_reducible refine qf ?_))); (case side2 => exact HC0_3.out); rintro e w19 ⟨rfl, hb⟩; refine ⟨_, rfl, ?_⟩; have n0_ := qM (blk_below (g := gb483) (o := .cells #[.slice A0_0 l0_0.length c0_0, .slice A0_1 l0_1.length c0_1, .slice A0_2 l0_2.length c0_2, .slice A0_3 l0_3.length c0_3] 51 (0, 0)) (by (with_reducible repeat (first | refine qn ?_ _ | refine qd ?_ | refine qa ?_ _)); exact BK483.out) hb); have n1_ := qM (qs (by repeat (first | (with_reducible first | exact HB.out | apply qA | apply qN | apply qD | refine qS ?_ GE483.out) | exact HB.out)) hb); clear BK483; clear HB; have BK483 := n0_; have HB := n1_; clear n0_ n1_; (try clear hb); (try clear hb2); (try clear hk); (try clear hi)))
  go_ret
  exact ⟨by first | rfl | (simp [errW_none, errW_some] <;> rfl) | (simp [*, errW_none, errW_some] <;> rfl), by repeat (first | (with_reducible first | exact HB.out | apply qA | apply qN | apply qD | refine qS ?_ GE483.out) | exact HB.out)⟩
end Go.Proofs.Ytgbjbpjmbghlbaa.G
end
section
namespace Go.Proofs.Ytgbjbpjmbghlbaa.G
open Go.RowKit Go.Proofs.YtgbjbpjmbghlbaaW.PrintWords Go.Proofs.YtgbjbpjmbghlbaaW.PrintLast Go.Proofs.YtgbjbpjmbghlbaaW.PrintMore
attribute [local go_sem] max2_int min2_int max_two min_two max_three min_three max_four min_four
set_option linter.unusedVariables false
set_option linter.unusedSimpArgs false
def laws_toBoolS.l0 : Nat → List Bool → List Bool → Int → Option (List Bool)
  | 0, _, _, _ => none
  | k + 1, x0, x3, x4 => if x4 < (x0.length : Int) then (if 0 ≤ x4 then (if x4 < (x3.length : Int) then (laws_toBoolS.l0 k x0 (x3.set (x4 : Int).toNat (rdOf false x0 x4)) (wrap64 (x4 + 1))) else (none)) else (none)) else (some x3)
def laws_toBoolS.f (k : Nat) (l0 : List Bool) : Option (List Bool) := if 0 ≤ (l0.length : Int) then (if ((l0.length : Int) : Int).toNat ≤ 281474976710656 then (laws_toBoolS.l0 k l0 (List.replicate ((l0.length : Int) : Int).toNat false) 0) else (none)) else (none)
set_option maxHeartbeats 8000000 in
set_option maxRecDepth 100000 in
theorem laws_toBoolS.calls (k : Nat) (A0 : Option Addr) (c0 : Nat) (l0 : List Bool) (r : List Bool) (w : World) (hr0 : Kd.C Kd.bool w A0 l0.length l0) (hc0 : l0.length ≤ c0) (h : laws_toBoolS.f k l0 = some r) :
    Calls Try.prog 89 #[.slice A0 l0.length c0] w fun e w' => ∃ v0_ : Value, e = .returned (v0_) ∧ Kd.R Kd.bool 4 w' w.heap.size (fun _ => True) v0_ r ∧ Below w.heap.size w w' := by
  have HR0 := qM hr0
  have HC0 := qM hc0
  clear hr0 hc0
  have HB := qM (Below.refl w.heap.size w)
  have H : (if 0 ≤ (l0.length : Int) then (if ((l0.length : Int) : Int).toNat ≤ 281474976710656 then (laws_toBoolS.l0 k l0 (List.replicate ((l0.length : Int) : Int).toNat false) 0) else (none)) else (none)) = some r := h
  clear h
  by_cases c2 : 0 ≤ (l0.length : Int)
  rotate_left
  · rw [if_neg c2] at H
    exact absurd H (by simp)
  rw [if_pos c2] at H
  have c2b0 := eq_true c2
  have c2b1 : decide (0 ≤ (l0.length : Int)) = true := decide_eq_true c2
  clear c2
  by_cases c3 : ((l0.length : Int) : Int).toNat ≤ 281474976710656
  rotate_left
  · rw [if_neg c3] at H
    exact absurd H (by simp)
  rw [if_pos c3] at H
  have c3b0 := eq_true c3
  have c3b1 : decide (((l0.length : Int) : Int).toNat ≤ 281474976710656) = true := decide_eq_true c3
  clear c3
  obtain ⟨y532, hy532⟩ : ∃ y_ : List Bool, y_ = (List.replicate ((l0.length : Int) : Int).toNat false) := ⟨_, rfl⟩
  replace H : (laws_toBoolS.l0 k l0 y532 0) = some r := by first | (rw [hy532]; with_reducible exact H) | (have H2_ := (Option.bind_some _ _).symm.trans H; rw [hy532]; with_reducible exact H2_) | (have H2_ := (Option.bind_some _ _).symm.trans H; with_reducible exact H2_) | with_reducible exact H | (rw [hy532]; exact H) | exact H
  have Ny532 := qM hy532
  clear hy532
  have H' := qM H
  clear H
  go_enter Try.func89, Try.ntmps89
  go_wp2_with (first | ((with_reducible refine gate_dst (N := 7) rfl ?_); refine Kd.R_make Kd.bool _ 4 rfl (N := 7) rfl 46 _ _ rfl (l0.length : Int) rfl rfl Try.underlying46 (.bool false) 1 info4 rfl (by decide) (by omega) false (ok := fun _ => True) (okp := fun _ => True) rfl (fun _ hk => hk) trivial (qO (by first | (with_reducible assumption) | assumption)) (Nat.le_trans (Nat.mul_le_mul_right _ (qO (by first | (with_reducible assumption) | assumption) : (l0.length : Int).toNat ≤ 281474976710656)) (by omega)) (Below.refl _ _) (Nat.le_refl _) ?_; intro v533 w4 ho5 hb hg_ hnew_; clear hg_ hnew_; (first | rw [← Ny532.out] at ho5 | (simp only [Int.reduceToNat] at ho5; rw [← Ny532.out] at ho5)); have n0_ := qM (Kd.R_lower ho5 (qz (by repeat (first | (with_reducible first | exact HB.out | apply qA | apply qN | apply qD) | exact HB.out)))); have n1_ := qM (qs (by repeat (first | (with_reducible first | exact HB.out | apply qA | apply qN | apply qD) | exact HB.out)) hb); clear HB; have HO534 := n0_; have HB := n1_; clear n0_ n1_; clear hb ho5))
  go_loopg [4] k (fun kq v4 w' => ∃ (x3_1 : List Bool) (x4_1 : Int), v4 = .int .i64 x4_1 ∧ Aside0 (laws_toBoolS.l0 kq l0 x3_1 x4_1 = some r) ∧ Aside0 (kq ≤ k) ∧ Aside0 (Kd.R Kd.bool 4 w' w.heap.size (fun _ => True) v533 x3_1) ∧ Aside0 (Below w.heap.size w w'))
  case atStart => exact ⟨(y532), (0), (by first | rfl | (simp; done) | (simp [*]; done)), H', ⟨Nat.le_refl _⟩, ⟨by (with_reducible repeat (first | apply Kd.R_alloc | apply Kd.R_drewN | apply Kd.R_drew)); exact HO534.out⟩, ⟨by repeat (first | (with_reducible first | exact HB.out | apply qA | apply qN | apply qD) | exact HB.out)⟩⟩
  case round =>
    clear H'
    try clear c2
    try clear c2b0
    try clear c2b1
    try clear p2
    try clear c3
    try clear c3b0
    try clear c3b1
    obtain ⟨x3_1, x4_1, rfl, HA, HK1, HO_3, HB⟩ := hrel
    cases gk with
    | zero => exact absurd HA.out (by simp [laws_toBoolS.l0])
    | succ k1 =>
      have H := HA.out
      clear HA
      simp only [laws_toBoolS.l0] at H
      by_cases c6 : x4_1 < (l0.length : Int)
      rotate_left
      · rw [if_neg c6] at H
        have c6b0 : decide (x4_1 < (l0.length : Int)) = false := decide_eq_false c6
        clear c6
        obtain rfl := Option.some.inj H
        go_wp2
        go_ret
        exact ⟨_, by first | rfl | (simp [errW_none, errW_some] <;> rfl) | (simp [*, errW_none, errW_some] <;> rfl), by (with_reducible repeat (first | apply Kd.R_alloc | apply Kd.R_drewN | apply Kd.R_drew)); exact HO_3.out, by repeat (first | (with_reducible first | exact HB.out | apply qA | apply qN | apply qD) | exact HB.out)⟩
      rw [if_pos c6] at H
      have c6b0 : decide (x4_1 < (l0.length : Int)) = true := decide_eq_true c6
      clear c6
      by_cases c7 : 0 ≤ x4_1
      rotate_left
      · rw [if_neg c7] at H
        exact absurd H (by simp)
      rw [if_pos c7] at H
      have c7b0 : decide (0 ≤ x4_1) = true := decide_eq_true c7
      clear c7
      by_cases c8 : x4_1 < (x3_1.length : Int)
      rotate_left
      · rw [if_neg c8] at H
        exact absurd H (by simp)
      rw [if_pos c8] at H
      have c8b0 : decide (x4_1 < (x3_1.length : Int)) = true := decide_eq_true c8
      clear c8
      obtain ⟨y536, hy536⟩ : ∃ y_ : List Bool, y_ = (x3_1.set (x4_1 : Int).toNat (rdOf false l0 x4_1)) := ⟨_, rfl⟩
      replace H : (laws_toBoolS.l0 k1 l0 y536 (wrap64 (x4_1 + 1))) = some r := by first | (rw [hy536]; with_reducible exact H) | (have H2_ := (Option.bind_some _ _).symm.trans H; rw [hy536]; with_reducible exact H2_) | (have H2_ := (Option.bind_some _ _).symm.trans H; with_reducible exact H2_) | with_reducible exact H | (rw [hy536]; exact H) | exact H
      have Ny536 := qM hy536
      clear hy536
      have H' := qM H
      clear H
      have p535 : 0 ≤ (x4_1 : Int) := qO (by first | (with_reducible assumption) | assumption)
      have q535 : x4_1 < (l0.length : Int) := qO (by first | (with_reducible assumption) | assumption)
      obtain ⟨ad535, e535, hx535_0⟩ := Kd.at_bool HR0.out x4_1 p535 q535
      cases e535
      replace hx535_0 := (HB.out.cell (qL w _ hx535_0)).trans hx535_0
      replace p535 := eq_true p535
      replace q535 := eq_true q535
      have p9 : 0 ≤ (x4_1 : Int) := qO (by first | (with_reducible assumption) | assumption)
      have q9 : (x4_1 : Int) < ((x3_1.length : Int) : Int) := qO (by first | (with_reducible assumption) | assumption)
      obtain ⟨go9, co9, eo9, gb9, gl9, cl9, HG9⟩ := Kd.R_form HO_3.out (by omega)
      (first | cases eo9 | (injection eo9 with ea_ en_ ec_; (first | subst ea_ | (injection ea_ with ea_; subst ea_)); subst ec_; clear en_))
      have GB9 := qM gb9
      have GG9 := qM HG9
      clear gb9 gl9 HG9
      obtain ⟨hx9_0, hf9_0⟩ := Kd.R_celln false HO_3.out (x4_1 : Int) p9 q9
      replace p9 := eq_true p9
      replace q9 := eq_true q9
      have HP10 := Kd.R_putg HO_3.out (x4_1 : Int) (rdOf false l0 x4_1)
      go_wp2_with (first | ((with_reducible refine gate_store (t := 4) (p := 20) rfl ?_); refine store_event (t := 4) (p := 20) (v := ?vo_w11) (w1 := (wr.setCell ⟨go9, (x4_1 : Int).toNat, none⟩ (.bool (rdOf false l0 x4_1)))) ?hg ?ho ?hn ?hr ?_; (case ho => rfl); (case hg => rfl); (case hn => rfl); (case hr => first | (go_simp; done) | (go_simp; rfl)); intro w11 hw; have hg : wr.grownBy w11 (some go9) := (by rw [hw]; exact HP10.2); have hp_ : Kd.R Kd.bool 4 w11 w.heap.size (fun _ => True) (.slice (some ⟨go9, 0, none⟩) x3_1.length co9) y536 := (by rw [hw, Ny536.out]; exact HP10.1); clear HP10; have n0_ := qM (hp_); have n1_ := qM ((by rw [hw]; exact qS (HB.out) GB9.out : Below w.heap.size w w11)); clear HO_3; clear HB; have HO_3 := n0_; have HB := n1_; clear n0_ n1_; clear hg hw hp_))
      go_roundg k1
      case measure => have := HK1.out; omega
      case rel => exact ⟨(y536), (wrap64 (x4_1 + 1)), (by first | rfl | (simp; done) | (simp [*]; done)), H', ⟨by have := HK1.out; omega⟩, ⟨by (with_reducible repeat (first | apply Kd.R_alloc | apply Kd.R_drewN | apply Kd.R_drew)); exact HO_3.out⟩, ⟨by repeat (first | (with_reducible first | exact HB.out | apply qA | apply qN | apply qD) | exact HB.out)⟩⟩
def laws_toSheet.f (k : Nat) (l0_0 : List Bool) (l0_1 : List (S24)) : Option (List Bool × (List (S30))) := (laws_toBoolS.f k l0_0).bind fun t540 => ((laws_toTaskS.f k l0_1).bind fun t543 => (some (t540, t543)))
set_option maxHeartbeats 8000000 in
set_option maxRecDepth 100000 in
theorem laws_toSheet.calls (k : Nat) (A0_0 : Option Addr) (c0_0 : Nat) (l0_0 : List Bool) (A0_1 : Option Addr) (c0_1 : Nat) (l0_1 : List (S24)) (r1 : List Bool) (r2 : List (S30)) (w : World) (hr0_0 : Kd.C Kd.bool w A0_0 l0_0.length l0_0) (hc0_0 : l0_0.length ≤ c0_0) (hr0_1 : Kd.C k24 w A0_1 l0_1.length l0_1) (hc0_1 : l0_1.length ≤ c0_1) (h : laws_toSheet.f k l0_0 l0_1 = some (r1, r2)) :
    Calls Try.prog 35 #[.agg #[.slice A0_0 l0_0.length c0_0, .slice A0_1 l0_1.length c0_1]] w fun e w' => ∃ v0_ v1_ : Value, e = .returned (.agg #[v0_, v1_]) ∧ Kd.R Kd.bool 4 w' w.heap.size (fun _ => True) v0_ r1 ∧ Kd.R k30 30 w' w.heap.size (fun _ => True) v1_ r2 ∧ Below w.heap.size w w' := by
  have hu48 := Try.underlying48
  have hu56 := Try.underlying56
  have HR0_0 := qM hr0_0
  have HC0_0 := qM hc0_0
  clear hr0_0 hc0_0
  have HR0_1 := qM hr0_1
  have HC0_1 := qM hc0_1
  clear hr0_1 hc0_1
  have HB := qM (Below.refl w.heap.size w)
  have H : ((laws_toBoolS.f k l0_0).bind fun t540 => ((laws_toTaskS.f k l0_1).bind fun t543 => (some (t540, t543)))) = some (r1, r2) := h
  clear h
  replace H := Option.bind_eq_some_iff.mp H
  obtain ⟨t540, A20, H⟩ := H
  replace H : ((laws_toTaskS.f k l0_1).bind fun t543 => (some (t540, t543))) = some (r1, r2) := H
  have A2 := qM A20
  clear A20
  replace H := Option.bind_eq_some_iff.mp H
  obtain ⟨t543, A30, H⟩ := H
  replace H : (some (t540, t543)) = some (r1, r2) := H
  have A3 := qM A30
  clear A30
  simp only [Option.some.injEq, Prod.mk.injEq] at H
  obtain ⟨rfl, rfl⟩ := H
  go_enter Try.func35, Try.ntmps35
  go_wp2_with (first | ((with_reducible refine gate_dst (N := 1) rfl ?_); refine box_event ?hg (N := 1) ?hd (cs := #[.slice A0_0 l0_0.length c0_0, .slice A0_1 l0_1.length c0_1]) (t := 48) ?hr ?_; (case hd => rfl); (case hg => rfl); (case hr => first | (go_simp; done) | (go_simp; rfl)); intro gb537 hg w4 hbox hb; have n0_ := qM (qs (by repeat (first | (with_reducible first | exact HB.out | apply qA | apply qN | apply qD) | exact HB.out)) hb); have n1_ := qM (hbox); have n2_ := qM ((by rw [hg]; exact (qz (by repeat (first | (with_reducible first | exact HB.out | apply qA | apply qN | apply qD) | exact HB.out))) : w.heap.size ≤ gb537)); have n3_ := qM ((by rw [hg]; exact (qz (by repeat (first | (with_reducible first | exact HB.out | apply qA | apply qN | apply qD) | exact HB.out))) : w.heap.size ≤ gb537)); clear HB; have HB := n0_; have BK537 := n1_; have GW537 := n2_; have GE537 := n3_; clear n0_ n1_ n2_ n3_; clear hb hbox hg) | ((with_reducible refine gate_dst (N := 2) rfl ?_); refine box_event ?hg (N := 2) ?hd (cs := #[.slice none 0 0, .slice none 0 0]) (t := 56) ?hr ?_; (case hd => rfl); (case hg => rfl); (case hr => first | (go_simp; done) | (go_simp; rfl)); intro gb538 hg w5 hbox hb; have n0_ := qM (blk_below (g := gb537) (o := .cells #[.slice A0_0 l0_0.length c0_0, .slice A0_1 l0_1.length c0_1] 48 (0, 0)) (by (with_reducible repeat (first | refine qn ?_ _ | refine qd ?_ | refine qa ?_ _)); exact BK537.out) hb); have n1_ := qM (qs (by repeat (first | (with_reducible first | exact HB.out | apply qA | apply qN | apply qD | refine qS ?_ GE537.out) | exact HB.out)) hb); have n2_ := qM (hbox); have n3_ := qM ((by rw [hg]; exact (qz (by repeat (first | (with_reducible first | exact HB.out | apply qA | apply qN | apply qD | refine qS ?_ GE537.out) | exact HB.out))) : w.heap.size ≤ gb538)); have n4_ := qM ((by rw [hg]; exact (qz (by repeat (first | (with_reducible first | exact HB.out | apply qA | apply qN | apply qD | refine qS ?_ GE537.out) | exact HB.out))) : w.heap.size ≤ gb538)); have n5_ := qM ((by rw [hg]; exact Nat.ne_of_lt (blk_lt (g := gb537) (o := .cells #[.slice A0_0 l0_0.length c0_0, .slice A0_1 l0_1.length c0_1] 48 (0, 0)) (by (with_reducible repeat (first | refine qn ?_ _ | refine qd ?_ | refine qa ?_ _)); exact BK537.out)) : gb537 ≠ gb538)); have n6_ := qM ((by rw [hg]; exact Nat.ne_of_gt (blk_lt (g := gb537) (o := .cells #[.slice A0_0 l0_0.length c0_0, .slice A0_1 l0_1.length c0_1] 48 (0, 0)) (by (with_reducible repeat (first | refine qn ?_ _ | refine qd ?_ | refine qa ?_ _)); exact BK537.out)) : gb538 ≠ gb537)); clear BK537; clear HB; have BK537 := n0_; have HB := n1_; have BK538 := n2_; have GW538 := n3_; have GE538 := n4_; have NB537_538 := n5_; have NB538_537 := n6_; clear n0_ n1_ n2_ n3_ n4_ n5_ n6_; clear hb hbox hg) | ((with_reducible refine gate_dst (N := 3) rfl ?_); refine box_event ?hg (N := 3) ?hd (cs := #[.slice none 0 0, .slice none 0 0]) (t := 56) ?hr ?_; (case hd => rfl); (case hg => rfl); (case hr => first | (go_simp; done) | (go_simp; rfl)); intro gb539 hg w6 hbox hb; have n0_ := qM (blk_below (g := gb537) (o := .cells #[.slice A0_0 l0_0.length c0_0, .slice A0_1 l0_1.length c0_1] 48 (0, 0)) (by (with_reducible repeat (first | refine qn ?_ _ | refine qd ?_ | refine qa ?_ _)); exact BK537.out) hb); have n1_ := qM (blk_below (g := gb538) (o := .cells #[.slice none 0 0, .slice none 0 0] 56 (0, 0)) (by (with_reducible repeat (first | refine qn ?_ _ | refine qd ?_ | refine qa ?_ _)); exact BK538.out) hb); have n2_ := qM (qs (by repeat (first | (with_reducible first | exact HB.out | apply qA | apply qN | apply qD | refine qS ?_ GE537.out | refine qS ?_ GE538.out) | exact HB.out)) hb); have n3_ := qM (hbox); have n4_ := qM ((by rw [hg]; exact (qz (by repeat (first | (with_reducible first | exact HB.out | apply qA | apply qN | apply qD | refine qS ?_ GE537.out | refine qS ?_ GE538.out) | exact HB.out))) : w.heap.size ≤ gb539)); have n5_ := qM ((by rw [hg]; exact (qz (by repeat (first | (with_reducible first | exact HB.out | apply qA | apply qN | apply qD | refine qS ?_ GE537.out | refine qS ?_ GE538.out) | exact HB.out))) : w.heap.size ≤ gb539)); have n6_ := qM ((by rw [hg]; exact Nat.ne_of_lt (blk_lt (g := gb537) (o := .cells #[.slice A0_0 l0_0.length c0_0, .slice A0_1 l0_1.length c0_1] 48 (0, 0)) (by (with_reducible repeat (first | refine qn ?_ _ | refine qd ?_ | refine qa ?_ _)); exact BK537.out)) : gb537 ≠ gb539)); have n7_ := qM ((by rw [hg]; exact Nat.ne_of_gt (blk_lt (g := gb537) (o := .cells #[.slice A0_0 l0_0.length c0_0, .slice A0_1 l0_1.length c0_1] 48 (0, 0)) (by (with_reducible repeat (first | refine qn ?_ _ | refine qd ?_ | refine qa ?_ _)); exact BK537.out)) : gb539 ≠ gb537)); have n8_ := qM ((by rw [hg]; exact Nat.ne_of_lt (blk_lt (g := gb538) (o := .cells #[.slice none 0 0, .slice none 0 0] 56 (0, 0)) (by (with_reducible repeat (first | refine qn ?_ _ | refine qd ?_ | refine qa ?_ _)); exact BK538.out)) : gb538 ≠ gb539)); have n9_ := qM ((by rw [hg]; exact Nat.ne_of_gt (blk_lt (g := gb538) (o := .cells #[.slice none 0 0, .slice none 0 0] 56 (0, 0)) (by (with_reducible repeat (first | refine qn ?_ _ | refine qd ?_ | refine qa ?_ _)); exact BK538.out)) : gb539 ≠ gb538)); clear BK537; clear BK538; clear HB; have BK537 := n0_; have BK538 := n1_; have HB := n2_; have BK539 := n3_; have GW539 := n4_; have GE539 := n5_; have NB537_539 := n6_; have NB539_537 := n7_; have NB538_539 := n8_; have NB539_538 := n9_; clear n0_ n1_ n2_ n3_ n4_ n5_ n6_ n7_ n8_ n9_; clear hb hbox hg; have hnb7 := NB537_538.out; have hnc7 := NB538_537.out; have hnb8 := NB537_539.out; have hnc8 := NB539_537.out; have hcz9_0 : w6.cell? ⟨gb537, 0, none⟩ = some (.slice A0_0 l0_0.length c0_0) := (qC BK537.out 0).trans rfl; have hcz9_1 : w6.cell? ⟨gb537, 1, none⟩ = some (.slice A0_1 l0_1.length c0_1) := (qC BK537.out 1).trans rfl; have hfz9_0 := qF BK537.out 0; have hfz9_1 := qF BK537.out 1) | ((with_reducible refine gate_callee (f := 89) rfl ?_); refine goesL_ (some 6) rfl rfl Try.func89 (by kernel_rfl) rfl #[.slice A0_0 l0_0.length c0_0] rfl (by (try simp only [List.map_toArray, List.map_cons, List.map_nil]); first | done | rfl | (simp only [List.length_drop, List.length_take]; rfl)) ?_; (with_reducible refine (laws_toBoolS.calls k _ _ l0_0 t540 _ ?side1 ?side2 A2.out).mono ?_); (case side1 => repeat (first | exact (qB HR0_0.out HB.out) | (with_reducible refine qc ?_ _) | (with_reducible refine qe ?_ _) | (with_reducible refine qf ?_))); (case side2 => exact HC0_0.out); rintro e w10 ⟨v541, rfl, ho0, hb⟩; refine ⟨_, rfl, ?_⟩; have n0_ := qM (Kd.R_lower ho0 (qz (by repeat (first | (with_reducible first | exact HB.out | apply qA | apply qN | apply qD | refine qS ?_ GE537.out | refine qS ?_ GE538.out | refine qS ?_ GE539.out) | exact HB.out)))); have n1_ := qM (blk_below (g := gb537) (o := .cells #[.slice A0_0 l0_0.length c0_0, .slice A0_1 l0_1.length c0_1] 48 (0, 0)) (by (with_reducible repeat (first | refine qn ?_ _ | refine qd ?_ | refine qa ?_ _)); exact BK537.out) hb); have n2_ := qM (blk_below (g := gb538) (o := .cells #[.slice none 0 0, .slice none 0 0] 56 (0, 0)) (by (with_reducible repeat (first | refine qn ?_ _ | refine qd ?_ | refine qa ?_ _)); exact BK538.out) hb); have n3_ := qM (blk_below (g := gb539) (o := .cells #[.slice none 0 0, .slice none 0 0] 56 (0, 0)) (by (with_reducible repeat (first | refine qn ?_ _ | refine qd ?_ | refine qa ?_ _)); exact BK539.out) hb); have n4_ := qM (qs (by repeat (first | (with_reducible first | exact HB.out | apply qA | apply qN | apply qD | refine qS ?_ GE537.out | refine qS ?_ GE538.out | refine qS ?_ GE539.out) | exact HB.out)) hb); clear BK537; clear BK538; clear BK539; clear HB; have HO542 := n0_; have BK537 := n1_; have BK538 := n2_; have BK539 := n3_; have HB := n4_; clear n0_ n1_ n2_ n3_ n4_; (try clear hb); (try clear hb2); (try clear hk); (try clear hi); (try clear ho0); obtain ⟨Ao11, co11, eo11⟩ := Kd.R_slice HO542.out; subst eo11; have hnb12 := NB539_538.out; have hnc12 := NB538_539.out; have hcz13_0 : w10.cell? ⟨gb539, 0, none⟩ = some (.slice none 0 0) := (qC BK539.out 0).trans rfl; have hcz13_1 : w10.cell? ⟨gb539, 1, none⟩ = some (.slice none 0 0) := (qC BK539.out 1).trans rfl; have hfz13_0 := qF BK539.out 0; have hfz13_1 := qF BK539.out 1; have hcz14_0 : w10.cell? ⟨gb537, 0, none⟩ = some (.slice A0_0 l0_0.length c0_0) := (qC BK537.out 0).trans rfl; have hcz14_1 : w10.cell? ⟨gb537, 1, none⟩ = some (.slice A0_1 l0_1.length c0_1) := (qC BK537.out 1).trans rfl; have hfz14_0 := qF BK537.out 0; have hfz14_1 := qF BK537.out 1) | ((with_reducible refine gate_callee (f := 71) rfl ?_); refine goesL_ (some 10) rfl rfl Try.func71 (by kernel_rfl) rfl #[.slice A0_1 l0_1.length c0_1] rfl (by (try simp only [List.map_toArray, List.map_cons, List.map_nil]); first | done | rfl | (simp only [List.length_drop, List.length_take]; rfl)) ?_; (with_reducible refine (laws_toTaskS.calls k _ _ l0_1 t543 _ ?side1 ?side2 A3.out).mono ?_); (case side1 => exact qB HR0_1.out (by repeat (first | (with_reducible first | exact HB.out | apply qA | apply qN | apply qD | refine qS ?_ GE537.out | refine qS ?_ GE538.out | refine qS ?_ GE539.out) | exact HB.out))); (case side2 => exact HC0_1.out); rintro e w15 ⟨v544, rfl, ho0, hb⟩; refine ⟨_, rfl, ?_⟩; have n0_ := qM (Kd.R_below (by (with_reducible repeat (first | apply Kd.R_alloc | apply Kd.R_drewN | apply Kd.R_drew)); exact (Kd.R_mono (Kd.R_far (p := ⟨gb539, 0, none⟩) (Kd.R_types HO542.out BK539.out (by decide)) (fun _ hk => hk.2) (.slice Ao11 t540.length co11)) (fun _ h_ => h_.1))) hb); have n1_ := qM (Kd.R_lower ho0 (qz (by repeat (first | (with_reducible first | exact HB.out | apply qA | apply qN | apply qD | refine qS ?_ GE537.out | refine qS ?_ GE538.out | refine qS ?_ GE539.out) | exact HB.out)))); have n2_ := qM (blk_below (g := gb537) (o := .cells #[.slice A0_0 l0_0.length c0_0, .slice A0_1 l0_1.length c0_1] 48 (0, 0)) (by (with_reducible repeat (first | refine qn ?_ _ | refine qd ?_ | refine qa ?_ _)); refine blk_far ?_ NB537_539.out _; (with_reducible repeat (first | refine qn ?_ _ | refine qd ?_ | refine qa ?_ _)); exact BK537.out) hb); have n3_ := qM (blk_below (g := gb538) (o := .cells #[.slice none 0 0, .slice none 0 0] 56 (0, 0)) (by (with_reducible repeat (first | refine qn ?_ _ | refine qd ?_ | refine qa ?_ _)); refine blk_far ?_ NB538_539.out _; (with_reducible repeat (first | refine qn ?_ _ | refine qd ?_ | refine qa ?_ _)); exact BK538.out) hb); have n4_ := qM (blk_below (g := gb539) (o := .cells #[.slice Ao11 t540.length co11, .slice none 0 0] 56 (0, 0)) (by (with_reducible repeat (first | refine qn ?_ _ | refine qd ?_ | refine qa ?_ _)); refine blk_put (cs := #[.slice none 0 0, .slice none 0 0]) ?_ 0 _ rfl; (with_reducible repeat (first | refine qn ?_ _ | refine qd ?_ | refine qa ?_ _)); exact BK539.out) hb); have n5_ := qM (qs (by repeat (first | (with_reducible first | exact HB.out | apply qA | apply qN | apply qD | refine qS ?_ GE537.out | refine qS ?_ GE538.out | refine qS ?_ GE539.out) | exact HB.out)) hb); clear HO542; clear BK537; clear BK538; clear BK539; clear HB; have HO542 := n0_; have HO545 := n1_; have BK537 := n2_; have BK538 := n3_; have BK539 := n4_; have HB := n5_; clear n0_ n1_ n2_ n3_ n4_ n5_; (try clear hb); (try clear hb2); (try clear hk); (try clear hi); (try clear ho0); obtain ⟨Ao16, co16, eo16⟩ := Kd.R_slice HO545.out; subst eo16; have hcz17_0 : w15.cell? ⟨gb539, 0, none⟩ = some (.slice Ao11 t540.length co11) := (qC BK539.out 0).trans rfl; have hcz17_1 : w15.cell? ⟨gb539, 1, none⟩ = some (.slice none 0 0) := (qC BK539.out 1).trans rfl; have hfz17_0 := qF BK539.out 0; have hfz17_1 := qF BK539.out 1; have hcz18_0 : w15.cell? ⟨gb538, 0, none⟩ = some (.slice none 0 0) := (qC BK538.out 0).trans rfl; have hcz18_1 : w15.cell? ⟨gb538, 1, none⟩ = some (.slice none 0 0) := (qC BK538.out 1).trans rfl; have hfz18_0 := qF BK538.out 0; have hfz18_1 := qF BK538.out 1))
  refine bodyPost_ret (results_cell_row rfl _ _ gb538 56 #[.slice Ao11 t540.length co11, .slice Ao16 t543.length co16] (0, 0) _ rfl (by (with_reducible repeat (first | refine qn ?_ _ | refine qd ?_ | refine qa ?_ _)); refine blk_put (cs := #[.slice Ao11 t540.length co11, .slice none 0 0]) ?_ 1 _ rfl; (with_reducible repeat (first | refine qn ?_ _ | refine qd ?_ | refine qa ?_ _)); refine blk_put (cs := #[.slice none 0 0, .slice none 0 0]) ?_ 0 _ rfl; (with_reducible repeat (first | refine qn ?_ _ | refine qd ?_ | refine qa ?_ _)); refine blk_far ?_ NB538_539.out _; (with_reducible repeat (first | refine qn ?_ _ | refine qd ?_ | refine qa ?_ _)); exact BK538.out) Try.underlying56 rfl (by kernel_rfl)) rfl ?_
  exact ⟨_, _, by first | rfl | (simp [errW_none, errW_some] <;> rfl) | (simp [*, errW_none, errW_some] <;> rfl), by (with_reducible repeat (first | apply Kd.R_alloc | apply Kd.R_drewN | apply Kd.R_drew)); exact Kd.R_mono (Kd.R_far (p := ⟨gb538, 1, none⟩) (Kd.R_far (p := ⟨gb538, 0, none⟩) (Kd.R_far (p := ⟨gb539, 1, none⟩) (Kd.R_types (Kd.R_types HO542.out BK539.out (by decide)) BK538.out (by decide)) (fun _ hk => hk.1.2) (.slice Ao16 t543.length co16)) (fun _ hk => hk.2) (.slice Ao11 t540.length co11)) (fun _ hk => hk.2) (.slice Ao16 t543.length co16)) (fun _ hk => trivial), by (with_reducible repeat (first | apply Kd.R_alloc | apply Kd.R_drewN | apply Kd.R_drew)); exact Kd.R_mono (Kd.R_far (p := ⟨gb538, 1, none⟩) (Kd.R_far (p := ⟨gb538, 0, none⟩) (Kd.R_far (p := ⟨gb539, 1, none⟩) (Kd.R_types (Kd.R_types HO545.out BK539.out (by decide)) BK538.out (by decide)) (fun _ hk => hk.1.2) (.slice Ao16 t543.length co16)) (fun _ hk => hk.2) (.slice Ao11 t540.length co11)) (fun _ hk => hk.2) (.slice Ao16 t543.length co16)) (fun _ hk => trivial), by repeat (first | (with_reducible first | exact HB.out | apply qA | apply qN | apply qD | refine qS ?_ GE537.out | refine qS ?_ GE538.out | refine qS ?_ GE539.out) | exact HB.out)⟩
def laws_toFetch.f (a0_0 : Int) (a0_1 : Int) : Option (Int × Int) := some (a0_0, a0_1)
set_option maxHeartbeats 8000000 in
set_option maxRecDepth 100000 in
theorem laws_toFetch.calls (a0_0 : Int) (a0_1 : Int) (r1 : Int) (r2 : Int) (w : World) (h : laws_toFetch.f a0_0 a0_1 = some (r1, r2)) :
    Calls Try.prog 156 #[.agg #[.int .i64 a0_0, .int .i64 a0_1]] w fun e w' => e = .returned (.agg #[.int .i64 r1, .int .i64 r2]) ∧ Below w.heap.size w w' := by
  have hu165 := Try.underlying165
  have hu117 := Try.underlying117
  have HB := qM (Below.refl w.heap.size w)
  have H : (some (a0_0, a0_1)) = some (r1, r2) := h
  clear h
  simp only [Option.some.injEq, Prod.mk.injEq] at H
  obtain ⟨rfl, rfl⟩ := H
  go_enter Try.func156, Try.ntmps156
  go_wp2_with (first | ((with_reducible refine gate_dst (N := 1) rfl ?_); refine box_event ?hg (N := 1) ?hd (cs := #[.int .i64 a0_0, .int .i64 a0_1]) (t := 165) ?hr ?_; (case hd => rfl); (case hg => rfl); (case hr => first | (go_simp; done) | (go_simp; rfl)); intro gb546 hg w2 hbox hb; have n0_ := qM (qs (by repeat (first | (with_reducible first | exact HB.out | apply qA | apply qN | apply qD) | exact HB.out)) hb); have n1_ := qM (hbox); have n2_ := qM ((by rw [hg]; exact (qz (by repeat (first | (with_reducible first | exact HB.out | apply qA | apply qN | apply qD) | exact HB.out))) : w.heap.size ≤ gb546)); have n3_ := qM ((by rw [hg]; exact (qz (by repeat (first | (with_reducible first | exact HB.out | apply qA | apply qN | apply qD) | exact HB.out))) : w.heap.size ≤ gb546)); clear HB; have HB := n0_; have BK546 := n1_; have GW546 := n2_; have GE546 := n3_; clear n0_ n1_ n2_ n3_; clear hb hbox hg) | ((with_reducible refine gate_dst (N := 2) rfl ?_); refine box_event ?hg (N := 2) ?hd (cs := #[.int .i64 0, .int .i64 0]) (t := 117) ?hr ?_; (case hd => rfl); (case hg => rfl); (case hr => first | (go_simp; done) | (go_simp; rfl)); intro gb547 hg w3 hbox hb; have n0_ := qM (blk_below (g := gb546) (o := .cells #[.int .i64 a0_0, .int .i64 a0_1] 165 (0, 0)) (by (with_reducible repeat (first | refine qn ?_ _ | refine qd ?_ | refine qa ?_ _)); exact BK546.out) hb); have n1_ := qM (qs (by repeat (first | (with_reducible first | exact HB.out | apply qA | apply qN | apply qD | refine qS ?_ GE546.out) | exact HB.out)) hb); have n2_ := qM (hbox); have n3_ := qM ((by rw [hg]; exact (qz (by repeat (first | (with_reducible first | exact HB.out | apply qA | apply qN | apply qD | refine qS ?_ GE546.out) | exact HB.out))) : w.heap.size ≤ gb547)); have n4_ := qM ((by rw [hg]; exact (qz (by repeat (first | (with_reducible first | exact HB.out | apply qA | apply qN | apply qD | refine qS ?_ GE546.out) | exact HB.out))) : w.heap.size ≤ gb547)); have n5_ := qM ((by rw [hg]; exact Nat.ne_of_lt (blk_lt (g := gb546) (o := .cells #[.int .i64 a0_0, .int .i64 a0_1] 165 (0, 0)) (by (with_reducible repeat (first | refine qn ?_ _ | refine qd ?_ | refine qa ?_ _)); exact BK546.out)) : gb546 ≠ gb547)); have n6_ := qM ((by rw [hg]; exact Nat.ne_of_gt (blk_lt (g := gb546) (o := .cells #[.int .i64 a0_0, .int .i64 a0_1] 165 (0, 0)) (by (with_reducible repeat (first | refine qn ?_ _ | refine qd ?_ | refine qa ?_ _)); exact BK546.out)) : gb547 ≠ gb546)); clear BK546; clear HB; have BK546 := n0_; have HB := n1_; have BK547 := n2_; have GW547 := n3_; have GE547 := n4_; have NB546_547 := n5_; have NB547_546 := n6_; clear n0_ n1_ n2_ n3_ n4_ n5_ n6_; clear hb hbox hg) | ((with_reducible refine gate_dst (N := 3) rfl ?_); refine box_event ?hg (N := 3) ?hd (cs := #[.int .i64 0, .int .i64 0]) (t := 117) ?hr ?_; (case hd => rfl); (case hg => rfl); (case hr => first | (go_simp; done) | (go_simp; rfl)); intro gb548 hg w4 hbox hb; have n0_ := qM (blk_below (g := gb546) (o := .cells #[.int .i64 a0_0, .int .i64 a0_1] 165 (0, 0)) (by (with_reducible repeat (first | refine qn ?_ _ | refine qd ?_ | refine qa ?_ _)); exact BK546.out) hb); have n1_ := qM (blk_below (g := gb547) (o := .cells #[.int .i64 0, .int .i64 0] 117 (0, 0)) (by (with_reducible repeat (first | refine qn ?_ _ | refine qd ?_ | refine qa ?_ _)); exact BK547.out) hb); have n2_ := qM (qs (by repeat (first | (with_reducible first | exact HB.out | apply qA | apply qN | apply qD | refine qS ?_ GE546.out | refine qS ?_ GE547.out) | exact HB.out)) hb); have n3_ := qM (hbox); have n4_ := qM ((by rw [hg]; exact (qz (by repeat (first | (with_reducible first | exact HB.out | apply qA | apply qN | apply qD | refine qS ?_ GE546.out | refine qS ?_ GE547.out) | exact HB.out))) : w.heap.size ≤ gb548)); have n5_ := qM ((by rw [hg]; exact (qz (by repeat (first | (with_reducible first | exact HB.out | apply qA | apply qN | apply qD | refine qS ?_ GE546.out | refine qS ?_ GE547.out) | exact HB.out))) : w.heap.size ≤ gb548)); have n6_ := qM ((by rw [hg]; exact Nat.ne_of_lt (blk_lt (g := gb546) (o := .cells #[.int .i64 a0_0, .int .i64 a0_1] 165 (0, 0)) (by (with_reducible repeat (first | refine qn ?_ _ | refine qd ?_ | refine qa ?_ _)); exact BK546.out)) : gb546 ≠ gb548)); have n7_ := qM ((by rw [hg]; exact Nat.ne_of_gt (blk_lt (g := gb546) (o := .cells #[.int .i64 a0_0, .int .i64 a0_1] 165 (0, 0)) (by (with_reducible repeat (first | refine qn ?_ _ | refine qd ?_ | refine qa ?_ _)); exact BK546.out)) : gb548 ≠ gb546)); have n8_ := qM ((by rw [hg]; exact Nat.ne_of_lt (blk_lt (g := gb547) (o := .cells #[.int .i64 0, .int .i64 0] 117 (0, 0)) (by (with_reducible repeat (first | refine qn ?_ _ | refine qd ?_ | refine qa ?_ _)); exact BK547.out)) : gb547 ≠ gb548)); have n9_ := qM ((by rw [hg]; exact Nat.ne_of_gt (blk_lt (g := gb547) (o := .cells #[.int .i64 0, .int .i64 0] 117 (0, 0)) (by (with_reducible repeat (first | refine qn ?_ _ | refine qd ?_ | refine qa ?_ _)); exact BK547.out)) : gb548 ≠ gb547)); clear BK546; clear BK547; clear HB; have BK546 := n0_; have BK547 := n1_; have HB := n2_; have BK548 := n3_; have GW548 := n4_; have GE548 := n5_; have NB546_548 := n6_; have NB548_546 := n7_; have NB547_548 := n8_; have NB548_547 := n9_; clear n0_ n1_ n2_ n3_ n4_ n5_ n6_ n7_ n8_ n9_; clear hb hbox hg; have hnb5 := NB546_547.out; have hnc5 := NB547_546.out; have hnb6 := NB546_548.out; have hnc6 := NB548_546.out; have hcz7_0 : w4.cell? ⟨gb546, 0, none⟩ = some (.int .i64 a0_0) := (qC BK546.out 0).trans rfl; have hcz7_1 : w4.cell? ⟨gb546, 1, none⟩ = some (.int .i64 a0_1) := (qC BK546.out 1).trans rfl; have hfz7_0 := qF BK546.out 0; have hfz7_1 := qF BK546.out 1; have hnb8 := NB548_547.out; have hnc8 := NB547_548.out; have hcz9_0 : w4.cell? ⟨gb548, 0, none⟩ = some (.int .i64 0) := (qC BK548.out 0).trans rfl; have hcz9_1 : w4.cell? ⟨gb548, 1, none⟩ = some (.int .i64 0) := (qC BK548.out 1).trans rfl; have hfz9_0 := qF BK548.out 0; have hfz9_1 := qF BK548.out 1; have hcz10_0 : w4.cell? ⟨gb547, 0, none⟩ = some (.int .i64 0) := (qC BK547.out 0).trans rfl; have hcz10_1 : w4.cell? ⟨gb547, 1, none⟩ = some (.int .i64 0) := (qC BK547.out 1).trans rfl; have hfz10_0 := qF BK547.out 0; have hfz10_1 := qF BK547.out 1))
  refine bodyPost_ret (results_cell_row rfl _ _ gb547 117 #[.int .i64 a0_0, .int .i64 a0_1] (0, 0) _ rfl (by (with_reducible repeat (first | refine qn ?_ _ | refine qd ?_ | refine qa ?_ _)); refine blk_put (cs := #[.int .i64 a0_0, .int .i64 0]) ?_ 1 _ rfl; (with_reducible repeat (first | refine qn ?_ _ | refine qd ?_ | refine qa ?_ _)); refine blk_put (cs := #[.int .i64 0, .int .i64 0]) ?_ 0 _ rfl; (with_reducible repeat (first | refine qn ?_ _ | refine qd ?_ | refine qa ?_ _)); refine blk_far ?_ NB547_548.out _; (with_reducible repeat (first | refine qn ?_ _ | refine qd ?_ | refine qa ?_ _)); refine blk_far ?_ NB547_548.out _; (with_reducible repeat (first | refine qn ?_ _ | refine qd ?_ | refine qa ?_ _)); exact BK547.out) Try.underlying117 rfl (by kernel_rfl)) rfl ?_
  exact ⟨by first | rfl | (simp [errW_none, errW_some] <;> rfl) | (simp [*, errW_none, errW_some] <;> rfl), by repeat (first | (with_reducible first | exact HB.out | apply qA | apply qN | apply qD | refine qS ?_ GE546.out | refine qS ?_ GE547.out | refine qS ?_ GE548.out) | exact HB.out)⟩
def laws_toFetchS.l0 : Nat → List (S165) → List (S117) → Int → Option ((List (S117)))
  | 0, _, _, _ => none
  | k + 1, x0, x3, x4 => if x4 < (x0.length : Int) then (if 0 ≤ x4 then ((laws_toFetch.f ((rd_T165 x0 x4).f0) ((rd_T165 x0 x4).f1)).bind fun bt553 => (if x4 < (x3.length : Int) then (laws_toFetchS.l0 k x0 (x3.set (x4 : Int).toNat (⟨bt553.1, bt553.2⟩ : S117)) (wrap64 (x4 + 1))) else (none))) else (none)) else (some x3)
def laws_toFetchS.f (k : Nat) (l0 : List (S165)) : Option ((List (S117))) := if 0 ≤ (l0.length : Int) then (if ((l0.length : Int) : Int).toNat ≤ 17592186044416 then (laws_toFetchS.l0 k l0 (List.replicate ((l0.length : Int) : Int).toNat z117) 0) else (none)) else (none)
set_option maxHeartbeats 8000000 in
set_option maxRecDepth 100000 in
theorem laws_toFetchS.calls (k : Nat) (A0 : Option Addr) (c0 : Nat) (l0 : List (S165)) (r : List (S117)) (w : World) (hr0 : Kd.C k165 w A0 l0.length l0) (hc0 : l0.length ≤ c0) (h : laws_toFetchS.f k l0 = some r) :
    Calls Try.prog 111 #[.slice A0 l0.length c0] w fun e w' => ∃ v0_ : Value, e = .returned (v0_) ∧ Kd.R k117 117 w' w.heap.size (fun _ => True) v0_ r ∧ Below w.heap.size w w' := by
  have hu165 := Try.underlying165
  have hu117 := Try.underlying117
  have HR0 := qM hr0
  have HC0 := qM hc0
  clear hr0 hc0
  have HB := qM (Below.refl w.heap.size w)
  have H : (if 0 ≤ (l0.length : Int) then (if ((l0.length : Int) : Int).toNat ≤ 17592186044416 then (laws_toFetchS.l0 k l0 (List.replicate ((l0.length : Int) : Int).toNat z117) 0) else (none)) else (none)) = some r := h
  clear h
  by_cases c2 : 0 ≤ (l0.length : Int)
  rotate_left
  · rw [if_neg c2] at H
    exact absurd H (by simp)
  rw [if_pos c2] at H
  have c2b0 := eq_true c2
  have c2b1 : decide (0 ≤ (l0.length : Int)) = true := decide_eq_true c2
  clear c2
  by_cases c3 : ((l0.length : Int) : Int).toNat ≤ 17592186044416
  rotate_left
  · rw [if_neg c3] at H
    exact absurd H (by simp)
  rw [if_pos c3] at H
  have c3b0 := eq_true c3
  have c3b1 : decide (((l0.length : Int) : Int).toNat ≤ 17592186044416) = true := decide_eq_true c3
  clear c3
  obtain ⟨y549, hy549⟩ : ∃ y_ : List (S117), y_ = (List.replicate ((l0.length : Int) : Int).toNat z117) := ⟨_, rfl⟩
  replace H : (laws_toFetchS.l0 k l0 y549 0) = some r := by first | (rw [hy549]; with_reducible exact H) | (have H2_ := (Option.bind_some _ _).symm.trans H; rw [hy549]; with_reducible exact H2_) | (have H2_ := (Option.bind_some _ _).symm.trans H; with_reducible exact H2_) | with_reducible exact H | (rw [hy549]; exact H) | exact H
  have Ny549 := qM hy549
  clear hy549
  have H' := qM H
  clear H
  go_enter Try.func111, Try.ntmps111
  go_wp2_with (first | ((with_reducible refine gate_dst (N := 7) rfl ?_); refine Kd.R_make k117 _ 117 rfl (N := 7) rfl 85 _ _ rfl (l0.length : Int) rfl rfl Try.underlying85 (.agg #[(.int .i64 0), (.int .i64 0)]) 16 info117 rfl (by decide) (by omega) z117 (ok := fun _ => True) (okp := fun _ => True) (k117_mkM _ _ _ z117 ) (fun _ hk => hk) trivial (qO (by first | (with_reducible assumption) | assumption)) (Nat.le_trans (Nat.mul_le_mul_right _ (qO (by first | (with_reducible assumption) | assumption) : (l0.length : Int).toNat ≤ 17592186044416)) (by omega)) (Below.refl _ _) (Nat.le_refl _) ?_; intro v550 w4 ho5 hb hg_ hnew_; clear hg_ hnew_; (first | rw [← Ny549.out] at ho5 | (simp only [Int.reduceToNat] at ho5; rw [← Ny549.out] at ho5)); have n0_ := qM (Kd.R_lower ho5 (qz (by repeat (first | (with_reducible first | exact HB.out | apply qA | apply qN | apply qD) | exact HB.out)))); have n1_ := qM (qs (by repeat (first | (with_reducible first | exact HB.out | apply qA | apply qN | apply qD) | exact HB.out)) hb); clear HB; have HO551 := n0_; have HB := n1_; clear n0_ n1_; clear hb ho5))
  go_loopg [4] k (fun kq v4 w' => ∃ (x3_1 : List (S117)) (x4_1 : Int), v4 = .int .i64 x4_1 ∧ Aside0 (laws_toFetchS.l0 kq l0 x3_1 x4_1 = some r) ∧ Aside0 (kq ≤ k) ∧ Aside0 (Kd.R k117 117 w' w.heap.size (fun _ => True) v550 x3_1) ∧ Aside0 (Below w.heap.size w w'))
  case atStart => exact ⟨(y549), (0), (by first | rfl | (simp; done) | (simp [*]; done)), H', ⟨Nat.le_refl _⟩, ⟨by (with_reducible repeat (first | apply Kd.R_alloc | apply Kd.R_drewN | apply Kd.R_drew)); exact HO551.out⟩, ⟨by repeat (first | (with_reducible first | exact HB.out | apply qA | apply qN | apply qD) | exact HB.out)⟩⟩
  case round =>
    clear H'
    try clear c1
    try clear c2
    try clear c2b0
    try clear c2b1
    try clear p2
    try clear c3
    try clear c3b0
    try clear c3b1
    obtain ⟨x3_1, x4_1, rfl, HA, HK1, HO_3, HB⟩ := hrel
    cases gk with
    | zero => exact absurd HA.out (by simp [laws_toFetchS.l0])
    | succ k1 =>
      have H := HA.out
      clear HA
      simp only [laws_toFetchS.l0] at H
      by_cases c6 : x4_1 < (l0.length : Int)
      rotate_left
      · rw [if_neg c6] at H
        have c6b0 : decide (x4_1 < (l0.length : Int)) = false := decide_eq_false c6
        clear c6
        obtain rfl := Option.some.inj H
        go_wp2
        go_ret
        exact ⟨_, by first | rfl | (simp [errW_none, errW_some] <;> rfl) | (simp [*, errW_none, errW_some] <;> rfl), by (with_reducible repeat (first | apply Kd.R_alloc | apply Kd.R_drewN | apply Kd.R_drew)); exact HO_3.out, by repeat (first | (with_reducible first | exact HB.out | apply qA | apply qN | apply qD) | exact HB.out)⟩
      rw [if_pos c6] at H
      have c6b0 : decide (x4_1 < (l0.length : Int)) = true := decide_eq_true c6
      clear c6
      by_cases c7 : 0 ≤ x4_1
      rotate_left
      · rw [if_neg c7] at H
        exact absurd H (by simp)
      rw [if_pos c7] at H
      have c7b0 : decide (0 ≤ x4_1) = true := decide_eq_true c7
      clear c7
      replace H := Option.bind_eq_some_iff.mp H
      obtain ⟨⟨t553, t554⟩, A80, H⟩ := H
      replace H : (if x4_1 < (x3_1.length : Int) then (laws_toFetchS.l0 k1 l0 (x3_1.set (x4_1 : Int).toNat (⟨t553, t554⟩ : S117)) (wrap64 (x4_1 + 1))) else (none)) = some r := H
      have A8 := qM A80
      clear A80
      by_cases c9 : x4_1 < (x3_1.length : Int)
      rotate_left
      · rw [if_neg c9] at H
        exact absurd H (by simp)
      rw [if_pos c9] at H
      have c9b0 : decide (x4_1 < (x3_1.length : Int)) = true := decide_eq_true c9
      clear c9
      obtain ⟨y555, hy555⟩ : ∃ y_ : List (S117), y_ = (x3_1.set (x4_1 : Int).toNat (⟨t553, t554⟩ : S117)) := ⟨_, rfl⟩
      replace H : (laws_toFetchS.l0 k1 l0 y555 (wrap64 (x4_1 + 1))) = some r := by first | (rw [hy555]; with_reducible exact H) | (have H2_ := (Option.bind_some _ _).symm.trans H; rw [hy555]; with_reducible exact H2_) | (have H2_ := (Option.bind_some _ _).symm.trans H; with_reducible exact H2_) | with_reducible exact H | (rw [hy555]; exact H) | exact H
      have Ny555 := qM hy555
      clear hy555
      have H' := qM H
      clear H
      have p552 : 0 ≤ (x4_1 : Int) := qO (by first | (with_reducible assumption) | assumption)
      have q552 : x4_1 < (l0.length : Int) := qO (by first | (with_reducible assumption) | assumption)
      obtain ⟨ad552, e552, hx552_0, hx552_1⟩ := at_T165 HR0.out x4_1 p552 q552
      cases e552
      replace hx552_0 := (HB.out.cell (qL w _ hx552_0)).trans hx552_0
      replace hx552_1 := (HB.out.cell (qL w _ hx552_1)).trans hx552_1
      replace p552 := eq_true p552
      replace q552 := eq_true q552
      go_wp2_with (first | ((with_reducible refine gate_callee (f := 156) rfl ?_); refine goesL_ (some 20) rfl rfl Try.func156 (by kernel_rfl) rfl #[.agg #[.int .i64 ((rd_T165 l0 x4_1).f0), .int .i64 ((rd_T165 l0 x4_1).f1)]] rfl (by (try simp only [List.map_toArray, List.map_cons, List.map_nil]); first | done | rfl | (simp only [List.length_drop, List.length_take]; rfl)) ?_; (with_reducible refine (laws_toFetch.calls ((rd_T165 l0 x4_1).f0) ((rd_T165 l0 x4_1).f1) t553 t554 _ A8.out).mono ?_); rintro e w11 ⟨rfl, hb⟩; refine ⟨_, rfl, ?_⟩; have n0_ := qM (Kd.R_below (by (with_reducible repeat (first | apply Kd.R_alloc | apply Kd.R_drewN | apply Kd.R_drew)); exact HO_3.out) hb); have n1_ := qM (qs (by repeat (first | (with_reducible first | exact HB.out | apply qA | apply qN | apply qD) | exact HB.out)) hb); clear HO_3; clear HB; have HO_3 := n0_; have HB := n1_; clear n0_ n1_; (try clear hb); (try clear hb2); (try clear hk); (try clear hi); have p10 : 0 ≤ (x4_1 : Int) := qO (by first | (with_reducible assumption) | assumption); have q10 : (x4_1 : Int) < ((x3_1.length : Int) : Int) := qO (by first | (with_reducible assumption) | assumption); obtain ⟨go10, co10, eo10, gb10, gl10, cl10, HG10⟩ := Kd.R_form HO_3.out (by omega); (first | cases eo10 | (injection eo10 with ea_ en_ ec_; (first | subst ea_ | (injection ea_ with ea_; subst ea_)); subst ec_; clear en_)); have GB10 := qM gb10; have GG10 := qM HG10; clear gb10 gl10 HG10; obtain ⟨ce10, hcl10, hM10, hcc10, hfr10⟩ := Kd.R_elem HO_3.out z117 (x4_1 : Int) p10 q10; obtain rfl := k117_openM hM10; have hx10_0 : w11.cell? ⟨go10, (x4_1 : Int).toNat * 2, none⟩ = some (.int .i64 ((rd_T117 x3_1 x4_1).f0)) := hcc10 0 _ rfl; have hx10_1 : w11.cell? ⟨go10, (x4_1 : Int).toNat * 2 + 1, none⟩ = some (.int .i64 ((rd_T117 x3_1 x4_1).f1)) := hcc10 1 _ rfl; have hf10_0 : w11.frozen? ⟨go10, (x4_1 : Int).toNat * 2, none⟩ = false := hfr10 0; have hf10_1 : w11.frozen? ⟨go10, (x4_1 : Int).toNat * 2 + 1, none⟩ = false := hfr10 1; clear hcl10 hcc10 hfr10 hM10; replace p10 := eq_true p10; replace q10 := eq_true q10; have HX12 := qM (show Kd.R k117 117 w11 w.heap.size (fun _ => True) (.slice (some ⟨go10, 0, none⟩) x3_1.length co10) x3_1 from (by (with_reducible repeat (first | apply Kd.R_alloc | apply Kd.R_drewN | apply Kd.R_drew)); exact HO_3.out)); obtain ⟨ce12, hcl12, hM12, hcc12, hfr12⟩ := Kd.R_elem HX12.out z117 (x4_1 : Int) (qO (by first | (with_reducible assumption) | assumption)) (by have h_ : (x4_1 : Int) < ((x3_1.length : Int) : Int) := qO (by first | (with_reducible assumption) | assumption); first | exact h_ | (have e_ := (Kd.R_reads' HO_3.out).1; omega) | simpa using h_); obtain rfl := k117_openM hM12; have HP12 := Kd.R_seg HX12.out (x4_1 : Int) (qO (by first | (with_reducible assumption) | assumption)) (by have h_ : (x4_1 : Int) < ((x3_1.length : Int) : Int) := qO (by first | (with_reducible assumption) | assumption); first | exact h_ | (have e_ := (Kd.R_reads' HO_3.out).1; omega) | simpa using h_) (seg := [.int .i64 t553, .int .i64 t554]) (j := 0) hcl12 hcc12 (show 2 ≤ 2 from by decide) (x' := (⟨t553, t554⟩ : S117)) (k117_mkM _ _ _ (⟨t553, t554⟩ : S117) ) (fun _ hk => hk); have hx12_0 := hcc12 0 _ rfl; (try simp only [show (k117).sz = 2 from rfl, Nat.mul_one, Nat.add_zero] at hx12_0); have hf12_0 := hfr12 0; (try simp only [show (k117).sz = 2 from rfl, Nat.mul_one, Nat.add_zero] at hf12_0); have hx12_1 := hcc12 1 _ rfl; (try simp only [show (k117).sz = 2 from rfl, Nat.mul_one, Nat.add_zero] at hx12_1); have hf12_1 := hfr12 1; (try simp only [show (k117).sz = 2 from rfl, Nat.mul_one, Nat.add_zero] at hf12_1); clear hcl12 hcc12 hfr12 hM12) | ((with_reducible refine gate_store (t := 117) (p := 21) rfl ?_); refine store_event (t := 117) (p := 21) (v := ?vo_w13) (w1 := ((w11.setCell ⟨go10, (x4_1 : Int).toNat * 2, none⟩ (.int .i64 t553)).setCell ⟨go10, (x4_1 : Int).toNat * 2 + 1, none⟩ (.int .i64 t554))) ?hg ?ho ?hn ?hr ?_; (case ho => rfl); (case hg => rfl); (case hn => rfl); (case hr => first | (go_simp; done) | (go_simp; rfl)); intro w13 hw; have hg : w11.grownBy w13 (some go10) := (by rw [hw]; exact HP12.2); have hp_ : Kd.R k117 117 w13 w.heap.size (fun _ => True) (.slice (some ⟨go10, 0, none⟩) x3_1.length co10) y555 := (by rw [hw, Ny555.out]; exact HP12.1); clear HP12; have n0_ := qM (hp_); have n1_ := qM ((by rw [hw]; exact qS (qS (HB.out) GB10.out) GB10.out : Below w.heap.size w w13)); clear HO_3; clear HB; have HO_3 := n0_; have HB := n1_; clear n0_ n1_; clear hg hw hp_))
      go_roundg k1
      case measure => have := HK1.out; omega
      case rel => exact ⟨(y555), (wrap64 (x4_1 + 1)), (by first | rfl | (simp; done) | (simp [*]; done)), H', ⟨by have := HK1.out; omega⟩, ⟨by (with_reducible repeat (first | apply Kd.R_alloc | apply Kd.R_drewN | apply Kd.R_drew)); exact HO_3.out⟩, ⟨by repeat (first | (with_reducible first | exact HB.out | apply qA | apply qN | apply qD) | exact HB.out)⟩⟩
def laws_toTrace.f (k : Nat) (a0_0 : Int) (l0_1 : List (S165)) (a0_2 : Int) : Option (Int × (List (S117)) × Int) := (laws_toFetchS.f k l0_1).bind fun t559 => (some (a0_0, t559, a0_2))
set_option maxHeartbeats 8000000 in
set_option maxRecDepth 100000 in
theorem laws_toTrace.calls (k : Nat) (a0_0 : Int) (A0_1 : Option Addr) (c0_1 : Nat) (l0_1 : List (S165)) (a0_2 : Int) (r1 : Int) (r2 : List (S117)) (r3 : Int) (w : World) (hr0_1 : Kd.C k165 w A0_1 l0_1.length l0_1) (hc0_1 : l0_1.length ≤ c0_1) (h : laws_toTrace.f k a0_0 l0_1 a0_2 = some (r1, r2, r3)) :
    Calls Try.prog 54 #[.agg #[.int .i64 a0_0, .slice A0_1 l0_1.length c0_1, .int .i64 a0_2]] w fun e w' => ∃ v1_ : Value, e = .returned (.agg #[.int .i64 r1, v1_, .int .i64 r3]) ∧ Kd.R k117 117 w' w.heap.size (fun _ => True) v1_ r2 ∧ Below w.heap.size w w' := by
  have hu81 := Try.underlying81
  have hu87 := Try.underlying87
  have HR0_1 := qM hr0_1
  have HC0_1 := qM hc0_1
  clear hr0_1 hc0_1
  have HB := qM (Below.refl w.heap.size w)
  have H : ((laws_toFetchS.f k l0_1).bind fun t559 => (some (a0_0, t559, a0_2))) = some (r1, r2, r3) := h
  clear h
  replace H := Option.bind_eq_some_iff.mp H
  obtain ⟨t559, A20, H⟩ := H
  replace H : (some (a0_0, t559, a0_2)) = some (r1, r2, r3) := H
  have A2 := qM A20
  clear A20
  simp only [Option.some.injEq, Prod.mk.injEq] at H
  obtain ⟨rfl, rfl, rfl⟩ := H
  go_enter Try.func54, Try.ntmps54
  go_wp2_with (first | ((with_reducible refine gate_dst (N := 1) rfl ?_); refine box_event ?hg (N := 1) ?hd (cs := #[.int .i64 a0_0, .slice A0_1 l0_1.length c0_1, .int .i64 a0_2]) (t := 81) ?hr ?_; (case hd => rfl); (case hg => rfl); (case hr => first | (go_simp; done) | (go_simp; rfl)); intro gb556 hg w3 hbox hb; have n0_ := qM (qs (by repeat (first | (with_reducible first | exact HB.out | apply qA | apply qN | apply qD) | exact HB.out)) hb); have n1_ := qM (hbox); have n2_ := qM ((by rw [hg]; exact (qz (by repeat (first | (with_reducible first | exact HB.out | apply qA | apply qN | apply qD) | exact HB.out))) : w.heap.size ≤ gb556)); have n3_ := qM ((by rw [hg]; exact (qz (by repeat (first | (with_reducible first | exact HB.out | apply qA | apply qN | apply qD) | exact HB.out))) : w.heap.size ≤ gb556)); clear HB; have HB := n0_; have BK556 := n1_; have GW556 := n2_; have GE556 := n3_; clear n0_ n1_ n2_ n3_; clear hb hbox hg) | ((with_reducible refine gate_dst (N := 2) rfl ?_); refine box_event ?hg (N := 2) ?hd (cs := #[.int .i64 0, .slice none 0 0, .int .i64 0]) (t := 87) ?hr ?_; (case hd => rfl); (case hg => rfl); (case hr => first | (go_simp; done) | (go_simp; rfl)); intro gb557 hg w4 hbox hb; have n0_ := qM (blk_below (g := gb556) (o := .cells #[.int .i64 a0_0, .slice A0_1 l0_1.length c0_1, .int .i64 a0_2] 81 (0, 0)) (by (with_reducible repeat (first | refine qn ?_ _ | refine qd ?_ | refine qa ?_ _)); exact BK556.out) hb); have n1_ := qM (qs (by repeat (first | (with_reducible first | exact HB.out | apply qA | apply qN | apply qD | refine qS ?_ GE556.out) | exact HB.out)) hb); have n2_ := qM (hbox); have n3_ := qM ((by rw [hg]; exact (qz (by repeat (first | (with_reducible first | exact HB.out | apply qA | apply qN | apply qD | refine qS ?_ GE556.out) | exact HB.out))) : w.heap.size ≤ gb557)); have n4_ := qM ((by rw [hg]; exact (qz (by repeat (first | (with_reducible first | exact HB.out | apply qA | apply qN | apply qD | refine qS ?_ GE556.out) | exact HB.out))) : w.heap.size ≤ gb557)); have n5_ := qM ((by rw [hg]; exact Nat.ne_of_lt (blk_lt (g := gb556) (o := .cells #[.int .i64 a0_0, .slice A0_1 l0_1.length c0_1, .int .i64 a0_2] 81 (0, 0)) (by (with_reducible repeat (first | refine qn ?_ _ | refine qd ?_ | refine qa ?_ _)); exact BK556.out)) : gb556 ≠ gb557)); have n6_ := qM ((by rw [hg]; exact Nat.ne_of_gt (blk_lt (g := gb556) (o := .cells #[.int .i64 a0_0, .slice A0_1 l0_1.length c0_1, .int .i64 a0_2] 81 (0, 0)) (by (with_reducible repeat (first | refine qn ?_ _ | refine qd ?_ | refine qa ?_ _)); exact BK556.out)) : gb557 ≠ gb556)); clear BK556; clear HB; have BK556 := n0_; have HB := n1_; have BK557 := n2_; have GW557 := n3_; have GE557 := n4_; have NB556_557 := n5_; have NB557_556 := n6_; clear n0_ n1_ n2_ n3_ n4_ n5_ n6_; clear hb hbox hg) | ((with_reducible refine gate_dst (N := 3) rfl ?_); refine box_event ?hg (N := 3) ?hd (cs := #[.int .i64 0, .slice none 0 0, .int .i64 0]) (t := 87) ?hr ?_; (case hd => rfl); (case hg => rfl); (case hr => first | (go_simp; done) | (go_simp; rfl)); intro gb558 hg w5 hbox hb; have n0_ := qM (blk_below (g := gb556) (o := .cells #[.int .i64 a0_0, .slice A0_1 l0_1.length c0_1, .int .i64 a0_2] 81 (0, 0)) (by (with_reducible repeat (first | refine qn ?_ _ | refine qd ?_ | refine qa ?_ _)); exact BK556.out) hb); have n1_ := qM (blk_below (g := gb557) (o := .cells #[.int .i64 0, .slice none 0 0, .int .i64 0] 87 (0, 0)) (by (with_reducible repeat (first | refine qn ?_ _ | refine qd ?_ | refine qa ?_ _)); exact BK557.out) hb); have n2_ := qM (qs (by repeat (first | (with_reducible first | exact HB.out | apply qA | apply qN | apply qD | refine qS ?_ GE556.out | refine qS ?_ GE557.out) | exact HB.out)) hb); have n3_ := qM (hbox); have n4_ := qM ((by rw [hg]; exact (qz (by repeat (first | (with_reducible first | exact HB.out | apply qA | apply qN | apply qD | refine qS ?_ GE556.out | refine qS ?_ GE557.out) | exact HB.out))) : w.heap.size ≤ gb558)); have n5_ := qM ((by rw [hg]; exact (qz (by repeat (first | (with_reducible first | exact HB.out | apply qA | apply qN | apply qD | refine qS ?_ GE556.out | refine qS ?_ GE557.out) | exact HB.out))) : w.heap.size ≤ gb558)); have n6_ := qM ((by rw [hg]; exact Nat.ne_of_lt (blk_lt (g := gb556) (o := .cells #[.int .i64 a0_0, .slice A0_1 l0_1.length c0_1, .int .i64 a0_2] 81 (0, 0)) (by (with_reducible repeat (first | refine qn ?_ _ | refine qd ?_ | refine qa ?_ _)); exact BK556.out)) : gb556 ≠ gb558)); have n7_ := qM ((by rw [hg]; exact Nat.ne_of_gt (blk_lt (g := gb556) (o := .cells #[.int .i64 a0_0, .slice A0_1 l0_1.length c0_1, .int .i64 a0_2] 81 (0, 0)) (by (with_reducible repeat (first | refine qn ?_ _ | refine qd ?_ | refine qa ?_ _)); exact BK556.out)) : gb558 ≠ gb556)); have n8_ := qM ((by rw [hg]; exact Nat.ne_of_lt (blk_lt (g := gb557) (o := .cells #[.int .i64 0, .slice none 0 0, .int .i64 0] 87 (0, 0)) (by (with_reducible repeat (first | refine qn ?_ _ | refine qd ?_ | refine qa ?_ _)); exact BK557.out)) : gb557 ≠ gb558)); have n9_ := qM ((by rw [hg]; exact Nat.ne_of_gt (blk_lt (g := gb557) (o := .cells #[.int .i64 0, .slice none 0 0, .int .i64 0] 87 (0, 0)) (by (with_reducible repeat (first | refine qn ?_ _ | refine qd ?_ | refine qa ?_ _)); exact BK557.out)) : gb558 ≠ gb557)); clear BK556; clear BK557; clear HB; have BK556 := n0_; have BK557 := n1_; have HB := n2_; have BK558 := n3_; have GW558 := n4_; have GE558 := n5_; have NB556_558 := n6_; have NB558_556 := n7_; have NB557_558 := n8_; have NB558_557 := n9_; clear n0_ n1_ n2_ n3_ n4_ n5_ n6_ n7_ n8_ n9_; clear hb hbox hg; have hnb6 := NB556_557.out; have hnc6 := NB557_556.out; have hnb7 := NB556_558.out; have hnc7 := NB558_556.out; have hcz8_0 : w5.cell? ⟨gb556, 0, none⟩ = some (.int .i64 a0_0) := (qC BK556.out 0).trans rfl; have hcz8_1 : w5.cell? ⟨gb556, 1, none⟩ = some (.slice A0_1 l0_1.length c0_1) := (qC BK556.out 1).trans rfl; have hcz8_2 : w5.cell? ⟨gb556, 2, none⟩ = some (.int .i64 a0_2) := (qC BK556.out 2).trans rfl; have hfz8_0 := qF BK556.out 0; have hfz8_1 := qF BK556.out 1; have hfz8_2 := qF BK556.out 2; have hnb9 := NB558_557.out; have hnc9 := NB557_558.out; have hcz10_0 : w5.cell? ⟨gb558, 0, none⟩ = some (.int .i64 0) := (qC BK558.out 0).trans rfl; have hcz10_1 : w5.cell? ⟨gb558, 1, none⟩ = some (.slice none 0 0) := (qC BK558.out 1).trans rfl; have hcz10_2 : w5.cell? ⟨gb558, 2, none⟩ = some (.int .i64 0) := (qC BK558.out 2).trans rfl; have hfz10_0 := qF BK558.out 0; have hfz10_1 := qF BK558.out 1; have hfz10_2 := qF BK558.out 2) | ((with_reducible refine gate_callee (f := 111) rfl ?_); refine goesL_ (some 9) rfl rfl Try.func111 (by kernel_rfl) rfl #[.slice A0_1 l0_1.length c0_1] rfl (by (try simp only [List.map_toArray, List.map_cons, List.map_nil]); first | done | rfl | (simp only [List.length_drop, List.length_take]; rfl)) ?_; (with_reducible refine (laws_toFetchS.calls k _ _ l0_1 t559 _ ?side1 ?side2 A2.out).mono ?_); (case side1 => exact qB HR0_1.out (by repeat (first | (with_reducible first | exact HB.out | apply qA | apply qN | apply qD | refine qS ?_ GE556.out | refine qS ?_ GE557.out | refine qS ?_ GE558.out) | exact HB.out))); (case side2 => exact HC0_1.out); rintro e w11 ⟨v560, rfl, ho0, hb⟩; refine ⟨_, rfl, ?_⟩; have n0_ := qM (Kd.R_lower ho0 (qz (by repeat (first | (with_reducible first | exact HB.out | apply qA | apply qN | apply qD | refine qS ?_ GE556.out | refine qS ?_ GE557.out | refine qS ?_ GE558.out) | exact HB.out)))); have n1_ := qM (blk_below (g := gb556) (o := .cells #[.int .i64 a0_0, .slice A0_1 l0_1.length c0_1, .int .i64 a0_2] 81 (0, 0)) (by (with_reducible repeat (first | refine qn ?_ _ | refine qd ?_ | refine qa ?_ _)); refine blk_far ?_ NB556_558.out _; (with_reducible repeat (first | refine qn ?_ _ | refine qd ?_ | refine qa ?_ _)); exact BK556.out) hb); have n2_ := qM (blk_below (g := gb557) (o := .cells #[.int .i64 0, .slice none 0 0, .int .i64 0] 87 (0, 0)) (by (with_reducible repeat (first | refine qn ?_ _ | refine qd ?_ | refine qa ?_ _)); refine blk_far ?_ NB557_558.out _; (with_reducible repeat (first | refine qn ?_ _ | refine qd ?_ | refine qa ?_ _)); exact BK557.out) hb); have n3_ := qM (blk_below (g := gb558) (o := .cells #[.int .i64 a0_0, .slice none 0 0, .int .i64 0] 87 (0, 0)) (by (with_reducible repeat (first | refine qn ?_ _ | refine qd ?_ | refine qa ?_ _)); refine blk_put (cs := #[.int .i64 0, .slice none 0 0, .int .i64 0]) ?_ 0 _ rfl; (with_reducible repeat (first | refine qn ?_ _ | refine qd ?_ | refine qa ?_ _)); exact BK558.out) hb); have n4_ := qM (qs (by repeat (first | (with_reducible first | exact HB.out | apply qA | apply qN | apply qD | refine qS ?_ GE556.out | refine qS ?_ GE557.out | refine qS ?_ GE558.out) | exact HB.out)) hb); clear BK556; clear BK557; clear BK558; clear HB; have HO561 := n0_; have BK556 := n1_; have BK557 := n2_; have BK558 := n3_; have HB := n4_; clear n0_ n1_ n2_ n3_ n4_; (try clear hb); (try clear hb2); (try clear hk); (try clear hi); (try clear ho0); obtain ⟨Ao12, co12, eo12⟩ := Kd.R_slice HO561.out; subst eo12; have hcz13_0 : w11.cell? ⟨gb558, 0, none⟩ = some (.int .i64 a0_0) := (qC BK558.out 0).trans rfl; have hcz13_1 : w11.cell? ⟨gb558, 1, none⟩ = some (.slice none 0 0) := (qC BK558.out 1).trans rfl; have hcz13_2 : w11.cell? ⟨gb558, 2, none⟩ = some (.int .i64 0) := (qC BK558.out 2).trans rfl; have hfz13_0 := qF BK558.out 0; have hfz13_1 := qF BK558.out 1; have hfz13_2 := qF BK558.out 2; have hcz14_0 : w11.cell? ⟨gb556, 0, none⟩ = some (.int .i64 a0_0) := (qC BK556.out 0).trans rfl; have hcz14_1 : w11.cell? ⟨gb556, 1, none⟩ = some (.slice A0_1 l0_1.length c0_1) := (qC BK556.out 1).trans rfl; have hcz14_2 : w11.cell? ⟨gb556, 2, none⟩ = some (.int .i64 a0_2) := (qC BK556.out 2).trans rfl; have hfz14_0 := qF BK556.out 0; have hfz14_1 := qF BK556.out 1; have hfz14_2 := qF BK556.out 2; have hcz15_0 : w11.cell? ⟨gb557, 0, none⟩ = some (.int .i64 0) := (qC BK557.out 0).trans rfl; have hcz15_1 : w11.cell? ⟨gb557, 1, none⟩ = some (.slice none 0 0) := (qC BK557.out 1).trans rfl; have hcz15_2 : w11.cell? ⟨gb557, 2, none⟩ = some (.int .i64 0) := (qC BK557.out 2).trans rfl; have hfz15_0 := qF BK557.out 0; have hfz15_1 := qF BK557.out 1; have hfz15_2 := qF BK557.out 2))
  refine bodyPost_ret (results_cell_row rfl _ _ gb557 87 #[.int .i64 a0_0, .slice Ao12 t559.length co12, .int .i64 a0_2] (0, 0) _ rfl (by (with_reducible repeat (first | refine qn ?_ _ | refine qd ?_ | refine qa ?_ _)); refine blk_put (cs := #[.int .i64 a0_0, .slice Ao12 t559.length co12, .int .i64 0]) ?_ 2 _ rfl; (with_reducible repeat (first | refine qn ?_ _ | refine qd ?_ | refine qa ?_ _)); refine blk_put (cs := #[.int .i64 a0_0, .slice none 0 0, .int .i64 0]) ?_ 1 _ rfl; (with_reducible repeat (first | refine qn ?_ _ | refine qd ?_ | refine qa ?_ _)); refine blk_put (cs := #[.int .i64 0, .slice none 0 0, .int .i64 0]) ?_ 0 _ rfl; (with_reducible repeat (first | refine qn ?_ _ | refine qd ?_ | refine qa ?_ _)); refine blk_far ?_ NB557_558.out _; (with_reducible repeat (first | refine qn ?_ _ | refine qd ?_ | refine qa ?_ _)); refine blk_far ?_ NB557_558.out _; (with_reducible repeat (first | refine qn ?_ _ | refine qd ?_ | refine qa ?_ _)); exact BK557.out) Try.underlying87 rfl (by kernel_rfl)) rfl ?_
  exact ⟨_, by first | rfl | (simp [errW_none, errW_some] <;> rfl) | (simp [*, errW_none, errW_some] <;> rfl), by (with_reducible repeat (first | apply Kd.R_alloc | apply Kd.R_drewN | apply Kd.R_drew)); exact Kd.R_mono (Kd.R_far (p := ⟨gb557, 2, none⟩) (Kd.R_far (p := ⟨gb557, 1, none⟩) (Kd.R_far (p := ⟨gb557, 0, none⟩) (Kd.R_far (p := ⟨gb558, 2, none⟩) (Kd.R_far (p := ⟨gb558, 1, none⟩) (Kd.R_types (Kd.R_types HO561.out BK558.out (by decide)) BK557.out (by decide)) (fun _ hk => hk.1.2) (.slice Ao12 t559.length co12)) (fun _ hk => hk.1.2) (.int .i64 a0_2)) (fun _ hk => hk.2) (.int .i64 a0_0)) (fun _ hk => hk.2) (.slice Ao12 t559.length co12)) (fun _ hk => hk.2) (.int .i64 a0_2)) (fun _ hk => trivial), by repeat (first | (with_reducible first | exact HB.out | apply qA | apply qN | apply qD | refine qS ?_ GE556.out | refine qS ?_ GE557.out | refine qS ?_ GE558.out) | exact HB.out)⟩
def laws_toTraceS.l0 : Nat → List (S81) → List (S87) → Int → Option ((List (S87)))
  | 0, _, _, _ => none
  | k + 1, x0, x3, x4 => if x4 < (x0.length : Int) then (if 0 ≤ x4 then ((laws_toTrace.f k ((rd_T81 x0 x4).f0) ((rd_T81 x0 x4).f1) ((rd_T81 x0 x4).f2)).bind fun bt566 => (if x4 < (x3.length : Int) then (laws_toTraceS.l0 k x0 (x3.set (x4 : Int).toNat (⟨bt566.1, bt566.2.1, bt566.2.2⟩ : S87)) (wrap64 (x4 + 1))) else (none))) else (none)) else (some x3)
def laws_toTraceS.f (k : Nat) (l0 : List (S81)) : Option ((List (S87))) := if 0 ≤ (l0.length : Int) then (if ((l0.length : Int) : Int).toNat ≤ 7036874417766 then (laws_toTraceS.l0 k l0 (List.replicate ((l0.length : Int) : Int).toNat z87) 0) else (none)) else (none)
set_option maxHeartbeats 8000000 in
set_option maxRecDepth 100000 in
theorem laws_toTraceS.calls (k : Nat) (A0 : Option Addr) (c0 : Nat) (l0 : List (S81)) (r : List (S87)) (w : World) (hr0 : Kd.C k81 w A0 l0.length l0) (hc0 : l0.length ≤ c0) (h : laws_toTraceS.f k l0 = some r) :
    Calls Try.prog 42 #[.slice A0 l0.length c0] w fun e w' => ∃ v0_ : Value, e = .returned (v0_) ∧ Kd.S k87 87 w' w.heap.size (fun _ => True) v0_ r ∧ Below w.heap.size w w' := by
  have hu81 := Try.underlying81
  have hu87 := Try.underlying87
  have HR0 := qM hr0
  have HC0 := qM hc0
  clear hr0 hc0
  have HB := qM (Below.refl w.heap.size w)
  have H : (if 0 ≤ (l0.length : Int) then (if ((l0.length : Int) : Int).toNat ≤ 7036874417766 then (laws_toTraceS.l0 k l0 (List.replicate ((l0.length : Int) : Int).toNat z87) 0) else (none)) else (none)) = some r := h
  clear h
  by_cases c2 : 0 ≤ (l0.length : Int)
  rotate_left
  · rw [if_neg c2] at H
    exact absurd H (by simp)
  rw [if_pos c2] at H
  have c2b0 := eq_true c2
  have c2b1 : decide (0 ≤ (l0.length : Int)) = true := decide_eq_true c2
  clear c2
  by_cases c3 : ((l0.length : Int) : Int).toNat ≤ 7036874417766
  rotate_left
  · rw [if_neg c3] at H
    exact absurd H (by simp)
  rw [if_pos c3] at H
  have c3b0 := eq_true c3
  have c3b1 : decide (((l0.length : Int) : Int).toNat ≤ 7036874417766) = true := decide_eq_true c3
  clear c3
  obtain ⟨y562, hy562⟩ : ∃ y_ : List (S87), y_ = (List.replicate ((l0.length : Int) : Int).toNat z87) := ⟨_, rfl⟩
  replace H : (laws_toTraceS.l0 k l0 y562 0) = some r := by first | (rw [hy562]; with_reducible exact H) | (have H2_ := (Option.bind_some _ _).symm.trans H; rw [hy562]; with_reducible exact H2_) | (have H2_ := (Option.bind_some _ _).symm.trans H; with_reducible exact H2_) | with_reducible exact H | (rw [hy562]; exact H) | exact H
  have Ny562 := qM hy562
  clear hy562
  have H' := qM H
  clear H
  go_enter Try.func42, Try.ntmps42
  go_wp2_with (first | ((with_reducible refine gate_dst (N := 7) rfl ?_); refine Kd.S_make k87 _ 87 rfl (N := 7) rfl 58 _ _ rfl (l0.length : Int) rfl rfl Try.underlying58 (.agg #[(.int .i64 0), (.slice none 0 0), (.int .i64 0)]) 40 info87 rfl (by decide) (by omega) z87 (ok := fun _ => True) (okp := fun _ => True) (k87_mkM _ _ _ z87 (Kd.R_nil _ _ _ _ _)) (fun _ hk => hk) trivial (qO (by first | (with_reducible assumption) | assumption)) (Nat.le_trans (Nat.mul_le_mul_right _ (qO (by first | (with_reducible assumption) | assumption) : (l0.length : Int).toNat ≤ 7036874417766)) (by omega)) (Below.refl _ _) (Nat.le_refl _) ?_; intro v563 w4 ho5 hb hg_ hnew_; clear hg_ hnew_; (first | rw [← Ny562.out] at ho5 | (simp only [Int.reduceToNat] at ho5; rw [← Ny562.out] at ho5)); have n0_ := qM (Kd.S_lower ho5 (qz (by repeat (first | (with_reducible first | exact HB.out | apply qA | apply qN | apply qD) | exact HB.out)))); have n1_ := qM (qs (by repeat (first | (with_reducible first | exact HB.out | apply qA | apply qN | apply qD) | exact HB.out)) hb); clear HB; have HO564 := n0_; have HB := n1_; clear n0_ n1_; clear hb ho5))
  go_loopg [4] k (fun kq v4 w' => ∃ (x3_1 : List (S87)) (x4_1 : Int), v4 = .int .i64 x4_1 ∧ Aside0 (laws_toTraceS.l0 kq l0 x3_1 x4_1 = some r) ∧ Aside0 (kq ≤ k) ∧ Aside0 (Kd.S k87 87 w' w.heap.size (fun _ => True) v563 x3_1) ∧ Aside0 (Below w.heap.size w w'))
  case atStart => exact ⟨(y562), (0), (by first | rfl | (simp; done) | (simp [*]; done)), H', ⟨Nat.le_refl _⟩, ⟨by (with_reducible repeat (first | apply Kd.S_alloc | apply Kd.S_drewN | apply Kd.S_drew)); exact HO564.out⟩, ⟨by repeat (first | (with_reducible first | exact HB.out | apply qA | apply qN | apply qD) | exact HB.out)⟩⟩
  case round =>
    clear H'
    try clear c2
    try clear c2b0
    try clear c2b1
    try clear p2
    try clear c3
    try clear c3b0
    try clear c3b1
    try clear c4
    obtain ⟨x3_1, x4_1, rfl, HA, HK1, HO_3, HB⟩ := hrel
    cases gk with
    | zero => exact absurd HA.out (by simp [laws_toTraceS.l0])
    | succ k1 =>
      have H := HA.out
      clear HA
      simp only [laws_toTraceS.l0] at H
      by_cases c6 : x4_1 < (l0.length : Int)
      rotate_left
      · rw [if_neg c6] at H
        have c6b0 : decide (x4_1 < (l0.length : Int)) = false := decide_eq_false c6
        clear c6
        obtain rfl := Option.some.inj H
        go_wp2
        go_ret
        exact ⟨_, by first | rfl | (simp [errW_none, errW_some] <;> rfl) | (simp [*, errW_none, errW_some] <;> rfl), by (with_reducible repeat (first | apply Kd.S_alloc | apply Kd.S_drewN | apply Kd.S_drew)); exact HO_3.out, by repeat (first | (with_reducible first | exact HB.out | apply qA | apply qN | apply qD) | exact HB.out)⟩
      rw [if_pos c6] at H
      have c6b0 : decide (x4_1 < (l0.length : Int)) = true := decide_eq_true c6
      clear c6
      by_cases c7 : 0 ≤ x4_1
      rotate_left
      · rw [if_neg c7] at H
        exact absurd H (by simp)
      rw [if_pos c7] at H
      have c7b0 : decide (0 ≤ x4_1) = true := decide_eq_true c7
      clear c7
      replace H := Option.bind_eq_some_iff.mp H
      obtain ⟨⟨t566, t567, t570⟩, A80, H⟩ := H
      replace H : (if x4_1 < (x3_1.length : Int) then (laws_toTraceS.l0 k1 l0 (x3_1.set (x4_1 : Int).toNat (⟨t566, t567, t570⟩ : S87)) (wrap64 (x4_1 + 1))) else (none)) = some r := H
      have A8 := qM A80
      clear A80
      by_cases c9 : x4_1 < (x3_1.length : Int)
      rotate_left
      · rw [if_neg c9] at H
        exact absurd H (by simp)
      rw [if_pos c9] at H
      have c9b0 : decide (x4_1 < (x3_1.length : Int)) = true := decide_eq_true c9
      clear c9
      obtain ⟨y571, hy571⟩ : ∃ y_ : List (S87), y_ = (x3_1.set (x4_1 : Int).toNat (⟨t566, t567, t570⟩ : S87)) := ⟨_, rfl⟩
      replace H : (laws_toTraceS.l0 k1 l0 y571 (wrap64 (x4_1 + 1))) = some r := by first | (rw [hy571]; with_reducible exact H) | (have H2_ := (Option.bind_some _ _).symm.trans H; rw [hy571]; with_reducible exact H2_) | (have H2_ := (Option.bind_some _ _).symm.trans H; with_reducible exact H2_) | with_reducible exact H | (rw [hy571]; exact H) | exact H
      have Ny571 := qM hy571
      clear hy571
      have H' := qM H
      clear H
      have p565 : 0 ≤ (x4_1 : Int) := qO (by first | (with_reducible assumption) | assumption)
      have q565 : x4_1 < (l0.length : Int) := qO (by first | (with_reducible assumption) | assumption)
      obtain ⟨ad565, A565_1, c565_1, e565, hx565_0, hx565_1, hx565_2, hl565_1, hi565_1⟩ := at_T81 HR0.out x4_1 p565 q565
      cases e565
      replace hx565_0 := (HB.out.cell (qL w _ hx565_0)).trans hx565_0
      replace hx565_1 := (HB.out.cell (qL w _ hx565_1)).trans hx565_1
      replace hx565_2 := (HB.out.cell (qL w _ hx565_2)).trans hx565_2
      have HR565_1 := qM hi565_1
      have HC565_1 := qM hl565_1
      clear hi565_1 hl565_1
      replace p565 := eq_true p565
      replace q565 := eq_true q565
      go_wp2_with (first | ((with_reducible refine gate_callee (f := 54) rfl ?_); refine goesL_ (some 20) rfl rfl Try.func54 (by kernel_rfl) rfl #[.agg #[.int .i64 ((rd_T81 l0 x4_1).f0), .slice A565_1 ((rd_T81 l0 x4_1).f1).length c565_1, .int .i64 ((rd_T81 l0 x4_1).f2)]] rfl (by (try simp only [List.map_toArray, List.map_cons, List.map_nil]); first | done | rfl | (simp only [List.length_drop, List.length_take]; rfl)) ?_; (with_reducible refine (laws_toTrace.calls k1 ((rd_T81 l0 x4_1).f0) _ _ ((rd_T81 l0 x4_1).f1) ((rd_T81 l0 x4_1).f2) t566 t567 t570 _ ?side1 ?side2 A8.out).mono ?_); (case side1 => repeat (first | exact (qB HR565_1.out HB.out) | (with_reducible refine qc ?_ _) | (with_reducible refine qe ?_ _) | (with_reducible refine qf ?_))); (case side2 => exact HC565_1.out); rintro e w11 ⟨v568, rfl, ho0, hb⟩; refine ⟨_, rfl, ?_⟩; have n0_ := qM (Kd.S_elder' (by (with_reducible repeat (first | apply Kd.S_alloc | apply Kd.S_drewN | apply Kd.S_drew)); exact HO_3.out) (Kd.R_base ho0) hb); have n1_ := qM (Kd.R_lower ho0 (qz (by repeat (first | (with_reducible first | exact HB.out | apply qA | apply qN | apply qD) | exact HB.out)))); have n2_ := qM (qs (by repeat (first | (with_reducible first | exact HB.out | apply qA | apply qN | apply qD) | exact HB.out)) hb); clear HO_3; clear HB; have HO_3 := n0_; have HO569 := n1_; have HB := n2_; clear n0_ n1_ n2_; (try clear hb); (try clear hb2); (try clear hk); (try clear hi); (try clear ho0); have p10 : 0 ≤ (x4_1 : Int) := qO (by first | (with_reducible assumption) | assumption); have q10 : (x4_1 : Int) < ((x3_1.length : Int) : Int) := qO (by first | (with_reducible assumption) | assumption); obtain ⟨go10, co10, eo10, gb10, gl10, cl10, HG10⟩ := Kd.S_form HO_3.out (by omega); (first | cases eo10 | (injection eo10 with ea_ en_ ec_; (first | subst ea_ | (injection ea_ with ea_; subst ea_)); subst ec_; clear en_)); have GB10 := qM gb10; have GG10 := qM HG10; clear gb10 gl10 HG10; obtain ⟨_, ce10, hcl10, hM10, hcc10, hfr10, _, _⟩ := Kd.S_elem HO_3.out z87 (x4_1 : Int) p10 q10; obtain ⟨ve10_1, rfl, ge10_1⟩ := k87_openM hM10; have hx10_0 : w11.cell? ⟨go10, (x4_1 : Int).toNat * 3, none⟩ = some (.int .i64 ((rd_T87 x3_1 x4_1).f0)) := hcc10 0 _ rfl; have hx10_1 : w11.cell? ⟨go10, (x4_1 : Int).toNat * 3 + 1, none⟩ = some (ve10_1) := hcc10 1 _ rfl; have hx10_2 : w11.cell? ⟨go10, (x4_1 : Int).toNat * 3 + 2, none⟩ = some (.int .i64 ((rd_T87 x3_1 x4_1).f2)) := hcc10 2 _ rfl; have hf10_0 : w11.frozen? ⟨go10, (x4_1 : Int).toNat * 3, none⟩ = false := hfr10 0; have hf10_1 : w11.frozen? ⟨go10, (x4_1 : Int).toNat * 3 + 1, none⟩ = false := hfr10 1; have hf10_2 : w11.frozen? ⟨go10, (x4_1 : Int).toNat * 3 + 2, none⟩ = false := hfr10 2; clear hcl10 hcc10 hfr10 hM10; replace p10 := eq_true p10; replace q10 := eq_true q10; obtain ⟨Ao12, co12, eo12⟩ := Kd.R_slice HO569.out; subst eo12; have n_ := qM (Kd.S_mono (ok' := (fun k_ => some k_ ≠ (.slice Ao12 t567.length co12 : Value).ownBlock)) HO_3.out (fun k_ hk => hk.2)); clear HO_3; have HO_3 := n_; clear n_; have HX13 := qM (show Kd.S k87 87 w11 w.heap.size (fun k_ => ((fun _ => True)) k_ ∧ ¬ ((fun k_ => some k_ = (.slice Ao12 t567.length co12 : Value).ownBlock)) k_) (.slice (some ⟨go10, 0, none⟩) x3_1.length co10) x3_1 from (by (with_reducible repeat (first | apply Kd.S_alloc | apply Kd.S_drewN | apply Kd.S_drew)); exact Kd.S_mono HO_3.out (fun k_ hk => ⟨trivial, fun e_ => hk e_⟩))); obtain ⟨oki13, ce13, hcl13, hM13, hcc13, hfr13, hoki13, hH13⟩ := Kd.S_elem HX13.out z87 (x4_1 : Int) (qO (by first | (with_reducible assumption) | assumption)) (by have h_ : (x4_1 : Int) < ((x3_1.length : Int) : Int) := qO (by first | (with_reducible assumption) | assumption); first | exact h_ | (have e_ := (Kd.S_reads' HO_3.out).1; omega) | simpa using h_); obtain ⟨ve13_1, rfl, ge13_1⟩ := k87_openM hM13; have HP13 := Kd.S_seg hH13 (qO (by first | (with_reducible assumption) | assumption)) (by have h_ : (x4_1 : Int) < ((x3_1.length : Int) : Int) := qO (by first | (with_reducible assumption) | assumption); first | exact h_ | (have e_ := (Kd.S_reads' HO_3.out).1; omega) | simpa using h_) (seg := [.int .i64 t566, .slice Ao12 t567.length co12, .int .i64 t570]) (j := 0) (show 3 ≤ 3 from by decide) (x' := (⟨t566, t567, t570⟩ : S87)) (k87_mkM _ _ _ (⟨t566, t567, t570⟩ : S87) (Kd.R_mono (Kd.R_tight rfl (Kd.R_mono (ok' := fun k_ => ((fun _ => True)) k_ ∧ k_ ≠ go10) (Kd.R_apart' (HO569.out) (Kd.S_typed HO_3.out) (by decide)) (fun k_ hk => ⟨trivial, fun e_ => (hk.2) (by rw [e_]; rfl)⟩))) (fun _ h_ => Or.inr (h_)))) (fun _ hk => hk) (fun k_ hk_ => ((Kd.R_mono (ok' := fun k_ => ((fun _ => True)) k_ ∧ k_ ≠ go10) (Kd.R_apart' (HO569.out) (Kd.S_typed HO_3.out) (by decide)) (fun k_ hk => ⟨trivial, fun e_ => (hk.2) (by rw [e_]; rfl)⟩))).1 k_ hk_.symm); have hx13_0 := hcc13 0 _ rfl; (try simp only [show (k87).sz = 3 from rfl, Nat.mul_one, Nat.add_zero] at hx13_0); have hf13_0 := hfr13 0; (try simp only [show (k87).sz = 3 from rfl, Nat.mul_one, Nat.add_zero] at hf13_0); have hx13_1 := hcc13 1 _ rfl; (try simp only [show (k87).sz = 3 from rfl, Nat.mul_one, Nat.add_zero] at hx13_1); have hf13_1 := hfr13 1; (try simp only [show (k87).sz = 3 from rfl, Nat.mul_one, Nat.add_zero] at hf13_1); have hx13_2 := hcc13 2 _ rfl; (try simp only [show (k87).sz = 3 from rfl, Nat.mul_one, Nat.add_zero] at hx13_2); have hf13_2 := hfr13 2; (try simp only [show (k87).sz = 3 from rfl, Nat.mul_one, Nat.add_zero] at hf13_2); clear hcl13 hcc13 hfr13 hM13 hoki13 hH13) | ((with_reducible refine gate_store (t := 87) (p := 21) rfl ?_); refine store_event (t := 87) (p := 21) (v := ?vo_w14) (w1 := (((w11.setCell ⟨go10, (x4_1 : Int).toNat * 3, none⟩ (.int .i64 t566)).setCell ⟨go10, (x4_1 : Int).toNat * 3 + 1, none⟩ (.slice Ao12 t567.length co12)).setCell ⟨go10, (x4_1 : Int).toNat * 3 + 2, none⟩ (.int .i64 t570))) ?hg ?ho ?hn ?hr ?_; (case ho => rfl); (case hg => rfl); (case hn => rfl); (case hr => first | (go_simp; done) | (go_simp; rfl)); intro w14 hw; have hg : w11.grownBy w14 (some go10) := (by rw [hw]; exact HP13.2); have hp_ : Kd.S k87 87 w14 w.heap.size (fun _ => True) (.slice (some ⟨go10, 0, none⟩) x3_1.length co10) y571 := (by rw [hw, Ny571.out]; exact HP13.1); clear HP13; have n0_ := qM (hp_); have n1_ := qM ((by rw [hw]; exact qS (qS (qS (HB.out) GB10.out) GB10.out) GB10.out : Below w.heap.size w w14)); clear HO_3; clear HB; clear HO569; have HO_3 := n0_; have HB := n1_; clear n0_ n1_; clear hg hw hp_))
      go_roundg k1
      case measure => have := HK1.out; omega
      case rel => exact ⟨(y571), (wrap64 (x4_1 + 1)), (by first | rfl | (simp; done) | (simp [*]; done)), H', ⟨by have := HK1.out; omega⟩, ⟨by (with_reducible repeat (first | apply Kd.S_alloc | apply Kd.S_drewN | apply Kd.S_drew)); exact HO_3.out⟩, ⟨by repeat (first | (with_reducible first | exact HB.out | apply qA | apply qN | apply qD) | exact HB.out)⟩⟩
def laws_toIntS.l0 : Nat → List Int → List Int → Int → Option (List Int)
  | 0, _, _, _ => none
  | k + 1, x0, x3, x4 => if x4 < (x0.length : Int) then (if 0 ≤ x4 then (if x4 < (x3.length : Int) then (laws_toIntS.l0 k x0 (x3.set (x4 : Int).toNat (rd x0 x4)) (wrap64 (x4 + 1))) else (none)) else (none)) else (some x3)
def laws_toIntS.f (k : Nat) (l0 : List Int) : Option (List Int) := if 0 ≤ (l0.length : Int) then (if ((l0.length : Int) : Int).toNat ≤ 35184372088832 then (laws_toIntS.l0 k l0 (List.replicate ((l0.length : Int) : Int).toNat 0) 0) else (none)) else (none)
set_option maxHeartbeats 8000000 in
set_option maxRecDepth 100000 in
theorem laws_toIntS.calls (k : Nat) (A0 : Option Addr) (c0 : Nat) (l0 : List Int) (r : List Int) (w : World) (hr0 : Kd.C (Kd.int .i64) w A0 l0.length l0) (hc0 : l0.length ≤ c0) (h : laws_toIntS.f k l0 = some r) :
    Calls Try.prog 46 #[.slice A0 l0.length c0] w fun e w' => ∃ v0_ : Value, e = .returned (v0_) ∧ Kd.R (Kd.int .i64) 3 w' w.heap.size (fun _ => True) v0_ r ∧ Below w.heap.size w w' := by
  have HR0 := qM hr0
  have HC0 := qM hc0
  clear hr0 hc0
  have HB := qM (Below.refl w.heap.size w)
  have H : (if 0 ≤ (l0.length : Int) then (if ((l0.length : Int) : Int).toNat ≤ 35184372088832 then (laws_toIntS.l0 k l0 (List.replicate ((l0.length : Int) : Int).toNat 0) 0) else (none)) else (none)) = some r := h
  clear h
  by_cases c2 : 0 ≤ (l0.length : Int)
  rotate_left
  · rw [if_neg c2] at H
    exact absurd H (by simp)
  rw [if_pos c2] at H
  have c2b0 := eq_true c2
  have c2b1 : decide (0 ≤ (l0.length : Int)) = true := decide_eq_true c2
  clear c2
  by_cases c3 : ((l0.length : Int) : Int).toNat ≤ 35184372088832
  rotate_left
  · rw [if_neg c3] at H
    exact absurd H (by simp)
  rw [if_pos c3] at H
  have c3b0 := eq_true c3
  have c3b1 : decide (((l0.length : Int) : Int).toNat ≤ 35184372088832) = true := decide_eq_true c3
  clear c3
  obtain ⟨y572, hy572⟩ : ∃ y_ : List Int, y_ = (List.replicate ((l0.length : Int) : Int).toNat 0) := ⟨_, rfl⟩
  replace H : (laws_toIntS.l0 k l0 y572 0) = some r := by first | (rw [hy572]; with_reducible exact H) | (have H2_ := (Option.bind_some _ _).symm.trans H; rw [hy572]; with_reducible exact H2_) | (have H2_ := (Option.bind_some _ _).symm.trans H; with_reducible exact H2_) | with_reducible exact H | (rw [hy572]; exact H) | exact H
  have Ny572 := qM hy572
  clear hy572
  have H' := qM H
  clear H
  go_enter Try.func46, Try.ntmps46
  go_wp2_with (first | ((with_reducible refine gate_dst (N := 7) rfl ?_); refine Kd.R_make (Kd.int .i64) _ 3 rfl (N := 7) rfl 26 _ _ rfl (l0.length : Int) rfl rfl Try.underlying26 (.int .i64 0) 8 info3 rfl (by decide) (by omega) 0 (ok := fun _ => True) (okp := fun _ => True) rfl (fun _ hk => hk) trivial (qO (by first | (with_reducible assumption) | assumption)) (Nat.le_trans (Nat.mul_le_mul_right _ (qO (by first | (with_reducible assumption) | assumption) : (l0.length : Int).toNat ≤ 35184372088832)) (by omega)) (Below.refl _ _) (Nat.le_refl _) ?_; intro v573 w4 ho5 hb hg_ hnew_; clear hg_ hnew_; (first | rw [← Ny572.out] at ho5 | (simp only [Int.reduceToNat] at ho5; rw [← Ny572.out] at ho5)); have n0_ := qM (Kd.R_lower ho5 (qz (by repeat (first | (with_reducible first | exact HB.out | apply qA | apply qN | apply qD) | exact HB.out)))); have n1_ := qM (qs (by repeat (first | (with_reducible first | exact HB.out | apply qA | apply qN | apply qD) | exact HB.out)) hb); clear HB; have HO574 := n0_; have HB := n1_; clear n0_ n1_; clear hb ho5))
  go_loopg [4] k (fun kq v4 w' => ∃ (x3_1 : List Int) (x4_1 : Int), v4 = .int .i64 x4_1 ∧ Aside0 (laws_toIntS.l0 kq l0 x3_1 x4_1 = some r) ∧ Aside0 (kq ≤ k) ∧ Aside0 (Kd.R (Kd.int .i64) 3 w' w.heap.size (fun _ => True) v573 x3_1) ∧ Aside0 (Below w.heap.size w w'))
  case atStart => exact ⟨(y572), (0), (by first | rfl | (simp; done) | (simp [*]; done)), H', ⟨Nat.le_refl _⟩, ⟨by (with_reducible repeat (first | apply Kd.R_alloc | apply Kd.R_drewN | apply Kd.R_drew)); exact HO574.out⟩, ⟨by repeat (first | (with_reducible first | exact HB.out | apply qA | apply qN | apply qD) | exact HB.out)⟩⟩
  case round =>
    clear H'
    try clear c2
    try clear c2b0
    try clear c2b1
    try clear p2
    try clear c3
    try clear c3b0
    try clear c3b1
    try clear c4
    obtain ⟨x3_1, x4_1, rfl, HA, HK1, HO_3, HB⟩ := hrel
    cases gk with
    | zero => exact absurd HA.out (by simp [laws_toIntS.l0])
    | succ k1 =>
      have H := HA.out
      clear HA
      simp only [laws_toIntS.l0] at H
      by_cases c6 : x4_1 < (l0.length : Int)
      rotate_left
      · rw [if_neg c6] at H
        have c6b0 : decide (x4_1 < (l0.length : Int)) = false := decide_eq_false c6
        clear c6
        obtain rfl := Option.some.inj H
        go_wp2
        go_ret
        exact ⟨_, by first | rfl | (simp [errW_none, errW_some] <;> rfl) | (simp [*, errW_none, errW_some] <;> rfl), by (with_reducible repeat (first | apply Kd.R_alloc | apply Kd.R_drewN | apply Kd.R_drew)); exact HO_3.out, by repeat (first | (with_reducible first | exact HB.out | apply qA | apply qN | apply qD) | exact HB.out)⟩
      rw [if_pos c6] at H
      have c6b0 : decide (x4_1 < (l0.length : Int)) = true := decide_eq_true c6
      clear c6
      by_cases c7 : 0 ≤ x4_1
      rotate_left
      · rw [if_neg c7] at H
        exact absurd H (by simp)
      rw [if_pos c7] at H
      have c7b0 : decide (0 ≤ x4_1) = true := decide_eq_true c7
      clear c7
      by_cases c8 : x4_1 < (x3_1.length : Int)
      rotate_left
      · rw [if_neg c8] at H
        exact absurd H (by simp)
      rw [if_pos c8] at H
      have c8b0 : decide (x4_1 < (x3_1.length : Int)) = true := decide_eq_true c8
      clear c8
      obtain ⟨y576, hy576⟩ : ∃ y_ : List Int, y_ = (x3_1.set (x4_1 : Int).toNat (rd l0 x4_1)) := ⟨_, rfl⟩
      replace H : (laws_toIntS.l0 k1 l0 y576 (wrap64 (x4_1 + 1))) = some r := by first | (rw [hy576]; with_reducible exact H) | (have H2_ := (Option.bind_some _ _).symm.trans H; rw [hy576]; with_reducible exact H2_) | (have H2_ := (Option.bind_some _ _).symm.trans H; with_reducible exact H2_) | with_reducible exact H | (rw [hy576]; exact H) | exact H
      have Ny576 := qM hy576
      clear hy576
      have H' := qM H
      clear H
      have p575 : 0 ≤ (x4_1 : Int) := qO (by first | (with_reducible assumption) | assumption)
      have q575 : x4_1 < (l0.length : Int) := qO (by first | (with_reducible assumption) | assumption)
      obtain ⟨ad575, e575, hx575_0⟩ := Kd.at_int HR0.out x4_1 p575 q575
      cases e575
      replace hx575_0 := (HB.out.cell (qL w _ hx575_0)).trans hx575_0
      replace p575 := eq_true p575
      replace q575 := eq_true q575
      have p9 : 0 ≤ (x4_1 : Int) := qO (by first | (with_reducible assumption) | assumption)
      have q9 : (x4_1 : Int) < ((x3_1.length : Int) : Int) := qO (by first | (with_reducible assumption) | assumption)
      obtain ⟨go9, co9, eo9, gb9, gl9, cl9, HG9⟩ := Kd.R_form HO_3.out (by omega)
      (first | cases eo9 | (injection eo9 with ea_ en_ ec_; (first | subst ea_ | (injection ea_ with ea_; subst ea_)); subst ec_; clear en_))
      have GB9 := qM gb9
      have GG9 := qM HG9
      clear gb9 gl9 HG9
      obtain ⟨hx9_0, hf9_0⟩ := Kd.R_celln 0 HO_3.out (x4_1 : Int) p9 q9
      replace p9 := eq_true p9
      replace q9 := eq_true q9
      have HP10 := Kd.R_putg HO_3.out (x4_1 : Int) (rd l0 x4_1)
      go_wp2_with (first | ((with_reducible refine gate_store (t := 3) (p := 20) rfl ?_); refine store_event (t := 3) (p := 20) (v := ?vo_w11) (w1 := (wr.setCell ⟨go9, (x4_1 : Int).toNat, none⟩ (.int .i64 (rd l0 x4_1)))) ?hg ?ho ?hn ?hr ?_; (case ho => rfl); (case hg => rfl); (case hn => rfl); (case hr => first | (go_simp; done) | (go_simp; rfl)); intro w11 hw; have hg : wr.grownBy w11 (some go9) := (by rw [hw]; exact HP10.2); have hp_ : Kd.R (Kd.int .i64) 3 w11 w.heap.size (fun _ => True) (.slice (some ⟨go9, 0, none⟩) x3_1.length co9) y576 := (by rw [hw, Ny576.out]; exact HP10.1); clear HP10; have n0_ := qM (hp_); have n1_ := qM ((by rw [hw]; exact qS (HB.out) GB9.out : Below w.heap.size w w11)); clear HO_3; clear HB; have HO_3 := n0_; have HB := n1_; clear n0_ n1_; clear hg hw hp_))
      go_roundg k1
      case measure => have := HK1.out; omega
      case rel => exact ⟨(y576), (wrap64 (x4_1 + 1)), (by first | rfl | (simp; done) | (simp [*]; done)), H', ⟨by have := HK1.out; omega⟩, ⟨by (with_reducible repeat (first | apply Kd.R_alloc | apply Kd.R_drewN | apply Kd.R_drew)); exact HO_3.out⟩, ⟨by repeat (first | (with_reducible first | exact HB.out | apply qA | apply qN | apply qD) | exact HB.out)⟩⟩
def laws_toState.f (k : Nat) (l0_0 : List Int) (l0_1 : List Bool) (l0_2 : List Int) (l0_3 : List (S81)) : Option (List Int × List Bool × List Int × (List (S87))) := (laws_toIntS.f k l0_0).bind fun t580 => ((laws_toBoolS.f k l0_1).bind fun t583 => ((laws_toIntS.f k l0_2).bind fun t586 => ((laws_toTraceS.f k l0_3).bind fun t589 => (some (t580, t583, t586, t589)))))
set_option maxHeartbeats 8000000 in
set_option maxRecDepth 100000 in
theorem laws_toState.calls (k : Nat) (A0_0 : Option Addr) (c0_0 : Nat) (l0_0 : List Int) (A0_1 : Option Addr) (c0_1 : Nat) (l0_1 : List Bool) (A0_2 : Option Addr) (c0_2 : Nat) (l0_2 : List Int) (A0_3 : Option Addr) (c0_3 : Nat) (l0_3 : List (S81)) (r1 : List Int) (r2 : List Bool) (r3 : List Int) (r4 : List (S87)) (w : World) (hr0_0 : Kd.C (Kd.int .i64) w A0_0 l0_0.length l0_0) (hc0_0 : l0_0.length ≤ c0_0) (hr0_1 : Kd.C Kd.bool w A0_1 l0_1.length l0_1) (hc0_1 : l0_1.length ≤ c0_1) (hr0_2 : Kd.C (Kd.int .i64) w A0_2 l0_2.length l0_2) (hc0_2 : l0_2.length ≤ c0_2) (hr0_3 : Kd.C k81 w A0_3 l0_3.length l0_3) (hc0_3 : l0_3.length ≤ c0_3) (h : laws_toState.f k l0_0 l0_1 l0_2 l0_3 = some (r1, r2, r3, r4)) :
    Calls Try.prog 36 #[.agg #[.slice A0_0 l0_0.length c0_0, .slice A0_1 l0_1.length c0_1, .slice A0_2 l0_2.length c0_2, .slice A0_3 l0_3.length c0_3]] w fun e w' => ∃ v0_ v1_ v2_ v3_ : Value, e = .returned (.agg #[v0_, v1_, v2_, v3_]) ∧ Kd.R (Kd.int .i64) 3 w' w.heap.size (fun k_ => some k_ ≠ (v2_ : Value).ownBlock) v0_ r1 ∧ Kd.R Kd.bool 4 w' w.heap.size (fun _ => True) v1_ r2 ∧ Kd.R (Kd.int .i64) 3 w' w.heap.size (fun k_ => some k_ ≠ (v0_ : Value).ownBlock) v2_ r3 ∧ Kd.S k87 87 w' w.heap.size (fun _ => True) v3_ r4 ∧ Below w.heap.size w w' := by
  have hu51 := Try.underlying51
  have hu60 := Try.underlying60
  have HR0_0 := qM hr0_0
  have HC0_0 := qM hc0_0
  clear hr0_0 hc0_0
  have HR0_1 := qM hr0_1
  have HC0_1 := qM hc0_1
  clear hr0_1 hc0_1
  have HR0_2 := qM hr0_2
  have HC0_2 := qM hc0_2
  clear hr0_2 hc0_2
  have HR0_3 := qM hr0_3
  have HC0_3 := qM hc0_3
  clear hr0_3 hc0_3
  have HB := qM (Below.refl w.heap.size w)
  have H : ((laws_toIntS.f k l0_0).bind fun t580 => ((laws_toBoolS.f k l0_1).bind fun t583 => ((laws_toIntS.f k l0_2).bind fun t586 => ((laws_toTraceS.f k l0_3).bind fun t589 => (some (t580, t583, t586, t589)))))) = some (r1, r2, r3, r4) := h
  clear h
  replace H := Option.bind_eq_some_iff.mp H
  obtain ⟨t580, A20, H⟩ := H
  replace H : ((laws_toBoolS.f k l0_1).bind fun t583 => ((laws_toIntS.f k l0_2).bind fun t586 => ((laws_toTraceS.f k l0_3).bind fun t589 => (some (t580, t583, t586, t589))))) = some (r1, r2, r3, r4) := H
  have A2 := qM A20
  clear A20
  replace H := Option.bind_eq_some_iff.mp H
  obtain ⟨t583, A30, H⟩ := H
  replace H : ((laws_toIntS.f k l0_2).bind fun t586 => ((laws_toTraceS.f k l0_3).bind fun t589 => (some (t580, t583, t586, t589)))) = some (r1, r2, r3, r4) := H
  have A3 := qM A30
  clear A30
  replace H := Option.bind_eq_some_iff.mp H
  obtain ⟨t586, A40, H⟩ := H
  replace H : ((laws_toTraceS.f k l0_3).bind fun t589 => (some (t580, t583, t586, t589))) = some (r1, r2, r3, r4) := H
  have A4 := qM A40
  clear A40
  replace H := Option.bind_eq_some_iff.mp H
  obtain ⟨t589, A50, H⟩ := H
  replace H : (some (t580, t583, t586, t589)) = some (r1, r2, r3, r4) := H
  have A5 := qM A50
  clear A50
  simp only [Option.some.injEq, Prod.mk.injEq] at H
  obtain ⟨rfl, rfl, rfl, rfl⟩ := H
  go_enter Try.func36, Try.ntmps36
  go_wp2_with (first | ((with_reducible refine gate_dst (N := 1) rfl ?_); refine box_event ?hg (N := 1) ?hd (cs := #[.slice A0_0 l0_0.length c0_0, .slice A0_1 l0_1.length c0_1, .slice A0_2 l0_2.length c0_2, .slice A0_3 l0_3.length c0_3]) (t := 51) ?hr ?_; (case hd => rfl); (case hg => rfl); (case hr => first | (go_simp; done) | (go_simp; rfl)); intro gb577 hg w6 hbox hb; have n0_ := qM (qs (by repeat (first | (with_reducible first | exact HB.out | apply qA | apply qN | apply qD) | exact HB.out)) hb); have n1_ := qM (hbox); have n2_ := qM ((by rw [hg]; exact (qz (by repeat (first | (with_reducible first | exact HB.out | apply qA | apply qN | apply qD) | exact HB.out))) : w.heap.size ≤ gb577)); have n3_ := qM ((by rw [hg]; exact (qz (by repeat (first | (with_reducible first | exact HB.out | apply qA | apply qN | apply qD) | exact HB.out))) : w.heap.size ≤ gb577)); clear HB; have HB := n0_; have BK577 := n1_; have GW577 := n2_; have GE577 := n3_; clear n0_ n1_ n2_ n3_; clear hb hbox hg) | ((with_reducible refine gate_dst (N := 2) rfl ?_); refine box_event ?hg (N := 2) ?hd (cs := #[.slice none 0 0, .slice none 0 0, .slice none 0 0, .slice none 0 0]) (t := 60) ?hr ?_; (case hd => rfl); (case hg => rfl); (case hr => first | (go_simp; done) | (go_simp; rfl)); intro gb578 hg w7 hbox hb; have n0_ := qM (blk_below (g := gb577) (o := .cells #[.slice A0_0 l0_0.length c0_0, .slice A0_1 l0_1.length c0_1, .slice A0_2 l0_2.length c0_2, .slice A0_3 l0_3.length c0_3] 51 (0, 0)) (by (with_reducible repeat (first | refine qn ?_ _ | refine qd ?_ | refine qa ?_ _)); exact BK577.out) hb); have n1_ := qM (qs (by repeat (first | (with_reducible first | exact HB.out | apply qA | apply qN | apply qD | refine qS ?_ GE577.out) | exact HB.out)) hb); have n2_ := qM (hbox); have n3_ := qM ((by rw [hg]; exact (qz (by repeat (first | (with_reducible first | exact HB.out | apply qA | apply qN | apply qD | refine qS ?_ GE577.out) | exact HB.out))) : w.heap.size ≤ gb578)); have n4_ := qM ((by rw [hg]; exact (qz (by repeat (first | (with_reducible first | exact HB.out | apply qA | apply qN | apply qD | refine qS ?_ GE577.out) | exact HB.out))) : w.heap.size ≤ gb578)); have n5_ := qM ((by rw [hg]; exact Nat.ne_of_lt (blk_lt (g := gb577) (o := .cells #[.slice A0_0 l0_0.length c0_0, .slice A0_1 l0_1.length c0_1, .slice A0_2 l0_2.length c0_2, .slice A0_3 l0_3.length c0_3] 51 (0, 0)) (by (with_reducible repeat (first | refine qn ?_ _ | refine qd ?_ | refine qa ?_ _)); exact BK577.out)) : gb577 ≠ gb578)); have n6_ := qM ((by rw [hg]; exact Nat.ne_of_gt (blk_lt (g := gb577) (o := .cells #[.slice A0_0 l0_0.length c0_0, .slice A0_1 l0_1.length c0_1, .slice A0_2 l0_2.length c0_2, .slice A0_3 l0_3.length c0_3] 51 (0, 0)) (by (with_reducible repeat (first | refine qn ?_ _ | refine qd ?_ | refine qa ?_ _)); exact BK577.out)) : gb578 ≠ gb577)); clear BK577; clear HB; have BK577 := n0_; have HB := n1_; have BK578 := n2_; have GW578 := n3_; have GE578 := n4_; have NB577_578 := n5_; have NB578_577 := n6_; clear n0_ n1_ n2_ n3_ n4_ n5_ n6_; clear hb hbox hg) | ((with_reducible refine gate_dst (N := 3) rfl ?_); refine box_event ?hg (N := 3) ?hd (cs := #[.slice none 0 0, .slice none 0 0, .slice none 0 0, .slice none 0 0]) (t := 60) ?hr ?_; (case hd => rfl); (case hg => rfl); (case hr => first | (go_simp; done) | (go_simp; rfl)); intro gb579 hg w8 hbox hb; have n0_ := qM (blk_below (g := gb577) (o := .cells #[.slice A0_0 l0_0.length c0_0, .slice A0_1 l0_1.length c0_1, .slice A0_2 l0_2.length c0_2, .slice A0_3 l0_3.length c0_3] 51 (0, 0)) (by (with_reducible repeat (first | refine qn ?_ _ | refine qd ?_ | refine qa ?_ _)); exact BK577.out) hb); have n1_ := qM (blk_below (g := gb578) (o := .cells #[.slice none 0 0, .slice none 0 0, .slice none 0 0, .slice none 0 0] 60 (0, 0)) (by (with_reducible repeat (first | refine qn ?_ _ | refine qd ?_ | refine qa ?_ _)); exact BK578.out) hb); have n2_ := qM (qs (by repeat (first | (with_reducible first | exact HB.out | apply qA | apply qN | apply qD | refine qS ?_ GE577.out | refine qS ?_ GE578.out) | exact HB.out)) hb); have n3_ := qM (hbox); have n4_ := qM ((by rw [hg]; exact (qz (by repeat (first | (with_reducible first | exact HB.out | apply qA | apply qN | apply qD | refine qS ?_ GE577.out | refine qS ?_ GE578.out) | exact HB.out))) : w.heap.size ≤ gb579)); have n5_ := qM ((by rw [hg]; exact (qz (by repeat (first | (with_reducible first | exact HB.out | apply qA | apply qN | apply qD | refine qS ?_ GE577.out | refine qS ?_ GE578.out) | exact HB.out))) : w.heap.size ≤ gb579)); have n6_ := qM ((by rw [hg]; exact Nat.ne_of_lt (blk_lt (g := gb577) (o := .cells #[.slice A0_0 l0_0.length c0_0, .slice A0_1 l0_1.length c0_1, .slice A0_2 l0_2.length c0_2, .slice A0_3 l0_3.length c0_3] 51 (0, 0)) (by (with_reducible repeat (first | refine qn ?_ _ | refine qd ?_ | refine qa ?_ _)); exact BK577.out)) : gb577 ≠ gb579)); have n7_ := qM ((by rw [hg]; exact Nat.ne_of_gt (blk_lt (g := gb577) (o := .cells #[.slice A0_0 l0_0.length c0_0, .slice A0_1 l0_1.length c0_1, .slice A0_2 l0_2.length c0_2, .slice A0_3 l0_3.length c0_3] 51 (0, 0)) (by (with_reducible repeat (first | refine qn ?_ _ | refine qd ?_ | refine qa ?_ _)); exact BK577.out)) : gb579 ≠ gb577)); have n8_ := qM ((by rw [hg]; exact Nat.ne_of_lt (blk_lt (g := gb578) (o := .cells #[.slice none 0 0, .slice none 0 0, .slice none 0 0, .slice none 0 0] 60 (0, 0)) (by (with_reducible repeat (first | refine qn ?_ _ | refine qd ?_ | refine qa ?_ _)); exact BK578.out)) : gb578 ≠ gb579)); have n9_ := qM ((by rw [hg]; exact Nat.ne_of_gt (blk_lt (g := gb578) (o := .cells #[.slice none 0 0, .slice none 0 0, .slice none 0 0, .slice none 0 0] 60 (0, 0)) (by (with_reducible repeat (first | refine qn ?_ _ | refine qd ?_ | refine qa ?_ _)); exact BK578.out)) : gb579 ≠ gb578)); clear BK577; clear BK578; clear HB; have BK577 := n0_; have BK578 := n1_; have HB := n2_; have BK579 := n3_; have GW579 := n4_; have GE579 := n5_; have NB577_579 := n6_; have NB579_577 := n7_; have NB578_579 := n8_; have NB579_578 := n9_; clear n0_ n1_ n2_ n3_ n4_ n5_ n6_ n7_ n8_ n9_; clear hb hbox hg; have hnb9 := NB577_578.out; have hnc9 := NB578_577.out; have hnb10 := NB577_579.out; have hnc10 := NB579_577.out; have hcz11_0 : w8.cell? ⟨gb577, 0, none⟩ = some (.slice A0_0 l0_0.length c0_0) := (qC BK577.out 0).trans rfl; have hcz11_1 : w8.cell? ⟨gb577, 1, none⟩ = some (.slice A0_1 l0_1.length c0_1) := (qC BK577.out 1).trans rfl; have hcz11_2 : w8.cell? ⟨gb577, 2, none⟩ = some (.slice A0_2 l0_2.length c0_2) := (qC BK577.out 2).trans rfl; have hcz11_3 : w8.cell? ⟨gb577, 3, none⟩ = some (.slice A0_3 l0_3.length c0_3) := (qC BK577.out 3).trans rfl; have hfz11_0 := qF BK577.out 0; have hfz11_1 := qF BK577.out 1; have hfz11_2 := qF BK577.out 2; have hfz11_3 := qF BK577.out 3) | ((with_reducible refine gate_callee (f := 46) rfl ?_); refine goesL_ (some 6) rfl rfl Try.func46 (by kernel_rfl) rfl #[.slice A0_0 l0_0.length c0_0] rfl (by (try simp only [List.map_toArray, List.map_cons, List.map_nil]); first | done | rfl | (simp only [List.length_drop, List.length_take]; rfl)) ?_; (with_reducible refine (laws_toIntS.calls k _ _ l0_0 t580 _ ?side1 ?side2 A2.out).mono ?_); (case side1 => repeat (first | exact (qB HR0_0.out HB.out) | (with_reducible refine qc ?_ _) | (with_reducible refine qe ?_ _) | (with_reducible refine qf ?_))); (case side2 => exact HC0_0.out); rintro e w12 ⟨v581, rfl, ho0, hb⟩; refine ⟨_, rfl, ?_⟩; have n0_ := qM (Kd.R_lower ho0 (qz (by repeat (first | (with_reducible first | exact HB.out | apply qA | apply qN | apply qD | refine qS ?_ GE577.out | refine qS ?_ GE578.out | refine qS ?_ GE579.out) | exact HB.out)))); have n1_ := qM (blk_below (g := gb577) (o := .cells #[.slice A0_0 l0_0.length c0_0, .slice A0_1 l0_1.length c0_1, .slice A0_2 l0_2.length c0_2, .slice A0_3 l0_3.length c0_3] 51 (0, 0)) (by (with_reducible repeat (first | refine qn ?_ _ | refine qd ?_ | refine qa ?_ _)); exact BK577.out) hb); have n2_ := qM (blk_below (g := gb578) (o := .cells #[.slice none 0 0, .slice none 0 0, .slice none 0 0, .slice none 0 0] 60 (0, 0)) (by (with_reducible repeat (first | refine qn ?_ _ | refine qd ?_ | refine qa ?_ _)); exact BK578.out) hb); have n3_ := qM (blk_below (g := gb579) (o := .cells #[.slice none 0 0, .slice none 0 0, .slice none 0 0, .slice none 0 0] 60 (0, 0)) (by (with_reducible repeat (first | refine qn ?_ _ | refine qd ?_ | refine qa ?_ _)); exact BK579.out) hb); have n4_ := qM (qs (by repeat (first | (with_reducible first | exact HB.out | apply qA | apply qN | apply qD | refine qS ?_ GE577.out | refine qS ?_ GE578.out | refine qS ?_ GE579.out) | exact HB.out)) hb); clear BK577; clear BK578; clear BK579; clear HB; have HO582 := n0_; have BK577 := n1_; have BK578 := n2_; have BK579 := n3_; have HB := n4_; clear n0_ n1_ n2_ n3_ n4_; (try clear hb); (try clear hb2); (try clear hk); (try clear hi); (try clear ho0); obtain ⟨Ao13, co13, eo13⟩ := Kd.R_slice HO582.out; subst eo13; have hnb14 := NB579_578.out; have hnc14 := NB578_579.out; have hcz15_0 : w12.cell? ⟨gb579, 0, none⟩ = some (.slice none 0 0) := (qC BK579.out 0).trans rfl; have hcz15_1 : w12.cell? ⟨gb579, 1, none⟩ = some (.slice none 0 0) := (qC BK579.out 1).trans rfl; have hcz15_2 : w12.cell? ⟨gb579, 2, none⟩ = some (.slice none 0 0) := (qC BK579.out 2).trans rfl; have hcz15_3 : w12.cell? ⟨gb579, 3, none⟩ = some (.slice none 0 0) := (qC BK579.out 3).trans rfl; have hfz15_0 := qF BK579.out 0; have hfz15_1 := qF BK579.out 1; have hfz15_2 := qF BK579.out 2; have hfz15_3 := qF BK579.out 3; have hcz16_0 : w12.cell? ⟨gb577, 0, none⟩ = some (.slice A0_0 l0_0.length c0_0) := (qC BK577.out 0).trans rfl; have hcz16_1 : w12.cell? ⟨gb577, 1, none⟩ = some (.slice A0_1 l0_1.length c0_1) := (qC BK577.out 1).trans rfl; have hcz16_2 : w12.cell? ⟨gb577, 2, none⟩ = some (.slice A0_2 l0_2.length c0_2) := (qC BK577.out 2).trans rfl; have hcz16_3 : w12.cell? ⟨gb577, 3, none⟩ = some (.slice A0_3 l0_3.length c0_3) := (qC BK577.out 3).trans rfl; have hfz16_0 := qF BK577.out 0; have hfz16_1 := qF BK577.out 1; have hfz16_2 := qF BK577.out 2; have hfz16_3 := qF BK577.out 3) | ((with_reducible refine gate_callee (f := 89) rfl ?_); refine goesL_ (some 10) rfl rfl Try.func89 (by kernel_rfl) rfl #[.slice A0_1 l0_1.length c0_1] rfl (by (try simp only [List.map_toArray, List.map_cons, List.map_nil]); first | done | rfl | (simp only [List.length_drop, List.length_take]; rfl)) ?_; (with_reducible refine (laws_toBoolS.calls k _ _ l0_1 t583 _ ?side1 ?side2 A3.out).mono ?_); (case side1 => exact qB HR0_1.out (by repeat (first | (with_reducible first | exact HB.out | apply qA | apply qN | apply qD | refine qS ?_ GE577.out | refine qS ?_ GE578.out | refine qS ?_ GE579.out) | exact HB.out))); (case side2 => exact HC0_1.out); rintro e w17 ⟨v584, rfl, ho0, hb⟩; refine ⟨_, rfl, ?_⟩; have n0_ := qM (Kd.R_below (by (with_reducible repeat (first | apply Kd.R_alloc | apply Kd.R_drewN | apply Kd.R_drew)); exact (Kd.R_mono (Kd.R_far (p := ⟨gb579, 0, none⟩) (Kd.R_types HO582.out BK579.out (by decide)) (fun _ hk => hk.2) (.slice Ao13 t580.length co13)) (fun _ h_ => h_.1))) hb); have n1_ := qM (Kd.R_lower ho0 (qz (by repeat (first | (with_reducible first | exact HB.out | apply qA | apply qN | apply qD | refine qS ?_ GE577.out | refine qS ?_ GE578.out | refine qS ?_ GE579.out) | exact HB.out)))); have n2_ := qM (blk_below (g := gb577) (o := .cells #[.slice A0_0 l0_0.length c0_0, .slice A0_1 l0_1.length c0_1, .slice A0_2 l0_2.length c0_2, .slice A0_3 l0_3.length c0_3] 51 (0, 0)) (by (with_reducible repeat (first | refine qn ?_ _ | refine qd ?_ | refine qa ?_ _)); refine blk_far ?_ NB577_579.out _; (with_reducible repeat (first | refine qn ?_ _ | refine qd ?_ | refine qa ?_ _)); exact BK577.out) hb); have n3_ := qM (blk_below (g := gb578) (o := .cells #[.slice none 0 0, .slice none 0 0, .slice none 0 0, .slice none 0 0] 60 (0, 0)) (by (with_reducible repeat (first | refine qn ?_ _ | refine qd ?_ | refine qa ?_ _)); refine blk_far ?_ NB578_579.out _; (with_reducible repeat (first | refine qn ?_ _ | refine qd ?_ | refine qa ?_ _)); exact BK578.out) hb); have n4_ := qM (blk_below (g := gb579) (o := .cells #[.slice Ao13 t580.length co13, .slice none 0 0, .slice none 0 0, .slice none 0 0] 60 (0, 0)) (by (with_reducible repeat (first | refine qn ?_ _ | refine qd ?_ | refine qa ?_ _)); refine blk_put (cs := #[.slice none 0 0, .slice none 0 0, .slice none 0 0, .slice none 0 0]) ?_ 0 _ rfl; (with_reducible repeat (first | refine qn ?_ _ | refine qd ?_ | refine qa ?_ _)); exact BK579.out) hb); have n5_ := qM (qs (by repeat (first | (with_reducible first | exact HB.out | apply qA | apply qN | apply qD | refine qS ?_ GE577.out | refine qS ?_ GE578.out | refine qS ?_ GE579.out) | exact HB.out)) hb); clear HO582; clear BK577; clear BK578; clear BK579; clear HB; have HO582 := n0_; have HO585 := n1_; have BK577 := n2_; have BK578 := n3_; have BK579 := n4_; have HB := n5_; clear n0_ n1_ n2_ n3_ n4_ n5_; (try clear hb); (try clear hb2); (try clear hk); (try clear hi); (try clear ho0); obtain ⟨Ao18, co18, eo18⟩ := Kd.R_slice HO585.out; subst eo18; have hcz19_0 : w17.cell? ⟨gb579, 0, none⟩ = some (.slice Ao13 t580.length co13) := (qC BK579.out 0).trans rfl; have hcz19_1 : w17.cell? ⟨gb579, 1, none⟩ = some (.slice none 0 0) := (qC BK579.out 1).trans rfl; have hcz19_2 : w17.cell? ⟨gb579, 2, none⟩ = some (.slice none 0 0) := (qC BK579.out 2).trans rfl; have hcz19_3 : w17.cell? ⟨gb579, 3, none⟩ = some (.slice none 0 0) := (qC BK579.out 3).trans rfl; have hfz19_0 := qF BK579.out 0; have hfz19_1 := qF BK579.out 1; have hfz19_2 := qF BK579.out 2; have hfz19_3 := qF BK579.out 3; have hcz20_0 : w17.cell? ⟨gb577, 0, none⟩ = some (.slice A0_0 l0_0.length c0_0) := (qC BK577.out 0).trans rfl; have hcz20_1 : w17.cell? ⟨gb577, 1, none⟩ = some (.slice A0_1 l0_1.length c0_1) := (qC BK577.out 1).trans rfl; have hcz20_2 : w17.cell? ⟨gb577, 2, none⟩ = some (.slice A0_2 l0_2.length c0_2) := (qC BK577.out 2).trans rfl; have hcz20_3 : w17.cell? ⟨gb577, 3, none⟩ = some (.slice A0_3 l0_3.length c0_3) := (qC BK577.out 3).trans rfl; have hfz20_0 := qF BK577.out 0; have hfz20_1 := qF BK577.out 1; have hfz20_2 := qF BK577.out 2; have hfz20_3 := qF BK577.out 3) | ((with_reducible refine gate_callee (f := 46) rfl ?_); refine goesL_ (some 14) rfl rfl Try.func46 (by kernel_rfl) rfl #[.slice A0_2 l0_2.length c0_2] rfl (by (try simp only [List.map_toArray, List.map_cons, List.map_nil]); first | done | rfl | (simp only [List.length_drop, List.length_take]; rfl)) ?_; (with_reducible refine (laws_toIntS.calls k _ _ l0_2 t586 _ ?side1 ?side2 A4.out).mono ?_); (case side1 => exact qB HR0_2.out (by repeat (first | (with_reducible first | exact HB.out | apply qA | apply qN | apply qD | refine qS ?_ GE577.out | refine qS ?_ GE578.out | refine qS ?_ GE579.out) | exact HB.out))); (case side2 => exact HC0_2.out); rintro e w21 ⟨v587, rfl, ho0, hb⟩; refine ⟨_, rfl, ?_⟩; have n0_ := qM (Kd.R_elder' (by (with_reducible repeat (first | apply Kd.R_alloc | apply Kd.R_drewN | apply Kd.R_drew)); exact (Kd.R_mono (Kd.R_far (p := ⟨gb579, 1, none⟩) (Kd.R_types HO582.out BK579.out (by decide)) (fun _ hk => hk.2) (.slice Ao18 t583.length co18)) (fun _ h_ => h_.1))) (Kd.R_base ho0) hb); have n1_ := qM (Kd.R_below (by (with_reducible repeat (first | apply Kd.R_alloc | apply Kd.R_drewN | apply Kd.R_drew)); exact (Kd.R_mono (Kd.R_far (p := ⟨gb579, 1, none⟩) (Kd.R_types HO585.out BK579.out (by decide)) (fun _ hk => hk.2) (.slice Ao18 t583.length co18)) (fun _ h_ => h_.1))) hb); have n2_ := qM (Kd.R_lower (Kd.R_new' ho0 (Kd.R_lt (by (with_reducible repeat (first | apply Kd.R_alloc | apply Kd.R_drewN | apply Kd.R_drew)); exact (Kd.R_mono (Kd.R_far (p := ⟨gb579, 1, none⟩) (Kd.R_types HO582.out BK579.out (by decide)) (fun _ hk => hk.2) (.slice Ao18 t583.length co18)) (fun _ h_ => h_.1))))) (qz (by repeat (first | (with_reducible first | exact HB.out | apply qA | apply qN | apply qD | refine qS ?_ GE577.out | refine qS ?_ GE578.out | refine qS ?_ GE579.out) | exact HB.out)))); have n3_ := qM (blk_below (g := gb577) (o := .cells #[.slice A0_0 l0_0.length c0_0, .slice A0_1 l0_1.length c0_1, .slice A0_2 l0_2.length c0_2, .slice A0_3 l0_3.length c0_3] 51 (0, 0)) (by (with_reducible repeat (first | refine qn ?_ _ | refine qd ?_ | refine qa ?_ _)); refine blk_far ?_ NB577_579.out _; (with_reducible repeat (first | refine qn ?_ _ | refine qd ?_ | refine qa ?_ _)); exact BK577.out) hb); have n4_ := qM (blk_below (g := gb578) (o := .cells #[.slice none 0 0, .slice none 0 0, .slice none 0 0, .slice none 0 0] 60 (0, 0)) (by (with_reducible repeat (first | refine qn ?_ _ | refine qd ?_ | refine qa ?_ _)); refine blk_far ?_ NB578_579.out _; (with_reducible repeat (first | refine qn ?_ _ | refine qd ?_ | refine qa ?_ _)); exact BK578.out) hb); have n5_ := qM (blk_below (g := gb579) (o := .cells #[.slice Ao13 t580.length co13, .slice Ao18 t583.length co18, .slice none 0 0, .slice none 0 0] 60 (0, 0)) (by (with_reducible repeat (first | refine qn ?_ _ | refine qd ?_ | refine qa ?_ _)); refine blk_put (cs := #[.slice Ao13 t580.length co13, .slice none 0 0, .slice none 0 0, .slice none 0 0]) ?_ 1 _ rfl; (with_reducible repeat (first | refine qn ?_ _ | refine qd ?_ | refine qa ?_ _)); exact BK579.out) hb); have n6_ := qM (qs (by repeat (first | (with_reducible first | exact HB.out | apply qA | apply qN | apply qD | refine qS ?_ GE577.out | refine qS ?_ GE578.out | refine qS ?_ GE579.out) | exact HB.out)) hb); clear HO582; clear HO585; clear BK577; clear BK578; clear BK579; clear HB; have HO582 := n0_; have HO585 := n1_; have HO588 := n2_; have BK577 := n3_; have BK578 := n4_; have BK579 := n5_; have HB := n6_; clear n0_ n1_ n2_ n3_ n4_ n5_ n6_; (try clear hb); (try clear hb2); (try clear hk); (try clear hi); (try clear ho0); obtain ⟨Ao22, co22, eo22⟩ := Kd.R_slice HO588.out; subst eo22; have hcz23_0 : w21.cell? ⟨gb579, 0, none⟩ = some (.slice Ao13 t580.length co13) := (qC BK579.out 0).trans rfl; have hcz23_1 : w21.cell? ⟨gb579, 1, none⟩ = some (.slice Ao18 t583.length co18) := (qC BK579.out 1).trans rfl; have hcz23_2 : w21.cell? ⟨gb579, 2, none⟩ = some (.slice none 0 0) := (qC BK579.out 2).trans rfl; have hcz23_3 : w21.cell? ⟨gb579, 3, none⟩ = some (.slice none 0 0) := (qC BK579.out 3).trans rfl; have hfz23_0 := qF BK579.out 0; have hfz23_1 := qF BK579.out 1; have hfz23_2 := qF BK579.out 2; have hfz23_3 := qF BK579.out 3; have hcz24_0 : w21.cell? ⟨gb577, 0, none⟩ = some (.slice A0_0 l0_0.length c0_0) := (qC BK577.out 0).trans rfl; have hcz24_1 : w21.cell? ⟨gb577, 1, none⟩ = some (.slice A0_1 l0_1.length c0_1) := (qC BK577.out 1).trans rfl; have hcz24_2 : w21.cell? ⟨gb577, 2, none⟩ = some (.slice A0_2 l0_2.length c0_2) := (qC BK577.out 2).trans rfl; have hcz24_3 : w21.cell? ⟨gb577, 3, none⟩ = some (.slice A0_3 l0_3.length c0_3) := (qC BK577.out 3).trans rfl; have hfz24_0 := qF BK577.out 0; have hfz24_1 := qF BK577.out 1; have hfz24_2 := qF BK577.out 2; have hfz24_3 := qF BK577.out 3) | ((with_reducible refine gate_callee (f := 42) rfl ?_); refine goesL_ (some 18) rfl rfl Try.func42 (by kernel_rfl) rfl #[.slice A0_3 l0_3.length c0_3] rfl (by (try simp only [List.map_toArray, List.map_cons, List.map_nil]); first | done | rfl | (simp only [List.length_drop, List.length_take]; rfl)) ?_; (with_reducible refine (laws_toTraceS.calls k _ _ l0_3 t589 _ ?side1 ?side2 A5.out).mono ?_); (case side1 => exact qB HR0_3.out (by repeat (first | (with_reducible first | exact HB.out | apply qA | apply qN | apply qD | refine qS ?_ GE577.out | refine qS ?_ GE578.out | refine qS ?_ GE579.out) | exact HB.out))); (case side2 => exact HC0_3.out); rintro e w25 ⟨v590, rfl, ho0, hb⟩; refine ⟨_, rfl, ?_⟩; have n0_ := qM (Kd.R_below (by (with_reducible repeat (first | apply Kd.R_alloc | apply Kd.R_drewN | apply Kd.R_drew)); exact (Kd.R_mono (Kd.R_far (p := ⟨gb579, 2, none⟩) (Kd.R_types HO582.out BK579.out (by decide)) (fun _ hk => hk.2) (.slice Ao22 t586.length co22)) (fun _ h_ => h_.1))) hb); have n1_ := qM (Kd.R_below (by (with_reducible repeat (first | apply Kd.R_alloc | apply Kd.R_drewN | apply Kd.R_drew)); exact (Kd.R_mono (Kd.R_far (p := ⟨gb579, 2, none⟩) (Kd.R_types HO585.out BK579.out (by decide)) (fun _ hk => hk.2) (.slice Ao22 t586.length co22)) (fun _ h_ => h_.1))) hb); have n2_ := qM (Kd.R_below (by (with_reducible repeat (first | apply Kd.R_alloc | apply Kd.R_drewN | apply Kd.R_drew)); exact (Kd.R_mono (Kd.R_far (p := ⟨gb579, 2, none⟩) (Kd.R_types HO588.out BK579.out (by decide)) (fun _ hk => hk.2) (.slice Ao22 t586.length co22)) (fun _ h_ => h_.1))) hb); have n3_ := qM (Kd.S_lower ho0 (qz (by repeat (first | (with_reducible first | exact HB.out | apply qA | apply qN | apply qD | refine qS ?_ GE577.out | refine qS ?_ GE578.out | refine qS ?_ GE579.out) | exact HB.out)))); have n4_ := qM (blk_below (g := gb577) (o := .cells #[.slice A0_0 l0_0.length c0_0, .slice A0_1 l0_1.length c0_1, .slice A0_2 l0_2.length c0_2, .slice A0_3 l0_3.length c0_3] 51 (0, 0)) (by (with_reducible repeat (first | refine qn ?_ _ | refine qd ?_ | refine qa ?_ _)); refine blk_far ?_ NB577_579.out _; (with_reducible repeat (first | refine qn ?_ _ | refine qd ?_ | refine qa ?_ _)); exact BK577.out) hb); have n5_ := qM (blk_below (g := gb578) (o := .cells #[.slice none 0 0, .slice none 0 0, .slice none 0 0, .slice none 0 0] 60 (0, 0)) (by (with_reducible repeat (first | refine qn ?_ _ | refine qd ?_ | refine qa ?_ _)); refine blk_far ?_ NB578_579.out _; (with_reducible repeat (first | refine qn ?_ _ | refine qd ?_ | refine qa ?_ _)); exact BK578.out) hb); have n6_ := qM (blk_below (g := gb579) (o := .cells #[.slice Ao13 t580.length co13, .slice Ao18 t583.length co18, .slice Ao22 t586.length co22, .slice none 0 0] 60 (0, 0)) (by (with_reducible repeat (first | refine qn ?_ _ | refine qd ?_ | refine qa ?_ _)); refine blk_put (cs := #[.slice Ao13 t580.length co13, .slice Ao18 t583.length co18, .slice none 0 0, .slice none 0 0]) ?_ 2 _ rfl; (with_reducible repeat (first | refine qn ?_ _ | refine qd ?_ | refine qa ?_ _)); exact BK579.out) hb); have n7_ := qM (qs (by repeat (first | (with_reducible first | exact HB.out | apply qA | apply qN | apply qD | refine qS ?_ GE577.out | refine qS ?_ GE578.out | refine qS ?_ GE579.out) | exact HB.out)) hb); clear HO582; clear HO585; clear HO588; clear BK577; clear BK578; clear BK579; clear HB; have HO582 := n0_; have HO585 := n1_; have HO588 := n2_; have HO591 := n3_; have BK577 := n4_; have BK578 := n5_; have BK579 := n6_; have HB := n7_; clear n0_ n1_ n2_ n3_ n4_ n5_ n6_ n7_; (try clear hb); (try clear hb2); (try clear hk); (try clear hi); (try clear ho0); obtain ⟨Ao26, co26, eo26⟩ := Kd.S_slice HO591.out; subst eo26; have hcz27_0 : w25.cell? ⟨gb579, 0, none⟩ = some (.slice Ao13 t580.length co13) := (qC BK579.out 0).trans rfl; have hcz27_1 : w25.cell? ⟨gb579, 1, none⟩ = some (.slice Ao18 t583.length co18) := (qC BK579.out 1).trans rfl; have hcz27_2 : w25.cell? ⟨gb579, 2, none⟩ = some (.slice Ao22 t586.length co22) := (qC BK579.out 2).trans rfl; have hcz27_3 : w25.cell? ⟨gb579, 3, none⟩ = some (.slice none 0 0) := (qC BK579.out 3).trans rfl; have hfz27_0 := qF BK579.out 0; have hfz27_1 := qF BK579.out 1; have hfz27_2 := qF BK579.out 2; have hfz27_3 := qF BK579.out 3; have hcz28_0 : w25.cell? ⟨gb578, 0, none⟩ = some (.slice none 0 0) := (qC BK578.out 0).trans rfl; have hcz28_1 : w25.cell? ⟨gb578, 1, none⟩ = some (.slice none 0 0) := (qC BK578.out 1).trans rfl; have hcz28_2 : w25.cell? ⟨gb578, 2, none⟩ = some (.slice none 0 0) := (qC BK578.out 2).trans rfl; have hcz28_3 : w25.cell? ⟨gb578, 3, none⟩ = some (.slice none 0 0) := (qC BK578.out 3).trans rfl; have hfz28_0 := qF BK578.out 0; have hfz28_1 := qF BK578.out 1; have hfz28_2 := qF BK578.out 2; have hfz28_3 := qF BK578.out 3))
  refine bodyPost_ret (results_cell_row rfl _ _ gb578 60 #[.slice Ao13 t580.length co13, .slice Ao18 t583.length co18, .slice Ao22 t586.length co22, .slice Ao26 t589.length co26] (0, 0) _ rfl (by (with_reducible repeat (first | refine qn ?_ _ | refine qd ?_ | refine qa ?_ _)); refine blk_put (cs := #[.slice Ao13 t580.length co13, .slice Ao18 t583.length co18, .slice Ao22 t586.length co22, .slice none 0 0]) ?_ 3 _ rfl; (with_reducible repeat (first | refine qn ?_ _ | refine qd ?_ | refine qa ?_ _)); refine blk_put (cs := #[.slice Ao13 t580.length co13, .slice Ao18 t583.length co18, .slice none 0 0, .slice none 0 0]) ?_ 2 _ rfl; (with_reducible repeat (first | refine qn ?_ _ | refine qd ?_ | refine qa ?_ _)); refine blk_put (cs := #[.slice Ao13 t580.length co13, .slice none 0 0, .slice none 0 0, .slice none 0 0]) ?_ 1 _ rfl; (with_reducible repeat (first | refine qn ?_ _ | refine qd ?_ | refine qa ?_ _)); refine blk_put (cs := #[.slice none 0 0, .slice none 0 0, .slice none 0 0, .slice none 0 0]) ?_ 0 _ rfl; (with_reducible repeat (first | refine qn ?_ _ | refine qd ?_ | refine qa ?_ _)); refine blk_far ?_ NB578_579.out _; (with_reducible repeat (first | refine qn ?_ _ | refine qd ?_ | refine qa ?_ _)); exact BK578.out) Try.underlying60 rfl (by kernel_rfl)) rfl ?_
  exact ⟨_, _, _, _, by first | rfl | (simp [errW_none, errW_some] <;> rfl) | (simp [*, errW_none, errW_some] <;> rfl), by (with_reducible repeat (first | apply Kd.R_alloc | apply Kd.R_drewN | apply Kd.R_drew)); exact Kd.R_mono (Kd.R_far (p := ⟨gb578, 3, none⟩) (Kd.R_far (p := ⟨gb578, 2, none⟩) (Kd.R_far (p := ⟨gb578, 1, none⟩) (Kd.R_far (p := ⟨gb578, 0, none⟩) (Kd.R_far (p := ⟨gb579, 3, none⟩) (Kd.R_types (Kd.R_types HO582.out BK579.out (by decide)) BK578.out (by decide)) (fun _ hk => hk.1.2) (.slice Ao26 t589.length co26)) (fun _ hk => hk.2) (.slice Ao13 t580.length co13)) (fun _ hk => hk.2) (.slice Ao18 t583.length co18)) (fun _ hk => hk.2) (.slice Ao22 t586.length co22)) (fun _ hk => hk.2) (.slice Ao26 t589.length co26)) (fun _ hk => hk.1.1.2), by (with_reducible repeat (first | apply Kd.R_alloc | apply Kd.R_drewN | apply Kd.R_drew)); exact Kd.R_mono (Kd.R_far (p := ⟨gb578, 3, none⟩) (Kd.R_far (p := ⟨gb578, 2, none⟩) (Kd.R_far (p := ⟨gb578, 1, none⟩) (Kd.R_far (p := ⟨gb578, 0, none⟩) (Kd.R_far (p := ⟨gb579, 3, none⟩) (Kd.R_types (Kd.R_types HO585.out BK579.out (by decide)) BK578.out (by decide)) (fun _ hk => hk.1.2) (.slice Ao26 t589.length co26)) (fun _ hk => hk.2) (.slice Ao13 t580.length co13)) (fun _ hk => hk.2) (.slice Ao18 t583.length co18)) (fun _ hk => hk.2) (.slice Ao22 t586.length co22)) (fun _ hk => hk.2) (.slice Ao26 t589.length co26)) (fun _ hk => trivial), by (with_reducible repeat (first | apply Kd.R_alloc | apply Kd.R_drewN | apply Kd.R_drew)); exact Kd.R_mono (Kd.R_far (p := ⟨gb578, 3, none⟩) (Kd.R_far (p := ⟨gb578, 2, none⟩) (Kd.R_far (p := ⟨gb578, 1, none⟩) (Kd.R_far (p := ⟨gb578, 0, none⟩) (Kd.R_far (p := ⟨gb579, 3, none⟩) (Kd.R_types (Kd.R_types HO588.out BK579.out (by decide)) BK578.out (by decide)) (fun _ hk => hk.1.2) (.slice Ao26 t589.length co26)) (fun _ hk => hk.2) (.slice Ao13 t580.length co13)) (fun _ hk => hk.2) (.slice Ao18 t583.length co18)) (fun _ hk => hk.2) (.slice Ao22 t586.length co22)) (fun _ hk => hk.2) (.slice Ao26 t589.length co26)) (fun _ hk => hk.1.1.2), by (with_reducible repeat (first | apply Kd.S_alloc | apply Kd.S_drewN | apply Kd.S_drew)); exact Kd.S_mono (Kd.S_far (p := ⟨gb578, 3, none⟩) (Kd.S_far (p := ⟨gb578, 2, none⟩) (Kd.S_far (p := ⟨gb578, 1, none⟩) (Kd.S_far (p := ⟨gb578, 0, none⟩) (Kd.S_far (p := ⟨gb579, 3, none⟩) (Kd.S_types (Kd.S_types HO591.out BK579.out (by decide)) BK578.out (by decide)) (fun _ hk => hk.1.2) (.slice Ao26 t589.length co26)) (fun _ hk => hk.2) (.slice Ao13 t580.length co13)) (fun _ hk => hk.2) (.slice Ao18 t583.length co18)) (fun _ hk => hk.2) (.slice Ao22 t586.length co22)) (fun _ hk => hk.2) (.slice Ao26 t589.length co26)) (fun _ hk => trivial), by repeat (first | (with_reducible first | exact HB.out | apply qA | apply qN | apply qD | refine qS ?_ GE577.out | refine qS ?_ GE578.out | refine qS ?_ GE579.out) | exact HB.out)⟩
def impl_Trace_ok_1.f (a0_0 : Int) (a0_1 : Int) : Option (Bool) := (impl_isKey.f a0_0).bind fun t593 => (if t593 = true then ((impl_isValue.f a0_1).bind fun t594 => (some (!t594))) else (some true))
set_option maxHeartbeats 8000000 in
set_option maxRecDepth 100000 in
theorem impl_Trace_ok_1.calls (a0_0 : Int) (a0_1 : Int) (r : Bool) (w : World) (h : impl_Trace_ok_1.f a0_0 a0_1 = some r) :
    Calls Try.prog 157 #[.agg #[.int .i64 a0_0, .int .i64 a0_1]] w fun e w' => e = .returned (.bool r) ∧ Below w.heap.size w w' := by
  have hu117 := Try.underlying117
  have HB := qM (Below.refl w.heap.size w)
  have H : ((impl_isKey.f a0_0).bind fun t593 => (if t593 = true then ((impl_isValue.f a0_1).bind fun t594 => (some (!t594))) else (some true))) = some r := h
  clear h
  replace H := Option.bind_eq_some_iff.mp H
  obtain ⟨t593, A20, H⟩ := H
  replace H : (if t593 = true then ((impl_isValue.f a0_1).bind fun t594 => (some (!t594))) else (some true)) = some r := H
  have A2 := qM A20
  clear A20
  by_cases c3 : t593 = true
  rotate_left
  · replace c3 := Bool.eq_false_iff.mpr c3
    subst c3
    have H1 : (some true) = some r := by rw [if_neg (show ¬ (false = true) by decide)] at H; exact H
    clear H
    have H := H1
    clear H1
    obtain rfl := Option.some.inj H
    go_enter Try.func157, Try.ntmps157
    go_wp2_with (first | ((with_reducible refine gate_dst (N := 1) rfl ?_); refine box_event ?hg (N := 1) ?hd (cs := #[.int .i64 a0_0, .int .i64 a0_1]) (t := 117) ?hr ?_; (case hd => rfl); (case hg => rfl); (case hr => first | (go_simp; done) | (go_simp; rfl)); intro gb592 hg w7 hbox hb; have n0_ := qM (qs (by repeat (first | (with_reducible first | exact HB.out | apply qA | apply qN | apply qD) | exact HB.out)) hb); have n1_ := qM (hbox); have n2_ := qM ((by rw [hg]; exact (qz (by repeat (first | (with_reducible first | exact HB.out | apply qA | apply qN | apply qD) | exact HB.out))) : w.heap.size ≤ gb592)); have n3_ := qM ((by rw [hg]; exact (qz (by repeat (first | (with_reducible first | exact HB.out | apply qA | apply qN | apply qD) | exact HB.out))) : w.heap.size ≤ gb592)); clear HB; have HB := n0_; have BK592 := n1_; have GW592 := n2_; have GE592 := n3_; clear n0_ n1_ n2_ n3_; clear hb hbox hg; have hcz8_0 : w7.cell? ⟨gb592, 0, none⟩ = some (.int .i64 a0_0) := (qC BK592.out 0).trans rfl; have hcz8_1 : w7.cell? ⟨gb592, 1, none⟩ = some (.int .i64 a0_1) := (qC BK592.out 1).trans rfl; have hfz8_0 := qF BK592.out 0; have hfz8_1 := qF BK592.out 1) | ((with_reducible refine gate_callee (f := 106) rfl ?_); refine goesL_ (some 5) rfl rfl Try.func106 (by kernel_rfl) rfl #[.int .i64 a0_0] rfl (by (try simp only [List.map_toArray, List.map_cons, List.map_nil]); first | done | rfl | (simp only [List.length_drop, List.length_take]; rfl)) ?_; (with_reducible refine (impl_isKey.calls a0_0 false _ A2.out).mono ?_); rintro e w' ⟨rfl, ⟨nd, rfl⟩⟩; refine ⟨_, rfl, ?_⟩))
    go_ret
    exact ⟨by first | rfl | (simp [errW_none, errW_some] <;> rfl) | (simp [*, errW_none, errW_some] <;> rfl), by repeat (first | (with_reducible first | exact HB.out | apply qA | apply qN | apply qD | refine qS ?_ GE592.out) | exact HB.out)⟩
  subst c3
  have H1 : ((impl_isValue.f a0_1).bind fun t594 => (some (!t594))) = some r := by rw [if_pos rfl] at H; exact H
  clear H
  have H := H1
  clear H1
  replace H := Option.bind_eq_some_iff.mp H
  obtain ⟨t594, A40, H⟩ := H
  replace H : (some (!t594)) = some r := H
  have A4 := qM A40
  clear A40
  obtain rfl := Option.some.inj H
  go_enter Try.func157, Try.ntmps157
  go_wp2_with (first | ((with_reducible refine gate_dst (N := 1) rfl ?_); refine box_event ?hg (N := 1) ?hd (cs := #[.int .i64 a0_0, .int .i64 a0_1]) (t := 117) ?hr ?_; (case hd => rfl); (case hg => rfl); (case hr => first | (go_simp; done) | (go_simp; rfl)); intro gb592 hg w5 hbox hb; have n0_ := qM (qs (by repeat (first | (with_reducible first | exact HB.out | apply qA | apply qN | apply qD) | exact HB.out)) hb); have n1_ := qM (hbox); have n2_ := qM ((by rw [hg]; exact (qz (by repeat (first | (with_reducible first | exact HB.out | apply qA | apply qN | apply qD) | exact HB.out))) : w.heap.size ≤ gb592)); have n3_ := qM ((by rw [hg]; exact (qz (by repeat (first | (with_reducible first | exact HB.out | apply qA | apply qN | apply qD) | exact HB.out))) : w.heap.size ≤ gb592)); clear HB; have HB := n0_; have BK592 := n1_; have GW592 := n2_; have GE592 := n3_; clear n0_ n1_ n2_ n3_; clear hb hbox hg; have hcz6_0 : w5.cell? ⟨gb592, 0, none⟩ = some (.int .i64 a0_0) := (qC BK592.out 0).trans rfl; have hcz6_1 : w5.cell? ⟨gb592, 1, none⟩ = some (.int .i64 a0_1) := (qC BK592.out 1).trans rfl; have hfz6_0 := qF BK592.out 0; have hfz6_1 := qF BK592.out 1) | ((with_reducible refine gate_callee (f := 106) rfl ?_); refine goesL_ (some 5) rfl rfl Try.func106 (by kernel_rfl) rfl #[.int .i64 a0_0] rfl (by (try simp only [List.map_toArray, List.map_cons, List.map_nil]); first | done | rfl | (simp only [List.length_drop, List.length_take]; rfl)) ?_; (with_reducible refine (impl_isKey.calls a0_0 true _ A2.out).mono ?_); rintro e w' ⟨rfl, ⟨nd, rfl⟩⟩; refine ⟨_, rfl, ?_⟩) | (go_at_call 145; (with_reducible refine (impl_isValue.calls a0_1 t594 _ A4.out).mono ?_); rintro e w' ⟨rfl, ⟨nd, rfl⟩⟩))
  go_ret
  exact ⟨by first | rfl | (simp [errW_none, errW_some] <;> rfl) | (simp [*, errW_none, errW_some] <;> rfl), by repeat (first | (with_reducible first | exact HB.out | apply qA | apply qN | apply qD | refine qS ?_ GE592.out) | exact HB.out)⟩
end Go.Proofs.Ytgbjbpjmbghlbaa.G
end
section
namespace Go.Proofs.Ytgbjbpjmbghlbaa.G
open Go.RowKit Go.Proofs.YtgbjbpjmbghlbaaW.PrintWords Go.Proofs.YtgbjbpjmbghlbaaW.PrintLast Go.Proofs.YtgbjbpjmbghlbaaW.PrintMore
attribute [local go_sem] max2_int min2_int max_two min_two max_three min_three max_four min_four
set_option linter.unusedVariables false
set_option linter.unusedSimpArgs false
mutual
def spec_SheetOk.j0 : Nat → Bool → List Bool → List (S30) → Option (Bool)
  | 0, _, _, _ => none
  | k + 1, x16, x489000, x489001 => if x16 = true then (some false) else (spec_SheetOk.l0 k 0 x489000 x489001)
def spec_SheetOk.l0 : Nat → Int → List Bool → List (S30) → Option (Bool)
  | 0, _, _, _ => none
  | k + 1, x3, x489000, x489001 => if x3 < (x489000.length : Int) then (if 0 ≤ x3 then (if x3 < (x489001.length : Int) then ((spec_TaskOk.f k ((rd_T30 x489001 x3).f0) ((rd_T30 x489001 x3).f1) ((rd_T30 x489001 x3).f2)).bind fun t490 => (if t490 = true then (if rdOf false x489000 x3 = true then (spec_SheetOk.l0 k (wrap64 (x3 + 1)) x489000 x489001) else (if ((rd_T30 x489001 x3).f0) = 0 then (if ((rd_T30 x489001 x3).f1) = 0 then (spec_SheetOk.l0 k (wrap64 (x3 + 1)) x489000 x489001) else (some false)) else (some false))) else (some false))) else (none)) else (none)) else (some true)
end
def spec_SheetOk.f (k : Nat) (l0_0 : List Bool) (l0_1 : List (S30)) : Option (Bool) := if (l0_0.length : Int) = (l0_1.length : Int) then (spec_SheetOk.j0 k (decide ((l0_0.length : Int) > 10)) l0_0 l0_1) else (spec_SheetOk.j0 k true l0_0 l0_1)
set_option maxHeartbeats 8000000 in
set_option maxRecDepth 100000 in
theorem spec_SheetOk.calls (k : Nat) (A0_0 : Option Addr) (c0_0 : Nat) (l0_0 : List Bool) (A0_1 : Option Addr) (c0_1 : Nat) (l0_1 : List (S30)) (r : Bool) (w : World) (hr0_0 : Kd.C Kd.bool w A0_0 l0_0.length l0_0) (hc0_0 : l0_0.length ≤ c0_0) (hr0_1 : Kd.C k30 w A0_1 l0_1.length l0_1) (hc0_1 : l0_1.length ≤ c0_1) (h : spec_SheetOk.f k l0_0 l0_1 = some r) :
    Calls Try.prog 85 #[.agg #[.slice A0_0 l0_0.length c0_0, .slice A0_1 l0_1.length c0_1]] w fun e w' => e = .returned (.bool r) ∧ Below w.heap.size w w' := by
  have hu56 := Try.underlying56
  have hu30 := Try.underlying30
  have HR0_0 := qM hr0_0
  have HC0_0 := qM hc0_0
  clear hr0_0 hc0_0
  have HR0_1 := qM hr0_1
  have HC0_1 := qM hc0_1
  clear hr0_1 hc0_1
  have HB := qM (Below.refl w.heap.size w)
  have H : (if (l0_0.length : Int) = (l0_1.length : Int) then (spec_SheetOk.j0 k (decide ((l0_0.length : Int) > 10)) l0_0 l0_1) else (spec_SheetOk.j0 k true l0_0 l0_1)) = some r := h
  clear h
  have HC2 := qM H
  clear H
  go_enter Try.func85, Try.ntmps85
  go_upto_region 1 with (first | ((with_reducible refine gate_dst (N := 1) rfl ?_); (try (refine gate_guard (by rfl) ?_; dsimp only)); refine box_event ?hg (N := 1) ?hd (cs := #[.slice A0_0 l0_0.length c0_0, .slice A0_1 l0_1.length c0_1]) (t := 56) ?hr ?_; (case hd => rfl); (case hg => rfl); (case hr => first | (go_simp; done) | (go_simp; rfl)); intro gb488 hg w3 hbox hb; have n0_ := qM (qs (by repeat (first | (with_reducible first | exact HB.out | apply qA | apply qN | apply qD) | exact HB.out)) hb); have n1_ := qM (hbox); have n2_ := qM ((by rw [hg]; exact (qz (by repeat (first | (with_reducible first | exact HB.out | apply qA | apply qN | apply qD) | exact HB.out))) : w.heap.size ≤ gb488)); have n3_ := qM ((by rw [hg]; exact (qz (by repeat (first | (with_reducible first | exact HB.out | apply qA | apply qN | apply qD) | exact HB.out))) : w.heap.size ≤ gb488)); clear HB; have HB := n0_; have BK488 := n1_; have GW488 := n2_; have GE488 := n3_; clear n0_ n1_ n2_ n3_; clear hb hbox hg))
  (try simp only [Act.put, List.setIfInBounds_toArray, List.set_cons_zero, List.set_cons_succ])
  go_cut [16] (fun v16 wc => ∃ (kq : Nat) (x16_1 : Bool), v16 = .bool x16_1 ∧ Aside0 (spec_SheetOk.j0 kq x16_1 l0_0 l0_1 = some r) ∧ Aside0 (kq ≤ k) ∧ Aside0 (wc.heap[gb488]? = some (.cells #[(.slice A0_0 l0_0.length c0_0), (.slice A0_1 l0_1.length c0_1)] 56 (0, 0))) ∧ Aside0 (Below w.heap.size w wc))
  case first =>
    have H := HC2.out
    clear HC2
    by_cases c4 : (l0_0.length : Int) = (l0_1.length : Int)
    rotate_left
    · rw [if_neg c4] at H
      have c4b0 : ((l0_0.length : Int) == (l0_1.length : Int)) = false := beq_eq_false_iff_ne.mpr c4
      have c4b1 : ((l0_0.length : Int) != (l0_1.length : Int)) = true := bne_iff_ne.mpr c4
      have c4b2 : (l0_0.length == l0_1.length) = false := by first | simpa using c4 | (simp at c4 ⊢; omega)
      (first | rw [c4b0] | (simp only [i64_w, i32_w]; rw [c4b0]) | skip)
      have H' := qM H
      clear H
      have hcz6_0 : w3.cell? ⟨gb488, 0, none⟩ = some (.slice A0_0 l0_0.length c0_0) := (qC BK488.out 0).trans rfl
      have hcz6_1 : w3.cell? ⟨gb488, 1, none⟩ = some (.slice A0_1 l0_1.length c0_1) := (qC BK488.out 1).trans rfl
      have hfz6_0 := qF BK488.out 0
      have hfz6_1 := qF BK488.out 1
      go_wp2
      go_meet
      case rel => exact ⟨_, (true), (by first | rfl | (simp; done) | (simp [*]; done)), H', ⟨by first | omega | exact Nat.le_refl _⟩, ⟨by (with_reducible repeat (first | refine qn ?_ _ | refine qd ?_ | refine qa ?_ _)); exact BK488.out⟩, ⟨by repeat (first | (with_reducible first | exact HB.out | apply qA | apply qN | apply qD | refine qS ?_ GE488.out) | exact HB.out)⟩⟩
    rw [if_pos c4] at H
    have c4b0 : ((l0_0.length : Int) == (l0_1.length : Int)) = true := beq_iff_eq.mpr c4
    have c4b1 : ((l0_0.length : Int) != (l0_1.length : Int)) = false := bne_eq_false_iff_eq.mpr c4
    have c4b2 : (l0_0.length == l0_1.length) = true := by first | simpa using c4 | (simp at c4 ⊢; omega)
    clear c4
    (first | rw [c4b0] | (simp only [i64_w, i32_w]; rw [c4b0]) | skip)
    have H' := qM H
    clear H
    have hcz5_0 : w3.cell? ⟨gb488, 0, none⟩ = some (.slice A0_0 l0_0.length c0_0) := (qC BK488.out 0).trans rfl
    have hcz5_1 : w3.cell? ⟨gb488, 1, none⟩ = some (.slice A0_1 l0_1.length c0_1) := (qC BK488.out 1).trans rfl
    have hfz5_0 := qF BK488.out 0
    have hfz5_1 := qF BK488.out 1
    go_wp2
    go_meet
    case rel => exact ⟨_, (decide ((l0_0.length : Int) > 10)), (by first | rfl | (simp; done) | (simp [*]; done)), H', ⟨by first | omega | exact Nat.le_refl _⟩, ⟨by (with_reducible repeat (first | refine qn ?_ _ | refine qd ?_ | refine qa ?_ _)); exact BK488.out⟩, ⟨by repeat (first | (with_reducible first | exact HB.out | apply qA | apply qN | apply qD | refine qS ?_ GE488.out) | exact HB.out)⟩⟩
  case rest =>
    clear HC2
    try clear p2
    try clear c4
    try clear c4b0
    try clear c4b1
    try clear c4b2
    try clear hcz5_0
    try clear hcz5_1
    try clear hcz6_0
    try clear hcz6_1
    try clear hfz5_0
    try clear hfz5_1
    try clear hfz6_0
    try clear hfz6_1
    obtain ⟨kq, x16_1, rfl, HA, HJ1, BK488, HB⟩ := hcut
    cases kq with
    | zero => exact absurd HA.out (by simp [spec_SheetOk.j0])
    | succ kj1 =>
      have H := HA.out
      clear HA
      simp only [spec_SheetOk.j0] at H
      by_cases c7 : x16_1 = true
      · subst c7
        have H1 : (some false) = some r := by rw [if_pos rfl] at H; exact H
        clear H
        have H := H1
        clear H1
        obtain rfl := Option.some.inj H
        go_wp2
        go_ret
        exact ⟨by first | rfl | (simp [errW_none, errW_some] <;> rfl) | (simp [*, errW_none, errW_some] <;> rfl), by repeat (first | (with_reducible first | exact HB.out | apply qA | apply qN | apply qD | refine qS ?_ GE488.out) | exact HB.out)⟩
      replace c7 := Bool.eq_false_iff.mpr c7
      subst c7
      have H1 : (spec_SheetOk.l0 kj1 0 l0_0 l0_1) = some r := by rw [if_neg (show ¬ (false = true) by decide)] at H; exact H
      clear H
      have H := H1
      clear H1
      have H' := qM H
      clear H
      go_wp2
      go_loopg [3] kj1 (fun kq v3 w' => ∃ (x3_2 : Int), v3 = .int .i64 x3_2 ∧ Aside0 (spec_SheetOk.l0 kq x3_2 l0_0 l0_1 = some r) ∧ Aside0 (kq ≤ kj1) ∧ Aside0 (w'.heap[gb488]? = some (.cells #[(.slice A0_0 l0_0.length c0_0), (.slice A0_1 l0_1.length c0_1)] 56 (0, 0))) ∧ Aside0 (Below w.heap.size w w'))
      case atStart => exact ⟨(0), (by first | rfl | (simp; done) | (simp [*]; done)), H', ⟨Nat.le_refl _⟩, ⟨by (with_reducible repeat (first | refine qn ?_ _ | refine qd ?_ | refine qa ?_ _)); exact BK488.out⟩, ⟨by repeat (first | (with_reducible first | exact HB.out | apply qA | apply qN | apply qD | refine qS ?_ GE488.out) | exact HB.out)⟩⟩
      case round =>
        clear H'
        try clear p2
        try clear c4
        try clear c4b0
        try clear c4b1
        try clear c4b2
        try clear c7
        try clear hcz5_0
        try clear hcz5_1
        try clear hcz6_0
        try clear hcz6_1
        try clear hfz5_0
        try clear hfz5_1
        try clear hfz6_0
        try clear hfz6_1
        try clear p2
        obtain ⟨x3_2, rfl, HA, HK2, BK488, HB⟩ := hrel
        cases gk with
        | zero => exact absurd HA.out (by simp [spec_SheetOk.l0])
        | succ k2 =>
          have H := HA.out
          clear HA
          simp only [spec_SheetOk.l0] at H
          by_cases c8 : x3_2 < (l0_0.length : Int)
          rotate_left
          · rw [if_neg c8] at H
            have c8b0 : decide (x3_2 < (l0_0.length : Int)) = false := decide_eq_false c8
            clear c8
            obtain rfl := Option.some.inj H
            have hcz31_0 : wr.cell? ⟨gb488, 0, none⟩ = some (.slice A0_0 l0_0.length c0_0) := (qC BK488.out 0).trans rfl
            have hcz31_1 : wr.cell? ⟨gb488, 1, none⟩ = some (.slice A0_1 l0_1.length c0_1) := (qC BK488.out 1).trans rfl
            have hfz31_0 := qF BK488.out 0
            have hfz31_1 := qF BK488.out 1
            go_wp2
            go_ret
            exact ⟨by first | rfl | (simp [errW_none, errW_some] <;> rfl) | (simp [*, errW_none, errW_some] <;> rfl), by repeat (first | (with_reducible first | exact HB.out | apply qA | apply qN | apply qD | refine qS ?_ GE488.out) | exact HB.out)⟩
          rw [if_pos c8] at H
          have c8b0 : decide (x3_2 < (l0_0.length : Int)) = true := decide_eq_true c8
          clear c8
          by_cases c9 : 0 ≤ x3_2
          rotate_left
          · rw [if_neg c9] at H
            exact absurd H (by simp)
          rw [if_pos c9] at H
          have c9b0 : decide (0 ≤ x3_2) = true := decide_eq_true c9
          clear c9
          by_cases c10 : x3_2 < (l0_1.length : Int)
          rotate_left
          · rw [if_neg c10] at H
            exact absurd H (by simp)
          rw [if_pos c10] at H
          have c10b0 : decide (x3_2 < (l0_1.length : Int)) = true := decide_eq_true c10
          clear c10
          replace H := Option.bind_eq_some_iff.mp H
          obtain ⟨t490, A110, H⟩ := H
          replace H : (if t490 = true then (if rdOf false l0_0 x3_2 = true then (spec_SheetOk.l0 k2 (wrap64 (x3_2 + 1)) l0_0 l0_1) else (if ((rd_T30 l0_1 x3_2).f0) = 0 then (if ((rd_T30 l0_1 x3_2).f1) = 0 then (spec_SheetOk.l0 k2 (wrap64 (x3_2 + 1)) l0_0 l0_1) else (some false)) else (some false))) else (some false)) = some r := H
          have A11 := qM A110
          clear A110
          by_cases c12 : t490 = true
          rotate_left
          · replace c12 := Bool.eq_false_iff.mpr c12
            subst c12
            have H1 : (some false) = some r := by rw [if_neg (show ¬ (false = true) by decide)] at H; exact H
            clear H
            have H := H1
            clear H1
            obtain rfl := Option.some.inj H
            have hcz29_0 : wr.cell? ⟨gb488, 0, none⟩ = some (.slice A0_0 l0_0.length c0_0) := (qC BK488.out 0).trans rfl
            have hcz29_1 : wr.cell? ⟨gb488, 1, none⟩ = some (.slice A0_1 l0_1.length c0_1) := (qC BK488.out 1).trans rfl
            have hfz29_0 := qF BK488.out 0
            have hfz29_1 := qF BK488.out 1
            have p489 : 0 ≤ (x3_2 : Int) := qO (by first | (with_reducible assumption) | assumption)
            have q489 : x3_2 < (l0_1.length : Int) := qO (by first | (with_reducible assumption) | assumption)
            obtain ⟨ad489, A489_2, c489_2, e489, hx489_0, hx489_1, hx489_2, hl489_2, hi489_2⟩ := at_T30 HR0_1.out x3_2 p489 q489
            cases e489
            replace hx489_0 := (HB.out.cell (qL w _ hx489_0)).trans hx489_0
            replace hx489_1 := (HB.out.cell (qL w _ hx489_1)).trans hx489_1
            replace hx489_2 := (HB.out.cell (qL w _ hx489_2)).trans hx489_2
            have HR489_2 := qM hi489_2
            have HC489_2 := qM hl489_2
            clear hi489_2 hl489_2
            replace p489 := eq_true p489
            replace q489 := eq_true q489
            go_wp2_with (first | ((with_reducible refine gate_callee (f := 69) rfl ?_); refine goesL_ (some 29) rfl rfl Try.func69 (by kernel_rfl) rfl #[.agg #[.int .i64 ((rd_T30 l0_1 x3_2).f0), .int .i64 ((rd_T30 l0_1 x3_2).f1), .slice A489_2 ((rd_T30 l0_1 x3_2).f2).length c489_2]] rfl (by (try simp only [List.map_toArray, List.map_cons, List.map_nil]); first | done | rfl | (simp only [List.length_drop, List.length_take]; rfl)) ?_; (with_reducible refine (spec_TaskOk.calls k2 ((rd_T30 l0_1 x3_2).f0) ((rd_T30 l0_1 x3_2).f1) _ _ ((rd_T30 l0_1 x3_2).f2) false _ ?side1 ?side2 A11.out).mono ?_); (case side1 => repeat (first | exact (qB HR489_2.out HB.out) | (with_reducible refine qc ?_ _) | (with_reducible refine qe ?_ _) | (with_reducible refine qf ?_))); (case side2 => exact HC489_2.out); rintro e w30 ⟨rfl, hb⟩; refine ⟨_, rfl, ?_⟩; have n0_ := qM (blk_below (g := gb488) (o := .cells #[.slice A0_0 l0_0.length c0_0, .slice (some ad489) l0_1.length c0_1] 56 (0, 0)) (by (with_reducible repeat (first | refine qn ?_ _ | refine qd ?_ | refine qa ?_ _)); exact BK488.out) hb); have n1_ := qM (qs (by repeat (first | (with_reducible first | exact HB.out | apply qA | apply qN | apply qD | refine qS ?_ GE488.out) | exact HB.out)) hb); clear BK488; clear HB; have BK488 := n0_; have HB := n1_; clear n0_ n1_; (try clear hb); (try clear hb2); (try clear hk); (try clear hi)))
            go_ret
            exact ⟨by first | rfl | (simp [errW_none, errW_some] <;> rfl) | (simp [*, errW_none, errW_some] <;> rfl), by repeat (first | (with_reducible first | exact HB.out | apply qA | apply qN | apply qD | refine qS ?_ GE488.out) | exact HB.out)⟩
          subst c12
          have H1 : (if rdOf false l0_0 x3_2 = true then (spec_SheetOk.l0 k2 (wrap64 (x3_2 + 1)) l0_0 l0_1) else (if ((rd_T30 l0_1 x3_2).f0) = 0 then (if ((rd_T30 l0_1 x3_2).f1) = 0 then (spec_SheetOk.l0 k2 (wrap64 (x3_2 + 1)) l0_0 l0_1) else (some false)) else (some false))) = some r := by rw [if_pos rfl] at H; exact H
          clear H
          have H := H1
          clear H1
          obtain ⟨bq13, hbq13⟩ : ∃ b_ : Bool, b_ = (rdOf false l0_0 x3_2) := ⟨_, rfl⟩
          replace H : (if bq13 = true then (spec_SheetOk.l0 k2 (wrap64 (x3_2 + 1)) l0_0 l0_1) else (if ((rd_T30 l0_1 x3_2).f0) = 0 then (if ((rd_T30 l0_1 x3_2).f1) = 0 then (spec_SheetOk.l0 k2 (wrap64 (x3_2 + 1)) l0_0 l0_1) else (some false)) else (some false))) = some r := by rw [← hbq13] at H; exact H
          have Nbq13 := qM hbq13
          clear hbq13
          by_cases c14 : bq13 = true
          · subst c14
            have H1 : (spec_SheetOk.l0 k2 (wrap64 (x3_2 + 1)) l0_0 l0_1) = some r := by rw [if_pos rfl] at H; exact H
            clear H
            have H := H1
            clear H1
            have H' := qM H
            clear H
            have hcz15_0 : wr.cell? ⟨gb488, 0, none⟩ = some (.slice A0_0 l0_0.length c0_0) := (qC BK488.out 0).trans rfl
            have hcz15_1 : wr.cell? ⟨gb488, 1, none⟩ = some (.slice A0_1 l0_1.length c0_1) := (qC BK488.out 1).trans rfl
            have hfz15_0 := qF BK488.out 0
            have hfz15_1 := qF BK488.out 1
            have p489 : 0 ≤ (x3_2 : Int) := qO (by first | (with_reducible assumption) | assumption)
            have q489 : x3_2 < (l0_1.length : Int) := qO (by first | (with_reducible assumption) | assumption)
            obtain ⟨ad489, A489_2, c489_2, e489, hx489_0, hx489_1, hx489_2, hl489_2, hi489_2⟩ := at_T30 HR0_1.out x3_2 p489 q489
            cases e489
            replace hx489_0 := (HB.out.cell (qL w _ hx489_0)).trans hx489_0
            replace hx489_1 := (HB.out.cell (qL w _ hx489_1)).trans hx489_1
            replace hx489_2 := (HB.out.cell (qL w _ hx489_2)).trans hx489_2
            have HR489_2 := qM hi489_2
            have HC489_2 := qM hl489_2
            clear hi489_2 hl489_2
            replace p489 := eq_true p489
            replace q489 := eq_true q489
            go_wp2_with (first | ((with_reducible refine gate_callee (f := 69) rfl ?_); refine goesL_ (some 29) rfl rfl Try.func69 (by kernel_rfl) rfl #[.agg #[.int .i64 ((rd_T30 l0_1 x3_2).f0), .int .i64 ((rd_T30 l0_1 x3_2).f1), .slice A489_2 ((rd_T30 l0_1 x3_2).f2).length c489_2]] rfl (by (try simp only [List.map_toArray, List.map_cons, List.map_nil]); first | done | rfl | (simp only [List.length_drop, List.length_take]; rfl)) ?_; (with_reducible refine (spec_TaskOk.calls k2 ((rd_T30 l0_1 x3_2).f0) ((rd_T30 l0_1 x3_2).f1) _ _ ((rd_T30 l0_1 x3_2).f2) true _ ?side1 ?side2 A11.out).mono ?_); (case side1 => repeat (first | exact (qB HR489_2.out HB.out) | (with_reducible refine qc ?_ _) | (with_reducible refine qe ?_ _) | (with_reducible refine qf ?_))); (case side2 => exact HC489_2.out); rintro e w16 ⟨rfl, hb⟩; refine ⟨_, rfl, ?_⟩; have n0_ := qM (blk_below (g := gb488) (o := .cells #[.slice A0_0 l0_0.length c0_0, .slice (some ad489) l0_1.length c0_1] 56 (0, 0)) (by (with_reducible repeat (first | refine qn ?_ _ | refine qd ?_ | refine qa ?_ _)); exact BK488.out) hb); have n1_ := qM (qs (by repeat (first | (with_reducible first | exact HB.out | apply qA | apply qN | apply qD | refine qS ?_ GE488.out) | exact HB.out)) hb); clear BK488; clear HB; have BK488 := n0_; have HB := n1_; clear n0_ n1_; (try clear hb); (try clear hb2); (try clear hk); (try clear hi); have hcz17_0 : w16.cell? ⟨gb488, 0, none⟩ = some (.slice A0_0 l0_0.length c0_0) := (qC BK488.out 0).trans rfl; have hcz17_1 : w16.cell? ⟨gb488, 1, none⟩ = some (.slice (some ad489) l0_1.length c0_1) := (qC BK488.out 1).trans rfl; have hfz17_0 := qF BK488.out 0; have hfz17_1 := qF BK488.out 1; have p491 : 0 ≤ (x3_2 : Int) := qO (by first | (with_reducible assumption) | assumption); have q491 : x3_2 < (l0_0.length : Int) := qO (by first | (with_reducible assumption) | assumption); obtain ⟨ad491, e491, hx491_0⟩ := Kd.at_bool HR0_0.out x3_2 p491 q491; (try rw [← Nbq13.out] at hx491_0); cases e491; replace hx491_0 := (HB.out.cell (qL w _ hx491_0)).trans hx491_0; replace p491 := eq_true p491; replace q491 := eq_true q491))
            go_roundg k2
            case measure => have := HJ1.out; have := HK2.out; omega
            case rel => exact ⟨(wrap64 (x3_2 + 1)), (by first | rfl | (simp; done) | (simp [*]; done)), H', ⟨by have := HJ1.out; have := HK2.out; omega⟩, ⟨by (with_reducible repeat (first | refine qn ?_ _ | refine qd ?_ | refine qa ?_ _)); exact BK488.out⟩, ⟨by repeat (first | (with_reducible first | exact HB.out | apply qA | apply qN | apply qD | refine qS ?_ GE488.out) | exact HB.out)⟩⟩
          replace c14 := Bool.eq_false_iff.mpr c14
          subst c14
          have H1 : (if ((rd_T30 l0_1 x3_2).f0) = 0 then (if ((rd_T30 l0_1 x3_2).f1) = 0 then (spec_SheetOk.l0 k2 (wrap64 (x3_2 + 1)) l0_0 l0_1) else (some false)) else (some false)) = some r := by rw [if_neg (show ¬ (false = true) by decide)] at H; exact H
          clear H
          have H := H1
          clear H1
          by_cases c18 : ((rd_T30 l0_1 x3_2).f0) = 0
          rotate_left
          · rw [if_neg c18] at H
            have c18b0 : (((rd_T30 l0_1 x3_2).f0) == 0) = false := beq_eq_false_iff_ne.mpr c18
            have c18b1 : (((rd_T30 l0_1 x3_2).f0) != 0) = true := bne_iff_ne.mpr c18
            obtain rfl := Option.some.inj H
            have hcz26_0 : wr.cell? ⟨gb488, 0, none⟩ = some (.slice A0_0 l0_0.length c0_0) := (qC BK488.out 0).trans rfl
            have hcz26_1 : wr.cell? ⟨gb488, 1, none⟩ = some (.slice A0_1 l0_1.length c0_1) := (qC BK488.out 1).trans rfl
            have hfz26_0 := qF BK488.out 0
            have hfz26_1 := qF BK488.out 1
            have p489 : 0 ≤ (x3_2 : Int) := qO (by first | (with_reducible assumption) | assumption)
            have q489 : x3_2 < (l0_1.length : Int) := qO (by first | (with_reducible assumption) | assumption)
            obtain ⟨ad489, A489_2, c489_2, e489, hx489_0, hx489_1, hx489_2, hl489_2, hi489_2⟩ := at_T30 HR0_1.out x3_2 p489 q489
            cases e489
            replace hx489_0 := (HB.out.cell (qL w _ hx489_0)).trans hx489_0
            replace hx489_1 := (HB.out.cell (qL w _ hx489_1)).trans hx489_1
            replace hx489_2 := (HB.out.cell (qL w _ hx489_2)).trans hx489_2
            have HR489_2 := qM hi489_2
            have HC489_2 := qM hl489_2
            clear hi489_2 hl489_2
            replace p489 := eq_true p489
            replace q489 := eq_true q489
            go_wp2_with (first | ((with_reducible refine gate_callee (f := 69) rfl ?_); refine goesL_ (some 29) rfl rfl Try.func69 (by kernel_rfl) rfl #[.agg #[.int .i64 ((rd_T30 l0_1 x3_2).f0), .int .i64 ((rd_T30 l0_1 x3_2).f1), .slice A489_2 ((rd_T30 l0_1 x3_2).f2).length c489_2]] rfl (by (try simp only [List.map_toArray, List.map_cons, List.map_nil]); first | done | rfl | (simp only [List.length_drop, List.length_take]; rfl)) ?_; (with_reducible refine (spec_TaskOk.calls k2 ((rd_T30 l0_1 x3_2).f0) ((rd_T30 l0_1 x3_2).f1) _ _ ((rd_T30 l0_1 x3_2).f2) true _ ?side1 ?side2 A11.out).mono ?_); (case side1 => repeat (first | exact (qB HR489_2.out HB.out) | (with_reducible refine qc ?_ _) | (with_reducible refine qe ?_ _) | (with_reducible refine qf ?_))); (case side2 => exact HC489_2.out); rintro e w27 ⟨rfl, hb⟩; refine ⟨_, rfl, ?_⟩; have n0_ := qM (blk_below (g := gb488) (o := .cells #[.slice A0_0 l0_0.length c0_0, .slice (some ad489) l0_1.length c0_1] 56 (0, 0)) (by (with_reducible repeat (first | refine qn ?_ _ | refine qd ?_ | refine qa ?_ _)); exact BK488.out) hb); have n1_ := qM (qs (by repeat (first | (with_reducible first | exact HB.out | apply qA | apply qN | apply qD | refine qS ?_ GE488.out) | exact HB.out)) hb); clear BK488; clear HB; have BK488 := n0_; have HB := n1_; clear n0_ n1_; (try clear hb); (try clear hb2); (try clear hk); (try clear hi); have hcz28_0 : w27.cell? ⟨gb488, 0, none⟩ = some (.slice A0_0 l0_0.length c0_0) := (qC BK488.out 0).trans rfl; have hcz28_1 : w27.cell? ⟨gb488, 1, none⟩ = some (.slice (some ad489) l0_1.length c0_1) := (qC BK488.out 1).trans rfl; have hfz28_0 := qF BK488.out 0; have hfz28_1 := qF BK488.out 1; have p491 : 0 ≤ (x3_2 : Int) := qO (by first | (with_reducible assumption) | assumption); have q491 : x3_2 < (l0_0.length : Int) := qO (by first | (with_reducible assumption) | assumption); obtain ⟨ad491, e491, hx491_0⟩ := Kd.at_bool HR0_0.out x3_2 p491 q491; (try rw [← Nbq13.out] at hx491_0); cases e491; replace hx491_0 := (HB.out.cell (qL w _ hx491_0)).trans hx491_0; replace p491 := eq_true p491; replace q491 := eq_true q491; have p492 : 0 ≤ (x3_2 : Int) := qO (by first | (with_reducible assumption) | assumption); have q492 : x3_2 < (l0_1.length : Int) := qO (by first | (with_reducible assumption) | assumption); obtain ⟨ad492, A492_2, c492_2, e492, hx492_0, hx492_1, hx492_2, hl492_2, hi492_2⟩ := at_T30 HR0_1.out x3_2 p492 q492; obtain rfl : ad489 = ad492 := (by injection e492); replace hx492_0 := (HB.out.cell (qL w _ hx492_0)).trans hx492_0; replace hx492_1 := (HB.out.cell (qL w _ hx492_1)).trans hx492_1; replace hx492_2 := (HB.out.cell (qL w _ hx492_2)).trans hx492_2; have HR492_2 := qM hi492_2; have HC492_2 := qM hl492_2; clear hi492_2 hl492_2; replace p492 := eq_true p492; replace q492 := eq_true q492))
            go_ret
            exact ⟨by first | rfl | (simp [errW_none, errW_some] <;> rfl) | (simp [*, errW_none, errW_some] <;> rfl), by repeat (first | (with_reducible first | exact HB.out | apply qA | apply qN | apply qD | refine qS ?_ GE488.out) | exact HB.out)⟩
          rw [if_pos c18] at H
          have c18b0 : (((rd_T30 l0_1 x3_2).f0) == 0) = true := beq_iff_eq.mpr c18
          have c18b1 : (((rd_T30 l0_1 x3_2).f0) != 0) = false := bne_eq_false_iff_eq.mpr c18
          clear c18
          by_cases c19 : ((rd_T30 l0_1 x3_2).f1) = 0
          rotate_left
          · rw [if_neg c19] at H
            have c19b0 : (((rd_T30 l0_1 x3_2).f1) == 0) = false := beq_eq_false_iff_ne.mpr c19
            have c19b1 : (((rd_T30 l0_1 x3_2).f1) != 0) = true := bne_iff_ne.mpr c19
            obtain rfl := Option.some.inj H
            have hcz23_0 : wr.cell? ⟨gb488, 0, none⟩ = some (.slice A0_0 l0_0.length c0_0) := (qC BK488.out 0).trans rfl
            have hcz23_1 : wr.cell? ⟨gb488, 1, none⟩ = some (.slice A0_1 l0_1.length c0_1) := (qC BK488.out 1).trans rfl
            have hfz23_0 := qF BK488.out 0
            have hfz23_1 := qF BK488.out 1
            have p489 : 0 ≤ (x3_2 : Int) := qO (by first | (with_reducible assumption) | assumption)
            have q489 : x3_2 < (l0_1.length : Int) := qO (by first | (with_reducible assumption) | assumption)
            obtain ⟨ad489, A489_2, c489_2, e489, hx489_0, hx489_1, hx489_2, hl489_2, hi489_2⟩ := at_T30 HR0_1.out x3_2 p489 q489
            cases e489
            replace hx489_0 := (HB.out.cell (qL w _ hx489_0)).trans hx489_0
            replace hx489_1 := (HB.out.cell (qL w _ hx489_1)).trans hx489_1
            replace hx489_2 := (HB.out.cell (qL w _ hx489_2)).trans hx489_2
            have HR489_2 := qM hi489_2
            have HC489_2 := qM hl489_2
            clear hi489_2 hl489_2
            replace p489 := eq_true p489
            replace q489 := eq_true q489
            go_wp2_with (first | ((with_reducible refine gate_callee (f := 69) rfl ?_); refine goesL_ (some 29) rfl rfl Try.func69 (by kernel_rfl) rfl #[.agg #[.int .i64 ((rd_T30 l0_1 x3_2).f0), .int .i64 ((rd_T30 l0_1 x3_2).f1), .slice A489_2 ((rd_T30 l0_1 x3_2).f2).length c489_2]] rfl (by (try simp only [List.map_toArray, List.map_cons, List.map_nil]); first | done | rfl | (simp only [List.length_drop, List.length_take]; rfl)) ?_; (with_reducible refine (spec_TaskOk.calls k2 ((rd_T30 l0_1 x3_2).f0) ((rd_T30 l0_1 x3_2).f1) _ _ ((rd_T30 l0_1 x3_2).f2) true _ ?side1 ?side2 A11.out).mono ?_); (case side1 => repeat (first | exact (qB HR489_2.out HB.out) | (with_reducible refine qc ?_ _) | (with_reducible refine qe ?_ _) | (with_reducible refine qf ?_))); (case side2 => exact HC489_2.out); rintro e w24 ⟨rfl, hb⟩; refine ⟨_, rfl, ?_⟩; have n0_ := qM (blk_below (g := gb488) (o := .cells #[.slice A0_0 l0_0.length c0_0, .slice (some ad489) l0_1.length c0_1] 56 (0, 0)) (by (with_reducible repeat (first | refine qn ?_ _ | refine qd ?_ | refine qa ?_ _)); exact BK488.out) hb); have n1_ := qM (qs (by repeat (first | (with_reducible first | exact HB.out | apply qA | apply qN | apply qD | refine qS ?_ GE488.out) | exact HB.out)) hb); clear BK488; clear HB; have BK488 := n0_; have HB := n1_; clear n0_ n1_; (try clear hb); (try clear hb2); (try clear hk); (try clear hi); have hcz25_0 : w24.cell? ⟨gb488, 0, none⟩ = some (.slice A0_0 l0_0.length c0_0) := (qC BK488.out 0).trans rfl; have hcz25_1 : w24.cell? ⟨gb488, 1, none⟩ = some (.slice (some ad489) l0_1.length c0_1) := (qC BK488.out 1).trans rfl; have hfz25_0 := qF BK488.out 0; have hfz25_1 := qF BK488.out 1; have p491 : 0 ≤ (x3_2 : Int) := qO (by first | (with_reducible assumption) | assumption); have q491 : x3_2 < (l0_0.length : Int) := qO (by first | (with_reducible assumption) | assumption); obtain ⟨ad491, e491, hx491_0⟩ := Kd.at_bool HR0_0.out x3_2 p491 q491; (try rw [← Nbq13.out] at hx491_0); cases e491; replace hx491_0 := (HB.out.cell (qL w _ hx491_0)).trans hx491_0; replace p491 := eq_true p491; replace q491 := eq_true q491; have p492 : 0 ≤ (x3_2 : Int) := qO (by first | (with_reducible assumption) | assumption); have q492 : x3_2 < (l0_1.length : Int) := qO (by first | (with_reducible assumption) | assumption); obtain ⟨ad492, A492_2, c492_2, e492, hx492_0, hx492_1, hx492_2, hl492_2, hi492_2⟩ := at_T30 HR0_1.out x3_2 p492 q492; obtain rfl : ad489 = ad492 := (by injection e492); replace hx492_0 := (HB.out.cell (qL w _ hx492_0)).trans hx492_0; replace hx492_1 := (HB.out.cell (qL w _ hx492_1)).trans hx492_1; replace hx492_2 := (HB.out.cell (qL w _ hx492_2)).trans hx492_2; have HR492_2 := qM hi492_2; have HC492_2 := qM hl492_2; clear hi492_2 hl492_2; replace p492 := eq_true p492; replace q492 := eq_true q492; have p493 : 0 ≤ (x3_2 : Int) := qO (by first | (with_reducible assumption) | assumption); have q493 : x3_2 < (l0_1.length : Int) := qO (by first | (with_reducible assumption) | assumption); obtain ⟨ad493, A493_2, c493_2, e493, hx493_0, hx493_1, hx493_2, hl493_2, hi493_2⟩ := at_T30 HR0_1.out x3_2 p493 q493; obtain rfl : ad489 = ad493 := (by injection e493); replace hx493_0 := (HB.out.cell (qL w _ hx493_0)).trans hx493_0; replace hx493_1 := (HB.out.cell (qL w _ hx493_1)).trans hx493_1; replace hx493_2 := (HB.out.cell (qL w _ hx493_2)).trans hx493_2; have HR493_2 := qM hi493_2; have HC493_2 := qM hl493_2; clear hi493_2 hl493_2; replace p493 := eq_true p493; replace q493 := eq_true q493; have ea_ := Option.some.inj (hx492_2.symm.trans hx493_2); injection ea_ with ea_ en_ ec_; subst ea_; subst ec_; clear en_))
            go_ret
            exact ⟨by first | rfl | (simp [errW_none, errW_some] <;> rfl) | (simp [*, errW_none, errW_some] <;> rfl), by repeat (first | (with_reducible first | exact HB.out | apply qA | apply qN | apply qD | refine qS ?_ GE488.out) | exact HB.out)⟩
          rw [if_pos c19] at H
          have c19b0 : (((rd_T30 l0_1 x3_2).f1) == 0) = true := beq_iff_eq.mpr c19
          have c19b1 : (((rd_T30 l0_1 x3_2).f1) != 0) = false := bne_eq_false_iff_eq.mpr c19
          clear c19
          have H' := qM H
          clear H
          have hcz20_0 : wr.cell? ⟨gb488, 0, none⟩ = some (.slice A0_0 l0_0.length c0_0) := (qC BK488.out 0).trans rfl
          have hcz20_1 : wr.cell? ⟨gb488, 1, none⟩ = some (.slice A0_1 l0_1.length c0_1) := (qC BK488.out 1).trans rfl
          have hfz20_0 := qF BK488.out 0
          have hfz20_1 := qF BK488.out 1
          have p489 : 0 ≤ (x3_2 : Int) := qO (by first | (with_reducible assumption) | assumption)
          have q489 : x3_2 < (l0_1.length : Int) := qO (by first | (with_reducible assumption) | assumption)
          obtain ⟨ad489, A489_2, c489_2, e489, hx489_0, hx489_1, hx489_2, hl489_2, hi489_2⟩ := at_T30 HR0_1.out x3_2 p489 q489
          cases e489
          replace hx489_0 := (HB.out.cell (qL w _ hx489_0)).trans hx489_0
          replace hx489_1 := (HB.out.cell (qL w _ hx489_1)).trans hx489_1
          replace hx489_2 := (HB.out.cell (qL w _ hx489_2)).trans hx489_2
          have HR489_2 := qM hi489_2
          have HC489_2 := qM hl489_2
          clear hi489_2 hl489_2
          replace p489 := eq_true p489
          replace q489 := eq_true q489
          go_wp2_with (first | ((with_reducible refine gate_callee (f := 69) rfl ?_); refine goesL_ (some 29) rfl rfl Try.func69 (by kernel_rfl) rfl #[.agg #[.int .i64 ((rd_T30 l0_1 x3_2).f0), .int .i64 ((rd_T30 l0_1 x3_2).f1), .slice A489_2 ((rd_T30 l0_1 x3_2).f2).length c489_2]] rfl (by (try simp only [List.map_toArray, List.map_cons, List.map_nil]); first | done | rfl | (simp only [List.length_drop, List.length_take]; rfl)) ?_; (with_reducible refine (spec_TaskOk.calls k2 ((rd_T30 l0_1 x3_2).f0) ((rd_T30 l0_1 x3_2).f1) _ _ ((rd_T30 l0_1 x3_2).f2) true _ ?side1 ?side2 A11.out).mono ?_); (case side1 => repeat (first | exact (qB HR489_2.out HB.out) | (with_reducible refine qc ?_ _) | (with_reducible refine qe ?_ _) | (with_reducible refine qf ?_))); (case side2 => exact HC489_2.out); rintro e w21 ⟨rfl, hb⟩; refine ⟨_, rfl, ?_⟩; have n0_ := qM (blk_below (g := gb488) (o := .cells #[.slice A0_0 l0_0.length c0_0, .slice (some ad489) l0_1.length c0_1] 56 (0, 0)) (by (with_reducible repeat (first | refine qn ?_ _ | refine qd ?_ | refine qa ?_ _)); exact BK488.out) hb); have n1_ := qM (qs (by repeat (first | (with_reducible first | exact HB.out | apply qA | apply qN | apply qD | refine qS ?_ GE488.out) | exact HB.out)) hb); clear BK488; clear HB; have BK488 := n0_; have HB := n1_; clear n0_ n1_; (try clear hb); (try clear hb2); (try clear hk); (try clear hi); have hcz22_0 : w21.cell? ⟨gb488, 0, none⟩ = some (.slice A0_0 l0_0.length c0_0) := (qC BK488.out 0).trans rfl; have hcz22_1 : w21.cell? ⟨gb488, 1, none⟩ = some (.slice (some ad489) l0_1.length c0_1) := (qC BK488.out 1).trans rfl; have hfz22_0 := qF BK488.out 0; have hfz22_1 := qF BK488.out 1; have p491 : 0 ≤ (x3_2 : Int) := qO (by first | (with_reducible assumption) | assumption); have q491 : x3_2 < (l0_0.length : Int) := qO (by first | (with_reducible assumption) | assumption); obtain ⟨ad491, e491, hx491_0⟩ := Kd.at_bool HR0_0.out x3_2 p491 q491; (try rw [← Nbq13.out] at hx491_0); cases e491; replace hx491_0 := (HB.out.cell (qL w _ hx491_0)).trans hx491_0; replace p491 := eq_true p491; replace q491 := eq_true q491; have p492 : 0 ≤ (x3_2 : Int) := qO (by first | (with_reducible assumption) | assumption); have q492 : x3_2 < (l0_1.length : Int) := qO (by first | (with_reducible assumption) | assumption); obtain ⟨ad492, A492_2, c492_2, e492, hx492_0, hx492_1, hx492_2, hl492_2, hi492_2⟩ := at_T30 HR0_1.out x3_2 p492 q492; obtain rfl : ad489 = ad492 := (by injection e492); replace hx492_0 := (HB.out.cell (qL w _ hx492_0)).trans hx492_0; replace hx492_1 := (HB.out.cell (qL w _ hx492_1)).trans hx492_1; replace hx492_2 := (HB.out.cell (qL w _ hx492_2)).trans hx492_2; have HR492_2 := qM hi492_2; have HC492_2 := qM hl492_2; clear hi492_2 hl492_2; replace p492 := eq_true p492; replace q492 := eq_true q492; have p493 : 0 ≤ (x3_2 : Int) := qO (by first | (with_reducible assumption) | assumption); have q493 : x3_2 < (l0_1.length : Int) := qO (by first | (with_reducible assumption) | assumption); obtain ⟨ad493, A493_2, c493_2, e493, hx493_0, hx493_1, hx493_2, hl493_2, hi493_2⟩ := at_T30 HR0_1.out x3_2 p493 q493; obtain rfl : ad489 = ad493 := (by injection e493); replace hx493_0 := (HB.out.cell (qL w _ hx493_0)).trans hx493_0; replace hx493_1 := (HB.out.cell (qL w _ hx493_1)).trans hx493_1; replace hx493_2 := (HB.out.cell (qL w _ hx493_2)).trans hx493_2; have HR493_2 := qM hi493_2; have HC493_2 := qM hl493_2; clear hi493_2 hl493_2; replace p493 := eq_true p493; replace q493 := eq_true q493; have ea_ := Option.some.inj (hx492_2.symm.trans hx493_2); injection ea_ with ea_ en_ ec_; subst ea_; subst ec_; clear en_))
          go_roundg k2
          case measure => have := HJ1.out; have := HK2.out; omega
          case rel => exact ⟨(wrap64 (x3_2 + 1)), (by first | rfl | (simp; done) | (simp [*]; done)), H', ⟨by have := HJ1.out; have := HK2.out; omega⟩, ⟨by (with_reducible repeat (first | refine qn ?_ _ | refine qd ?_ | refine qa ?_ _)); exact BK488.out⟩, ⟨by repeat (first | (with_reducible first | exact HB.out | apply qA | apply qN | apply qD | refine qS ?_ GE488.out) | exact HB.out)⟩⟩
mutual
def spec_l5Once.l0 : Nat → List (S117) → List (S117) → Int → Option ((List (S117)))
  | 0, _, _, _ => none
  | k + 1, x0, x3, x4 => if x4 < (x0.length : Int) then (spec_l5Once.l1 k x0 x3 x4 false 0) else (some x3)
def spec_l5Once.l1 : Nat → List (S117) → List (S117) → Int → Bool → Int → Option ((List (S117)))
  | 0, _, _, _, _, _ => none
  | k + 1, x0, x3, x4, x5, x6 => if x6 < (x3.length : Int) then (if x5 = true then (spec_l5Once.l1 k x0 x3 x4 true (wrap64 (x6 + 1))) else (if 0 ≤ x6 then (if 0 ≤ x4 then (if x4 < (x0.length : Int) then (spec_l5Once.l1 k x0 x3 x4 (((rd_T117 x3 x6).f0) == ((rd_T117 x0 x4).f0)) (wrap64 (x6 + 1))) else (none)) else (none)) else (none))) else (if x5 = true then (spec_l5Once.l0 k x0 x3 (wrap64 (x4 + 1))) else (if 0 ≤ x4 then (if x4 < (x0.length : Int) then (if x3.length < 8796093022208 then (spec_l5Once.l0 k x0 (x3 ++ [(⟨(rd_T117 x0 x4).f0, (rd_T117 x0 x4).f1⟩ : S117)]) (wrap64 (x4 + 1))) else (none)) else (none)) else (none)))
end
def spec_l5Once.f (k : Nat) (l0 : List (S117)) : Option ((List (S117))) := spec_l5Once.l0 k l0 (([] : List (S117))) 0
set_option maxHeartbeats 8000000 in
set_option maxRecDepth 100000 in
theorem spec_l5Once.calls (k : Nat) (A0 : Option Addr) (c0 : Nat) (l0 : List (S117)) (r : List (S117)) (w : World) (hr0 : Kd.C k117 w A0 l0.length l0) (hc0 : l0.length ≤ c0) (h : spec_l5Once.f k l0 = some r) :
    Calls Try.prog 147 #[.slice A0 l0.length c0] w fun e w' => ∃ v0_ : Value, e = .returned (v0_) ∧ Kd.R k117 117 w' w.heap.size (fun _ => True) v0_ r ∧ Below w.heap.size w w' := by
  have hu117 := Try.underlying117
  have HR0 := qM hr0
  have HC0 := qM hc0
  clear hr0 hc0
  have HB := qM (Below.refl w.heap.size w)
  have H : (spec_l5Once.l0 k l0 (([] : List (S117))) 0) = some r := h
  clear h
  obtain ⟨y494, hy494⟩ : ∃ y_ : List (S117), y_ = (([] : List (S117))) := ⟨_, rfl⟩
  replace H : (spec_l5Once.l0 k l0 y494 0) = some r := by first | (rw [hy494]; with_reducible exact H) | (have H2_ := (Option.bind_some _ _).symm.trans H; rw [hy494]; with_reducible exact H2_) | (have H2_ := (Option.bind_some _ _).symm.trans H; with_reducible exact H2_) | with_reducible exact H | (rw [hy494]; exact H) | exact H
  have Ny494 := qM hy494
  clear hy494
  have H' := qM H
  clear H
  go_enter Try.func147, Try.ntmps147
  go_wp2_with (first | ((with_reducible refine gate_dst (N := 7) rfl ?_); refine Kd.R_lit k117 _ 117 ?hg (N := 7) ?hd (xs := ([] : List (S117))) (inner := []) (ok := fun _ => True) (okp := fun _ => True) ?hr ?hp (fun _ hk => hk) trivial (Below.refl _ _) (Nat.le_refl _) (by simp) ?_; (case hd => rfl); (case hg => rfl); (case hr => first | (go_simp; done) | (go_simp; rfl)); (case hp => exact (Reps.none _ _)); intro v495 w2 ho3 hb hg_ hnew_; clear hg_ hnew_; (first | rw [← Ny494.out] at ho3 | (simp only [Int.reduceToNat] at ho3; rw [← Ny494.out] at ho3)); have n0_ := qM (Kd.R_lower ho3 (qz (by repeat (first | (with_reducible first | exact HB.out | apply qA | apply qN | apply qD) | exact HB.out)))); have n1_ := qM (qs (by repeat (first | (with_reducible first | exact HB.out | apply qA | apply qN | apply qD) | exact HB.out)) hb); clear HB; have HO496 := n0_; have HB := n1_; clear n0_ n1_; clear hb ho3))
  repeat (go_quiet (first | ((with_reducible refine gate_dst (N := 7) rfl ?_); refine Kd.R_lit k117 _ 117 ?hg (N := 7) ?hd (xs := ([] : List (S117))) (inner := []) (ok := fun _ => True) (okp := fun _ => True) ?hr ?hp (fun _ hk => hk) trivial (Below.refl _ _) (Nat.le_refl _) (by simp) ?_; (case hd => rfl); (case hg => rfl); (case hr => first | (go_simp; done) | (go_simp; rfl)); (case hp => exact (Reps.none _ _)); intro v495 w2 ho3 hb hg_ hnew_; clear hg_ hnew_; (first | rw [← Ny494.out] at ho3 | (simp only [Int.reduceToNat] at ho3; rw [← Ny494.out] at ho3)); have n0_ := qM (Kd.R_lower ho3 (qz (by repeat (first | (with_reducible first | exact HB.out | apply qA | apply qN | apply qD) | exact HB.out)))); have n1_ := qM (qs (by repeat (first | (with_reducible first | exact HB.out | apply qA | apply qN | apply qD) | exact HB.out)) hb); clear HB; have HO496 := n0_; have HB := n1_; clear n0_ n1_; clear hb ho3)); try go_wp2_with (first | ((with_reducible refine gate_dst (N := 7) rfl ?_); refine Kd.R_lit k117 _ 117 ?hg (N := 7) ?hd (xs := ([] : List (S117))) (inner := []) (ok := fun _ => True) (okp := fun _ => True) ?hr ?hp (fun _ hk => hk) trivial (Below.refl _ _) (Nat.le_refl _) (by simp) ?_; (case hd => rfl); (case hg => rfl); (case hr => first | (go_simp; done) | (go_simp; rfl)); (case hp => exact (Reps.none _ _)); intro v495 w2 ho3 hb hg_ hnew_; clear hg_ hnew_; (first | rw [← Ny494.out] at ho3 | (simp only [Int.reduceToNat] at ho3; rw [← Ny494.out] at ho3)); have n0_ := qM (Kd.R_lower ho3 (qz (by repeat (first | (with_reducible first | exact HB.out | apply qA | apply qN | apply qD) | exact HB.out)))); have n1_ := qM (qs (by repeat (first | (with_reducible first | exact HB.out | apply qA | apply qN | apply qD) | exact HB.out)) hb); clear HB; have HO496 := n0_; have HB := n1_; clear n0_ n1_; clear hb ho3)))
  go_loopg [3, 4] k (fun kq v3 v4 w' => ∃ (x3_1 : List (S117)) (x4_1 : Int), v4 = .int .i64 x4_1 ∧ Aside0 (spec_l5Once.l0 kq l0 x3_1 x4_1 = some r) ∧ Aside0 (kq ≤ k) ∧ Aside0 (Kd.R k117 117 w' w.heap.size (fun _ => True) v3 x3_1) ∧ Aside0 (Below w.heap.size w w'))
  case atStart => exact ⟨(y494), (0), (by first | rfl | (simp; done) | (simp [*]; done)), H', ⟨Nat.le_refl _⟩, ⟨by (with_reducible repeat (first | apply Kd.R_alloc | apply Kd.R_drewN | apply Kd.R_drew)); exact HO496.out⟩, ⟨by repeat (first | (with_reducible first | exact HB.out | apply qA | apply qN | apply qD) | exact HB.out)⟩⟩
  case round =>
    clear H'
    try clear c1
    try clear p2
    obtain ⟨x3_1, x4_1, rfl, HA, HK1, HO_3, HB⟩ := hrel
    cases gk with
    | zero => exact absurd HA.out (by simp [spec_l5Once.l0])
    | succ k1 =>
      have H := HA.out
      clear HA
      simp only [spec_l5Once.l0] at H
      by_cases c4 : x4_1 < (l0.length : Int)
      rotate_left
      · rw [if_neg c4] at H
        have c4b0 : decide (x4_1 < (l0.length : Int)) = false := decide_eq_false c4
        clear c4
        obtain rfl := Option.some.inj H
        go_wp2
        repeat (go_quiet (fail); try go_wp2)
        go_ret
        exact ⟨_, by first | rfl | (simp [errW_none, errW_some] <;> rfl) | (simp [*, errW_none, errW_some] <;> rfl), by (with_reducible repeat (first | apply Kd.R_alloc | apply Kd.R_drewN | apply Kd.R_drew)); exact HO_3.out, by repeat (first | (with_reducible first | exact HB.out | apply qA | apply qN | apply qD) | exact HB.out)⟩
      rw [if_pos c4] at H
      have c4b0 : decide (x4_1 < (l0.length : Int)) = true := decide_eq_true c4
      clear c4
      have H' := qM H
      clear H
      go_wp2
      repeat (go_quiet (fail); try go_wp2)
      go_loopg [5, 6] k1 (fun kq v5 v6 w' => ∃ (x5_2 : Bool) (x6_2 : Int), v5 = .bool x5_2 ∧ v6 = .int .i64 x6_2 ∧ Aside0 (spec_l5Once.l1 kq l0 x3_1 x4_1 x5_2 x6_2 = some r) ∧ Aside0 (kq ≤ k1) ∧ Aside0 (Kd.R k117 117 w' w.heap.size (fun _ => True) u3 x3_1) ∧ Aside0 (Below w.heap.size w w'))
      case atStart => exact ⟨(false), (0), (by first | rfl | (simp; done) | (simp [*]; done)), (by first | rfl | (simp; done) | (simp [*]; done)), H', ⟨Nat.le_refl _⟩, ⟨by (with_reducible repeat (first | apply Kd.R_alloc | apply Kd.R_drewN | apply Kd.R_drew)); exact HO_3.out⟩, ⟨by repeat (first | (with_reducible first | exact HB.out | apply qA | apply qN | apply qD) | exact HB.out)⟩⟩
      case round =>
        clear H'
        try clear c1
        try clear p2
        try clear c4
        try clear c4b0
        try clear p2
        obtain ⟨x5_2, x6_2, rfl, rfl, HA, HK2, HO_3, HB⟩ := hrel
        cases gk with
        | zero => exact absurd HA.out (by simp [spec_l5Once.l1])
        | succ k2 =>
          have H := HA.out
          clear HA
          simp only [spec_l5Once.l1] at H
          by_cases c5 : x6_2 < (x3_1.length : Int)
          rotate_left
          · rw [if_neg c5] at H
            have c5b0 : decide (x6_2 < (x3_1.length : Int)) = false := decide_eq_false c5
            clear c5
            by_cases c12 : x5_2 = true
            · subst c12
              have H1 : (spec_l5Once.l0 k2 l0 x3_1 (wrap64 (x4_1 + 1))) = some r := by rw [if_pos rfl] at H; exact H
              clear H
              have H := H1
              clear H1
              have H' := qM H
              clear H
              obtain ⟨Ao13, co13, eo13⟩ := Kd.R_slice HO_3.out
              subst eo13
              go_wp2
              repeat (go_quiet (fail); try go_wp2)
              go_roundg k2
              case measure => have := HK1.out; have := HK2.out; omega
              case rel => exact ⟨(x3_1), (wrap64 (x4_1 + 1)), (by first | rfl | (simp; done) | (simp [*]; done)), H', ⟨by have := HK1.out; have := HK2.out; omega⟩, ⟨by (with_reducible repeat (first | apply Kd.R_alloc | apply Kd.R_drewN | apply Kd.R_drew)); exact HO_3.out⟩, ⟨by repeat (first | (with_reducible first | exact HB.out | apply qA | apply qN | apply qD) | exact HB.out)⟩⟩
            replace c12 := Bool.eq_false_iff.mpr c12
            subst c12
            have H1 : (if 0 ≤ x4_1 then (if x4_1 < (l0.length : Int) then (if x3_1.length < 8796093022208 then (spec_l5Once.l0 k2 l0 (x3_1 ++ [(⟨(rd_T117 l0 x4_1).f0, (rd_T117 l0 x4_1).f1⟩ : S117)]) (wrap64 (x4_1 + 1))) else (none)) else (none)) else (none)) = some r := by rw [if_neg (show ¬ (false = true) by decide)] at H; exact H
            clear H
            have H := H1
            clear H1
            by_cases c14 : 0 ≤ x4_1
            rotate_left
            · rw [if_neg c14] at H
              exact absurd H (by simp)
            rw [if_pos c14] at H
            have c14b0 : decide (0 ≤ x4_1) = true := decide_eq_true c14
            clear c14
            by_cases c15 : x4_1 < (l0.length : Int)
            rotate_left
            · rw [if_neg c15] at H
              exact absurd H (by simp)
            rw [if_pos c15] at H
            have c15b0 : decide (x4_1 < (l0.length : Int)) = true := decide_eq_true c15
            clear c15
            by_cases c16 : x3_1.length < 8796093022208
            rotate_left
            · rw [if_neg c16] at H
              exact absurd H (by simp)
            rw [if_pos c16] at H
            have LMc16 := qM c16
            clear c16
            obtain ⟨y500, hy500⟩ : ∃ y_ : List (S117), y_ = (x3_1 ++ [(⟨(rd_T117 l0 x4_1).f0, (rd_T117 l0 x4_1).f1⟩ : S117)]) := ⟨_, rfl⟩
            replace H : (spec_l5Once.l0 k2 l0 y500 (wrap64 (x4_1 + 1))) = some r := by first | (rw [hy500]; with_reducible exact H) | (have H2_ := (Option.bind_some _ _).symm.trans H; rw [hy500]; with_reducible exact H2_) | (have H2_ := (Option.bind_some _ _).symm.trans H; with_reducible exact H2_) | with_reducible exact H | (rw [hy500]; exact H) | exact H
            have Ny500 := qM hy500
            clear hy500
            have H' := qM H
            clear H
            obtain ⟨Ao17, co17, eo17⟩ := Kd.R_slice HO_3.out
            subst eo17
            have p499 : 0 ≤ (x4_1 : Int) := qO (by first | (with_reducible assumption) | assumption)
            have q499 : x4_1 < (l0.length : Int) := qO (by first | (with_reducible assumption) | assumption)
            obtain ⟨ad499, e499, hx499_0, hx499_1⟩ := at_T117 HR0.out x4_1 p499 q499
            cases e499
            replace hx499_0 := (HB.out.cell (qL w _ hx499_0)).trans hx499_0
            replace hx499_1 := (HB.out.cell (qL w _ hx499_1)).trans hx499_1
            replace p499 := eq_true p499
            replace q499 := eq_true q499
            go_wp2_with (first | ((with_reducible refine gate_builtin (b := .append) (xs := #[.tmp 36, .tmp 41]) rfl ?_); at_builtin; refine Kd.R_append k117 (w0 := w) w.heap.size rfl (.tmp 36) (.tmp 41) 85 117 (.agg #[(.int .i64 0), (.int .i64 0)]) 16 rfl Try.underlying85 info117 rfl (by decide) (by omega) (.slice Ao17 x3_1.length co17) x3_1 (⟨(rd_T117 l0 x4_1).f0, (rd_T117 l0 x4_1).f1⟩ : S117) [.int .i64 ((rd_T117 l0 x4_1).f0), .int .i64 ((rd_T117 l0 x4_1).f1)] (fun _ => True) (fun _ => False) rfl rfl ?aP (fun _ hk => hk.elim) ?aF ?aO ?aB ?aS ?aL ?_; (case aP => exact k117_mkM _ _ _ (⟨(rd_T117 l0 x4_1).f0, (rd_T117 l0 x4_1).f1⟩ : S117)); (case aB => exact (by repeat (first | (with_reducible first | exact HB.out | apply qA | apply qN | apply qD) | exact HB.out))); (case aF => exact (fun _ _ => trivial)); (case aO => exact (by (with_reducible repeat (first | apply Kd.R_alloc | apply Kd.R_drewN | apply Kd.R_drew)); exact HO_3.out)); (case aS => exact (qz (by repeat (first | (with_reducible first | exact HB.out | apply qA | apply qN | apply qD) | exact HB.out)))); (case aL => have := LMc16.out; omega); intro v501 w18 ho hb hg hat; rw [← Ny500.out] at ho; have n0_ := qM (hb); have n1_ := qM (ho); clear HB; clear HO_3; have HB := n0_; have HO502 := n1_; clear n0_ n1_; clear ho hb hg hat))
            repeat (go_quiet (first | ((with_reducible refine gate_builtin (b := .append) (xs := #[.tmp 36, .tmp 41]) rfl ?_); at_builtin; refine Kd.R_append k117 (w0 := w) w.heap.size rfl (.tmp 36) (.tmp 41) 85 117 (.agg #[(.int .i64 0), (.int .i64 0)]) 16 rfl Try.underlying85 info117 rfl (by decide) (by omega) (.slice Ao17 x3_1.length co17) x3_1 (⟨(rd_T117 l0 x4_1).f0, (rd_T117 l0 x4_1).f1⟩ : S117) [.int .i64 ((rd_T117 l0 x4_1).f0), .int .i64 ((rd_T117 l0 x4_1).f1)] (fun _ => True) (fun _ => False) rfl rfl ?aP (fun _ hk => hk.elim) ?aF ?aO ?aB ?aS ?aL ?_; (case aP => exact k117_mkM _ _ _ (⟨(rd_T117 l0 x4_1).f0, (rd_T117 l0 x4_1).f1⟩ : S117)); (case aB => exact (by repeat (first | (with_reducible first | exact HB.out | apply qA | apply qN | apply qD) | exact HB.out))); (case aF => exact (fun _ _ => trivial)); (case aO => exact (by (with_reducible repeat (first | apply Kd.R_alloc | apply Kd.R_drewN | apply Kd.R_drew)); exact HO_3.out)); (case aS => exact (qz (by repeat (first | (with_reducible first | exact HB.out | apply qA | apply qN | apply qD) | exact HB.out)))); (case aL => have := LMc16.out; omega); intro v501 w18 ho hb hg hat; rw [← Ny500.out] at ho; have n0_ := qM (hb); have n1_ := qM (ho); clear HB; clear HO_3; have HB := n0_; have HO502 := n1_; clear n0_ n1_; clear ho hb hg hat)); try go_wp2_with (first | ((with_reducible refine gate_builtin (b := .append) (xs := #[.tmp 36, .tmp 41]) rfl ?_); at_builtin; refine Kd.R_append k117 (w0 := w) w.heap.size rfl (.tmp 36) (.tmp 41) 85 117 (.agg #[(.int .i64 0), (.int .i64 0)]) 16 rfl Try.underlying85 info117 rfl (by decide) (by omega) (.slice Ao17 x3_1.length co17) x3_1 (⟨(rd_T117 l0 x4_1).f0, (rd_T117 l0 x4_1).f1⟩ : S117) [.int .i64 ((rd_T117 l0 x4_1).f0), .int .i64 ((rd_T117 l0 x4_1).f1)] (fun _ => True) (fun _ => False) rfl rfl ?aP (fun _ hk => hk.elim) ?aF ?aO ?aB ?aS ?aL ?_; (case aP => exact k117_mkM _ _ _ (⟨(rd_T117 l0 x4_1).f0, (rd_T117 l0 x4_1).f1⟩ : S117)); (case aB => exact (by repeat (first | (with_reducible first | exact HB.out | apply qA | apply qN | apply qD) | exact HB.out))); (case aF => exact (fun _ _ => trivial)); (case aO => exact (by (with_reducible repeat (first | apply Kd.R_alloc | apply Kd.R_drewN | apply Kd.R_drew)); exact HO_3.out)); (case aS => exact (qz (by repeat (first | (with_reducible first | exact HB.out | apply qA | apply qN | apply qD) | exact HB.out)))); (case aL => have := LMc16.out; omega); intro v501 w18 ho hb hg hat; rw [← Ny500.out] at ho; have n0_ := qM (hb); have n1_ := qM (ho); clear HB; clear HO_3; have HB := n0_; have HO502 := n1_; clear n0_ n1_; clear ho hb hg hat)))
            go_roundg k2
            case measure => have := HK1.out; have := HK2.out; omega
            case rel => exact ⟨(y500), (wrap64 (x4_1 + 1)), (by first | rfl | (simp; done) | (simp [*]; done)), H', ⟨by have := HK1.out; have := HK2.out; omega⟩, ⟨by (with_reducible repeat (first | apply Kd.R_alloc | apply Kd.R_drewN | apply Kd.R_drew)); exact HO502.out⟩, ⟨by repeat (first | (with_reducible first | exact HB.out | apply qA | apply qN | apply qD) | exact HB.out)⟩⟩
          rw [if_pos c5] at H
          have c5b0 : decide (x6_2 < (x3_1.length : Int)) = true := decide_eq_true c5
          clear c5
          by_cases c6 : x5_2 = true
          · subst c6
            have H1 : (spec_l5Once.l1 k2 l0 x3_1 x4_1 true (wrap64 (x6_2 + 1))) = some r := by rw [if_pos rfl] at H; exact H
            clear H
            have H := H1
            clear H1
            have H' := qM H
            clear H
            obtain ⟨Ao7, co7, eo7⟩ := Kd.R_slice HO_3.out
            subst eo7
            go_wp2
            repeat (go_quiet (fail); try go_wp2)
            go_roundg k2
            case measure => have := HK1.out; have := HK2.out; omega
            case rel => exact ⟨(true), (wrap64 (x6_2 + 1)), (by first | rfl | (simp; done) | (simp [*]; done)), (by first | rfl | (simp; done) | (simp [*]; done)), H', ⟨by have := HK1.out; have := HK2.out; omega⟩, ⟨by (with_reducible repeat (first | apply Kd.R_alloc | apply Kd.R_drewN | apply Kd.R_drew)); exact HO_3.out⟩, ⟨by repeat (first | (with_reducible first | exact HB.out | apply qA | apply qN | apply qD) | exact HB.out)⟩⟩
          replace c6 := Bool.eq_false_iff.mpr c6
          subst c6
          have H1 : (if 0 ≤ x6_2 then (if 0 ≤ x4_1 then (if x4_1 < (l0.length : Int) then (spec_l5Once.l1 k2 l0 x3_1 x4_1 (((rd_T117 x3_1 x6_2).f0) == ((rd_T117 l0 x4_1).f0)) (wrap64 (x6_2 + 1))) else (none)) else (none)) else (none)) = some r := by rw [if_neg (show ¬ (false = true) by decide)] at H; exact H
          clear H
          have H := H1
          clear H1
          by_cases c8 : 0 ≤ x6_2
          rotate_left
          · rw [if_neg c8] at H
            exact absurd H (by simp)
          rw [if_pos c8] at H
          have c8b0 : decide (0 ≤ x6_2) = true := decide_eq_true c8
          clear c8
          by_cases c9 : 0 ≤ x4_1
          rotate_left
          · rw [if_neg c9] at H
            exact absurd H (by simp)
          rw [if_pos c9] at H
          have c9b0 : decide (0 ≤ x4_1) = true := decide_eq_true c9
          clear c9
          by_cases c10 : x4_1 < (l0.length : Int)
          rotate_left
          · rw [if_neg c10] at H
            exact absurd H (by simp)
          rw [if_pos c10] at H
          have c10b0 : decide (x4_1 < (l0.length : Int)) = true := decide_eq_true c10
          clear c10
          have H' := qM H
          clear H
          obtain ⟨Ao11, co11, eo11⟩ := Kd.R_slice HO_3.out
          subst eo11
          have p497 : 0 ≤ (x6_2 : Int) := qO (by first | (with_reducible assumption) | assumption)
          have q497 : x6_2 < (x3_1.length : Int) := qO (by first | (with_reducible assumption) | assumption)
          obtain ⟨ad497, e497, hx497_0, hx497_1⟩ := at_T117 (Kd.R_reads' HO_3.out).2.2 x6_2 p497 q497
          cases e497
          replace p497 := eq_true p497
          replace q497 := eq_true q497
          have p498 : 0 ≤ (x4_1 : Int) := qO (by first | (with_reducible assumption) | assumption)
          have q498 : x4_1 < (l0.length : Int) := qO (by first | (with_reducible assumption) | assumption)
          obtain ⟨ad498, e498, hx498_0, hx498_1⟩ := at_T117 HR0.out x4_1 p498 q498
          cases e498
          replace hx498_0 := (HB.out.cell (qL w _ hx498_0)).trans hx498_0
          replace hx498_1 := (HB.out.cell (qL w _ hx498_1)).trans hx498_1
          replace p498 := eq_true p498
          replace q498 := eq_true q498
          go_wp2
          repeat (go_quiet (fail); try go_wp2)
          go_roundg k2
          case measure => have := HK1.out; have := HK2.out; omega
          case rel => exact ⟨((((rd_T117 x3_1 x6_2).f0) == ((rd_T117 l0 x4_1).f0))), (wrap64 (x6_2 + 1)), (by first | rfl | (simp; done) | (simp [*]; done)), (by first | rfl | (simp; done) | (simp [*]; done)), H', ⟨by have := HK1.out; have := HK2.out; omega⟩, ⟨by (with_reducible repeat (first | apply Kd.R_alloc | apply Kd.R_drewN | apply Kd.R_drew)); exact HO_3.out⟩, ⟨by repeat (first | (with_reducible first | exact HB.out | apply qA | apply qN | apply qD) | exact HB.out)⟩⟩
end Go.Proofs.Ytgbjbpjmbghlbaa.G
end
