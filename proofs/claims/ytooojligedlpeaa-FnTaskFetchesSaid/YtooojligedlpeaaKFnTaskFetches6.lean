-- Written by pack.py (ours): the claim's texts, cut down to what its theorem reaches.
import Derived.Test.YtooojligedlpeaaKFnTaskFetches5
section
namespace Go.Proofs.Ytooojligedlpeaa.G
open Go.RowKit Go.Proofs.YtooojligedlpeaaW.PrintWords Go.Proofs.YtooojligedlpeaaW.PrintLast Go.Proofs.YtooojligedlpeaaW.PrintMore
attribute [local go_sem] max2_int min2_int max_two min_two max_three min_three max_four min_four
set_option linter.unusedVariables false
set_option linter.unusedSimpArgs false
mutual
def laws_FnTaskFetches.j0 : Nat → List Int → List (S49) → Bool → Option (Bool)
  | 0, _, _, _ => none
  | k + 1, x4, x5, x39 => if x39 = true then (some false) else (laws_FnTaskFetches.l0 k x4 x5 0)
def laws_FnTaskFetches.l0 : Nat → List Int → List (S49) → Int → Option (Bool)
  | 0, _, _, _ => none
  | k + 1, x4, x5, x9 => if x9 < (x5.length : Int) then (if 0 ≤ x9 then (if ((rd_T49 x5 x9).f0) < (x4.length : Int) then (if 0 ≤ ((rd_T49 x5 x9).f0) then (if (rd x4 ((rd_T49 x5 x9).f0)) = ((rd_T49 x5 x9).f1) then (laws_FnTaskFetches.l0 k x4 x5 (wrap64 (x9 + 1))) else (some false)) else (none)) else (if 0 = ((rd_T49 x5 x9).f1) then (laws_FnTaskFetches.l0 k x4 x5 (wrap64 (x9 + 1))) else (some false))) else (none)) else (some true)
end
def laws_FnTaskFetches.f (k : Nat) (l0 : List Int) : Option (Bool) := if (l0.length : Int) > 1048576 then (some true) else ((spec_DrawTaskFetches.f k l0).bind fun bt524 => ((impl_TaskFetches.f k bt524.1 bt524.2.1 bt524.2.2.1 bt524.2.2.2).bind fun bt533 => ((spec_TaskFetches.f k bt524.1 bt524.2.1 bt524.2.2.1 bt524.2.2.2).bind fun bt537 => ((laws_brFetches.f k bt533.1 bt537.1).bind fun t541 => (if t541 = true then (laws_FnTaskFetches.j0 k bt524.2.2.2 bt533.1 (bt533.2 != bt537.2)) else (laws_FnTaskFetches.j0 k bt524.2.2.2 bt533.1 true))))))
set_option maxHeartbeats 8000000 in
set_option maxRecDepth 100000 in
theorem laws_FnTaskFetches.calls (k : Nat) (A0 : Option Addr) (c0 : Nat) (l0 : List Int) (r : Bool) (w : World) (hr0 : Kd.C (Kd.int .u8) w A0 l0.length l0) (hc0 : l0.length ≤ c0) (h : laws_FnTaskFetches.f k l0 = some r) :
    Calls Try.prog 6 #[.slice A0 l0.length c0] w fun e w' => e = .returned (.bool r) ∧ Below w.heap.size w w' := by
  have hu25 := Try.underlying25
  have HR0 := Aside0.mk hr0
  have HC0 := Aside0.mk hc0
  clear hr0 hc0
  have HB := Aside0.mk (Below.refl w.heap.size w)
  have H : (if (l0.length : Int) > 1048576 then (some true) else ((spec_DrawTaskFetches.f k l0).bind fun bt524 => ((impl_TaskFetches.f k bt524.1 bt524.2.1 bt524.2.2.1 bt524.2.2.2).bind fun bt533 => ((spec_TaskFetches.f k bt524.1 bt524.2.1 bt524.2.2.1 bt524.2.2.2).bind fun bt537 => ((laws_brFetches.f k bt533.1 bt537.1).bind fun t541 => (if t541 = true then (laws_FnTaskFetches.j0 k bt524.2.2.2 bt533.1 (bt533.2 != bt537.2)) else (laws_FnTaskFetches.j0 k bt524.2.2.2 bt533.1 true))))))) = some r := h
  clear h
  by_cases c2 : (l0.length : Int) > 1048576
  · rw [if_pos c2] at H
    have c2b0 : decide (1048576 < (l0.length : Int)) = true := decide_eq_true c2
    have c2b1 : decide (1048576 < l0.length) = true := decide_eq_true (by omega)
    clear c2
    obtain rfl := Option.some.inj H
    go_enter Try.func6, Try.ntmps6
    go_wp2
    go_ret
    exact ⟨by first | rfl | (simp [errW_none, errW_some] <;> rfl) | (simp [*, errW_none, errW_some] <;> rfl), by repeat (first | (with_reducible first | exact HB.out | apply below_alloc | apply pw_below_drewN | apply below_drew1) | exact HB.out)⟩
  · rw [if_neg c2] at H
    have c2b0 : decide (1048576 < (l0.length : Int)) = false := decide_eq_false c2
    have c2b1 : decide (1048576 < l0.length) = false := decide_eq_false (by omega)
    clear c2
    replace H := Option.bind_eq_some_iff.mp H
    obtain ⟨⟨t524, t525, t526, t529⟩, A30, H⟩ := H
    replace H : ((impl_TaskFetches.f k t524 t525 t526 t529).bind fun bt533 => ((spec_TaskFetches.f k t524 t525 t526 t529).bind fun bt537 => ((laws_brFetches.f k bt533.1 bt537.1).bind fun t541 => (if t541 = true then (laws_FnTaskFetches.j0 k t529 bt533.1 (bt533.2 != bt537.2)) else (laws_FnTaskFetches.j0 k t529 bt533.1 true))))) = some r := H
    have A3 := Aside0.mk A30
    clear A30
    replace H := Option.bind_eq_some_iff.mp H
    obtain ⟨⟨t533, t536⟩, A40, H⟩ := H
    replace H : ((spec_TaskFetches.f k t524 t525 t526 t529).bind fun bt537 => ((laws_brFetches.f k t533 bt537.1).bind fun t541 => (if t541 = true then (laws_FnTaskFetches.j0 k t529 t533 (t536 != bt537.2)) else (laws_FnTaskFetches.j0 k t529 t533 true)))) = some r := H
    have A4 := Aside0.mk A40
    clear A40
    replace H := Option.bind_eq_some_iff.mp H
    obtain ⟨⟨t537, t540⟩, A50, H⟩ := H
    replace H : ((laws_brFetches.f k t533 t537).bind fun t541 => (if t541 = true then (laws_FnTaskFetches.j0 k t529 t533 (t536 != t540)) else (laws_FnTaskFetches.j0 k t529 t533 true))) = some r := H
    have A5 := Aside0.mk A50
    clear A50
    have HC6 := Aside0.mk H
    clear H
    go_enter Try.func6, Try.ntmps6
    go_upto_region 6 with (first | ((with_reducible refine gate_callee (f := 29) rfl ?_); refine goesL_ (some 16) rfl rfl Try.func29 (by kernel_rfl) rfl #[.slice A0 l0.length c0] rfl (by (try simp only [List.map_toArray, List.map_cons, List.map_nil]); first | done | rfl | (simp only [List.length_drop, List.length_take]; rfl)) ?_; (with_reducible refine (spec_DrawTaskFetches.calls k _ _ l0 t524 t525 t526 t529 _ ?side1 ?side2 A3.out).mono ?_); (case side1 => repeat (first | exact HR0.out | (with_reducible refine Kd.C_alloc ?_ _) | (with_reducible refine Kd.C_drewN ?_ _) | (with_reducible refine Kd.C_drew ?_))); (case side2 => exact HC0.out); rintro e w7 ⟨v527, v530, rfl, ho0, ho1, hb⟩; refine ⟨_, rfl, ?_⟩; have n0_ := Aside0.mk (Kd.N_lower (Kd.N_mono (ok' := fun k_ => some k_ ≠ (v530 : Value).ownBlock) ho0 (fun k_ hk_ => hk_.2)) (below_size (by repeat (first | (with_reducible first | exact HB.out | apply below_alloc | apply pw_below_drewN | apply below_drew1) | exact HB.out)))); have n1_ := Aside0.mk (Kd.R_lower (Kd.R_mono (ok' := fun k_ => True) ho1 (fun _ hk_ => trivial)) (below_size (by repeat (first | (with_reducible first | exact HB.out | apply below_alloc | apply pw_below_drewN | apply below_drew1) | exact HB.out)))); have n2_ := Aside0.mk (below_step (by repeat (first | (with_reducible first | exact HB.out | apply below_alloc | apply pw_below_drewN | apply below_drew1) | exact HB.out)) hb); clear HB; have HO528 := n0_; have HO531 := n1_; have HB := n2_; clear n0_ n1_ n2_; (try clear hb); (try clear hb2); (try clear hk); (try clear hi); (try clear ho0); (try clear ho1)) | ((with_reducible refine gate_dst (N := 3) rfl ?_); refine box_event ?hg (N := 3) ?hd (cs := #[.int .i64 0, .int .i64 0, .slice none 0 0]) (t := 25) ?hr ?_; (case hd => rfl); (case hg => rfl); (case hr => first | (go_simp; done) | (go_simp; rfl)); intro gb532 hg w8 hbox hb; have n0_ := Aside0.mk (Kd.N_below (Kd.N_elderB (by (with_reducible repeat (first | apply Kd.N_alloc | apply Kd.N_drewN | apply Kd.N_drew)); exact HO528.out) gb532 (Nat.le_of_eq hg.symm)) hb); have n1_ := Aside0.mk (Kd.R_below (by (with_reducible repeat (first | apply Kd.R_alloc | apply Kd.R_drewN | apply Kd.R_drew)); exact HO531.out) hb); have n2_ := Aside0.mk (below_step (by repeat (first | (with_reducible first | exact HB.out | apply below_alloc | apply pw_below_drewN | apply below_drew1) | exact HB.out)) hb); have n3_ := Aside0.mk (hbox); have n4_ := Aside0.mk ((by rw [hg]; exact (below_size (by repeat (first | (with_reducible first | exact HB.out | apply below_alloc | apply pw_below_drewN | apply below_drew1) | exact HB.out))) : w.heap.size ≤ gb532)); have n5_ := Aside0.mk ((by rw [hg]; exact (below_size (by repeat (first | (with_reducible first | exact HB.out | apply below_alloc | apply pw_below_drewN | apply below_drew1) | exact HB.out))) : w.heap.size ≤ gb532)); clear HO528; clear HO531; clear HB; have HO528 := n0_; have HO531 := n1_; have HB := n2_; have BK532 := n3_; have GW532 := n4_; have GE532 := n5_; clear n0_ n1_ n2_ n3_ n4_ n5_; clear hb hbox hg; have hcz9_0 : w8.cell? ⟨gb532, 0, none⟩ = some (.int .i64 0) := (blk_cell BK532.out 0).trans rfl; have hcz9_1 : w8.cell? ⟨gb532, 1, none⟩ = some (.int .i64 0) := (blk_cell BK532.out 1).trans rfl; have hcz9_2 : w8.cell? ⟨gb532, 2, none⟩ = some (.slice none 0 0) := (blk_cell BK532.out 2).trans rfl; have hfz9_0 := blk_frozen BK532.out 0; have hfz9_1 := blk_frozen BK532.out 1; have hfz9_2 := blk_frozen BK532.out 2; obtain ⟨Ao10, co10, eo10⟩ := Kd.N_slice HO528.out; subst eo10; obtain ⟨Ao11, co11, eo11⟩ := Kd.R_slice HO531.out; subst eo11) | ((with_reducible refine gate_callee (f := 28) rfl ?_); refine goesL_ (some 22) rfl rfl Try.func28 (by kernel_rfl) rfl #[.agg #[.int .i64 t524, .int .i64 t525, .slice Ao10 t526.length co10], .slice Ao11 t529.length co11] rfl (by (try simp only [List.map_toArray, List.map_cons, List.map_nil]); first | done | rfl | (simp only [List.length_drop, List.length_take]; rfl)) ?_; (with_reducible refine (impl_TaskFetches.calls k t524 t525 _ _ t526 _ _ t529 t533 t536 _ ?side1 ?side2 ?side3 ?side4 A4.out).mono ?_); (case side1 => refine (Kd.N_reads' (e := 25) (base := w.heap.size) (ok := fun k_ => (some k_ ≠ (.slice Ao11 t529.length co11 : Value).ownBlock ∧ k_ ≠ gb532)) (n := t526.length) (c := co10) ?_).2.2; exact (by (with_reducible repeat (first | apply Kd.N_alloc | apply Kd.N_drewN | apply Kd.N_drew)); exact (Kd.N_mono (Kd.N_far (p := ⟨gb532, 2, none⟩) (Kd.N_far (p := ⟨gb532, 1, none⟩) (Kd.N_far (p := ⟨gb532, 0, none⟩) (Kd.N_mono HO528.out (fun k_ hk => (⟨hk, hk.2⟩ : _ ∧ k_ ≠ gb532))) (fun _ hk => hk.2) (.int .i64 t524)) (fun _ hk => hk.2) (.int .i64 t525)) (fun _ hk => hk.2) (.slice Ao10 t526.length co10)) (fun _ h_ => h_.1)))); (case side2 => exact (Kd.N_reads' HO528.out).2.1); (case side3 => refine (Kd.R_reads' (e := 3) (base := w.heap.size) (ok := fun k_ => True) (n := t529.length) (c := co11) ?_).2.2; exact (by (with_reducible repeat (first | apply Kd.R_alloc | apply Kd.R_drewN | apply Kd.R_drew)); exact (Kd.R_mono (Kd.R_far (p := ⟨gb532, 2, none⟩) (Kd.R_far (p := ⟨gb532, 1, none⟩) (Kd.R_far (p := ⟨gb532, 0, none⟩) (Kd.R_types HO531.out BK532.out (by decide)) (fun _ hk => hk.2) (.int .i64 t524)) (fun _ hk => hk.2) (.int .i64 t525)) (fun _ hk => hk.2) (.slice Ao10 t526.length co10)) (fun _ h_ => h_.1)))); (case side4 => exact (Kd.R_reads' HO531.out).2.1); rintro e w12 ⟨v534, rfl, ho0, hb⟩; refine ⟨_, rfl, ?_⟩; have n0_ := Aside0.mk (Kd.N_elder' (by (with_reducible repeat (first | apply Kd.N_alloc | apply Kd.N_drewN | apply Kd.N_drew)); exact (Kd.N_mono (Kd.N_far (p := ⟨gb532, 2, none⟩) (Kd.N_far (p := ⟨gb532, 1, none⟩) (Kd.N_far (p := ⟨gb532, 0, none⟩) (Kd.N_mono HO528.out (fun k_ hk => (⟨hk, hk.2⟩ : _ ∧ k_ ≠ gb532))) (fun _ hk => hk.2) (.int .i64 t524)) (fun _ hk => hk.2) (.int .i64 t525)) (fun _ hk => hk.2) (.slice Ao10 t526.length co10)) (fun _ h_ => h_.1))) (Kd.R_base ho0) hb); have n1_ := Aside0.mk (Kd.R_below (by (with_reducible repeat (first | apply Kd.R_alloc | apply Kd.R_drewN | apply Kd.R_drew)); exact (Kd.R_mono (Kd.R_far (p := ⟨gb532, 2, none⟩) (Kd.R_far (p := ⟨gb532, 1, none⟩) (Kd.R_far (p := ⟨gb532, 0, none⟩) (Kd.R_types HO531.out BK532.out (by decide)) (fun _ hk => hk.2) (.int .i64 t524)) (fun _ hk => hk.2) (.int .i64 t525)) (fun _ hk => hk.2) (.slice Ao10 t526.length co10)) (fun _ h_ => h_.1))) hb); have n2_ := Aside0.mk (Kd.R_lower ho0 (below_size (by repeat (first | (with_reducible first | exact HB.out | apply below_alloc | apply pw_below_drewN | apply below_drew1 | refine below_set ?_ GE532.out) | exact HB.out)))); have n3_ := Aside0.mk (blk_below (g := gb532) (o := .cells #[.int .i64 t524, .int .i64 t525, .slice Ao10 t526.length co10] 25 (0, 0)) (by (with_reducible repeat (first | refine blk_drewN ?_ _ | refine blk_drew ?_ | refine blk_alloc ?_ _)); refine blk_put (cs := #[.int .i64 t524, .int .i64 t525, .slice none 0 0]) ?_ 2 _ rfl; (with_reducible repeat (first | refine blk_drewN ?_ _ | refine blk_drew ?_ | refine blk_alloc ?_ _)); refine blk_put (cs := #[.int .i64 t524, .int .i64 0, .slice none 0 0]) ?_ 1 _ rfl; (with_reducible repeat (first | refine blk_drewN ?_ _ | refine blk_drew ?_ | refine blk_alloc ?_ _)); refine blk_put (cs := #[.int .i64 0, .int .i64 0, .slice none 0 0]) ?_ 0 _ rfl; (with_reducible repeat (first | refine blk_drewN ?_ _ | refine blk_drew ?_ | refine blk_alloc ?_ _)); exact BK532.out) hb); have n4_ := Aside0.mk (below_step (by repeat (first | (with_reducible first | exact HB.out | apply below_alloc | apply pw_below_drewN | apply below_drew1 | refine below_set ?_ GE532.out) | exact HB.out)) hb); clear HO528; clear HO531; clear BK532; clear HB; have HO528 := n0_; have HO531 := n1_; have HO535 := n2_; have BK532 := n3_; have HB := n4_; clear n0_ n1_ n2_ n3_ n4_; (try clear hb); (try clear hb2); (try clear hk); (try clear hi); (try clear ho0); have hcz13_0 : w12.cell? ⟨gb532, 0, none⟩ = some (.int .i64 t524) := (blk_cell BK532.out 0).trans rfl; have hcz13_1 : w12.cell? ⟨gb532, 1, none⟩ = some (.int .i64 t525) := (blk_cell BK532.out 1).trans rfl; have hcz13_2 : w12.cell? ⟨gb532, 2, none⟩ = some (.slice Ao10 t526.length co10) := (blk_cell BK532.out 2).trans rfl; have hfz13_0 := blk_frozen BK532.out 0; have hfz13_1 := blk_frozen BK532.out 1; have hfz13_2 := blk_frozen BK532.out 2) | ((with_reducible refine gate_callee (f := 30) rfl ?_); refine goesL_ (some 28) rfl rfl Try.func30 (by kernel_rfl) rfl #[.agg #[.int .i64 t524, .int .i64 t525, .slice Ao10 t526.length co10], .slice Ao11 t529.length co11] rfl (by (try simp only [List.map_toArray, List.map_cons, List.map_nil]); first | done | rfl | (simp only [List.length_drop, List.length_take]; rfl)) ?_; (with_reducible refine (spec_TaskFetches.calls k t524 t525 _ _ t526 _ _ t529 t537 t540 _ ?side1 ?side2 ?side3 ?side4 A5.out).mono ?_); (case side1 => repeat (first | exact (Kd.N_reads' HO528.out).2.2 | (with_reducible refine Kd.C_alloc ?_ _) | (with_reducible refine Kd.C_drewN ?_ _) | (with_reducible refine Kd.C_drew ?_))); (case side2 => exact (Kd.N_reads' HO528.out).2.1); (case side3 => repeat (first | exact (Kd.R_reads' HO531.out).2.2 | (with_reducible refine Kd.C_alloc ?_ _) | (with_reducible refine Kd.C_drewN ?_ _) | (with_reducible refine Kd.C_drew ?_))); (case side4 => exact (Kd.R_reads' HO531.out).2.1); rintro e w14 ⟨v538, rfl, ho0, hb⟩; refine ⟨_, rfl, ?_⟩; have n0_ := Aside0.mk (Kd.N_elder' (by (with_reducible repeat (first | apply Kd.N_alloc | apply Kd.N_drewN | apply Kd.N_drew)); exact HO528.out) (Kd.R_base ho0) hb); have n1_ := Aside0.mk (Kd.R_below (by (with_reducible repeat (first | apply Kd.R_alloc | apply Kd.R_drewN | apply Kd.R_drew)); exact HO531.out) hb); have n2_ := Aside0.mk (Kd.R_elder' (by (with_reducible repeat (first | apply Kd.R_alloc | apply Kd.R_drewN | apply Kd.R_drew)); exact HO535.out) (Kd.R_base ho0) hb); have n3_ := Aside0.mk (Kd.R_lower (Kd.R_new' ho0 (Kd.R_lt (by (with_reducible repeat (first | apply Kd.R_alloc | apply Kd.R_drewN | apply Kd.R_drew)); exact HO535.out))) (below_size (by repeat (first | (with_reducible first | exact HB.out | apply below_alloc | apply pw_below_drewN | apply below_drew1 | refine below_set ?_ GE532.out) | exact HB.out)))); have n4_ := Aside0.mk (blk_below (g := gb532) (o := .cells #[.int .i64 t524, .int .i64 t525, .slice Ao10 t526.length co10] 25 (0, 0)) (by (with_reducible repeat (first | refine blk_drewN ?_ _ | refine blk_drew ?_ | refine blk_alloc ?_ _)); exact BK532.out) hb); have n5_ := Aside0.mk (below_step (by repeat (first | (with_reducible first | exact HB.out | apply below_alloc | apply pw_below_drewN | apply below_drew1 | refine below_set ?_ GE532.out) | exact HB.out)) hb); clear HO528; clear HO531; clear HO535; clear BK532; clear HB; have HO528 := n0_; have HO531 := n1_; have HO535 := n2_; have HO539 := n3_; have BK532 := n4_; have HB := n5_; clear n0_ n1_ n2_ n3_ n4_ n5_; (try clear hb); (try clear hb2); (try clear hk); (try clear hi); (try clear ho0)))
    (try simp only [Act.put, List.setIfInBounds_toArray, List.set_cons_zero, List.set_cons_succ])
    go_cut [39] (fun v39 wc => ∃ (kq : Nat) (x39_5 : Bool), v39 = .bool x39_5 ∧ Aside0 (laws_FnTaskFetches.j0 kq t529 t533 x39_5 = some r) ∧ Aside0 (kq ≤ k) ∧ Aside0 (Kd.R (Kd.int .i64) 3 wc w.heap.size (fun _ => True) (.slice Ao11 t529.length co11) t529) ∧ Aside0 (Kd.R k49 49 wc w.heap.size (fun _ => True) v534 t533) ∧ Aside0 (Kd.N k25 25 wc w.heap.size (fun k_ => some k_ ≠ ((.slice Ao11 t529.length co11) : Value).ownBlock ∧ some k_ ≠ (v534 : Value).ownBlock ∧ k_ ≠ gb532) (.slice Ao10 t526.length co10) t526) ∧ Aside0 (wc.heap[gb532]? = some (.cells #[.int .i64 t524, .int .i64 t525, (.slice Ao10 t526.length co10)] 25 (0, 0))) ∧ Aside0 (Below w.heap.size w wc))
    case first =>
      have H := HC6.out
      clear HC6
      replace H := Option.bind_eq_some_iff.mp H
      obtain ⟨t541, A150, H⟩ := H
      replace H : (if t541 = true then (laws_FnTaskFetches.j0 k t529 t533 (t536 != t540)) else (laws_FnTaskFetches.j0 k t529 t533 true)) = some r := H
      have A15 := Aside0.mk A150
      clear A150
      by_cases c16 : t541 = true
      · subst c16
        have H1 : (laws_FnTaskFetches.j0 k t529 t533 (t536 != t540)) = some r := by rw [if_pos rfl] at H; exact H
        clear H
        have H := H1
        clear H1
        have H' := Aside0.mk H
        clear H
        obtain ⟨Ao17, co17, eo17⟩ := Kd.R_slice HO535.out
        subst eo17
        obtain ⟨Ao18, co18, eo18⟩ := Kd.R_slice HO539.out
        subst eo18
        go_wp2_with (first | ((with_reducible refine gate_callee (f := 31) rfl ?_); refine goesL_ (some 33) rfl rfl Try.func31 (by kernel_rfl) rfl #[.slice Ao17 t533.length co17, .slice Ao18 t537.length co18] rfl (by (try simp only [List.map_toArray, List.map_cons, List.map_nil]); first | done | rfl | (simp only [List.length_drop, List.length_take]; rfl)) ?_; (with_reducible refine (laws_brFetches.calls k _ _ t533 _ _ t537 true _ ?side1 ?side2 ?side3 ?side4 A15.out).mono ?_); (case side1 => repeat (first | exact (Kd.R_reads' HO535.out).2.2 | (with_reducible refine Kd.C_alloc ?_ _) | (with_reducible refine Kd.C_drewN ?_ _) | (with_reducible refine Kd.C_drew ?_))); (case side2 => exact (Kd.R_reads' HO535.out).2.1); (case side3 => repeat (first | exact (Kd.R_reads' HO539.out).2.2 | (with_reducible refine Kd.C_alloc ?_ _) | (with_reducible refine Kd.C_drewN ?_ _) | (with_reducible refine Kd.C_drew ?_))); (case side4 => exact (Kd.R_reads' HO539.out).2.1); rintro e w' ⟨rfl, ⟨nd, rfl⟩⟩; refine ⟨_, rfl, ?_⟩))
        go_meet
        case rel => exact ⟨_, ((t536 != t540)), (by first | rfl | (simp; done) | (simp [*]; done)), H', ⟨by first | omega | exact Nat.le_refl _⟩, ⟨by (with_reducible repeat (first | apply Kd.R_alloc | apply Kd.R_drewN | apply Kd.R_drew)); exact HO531.out⟩, ⟨by (with_reducible repeat (first | apply Kd.R_alloc | apply Kd.R_drewN | apply Kd.R_drew)); exact Kd.R_mono HO535.out (fun _ hk => trivial)⟩, ⟨by (with_reducible repeat (first | apply Kd.N_alloc | apply Kd.N_drewN | apply Kd.N_drew)); exact Kd.N_mono HO528.out (fun _ hk => ⟨hk.1.1.1, ⟨hk.1.2, hk.1.1.2⟩⟩)⟩, ⟨by (with_reducible repeat (first | refine blk_drewN ?_ _ | refine blk_drew ?_ | refine blk_alloc ?_ _)); exact BK532.out⟩, ⟨by repeat (first | (with_reducible first | exact HB.out | apply below_alloc | apply pw_below_drewN | apply below_drew1 | refine below_set ?_ GE532.out) | exact HB.out)⟩⟩
      · replace c16 := Bool.eq_false_iff.mpr c16
        subst c16
        have H1 : (laws_FnTaskFetches.j0 k t529 t533 true) = some r := by rw [if_neg (show ¬ (false = true) by decide)] at H; exact H
        clear H
        have H := H1
        clear H1
        have H' := Aside0.mk H
        clear H
        obtain ⟨Ao19, co19, eo19⟩ := Kd.R_slice HO535.out
        subst eo19
        obtain ⟨Ao20, co20, eo20⟩ := Kd.R_slice HO539.out
        subst eo20
        go_wp2_with (first | ((with_reducible refine gate_callee (f := 31) rfl ?_); refine goesL_ (some 33) rfl rfl Try.func31 (by kernel_rfl) rfl #[.slice Ao19 t533.length co19, .slice Ao20 t537.length co20] rfl (by (try simp only [List.map_toArray, List.map_cons, List.map_nil]); first | done | rfl | (simp only [List.length_drop, List.length_take]; rfl)) ?_; (with_reducible refine (laws_brFetches.calls k _ _ t533 _ _ t537 false _ ?side1 ?side2 ?side3 ?side4 A15.out).mono ?_); (case side1 => repeat (first | exact (Kd.R_reads' HO535.out).2.2 | (with_reducible refine Kd.C_alloc ?_ _) | (with_reducible refine Kd.C_drewN ?_ _) | (with_reducible refine Kd.C_drew ?_))); (case side2 => exact (Kd.R_reads' HO535.out).2.1); (case side3 => repeat (first | exact (Kd.R_reads' HO539.out).2.2 | (with_reducible refine Kd.C_alloc ?_ _) | (with_reducible refine Kd.C_drewN ?_ _) | (with_reducible refine Kd.C_drew ?_))); (case side4 => exact (Kd.R_reads' HO539.out).2.1); rintro e w' ⟨rfl, ⟨nd, rfl⟩⟩; refine ⟨_, rfl, ?_⟩))
        go_meet
        case rel => exact ⟨_, (true), (by first | rfl | (simp; done) | (simp [*]; done)), H', ⟨by first | omega | exact Nat.le_refl _⟩, ⟨by (with_reducible repeat (first | apply Kd.R_alloc | apply Kd.R_drewN | apply Kd.R_drew)); exact HO531.out⟩, ⟨by (with_reducible repeat (first | apply Kd.R_alloc | apply Kd.R_drewN | apply Kd.R_drew)); exact Kd.R_mono HO535.out (fun _ hk => trivial)⟩, ⟨by (with_reducible repeat (first | apply Kd.N_alloc | apply Kd.N_drewN | apply Kd.N_drew)); exact Kd.N_mono HO528.out (fun _ hk => ⟨hk.1.1.1, ⟨hk.1.2, hk.1.1.2⟩⟩)⟩, ⟨by (with_reducible repeat (first | refine blk_drewN ?_ _ | refine blk_drew ?_ | refine blk_alloc ?_ _)); exact BK532.out⟩, ⟨by repeat (first | (with_reducible first | exact HB.out | apply below_alloc | apply pw_below_drewN | apply below_drew1 | refine below_set ?_ GE532.out) | exact HB.out)⟩⟩
    case rest =>
      clear HC6
      try clear c1
      try clear c2
      try clear c2b0
      try clear c2b1
      try clear p2
      try clear c3
      try clear c6
      try clear c16
      try clear hcz13_0
      try clear hcz13_1
      try clear hcz13_2
      try clear hcz9_0
      try clear hcz9_1
      try clear hcz9_2
      try clear hfz13_0
      try clear hfz13_1
      try clear hfz13_2
      try clear hfz9_0
      try clear hfz9_1
      try clear hfz9_2
      obtain ⟨kq, x39_5, rfl, HA, HJ5, HO_4, HO_5, HO_533002, BK532, HB⟩ := hcut
      cases kq with
      | zero => exact absurd HA.out (by simp [laws_FnTaskFetches.j0])
      | succ kj5 =>
        have H := HA.out
        clear HA
        simp only [laws_FnTaskFetches.j0] at H
        by_cases c21 : x39_5 = true
        · subst c21
          have H1 : (some false) = some r := by rw [if_pos rfl] at H; exact H
          clear H
          have H := H1
          clear H1
          obtain rfl := Option.some.inj H
          go_wp2
          go_ret
          exact ⟨by first | rfl | (simp [errW_none, errW_some] <;> rfl) | (simp [*, errW_none, errW_some] <;> rfl), by repeat (first | (with_reducible first | exact HB.out | apply below_alloc | apply pw_below_drewN | apply below_drew1 | refine below_set ?_ GE532.out) | exact HB.out)⟩
        · replace c21 := Bool.eq_false_iff.mpr c21
          subst c21
          have H1 : (laws_FnTaskFetches.l0 kj5 t529 t533 0) = some r := by rw [if_neg (show ¬ (false = true) by decide)] at H; exact H
          clear H
          have H := H1
          clear H1
          have H' := Aside0.mk H
          clear H
          go_wp2
          go_loopg [9] kj5 (fun kq v9 w' => ∃ (x9_2 : Int), v9 = .int .i64 x9_2 ∧ Aside0 (laws_FnTaskFetches.l0 kq t529 t533 x9_2 = some r) ∧ Aside0 (kq ≤ kj5) ∧ Aside0 (Kd.R (Kd.int .i64) 3 w' w.heap.size (fun _ => True) (.slice Ao11 t529.length co11) t529) ∧ Aside0 (Kd.R k49 49 w' w.heap.size (fun _ => True) v534 t533) ∧ Aside0 (Kd.N k25 25 w' w.heap.size (fun k_ => some k_ ≠ ((.slice Ao11 t529.length co11) : Value).ownBlock ∧ some k_ ≠ (v534 : Value).ownBlock ∧ k_ ≠ gb532) (.slice Ao10 t526.length co10) t526) ∧ Aside0 (w'.heap[gb532]? = some (.cells #[.int .i64 t524, .int .i64 t525, (.slice Ao10 t526.length co10)] 25 (0, 0))) ∧ Aside0 (Below w.heap.size w w'))
          case atStart => exact ⟨(0), (by first | rfl | (simp; done) | (simp [*]; done)), H', ⟨Nat.le_refl _⟩, ⟨by (with_reducible repeat (first | apply Kd.R_alloc | apply Kd.R_drewN | apply Kd.R_drew)); exact HO_4.out⟩, ⟨by (with_reducible repeat (first | apply Kd.R_alloc | apply Kd.R_drewN | apply Kd.R_drew)); exact HO_5.out⟩, ⟨by (with_reducible repeat (first | apply Kd.N_alloc | apply Kd.N_drewN | apply Kd.N_drew)); exact HO_533002.out⟩, ⟨by (with_reducible repeat (first | refine blk_drewN ?_ _ | refine blk_drew ?_ | refine blk_alloc ?_ _)); exact BK532.out⟩, ⟨by repeat (first | (with_reducible first | exact HB.out | apply below_alloc | apply pw_below_drewN | apply below_drew1 | refine below_set ?_ GE532.out) | exact HB.out)⟩⟩
          case round =>
            clear H'
            try clear c1
            try clear c2
            try clear c2b0
            try clear c2b1
            try clear p2
            try clear c3
            try clear c6
            try clear c16
            try clear c21
            try clear hcz13_0
            try clear hcz13_1
            try clear hcz13_2
            try clear hcz9_0
            try clear hcz9_1
            try clear hcz9_2
            try clear hfz13_0
            try clear hfz13_1
            try clear hfz13_2
            try clear hfz9_0
            try clear hfz9_1
            try clear hfz9_2
            try clear p2
            obtain ⟨x9_2, rfl, HA, HK2, HO_4, HO_5, HO_533002, BK532, HB⟩ := hrel
            cases gk with
            | zero => exact absurd HA.out (by simp [laws_FnTaskFetches.l0])
            | succ k2 =>
              have H := HA.out
              clear HA
              simp only [laws_FnTaskFetches.l0] at H
              by_cases c22 : x9_2 < (t533.length : Int)
              · rw [if_pos c22] at H
                have c22b0 : decide (x9_2 < (t533.length : Int)) = true := decide_eq_true c22
                clear c22
                by_cases c23 : 0 ≤ x9_2
                · rw [if_pos c23] at H
                  have c23b0 : decide (0 ≤ x9_2) = true := decide_eq_true c23
                  clear c23
                  by_cases c24 : ((rd_T49 t533 x9_2).f0) < (t529.length : Int)
                  · rw [if_pos c24] at H
                    have c24b0 : decide (((rd_T49 t533 x9_2).f0) < (t529.length : Int)) = true := decide_eq_true c24
                    clear c24
                    by_cases c25 : 0 ≤ ((rd_T49 t533 x9_2).f0)
                    · rw [if_pos c25] at H
                      have c25b0 : decide (0 ≤ ((rd_T49 t533 x9_2).f0)) = true := decide_eq_true c25
                      clear c25
                      by_cases c26 : (rd t529 ((rd_T49 t533 x9_2).f0)) = ((rd_T49 t533 x9_2).f1)
                      · rw [if_pos c26] at H
                        have c26b0 : ((rd t529 ((rd_T49 t533 x9_2).f0)) == ((rd_T49 t533 x9_2).f1)) = true := beq_iff_eq.mpr c26
                        have c26b1 : ((rd t529 ((rd_T49 t533 x9_2).f0)) != ((rd_T49 t533 x9_2).f1)) = false := bne_eq_false_iff_eq.mpr c26
                        clear c26
                        have H' := Aside0.mk H
                        clear H
                        obtain ⟨Ao27, co27, eo27⟩ := Kd.R_slice HO_5.out
                        subst eo27
                        have p542 : 0 ≤ (x9_2 : Int) := of_decide_eq_true (by first | (with_reducible assumption) | assumption)
                        have q542 : x9_2 < (t533.length : Int) := of_decide_eq_true (by first | (with_reducible assumption) | assumption)
                        obtain ⟨ad542, e542, hx542_0, hx542_1⟩ := at_T49 (Kd.R_reads' HO_5.out).2.2 x9_2 p542 q542
                        cases e542
                        replace p542 := eq_true p542
                        replace q542 := eq_true q542
                        have p543 : 0 ≤ (x9_2 : Int) := of_decide_eq_true (by first | (with_reducible assumption) | assumption)
                        have q543 : x9_2 < (t533.length : Int) := of_decide_eq_true (by first | (with_reducible assumption) | assumption)
                        obtain ⟨ad543, e543, hx543_0, hx543_1⟩ := at_T49 (Kd.R_reads' HO_5.out).2.2 x9_2 p543 q543
                        obtain rfl : ad542 = ad543 := (by injection e543)
                        replace p543 := eq_true p543
                        replace q543 := eq_true q543
                        have p544 : 0 ≤ (((rd_T49 t533 x9_2).f0) : Int) := of_decide_eq_true (by first | (with_reducible assumption) | assumption)
                        have q544 : ((rd_T49 t533 x9_2).f0) < (t529.length : Int) := of_decide_eq_true (by first | (with_reducible assumption) | assumption)
                        obtain ⟨ad544, e544, hx544_0⟩ := Kd.at_int (Kd.R_reads' HO_4.out).2.2 ((rd_T49 t533 x9_2).f0) p544 q544
                        cases e544
                        replace p544 := eq_true p544
                        replace q544 := eq_true q544
                        have p545 : 0 ≤ (x9_2 : Int) := of_decide_eq_true (by first | (with_reducible assumption) | assumption)
                        have q545 : x9_2 < (t533.length : Int) := of_decide_eq_true (by first | (with_reducible assumption) | assumption)
                        obtain ⟨ad545, e545, hx545_0, hx545_1⟩ := at_T49 (Kd.R_reads' HO_5.out).2.2 x9_2 p545 q545
                        obtain rfl : ad542 = ad545 := (by injection e545)
                        replace p545 := eq_true p545
                        replace q545 := eq_true q545
                        go_wp2
                        go_roundg k2
                        case measure => have := HJ5.out; have := HK2.out; omega
                        case rel => exact ⟨(wrap64 (x9_2 + 1)), (by first | rfl | (simp; done) | (simp [*]; done)), H', ⟨by have := HJ5.out; have := HK2.out; omega⟩, ⟨by (with_reducible repeat (first | apply Kd.R_alloc | apply Kd.R_drewN | apply Kd.R_drew)); exact HO_4.out⟩, ⟨by (with_reducible repeat (first | apply Kd.R_alloc | apply Kd.R_drewN | apply Kd.R_drew)); exact HO_5.out⟩, ⟨by (with_reducible repeat (first | apply Kd.N_alloc | apply Kd.N_drewN | apply Kd.N_drew)); exact HO_533002.out⟩, ⟨by (with_reducible repeat (first | refine blk_drewN ?_ _ | refine blk_drew ?_ | refine blk_alloc ?_ _)); exact BK532.out⟩, ⟨by repeat (first | (with_reducible first | exact HB.out | apply below_alloc | apply pw_below_drewN | apply below_drew1 | refine below_set ?_ GE532.out) | exact HB.out)⟩⟩
                      · rw [if_neg c26] at H
                        have c26b0 : ((rd t529 ((rd_T49 t533 x9_2).f0)) == ((rd_T49 t533 x9_2).f1)) = false := beq_eq_false_iff_ne.mpr c26
                        have c26b1 : ((rd t529 ((rd_T49 t533 x9_2).f0)) != ((rd_T49 t533 x9_2).f1)) = true := bne_iff_ne.mpr c26
                        obtain rfl := Option.some.inj H
                        obtain ⟨Ao28, co28, eo28⟩ := Kd.R_slice HO_5.out
                        subst eo28
                        have p542 : 0 ≤ (x9_2 : Int) := of_decide_eq_true (by first | (with_reducible assumption) | assumption)
                        have q542 : x9_2 < (t533.length : Int) := of_decide_eq_true (by first | (with_reducible assumption) | assumption)
                        obtain ⟨ad542, e542, hx542_0, hx542_1⟩ := at_T49 (Kd.R_reads' HO_5.out).2.2 x9_2 p542 q542
                        cases e542
                        replace p542 := eq_true p542
                        replace q542 := eq_true q542
                        have p543 : 0 ≤ (x9_2 : Int) := of_decide_eq_true (by first | (with_reducible assumption) | assumption)
                        have q543 : x9_2 < (t533.length : Int) := of_decide_eq_true (by first | (with_reducible assumption) | assumption)
                        obtain ⟨ad543, e543, hx543_0, hx543_1⟩ := at_T49 (Kd.R_reads' HO_5.out).2.2 x9_2 p543 q543
                        obtain rfl : ad542 = ad543 := (by injection e543)
                        replace p543 := eq_true p543
                        replace q543 := eq_true q543
                        have p544 : 0 ≤ (((rd_T49 t533 x9_2).f0) : Int) := of_decide_eq_true (by first | (with_reducible assumption) | assumption)
                        have q544 : ((rd_T49 t533 x9_2).f0) < (t529.length : Int) := of_decide_eq_true (by first | (with_reducible assumption) | assumption)
                        obtain ⟨ad544, e544, hx544_0⟩ := Kd.at_int (Kd.R_reads' HO_4.out).2.2 ((rd_T49 t533 x9_2).f0) p544 q544
                        cases e544
                        replace p544 := eq_true p544
                        replace q544 := eq_true q544
                        have p545 : 0 ≤ (x9_2 : Int) := of_decide_eq_true (by first | (with_reducible assumption) | assumption)
                        have q545 : x9_2 < (t533.length : Int) := of_decide_eq_true (by first | (with_reducible assumption) | assumption)
                        obtain ⟨ad545, e545, hx545_0, hx545_1⟩ := at_T49 (Kd.R_reads' HO_5.out).2.2 x9_2 p545 q545
                        obtain rfl : ad542 = ad545 := (by injection e545)
                        replace p545 := eq_true p545
                        replace q545 := eq_true q545
                        go_wp2
                        go_ret
                        exact ⟨by first | rfl | (simp [errW_none, errW_some] <;> rfl) | (simp [*, errW_none, errW_some] <;> rfl), by repeat (first | (with_reducible first | exact HB.out | apply below_alloc | apply pw_below_drewN | apply below_drew1 | refine below_set ?_ GE532.out) | exact HB.out)⟩
                    · rw [if_neg c25] at H
                      exact absurd H (by simp)
                  · rw [if_neg c24] at H
                    have c24b0 : decide (((rd_T49 t533 x9_2).f0) < (t529.length : Int)) = false := decide_eq_false c24
                    clear c24
                    by_cases c29 : 0 = ((rd_T49 t533 x9_2).f1)
                    · rw [if_pos c29] at H
                      have c29b0 : (0 == ((rd_T49 t533 x9_2).f1)) = true := beq_iff_eq.mpr c29
                      have c29b1 : (0 != ((rd_T49 t533 x9_2).f1)) = false := bne_eq_false_iff_eq.mpr c29
                      clear c29
                      have H' := Aside0.mk H
                      clear H
                      obtain ⟨Ao30, co30, eo30⟩ := Kd.R_slice HO_5.out
                      subst eo30
                      have p542 : 0 ≤ (x9_2 : Int) := of_decide_eq_true (by first | (with_reducible assumption) | assumption)
                      have q542 : x9_2 < (t533.length : Int) := of_decide_eq_true (by first | (with_reducible assumption) | assumption)
                      obtain ⟨ad542, e542, hx542_0, hx542_1⟩ := at_T49 (Kd.R_reads' HO_5.out).2.2 x9_2 p542 q542
                      cases e542
                      replace p542 := eq_true p542
                      replace q542 := eq_true q542
                      have p546 : 0 ≤ (x9_2 : Int) := of_decide_eq_true (by first | (with_reducible assumption) | assumption)
                      have q546 : x9_2 < (t533.length : Int) := of_decide_eq_true (by first | (with_reducible assumption) | assumption)
                      obtain ⟨ad546, e546, hx546_0, hx546_1⟩ := at_T49 (Kd.R_reads' HO_5.out).2.2 x9_2 p546 q546
                      obtain rfl : ad542 = ad546 := (by injection e546)
                      replace p546 := eq_true p546
                      replace q546 := eq_true q546
                      go_wp2
                      go_roundg k2
                      case measure => have := HJ5.out; have := HK2.out; omega
                      case rel => exact ⟨(wrap64 (x9_2 + 1)), (by first | rfl | (simp; done) | (simp [*]; done)), H', ⟨by have := HJ5.out; have := HK2.out; omega⟩, ⟨by (with_reducible repeat (first | apply Kd.R_alloc | apply Kd.R_drewN | apply Kd.R_drew)); exact HO_4.out⟩, ⟨by (with_reducible repeat (first | apply Kd.R_alloc | apply Kd.R_drewN | apply Kd.R_drew)); exact HO_5.out⟩, ⟨by (with_reducible repeat (first | apply Kd.N_alloc | apply Kd.N_drewN | apply Kd.N_drew)); exact HO_533002.out⟩, ⟨by (with_reducible repeat (first | refine blk_drewN ?_ _ | refine blk_drew ?_ | refine blk_alloc ?_ _)); exact BK532.out⟩, ⟨by repeat (first | (with_reducible first | exact HB.out | apply below_alloc | apply pw_below_drewN | apply below_drew1 | refine below_set ?_ GE532.out) | exact HB.out)⟩⟩
                    · rw [if_neg c29] at H
                      have c29b0 : (0 == ((rd_T49 t533 x9_2).f1)) = false := beq_eq_false_iff_ne.mpr c29
                      have c29b1 : (0 != ((rd_T49 t533 x9_2).f1)) = true := bne_iff_ne.mpr c29
                      obtain rfl := Option.some.inj H
                      obtain ⟨Ao31, co31, eo31⟩ := Kd.R_slice HO_5.out
                      subst eo31
                      have p542 : 0 ≤ (x9_2 : Int) := of_decide_eq_true (by first | (with_reducible assumption) | assumption)
                      have q542 : x9_2 < (t533.length : Int) := of_decide_eq_true (by first | (with_reducible assumption) | assumption)
                      obtain ⟨ad542, e542, hx542_0, hx542_1⟩ := at_T49 (Kd.R_reads' HO_5.out).2.2 x9_2 p542 q542
                      cases e542
                      replace p542 := eq_true p542
                      replace q542 := eq_true q542
                      have p546 : 0 ≤ (x9_2 : Int) := of_decide_eq_true (by first | (with_reducible assumption) | assumption)
                      have q546 : x9_2 < (t533.length : Int) := of_decide_eq_true (by first | (with_reducible assumption) | assumption)
                      obtain ⟨ad546, e546, hx546_0, hx546_1⟩ := at_T49 (Kd.R_reads' HO_5.out).2.2 x9_2 p546 q546
                      obtain rfl : ad542 = ad546 := (by injection e546)
                      replace p546 := eq_true p546
                      replace q546 := eq_true q546
                      go_wp2
                      go_ret
                      exact ⟨by first | rfl | (simp [errW_none, errW_some] <;> rfl) | (simp [*, errW_none, errW_some] <;> rfl), by repeat (first | (with_reducible first | exact HB.out | apply below_alloc | apply pw_below_drewN | apply below_drew1 | refine below_set ?_ GE532.out) | exact HB.out)⟩
                · rw [if_neg c23] at H
                  exact absurd H (by simp)
              · rw [if_neg c22] at H
                have c22b0 : decide (x9_2 < (t533.length : Int)) = false := decide_eq_false c22
                clear c22
                obtain rfl := Option.some.inj H
                obtain ⟨Ao32, co32, eo32⟩ := Kd.R_slice HO_5.out
                subst eo32
                go_wp2
                go_ret
                exact ⟨by first | rfl | (simp [errW_none, errW_some] <;> rfl) | (simp [*, errW_none, errW_some] <;> rfl), by repeat (first | (with_reducible first | exact HB.out | apply below_alloc | apply pw_below_drewN | apply below_drew1 | refine below_set ?_ GE532.out) | exact HB.out)⟩
def laws_FnTaskFetches.Pure : Prop := ∀ (l0 : List Int), l0.length ≤ maxLen → l0.length * 1 ≤ 140737488351232 → (∀ x ∈ l0, (Lit.int .u8 x).wf = true) → ∃ k, laws_FnTaskFetches.f k l0 = some true
theorem laws_FnTaskFetches.walk (P : laws_FnTaskFetches.Pure) (a0 : Option Addr) (len0 cap0 : Nat) (z0 : List Int) (w : World) (w0 : (a0 = none ∧ len0 = 0 ∧ cap0 = 0 ∧ z0 = []) ∨ ∃ x, a0 = some x ∧ len0 ≤ cap0 ∧ cap0 ≤ maxLen ∧ z0.length = cap0 ∧ (∀ i, i < z0.length → w.cell? (x.add i) = some (.int .u8 (z0.getD i 0))) ∧ ∀ n ∈ z0, (Lit.int .u8 n).wf = true) (y0 : len0 * 1 ≤ 140737488351232) :
    Calls Try.prog 6 #[.slice a0 len0 cap0] w fun e w' => e = .returned (.bool true) ∧ Below w.heap.size w w' := by
  obtain ⟨l0, rfl, hr0, hm0, hw0, hc0⟩ := ReadsInt.ofRowC w0
  obtain ⟨k, h⟩ := P l0 hm0 y0 hw0
  refine (laws_FnTaskFetches.calls k _ _ l0 true w (Kd.C_of_reads (d := (0 : Int)) (h1 := fun _ => rfl) hr0) hc0 h).mono ?_
  rintro e w' ⟨rfl, hd⟩
  exact ⟨rfl, hd⟩
end Go.Proofs.Ytooojligedlpeaa.G
end
section
namespace Go.Proofs.Ytooojligedlpeaa.G
open Go.RowKit Go.Proofs.YtooojligedlpeaaW.PrintWords
set_option linter.unusedVariables false
set_option linter.unusedSimpArgs false
theorem xor_nonneg (a b : Int) (ha : 0 ≤ a) (ha2 : a < 4611686018427387904) (hb : 0 ≤ b) (hb2 : b < 4611686018427387904) : 0 ≤ Go.bits .xor .i64 a b := by
  obtain ⟨x, rfl⟩ := Int.eq_ofNat_of_zero_le ha
  obtain ⟨y, rfl⟩ := Int.eq_ofNat_of_zero_le hb
  have hx : x < 2 ^ 62 := by omega
  have hy : y < 2 ^ 62 := by omega
  have hx2 : x % 2 ^ 64 = x := Nat.mod_eq_of_lt (by omega)
  have hy2 : y % 2 ^ 64 = y := Nat.mod_eq_of_lt (by omega)
  have hz : x ^^^ y < 2 ^ 62 := Nat.xor_lt_two_pow hx hy
  have e : Go.bits .xor .i64 (x : Int) (y : Int) = ((x ^^^ y : Nat) : Int) := by
    show IntKind.i64.wrap ((BitVec.ofInt 64 (x : Int) ^^^ BitVec.ofInt 64 (y : Int)).toNat : Int) = _
    rw [BitVec.toNat_xor, BitVec.ofInt_natCast, BitVec.ofInt_natCast, BitVec.toNat_ofNat, BitVec.toNat_ofNat, hx2, hy2, IntKind.wrap_i64]
    omega
  rw [e]
  omega
def byteL (l : List Int) : Prop := ∀ x ∈ l, 0 ≤ x ∧ x ≤ 255
theorem rd_byte {l : List Int} (h : byteL l) (i : Int) : 0 ≤ rd l i ∧ rd l i ≤ 255 := by
  unfold rd
  by_cases hi : i.toNat < l.length
  · rw [List.getD_eq_getElem?_getD, List.getElem?_eq_getElem hi, Option.getD_some]
    exact h _ (List.getElem_mem hi)
  · rw [List.getD_eq_getElem?_getD, List.getElem?_eq_none (by omega), Option.getD_none]
    omega
theorem pick_ev {l : List Int} (hl : byteL l) (hlen : l.length ≤ 1048576) (p n : Int) (h0 : 0 ≤ p) (h1 : p ≤ 1099511627776) :
    ∃ v, Ev (fun k => spec_l6Rd_pick.f k l p n) (v, p + 1) ∧ 0 ≤ v ∧ (1 ≤ n → v < n) ∧ (n < 1 → v = 0) := by
  have e1 : wrap64 (p + 1) = p + 1 := wrap_id _ (by omega) (by omega)
  have e2 : wrap64 (p + 1 - 1) = p := by rw [wrap_id (p + 1 - 1) (by omega) (by omega)]; omega
  by_cases hn : n < 1
  · refine ⟨0, ?_, by omega, by omega, by omega⟩
    unfold spec_l6Rd_pick.f
    simp only [if_pos hn, e1]
    refine Ev.step (fun k => by rw [spec_l6Rd_pick.j0]) ?_
    simp only [if_true]
    exact Ev.now _
  · by_cases hz : l.length = 0
    · refine ⟨0, ?_, by omega, by omega, by omega⟩
      unfold spec_l6Rd_pick.f
      simp only [if_neg hn, e1, show ((l.length : Int) == 0) = true by simp [hz]]
      refine Ev.step (fun k => by rw [spec_l6Rd_pick.j0]) ?_
      simp only [if_true]
      exact Ev.now _
    · have hzb : ((l.length : Int) == 0) = false := beq_eq_false_iff_ne.mpr (by omega)
      by_cases hp : p < (l.length : Int)
      · have hr := rd_byte hl p
        have ew : wrap64 (rd l p) = rd l p := wrap_id _ (by omega) (by omega)
        refine ⟨Int.tmod (rd l p) n, ?_, Int.tmod_nonneg _ hr.1, fun _ => Int.tmod_lt_of_pos _ (by omega), by omega⟩
        unfold spec_l6Rd_pick.f
        simp only [if_neg hn, e1, hzb]
        refine Ev.step (fun k => by rw [spec_l6Rd_pick.j0]) ?_
        simp only [Bool.false_eq_true, if_false, e2, if_pos hp, if_pos h0, if_neg (show ¬ n = 0 by omega), ew]
        exact Ev.now _
      · have hl0 : 0 < (l.length : Int) := by omega
        have t1 := Int.tmod_nonneg (l.length : Int) h0
        have t2 := Int.tmod_lt_of_pos p hl0
        have e3 : wrap64 (p * 7) = p * 7 := wrap_id _ (by omega) (by omega)
        have e4 : wrap64 (p * 7 + 3) = p * 7 + 3 := wrap_id _ (by omega) (by omega)
        have t3 := Int.tmod_nonneg (l.length : Int) (show 0 ≤ p * 7 + 3 by omega)
        have t4 := Int.tmod_lt_of_pos (p * 7 + 3) hl0
        have q1 : 0 ≤ Int.tdiv p (l.length : Int) := Int.tdiv_nonneg h0 (by omega)
        have q2 : Int.tdiv p (l.length : Int) ≤ p := by
          rw [Int.tdiv_eq_ediv_of_nonneg h0]
          exact Int.ediv_le_self _ h0
        have ha := rd_byte hl (Int.tmod p (l.length : Int))
        have hb := rd_byte hl (Int.tmod (p * 7 + 3) (l.length : Int))
        have key : ∃ v, Ev (fun k => spec_l6Rd_pick.j0 k n false l (p + 1)) (v, p + 1) ∧ 0 ≤ v ∧ (1 ≤ n → v < n) := by
          refine ⟨?_, ?_, ?_, ?_⟩
          rotate_left
          · refine Ev.step (fun k => by rw [spec_l6Rd_pick.j0]) ?_
            simp only [Bool.false_eq_true, if_false, e2, if_neg hp, if_neg (show ¬ (l.length : Int) = 0 by omega), if_pos t1, if_pos t2, e3, e4, if_pos t3, if_pos t4, if_neg (show ¬ n = 0 by omega)]
            exact Ev.now _
          · refine Int.tmod_nonneg _ ?_
            generalize rd l (Int.tmod p (l.length : Int)) = a at *
            generalize rd l (Int.tmod (p * 7 + 3) (l.length : Int)) = b at *
            generalize Int.tdiv p (l.length : Int) = q at *
            have hX : 0 ≤ wrap64 (wrap64 (wrap64 (wrap64 (wrap64 a * 131) + wrap64 (wrap64 b * 1117)) + wrap64 (p * 29)) + wrap64 (wrap64 q * 53)) ∧ wrap64 (wrap64 (wrap64 (wrap64 (wrap64 a * 131) + wrap64 (wrap64 b * 1117)) + wrap64 (p * 29)) + wrap64 (wrap64 q * 53)) < 4611686018427387904 := by
              simp only [wrap_id a (by omega) (by omega), wrap_id b (by omega) (by omega), wrap_id q (by omega) (by omega), wrap_id (a * 131) (by omega) (by omega), wrap_id (b * 1117) (by omega) (by omega), wrap_id (q * 53) (by omega) (by omega), wrap_id (p * 29) (by omega) (by omega), wrap_id (a * 131 + b * 1117) (by omega) (by omega), wrap_id (a * 131 + b * 1117 + p * 29) (by omega) (by omega), wrap_id (a * 131 + b * 1117 + p * 29 + q * 53) (by omega) (by omega)]
              omega
            generalize wrap64 (wrap64 (wrap64 (wrap64 (wrap64 a * 131) + wrap64 (wrap64 b * 1117)) + wrap64 (p * 29)) + wrap64 (wrap64 q * 53)) = X at *
            have hY : 0 ≤ Int.tdiv X 64 := Int.tdiv_nonneg hX.1 (by omega)
            have hY2 : Int.tdiv X 64 ≤ X := by
              rw [Int.tdiv_eq_ediv_of_nonneg hX.1]
              exact Int.ediv_le_self _ hX.1
            rw [wrap_id (Int.tdiv X 64) (by omega) (by omega)]
            exact xor_nonneg _ _ hX.1 hX.2 hY (by omega)
          · intro _
            exact Int.tmod_lt_of_pos _ (by omega)
        obtain ⟨v, hv, hv1, hv2⟩ := key
        refine ⟨v, ?_, hv1, hv2, by omega⟩
        unfold spec_l6Rd_pick.f
        simp only [if_neg hn, e1, hzb]
        exact hv
theorem key_ev {l : List Int} (hl : byteL l) (hlen : l.length ≤ 1048576) (p below : Int) (h0 : 0 ≤ p) (h1 : p + 1 ≤ 1099511627776) (hb : below ≤ 10) :
    ∃ v p', Ev (fun k => spec_l91Key.f k l p below) (v, p') ∧ 0 ≤ v ∧ v ≤ 9 ∧ p ≤ p' ∧ p' ≤ p + 2 := by
  obtain ⟨v, hv, v0, v1, v2⟩ := pick_ev hl hlen p 25 h0 (by omega)
  by_cases hz : v = 0
  · refine ⟨9, p + 1, ?_, by omega, by omega, by omega, by omega⟩
    unfold spec_l91Key.f
    refine Ev.bind hv ?_
    simp only [if_pos hz]
    exact Ev.now _
  · obtain ⟨u, hu, u0, u1, u2⟩ := pick_ev hl hlen (p + 1) below (by omega) (by omega)
    refine ⟨u, p + 1 + 1, ?_, by omega, ?_, by omega, by omega⟩
    · unfold spec_l91Key.f
      refine Ev.bind hv ?_
      simp only [if_neg hz]
      exact Ev.bind hu (Ev.now _)
    · by_cases hc : 1 ≤ below
      · have := u1 hc; omega
      · have := u2 (by omega); omega
def room : Nat → Int
  | 0 => 4
  | d + 1 => 4 * room d
theorem room_pos : ∀ d, 4 ≤ room d
  | 0 => by simp [room]
  | d + 1 => by have := room_pos d; simp only [room]; omega
theorem room3 : room 3 = 256 := by decide
theorem room2 : room 2 = 64 := by decide
theorem room_le {d : Nat} (h : d ≤ 3) : room d ≤ 256 := by
  match d, h with
  | 0, _ => decide
  | 1, _ => decide
  | 2, _ => decide
  | 3, _ => decide
theorem tk_eta (t : Tk) : (⟨t.f0, t.f1, t.f2⟩ : Tk) = t := by cases t; rfl
theorem nodT_one (a b : Int) : nodT ⟨a, b, []⟩ = 1 := by simp [nodT, nodL]
theorem task_ev {l : List Int} (hl : byteL l) (hlen : l.length ≤ 1048576) (below : Int) (hb : below ≤ 10) : ∀ (d : Nat) (p : Int), d ≤ 3 → 0 ≤ p → p + 4 * room d + 10 ≤ 1099511627776 →
    ∃ (t : Tk) (p' : Int), Ev (fun k => spec_l91Task.f k l p below (d : Int)) (t.f0, t.f1, t.f2, p') ∧ p ≤ p' ∧ p' ≤ p + room d ∧ (nodT t : Int) ≤ room d := by
  intro d
  induction d with
  | zero =>
    intro p hd h0 h1
    have hr0 : room 0 = 4 := rfl
    obtain ⟨v, hv, v0, v1, v2⟩ := pick_ev hl hlen p 9 h0 (by omega)
    have num : ∃ (t : Tk) (p' : Int), Ev (fun k => spec_l91Task.j1 k below true l (p + 1)) (t.f0, t.f1, t.f2, p') ∧ p ≤ p' ∧ p' ≤ p + room 0 ∧ (nodT t : Int) ≤ room 0 := by
      obtain ⟨u, hu, u0, u1, u2⟩ := pick_ev hl hlen (p + 1) 97 (by omega) (by omega)
      refine ⟨⟨0, u, []⟩, p + 1 + 1, ?_, by omega, by simp only [room]; omega, by rw [nodT_one]; simp [room]⟩
      refine Ev.step (fun k => by rw [spec_l91Task.j1]) ?_
      simp only [if_true]
      exact Ev.bind hu (Ev.now _)
    have key : ∃ (t : Tk) (p' : Int), Ev (fun k => spec_l91Task.j1 k below false l (p + 1)) (t.f0, t.f1, t.f2, p') ∧ p ≤ p' ∧ p' ≤ p + room 0 ∧ (nodT t : Int) ≤ room 0 := by
      obtain ⟨u, p', hu, u0, u1, u2, u3⟩ := key_ev hl hlen (p + 1) below (by omega) (by omega) hb
      refine ⟨⟨1, u, []⟩, p', ?_, by omega, by simp only [room]; omega, by rw [nodT_one]; simp [room]⟩
      refine Ev.step (fun k => by rw [spec_l91Task.j1]) ?_
      simp only [Bool.false_eq_true, if_false]
      exact Ev.bind hu (Ev.now _)
    have both : ∃ (t : Tk) (p' : Int), Ev (fun k => spec_l91Task.j0 k below ((0 : Nat) : Int) v true l (p + 1)) (t.f0, t.f1, t.f2, p') ∧ p ≤ p' ∧ p' ≤ p + room 0 ∧ (nodT t : Int) ≤ room 0 := by
      by_cases h2 : Int.tmod v 2 = 0
      · obtain ⟨t, p', ht, hr⟩ := num
        refine ⟨t, p', ?_, hr⟩
        refine Ev.step (fun k => by rw [spec_l91Task.j0]) ?_
        simp only [if_true, if_pos h2]
        exact ht
      · cases hz : (below == 0) with
        | true =>
          obtain ⟨t, p', ht, hr⟩ := num
          refine ⟨t, p', ?_, hr⟩
          refine Ev.step (fun k => by rw [spec_l91Task.j0]) ?_
          simp only [if_true, if_neg h2, hz]
          exact ht
        | false =>
          obtain ⟨t, p', ht, hr⟩ := key
          refine ⟨t, p', ?_, hr⟩
          refine Ev.step (fun k => by rw [spec_l91Task.j0]) ?_
          simp only [if_true, if_neg h2, hz]
          exact ht
    obtain ⟨t, p', ht, hr⟩ := both
    refine ⟨t, p', ?_, hr⟩
    refine Ev.step (fun k => by rw [spec_l91Task.f]) ?_
    refine Ev.bind hv ?_
    simp only [if_pos (show ((0 : Nat) : Int) = 0 from rfl)]
    exact ht
  | succ d ih =>
    intro p hd h0 h1
    have hr0 := room_pos d
    have hr1 := room_le (show d ≤ 3 by omega)
    have hr2 : room (d + 1) = 4 * room d := rfl
    have ew : wrap64 (((d + 1 : Nat) : Int) - 1) = (d : Int) := by rw [wrap_id (((d + 1 : Nat) : Int) - 1) (by omega) (by omega)]; omega
    obtain ⟨v, hv, v0, v1, v2⟩ := pick_ev hl hlen p 9 h0 (by omega)
    have leaf : ∀ b, ∃ (t : Tk) (p' : Int), Ev (fun k => spec_l91Task.j1 k below b l (p + 1)) (t.f0, t.f1, t.f2, p') ∧ p ≤ p' ∧ p' ≤ p + room (d + 1) ∧ (nodT t : Int) ≤ room (d + 1) := by
      intro b
      cases b with
      | true =>
        obtain ⟨u, hu, u0, u1, u2⟩ := pick_ev hl hlen (p + 1) 97 (by omega) (by omega)
        refine ⟨⟨0, u, []⟩, p + 1 + 1, ?_, by omega, by omega, by rw [nodT_one]; omega⟩
        refine Ev.step (fun k => by rw [spec_l91Task.j1]) ?_
        simp only [if_true]
        exact Ev.bind hu (Ev.now _)
      | false =>
        obtain ⟨u, p', hu, u0, u1, u2, u3⟩ := key_ev hl hlen (p + 1) below (by omega) (by omega) hb
        refine ⟨⟨1, u, []⟩, p', ?_, by omega, by omega, by rw [nodT_one]; omega⟩
        refine Ev.step (fun k => by rw [spec_l91Task.j1]) ?_
        simp only [Bool.false_eq_true, if_false]
        exact Ev.bind hu (Ev.now _)
    have main : ∃ (t : Tk) (p' : Int), Ev (fun k => spec_l91Task.j0 k below ((d + 1 : Nat) : Int) v (decide (v < 3)) l (p + 1)) (t.f0, t.f1, t.f2, p') ∧ p ≤ p' ∧ p' ≤ p + room (d + 1) ∧ (nodT t : Int) ≤ room (d + 1) := by
      by_cases h3 : v < 3
      · by_cases h2 : Int.tmod v 2 = 0
        · obtain ⟨t, p', ht, hr⟩ := leaf true
          refine ⟨t, p', ?_, hr⟩
          refine Ev.step (fun k => by rw [spec_l91Task.j0]) ?_
          simp only [decide_eq_true h3, if_true, if_pos h2]
          exact ht
        · obtain ⟨t, p', ht, hr⟩ := leaf (below == 0)
          refine ⟨t, p', ?_, hr⟩
          refine Ev.step (fun k => by rw [spec_l91Task.j0]) ?_
          simp only [decide_eq_true h3, if_true, if_neg h2]
          exact ht
      · have h3b : decide (v < 3) = false := decide_eq_false h3
        obtain ⟨t1, p1, e1, a1, b1, n1⟩ := ih (p + 1) (by omega) (by omega) (by omega)
        obtain ⟨t2, p2, e2, a2, b2, n2⟩ := ih p1 (by omega) (by omega) (by omega)
        by_cases h5 : v < 5
        · refine ⟨⟨2, 0, [t1, t2]⟩, p2, ?_, by omega, by omega, ?_⟩
          · refine Ev.step (fun k => by rw [spec_l91Task.j0]) ?_
            simp only [h3b, Bool.false_eq_true, if_false, if_pos h5, ew]
            exact Ev.bind e1 (Ev.bind e2 (Ev.eq (Ev.now _) (by simp only [tk_eta])))
          · simp only [nodT, nodL]; omega
        · by_cases h6 : v = 5
          · refine ⟨⟨3, 0, [t1, t2]⟩, p2, ?_, by omega, by omega, ?_⟩
            · refine Ev.step (fun k => by rw [spec_l91Task.j0]) ?_
              simp only [h3b, Bool.false_eq_true, if_false, if_neg h5, if_pos h6, ew]
              exact Ev.bind e1 (Ev.bind e2 (Ev.eq (Ev.now _) (by simp only [tk_eta])))
            · simp only [nodT, nodL]; omega
          · have three : ∀ q : Int, p + 1 ≤ q → q ≤ p + 2 → ∃ (t : Tk) (p' : Int), Ev (fun k => spec_l91Task.j2 k below ((d + 1 : Nat) : Int) true l q) (t.f0, t.f1, t.f2, p') ∧ p ≤ p' ∧ p' ≤ p + room (d + 1) ∧ (nodT t : Int) ≤ room (d + 1) := by
              intro q hq1 hq2
              obtain ⟨t1, p1, e1, a1, b1, n1⟩ := ih q (by omega) (by omega) (by omega)
              obtain ⟨t2, p2, e2, a2, b2, n2⟩ := ih p1 (by omega) (by omega) (by omega)
              obtain ⟨t3, p3, e3, a3, b3, n3⟩ := ih p2 (by omega) (by omega) (by omega)
              refine ⟨⟨4, 0, [t1, t2, t3]⟩, p3, ?_, by omega, by omega, ?_⟩
              · refine Ev.step (fun k => by rw [spec_l91Task.j2]) ?_
                simp only [if_true, ew]
                exact Ev.bind e1 (Ev.bind e2 (Ev.bind e3 (Ev.eq (Ev.now _) (by simp only [tk_eta]))))
              · simp only [nodT, nodL]; omega
            by_cases h8 : v < 8
            · obtain ⟨t, p', ht, hr⟩ := three (p + 1) (by omega) (by omega)
              refine ⟨t, p', ?_, hr⟩
              refine Ev.step (fun k => by rw [spec_l91Task.j0]) ?_
              simp only [h3b, Bool.false_eq_true, if_false, if_neg h5, if_neg h6, if_pos h8]
              exact ht
            · obtain ⟨u, hu, u0, u1, u2⟩ := pick_ev hl hlen (p + 1) 3 (by omega) (by omega)
              by_cases hu0 : u > 0
              · obtain ⟨t, p', ht, hr⟩ := three (p + 1 + 1) (by omega) (by omega)
                refine ⟨t, p', ?_, hr⟩
                refine Ev.step (fun k => by rw [spec_l91Task.j0]) ?_
                simp only [h3b, Bool.false_eq_true, if_false, if_neg h5, if_neg h6, if_neg h8]
                refine Ev.bind hu ?_
                simp only [decide_eq_true hu0]
                exact ht
              · obtain ⟨x, hx, x0, x1, x2⟩ := pick_ev hl hlen (p + 1 + 1) 10 (by omega) (by omega)
                obtain ⟨t1, p1, e1, a1, b1, n1⟩ := ih (p + 1 + 1 + 1) (by omega) (by omega) (by omega)
                refine ⟨⟨5, x, [t1]⟩, p1, ?_, by omega, by omega, ?_⟩
                · refine Ev.step (fun k => by rw [spec_l91Task.j0]) ?_
                  simp only [h3b, Bool.false_eq_true, if_false, if_neg h5, if_neg h6, if_neg h8]
                  refine Ev.bind hu ?_
                  simp only [decide_eq_false hu0]
                  refine Ev.step (fun k => by rw [spec_l91Task.j2]) ?_
                  simp only [Bool.false_eq_true, if_false, ew]
                  exact Ev.bind hx (Ev.bind e1 (Ev.eq (Ev.now _) (by simp only [tk_eta])))
                · simp only [nodT, nodL]; omega
    obtain ⟨t, p', ht, hr⟩ := main
    refine ⟨t, p', ?_, hr⟩
    refine Ev.step (fun k => by rw [spec_l91Task.f]) ?_
    refine Ev.bind hv ?_
    simp only [if_neg (show ¬ ((d + 1 : Nat) : Int) = 0 by omega)]
    exact ht
theorem fit_ev {l : List Int} (hl : byteL l) (hlen : l.length ≤ 1048576) (below : Int) (hb : below ≤ 10) (p : Int) (h0 : 0 ≤ p) (h1 : p + 2000 ≤ 1099511627776) :
    ∃ (t : Tk) (p' : Int), Ev (fun k => spec_l91Fit.f k l p below) (t.f0, t.f1, t.f2, p') ∧ p ≤ p' ∧ p' ≤ p + 100 ∧ okT t = true := by
  obtain ⟨t, p', ht, a, b, n⟩ := task_ev hl hlen below hb 2 p (by omega) h0 (by rw [room2]; omega)
  rw [room2] at b n
  cases hok : okT t with
  | true =>
    refine ⟨t, p', ?_, a, by omega, hok⟩
    unfold spec_l91Fit.f
    refine Ev.bind ht ?_
    refine Ev.bind (specOk_ev t (by omega)) ?_
    rw [hok]
    simp only [if_true]
    exact Ev.now _
  | false =>
    obtain ⟨u, hu, u0, u1, u2⟩ := pick_ev hl hlen p' 10 (by omega) (by omega)
    have u3 := u1 (by omega)
    refine ⟨⟨1, u, []⟩, p' + 1, ?_, by omega, by omega, ?_⟩
    · unfold spec_l91Fit.f
      refine Ev.bind ht ?_
      refine Ev.bind (specOk_ev t (by omega)) ?_
      rw [hok]
      simp only [Bool.false_eq_true, if_false]
      exact Ev.bind hu (Ev.now _)
    · simp only [okT, fitT, fitL, nodT, nodL, shapeB, List.length_nil]
      simp
      omega
theorem num_ev {l : List Int} (hl : byteL l) (hlen : l.length ≤ 1048576) (p : Int) (h0 : 0 ≤ p) (h1 : p ≤ 1099511627776) (ns : List Int) (hn : 0 < ns.length) :
    ∃ x ∈ ns, Ev (fun k => spec_l91Num.f k l p ns) (x, p + 1) := by
  obtain ⟨u, hu, u0, u1, u2⟩ := pick_ev hl hlen p (ns.length : Int) h0 h1
  have u3 := u1 (by omega)
  obtain ⟨i, rfl⟩ := Int.eq_ofNat_of_zero_le u0
  have hi : i < ns.length := by omega
  refine ⟨ns[i], List.getElem_mem hi, ?_⟩
  unfold spec_l91Num.f
  refine Ev.bind hu ?_
  simp only [if_pos u0, if_pos u3]
  have e : rd ns (i : Int) = ns[i] := by
    simp only [rd, Int.toNat_natCast, List.getD_eq_getElem?_getD, List.getElem?_eq_getElem hi, Option.getD_some]
  rw [e]
  exact Ev.now _
theorem any_task_ev {l : List Int} (hl : byteL l) (hlen : l.length ≤ 1048576) (p : Int) (h0 : 0 ≤ p) (h1 : p + 4000 ≤ 1099511627776) :
    ∃ (t : Tk) (p' : Int), Ev (fun k => spec_l91Any.f k l p) (t.f0, t.f1, t.f2, p') ∧ p ≤ p' ∧ p' ≤ p + 1000 ∧ (nodT t : Int) ≤ 1000 := by
  obtain ⟨t, p1, ht, a, b, hok⟩ := fit_ev hl hlen 10 (by omega) p h0 (by omega)
  have hn := okT_nod hok
  obtain ⟨v, hv, v0, v1, v2⟩ := pick_ev hl hlen p1 10 (by omega) (by omega)
  by_cases hz : v = 0
  · obtain ⟨u, hu, u0, u1, u2⟩ := pick_ev hl hlen (p1 + 1) 4 (by omega) (by omega)
    have nn : ∀ x y : Int, nodT ⟨x, y, t.f2⟩ = nodT t := fun x y => by rw [nodT_eq, nodT_eq]
    by_cases h4 : u = 0
    · obtain ⟨x, _, hx⟩ := num_ev hl hlen (p1 + 1 + 1) (by omega) (by omega) [-1, 97, 10, 1] (by simp)
      refine ⟨⟨t.f0, x, t.f2⟩, p1 + 1 + 1 + 1, ?_, by omega, by omega, by rw [nn]; omega⟩
      unfold spec_l91Any.f
      refine Ev.bind ht (Ev.bind hv ?_)
      simp only [if_pos hz]
      refine Ev.bind hu ?_
      simp only [if_pos h4]
      exact Ev.bind hx (Ev.now _)
    · by_cases h5 : u = 1
      · obtain ⟨x, _, hx⟩ := num_ev hl hlen (p1 + 1 + 1) (by omega) (by omega) [6, -1, 2] (by simp)
        refine ⟨⟨x, t.f1, t.f2⟩, p1 + 1 + 1 + 1, ?_, by omega, by omega, by rw [nn]; omega⟩
        unfold spec_l91Any.f
        refine Ev.bind ht (Ev.bind hv ?_)
        simp only [if_pos hz]
        refine Ev.bind hu ?_
        simp only [if_neg h4, if_pos h5]
        exact Ev.bind hx (Ev.now _)
      · by_cases h6 : u = 2
        · obtain ⟨t1, q1, e1, a1, b1, n1⟩ := task_ev hl hlen 10 (by omega) 3 (p1 + 1 + 1) (by omega) (by omega) (by rw [room3]; omega)
          rw [room3] at b1 n1
          obtain ⟨t2, q2, e2, a2, b2, n2⟩ := task_ev hl hlen 10 (by omega) 3 q1 (by omega) (by omega) (by rw [room3]; omega)
          rw [room3] at b2 n2
          refine ⟨⟨2, 0, [t1, t2]⟩, q2, ?_, by omega, by omega, by simp only [nodT, nodL]; omega⟩
          unfold spec_l91Any.f
          refine Ev.bind ht (Ev.bind hv ?_)
          simp only [if_pos hz]
          refine Ev.bind hu ?_
          simp only [if_neg h4, if_neg h5, if_pos h6]
          exact Ev.bind e1 (Ev.bind e2 (Ev.eq (Ev.now _) (by simp only [tk_eta])))
        · have hlen2 : t.f2.length ≤ 15 := by have := nodL_len t.f2; rw [nodT_eq] at hn; omega
          refine ⟨⟨t.f0, t.f1, t.f2 ++ [⟨0, 1, []⟩]⟩, p1 + 1 + 1, ?_, by omega, by omega, ?_⟩
          · unfold spec_l91Any.f
            refine Ev.bind ht (Ev.bind hv ?_)
            simp only [if_pos hz]
            refine Ev.bind hu ?_
            simp only [if_neg h4, if_neg h5, if_neg h6, if_pos (show t.f2.length < 3518437208883 by omega)]
            exact Ev.now _
          · have e : ∀ ps : List Tk, nodL (ps ++ [⟨0, 1, []⟩]) = nodL ps + 1 := by
              intro ps
              induction ps with
              | nil => simp [nodL, nodT]
              | cons q qs ihq => simp only [List.cons_append, nodL, ihq]; omega
            rw [nodT_eq, e]
            rw [nodT_eq] at hn
            omega
  · refine ⟨t, p1 + 1, ?_, by omega, by omega, by omega⟩
    unfold spec_l91Any.f
    refine Ev.bind ht (Ev.bind hv ?_)
    simp only [if_neg hz]
    exact Ev.now _
theorem open_ev {l : List Int} (hl : byteL l) : ∃ l', spec_l6Open.f l = some (l', 0) ∧ byteL l' ∧ l'.length ≤ 2000 := by
  unfold spec_l6Open.f
  by_cases h : (l.length : Int) > 2000
  · refine ⟨l.take 2000, by rw [if_pos h, if_pos (by omega)], fun x hx => hl x (List.mem_of_mem_take hx), by simp; omega⟩
  · exact ⟨l, by rw [if_neg h], hl, by omega⟩
theorem byteL_of {l : List Int} (h : ∀ x ∈ l, (Lit.int .u8 x).wf = true) : byteL l := by
  intro x hx
  have h1 := h x hx
  simp only [Lit.wf, Bool.and_eq_true, decide_eq_true_eq] at h1
  have e1 : IntKind.u8.min = 0 := by decide
  have e2 : IntKind.u8.max = 255 := by decide
  rw [e1, e2] at h1
  exact h1
end Go.Proofs.Ytooojligedlpeaa.G
end
section
namespace Go.Proofs.Ytooojligedlpeaa.G
open Go.RowKit Go.Proofs.YtooojligedlpeaaW.PrintWords
set_option linter.unusedVariables false
set_option linter.unusedSimpArgs false
theorem values_loop {l : List Int} (hl : byteL l) (hlen : l.length ≤ 1048576) : ∀ (d : Nat) (out : List Int) (p : Int), d ≤ 10 → out.length + d ≤ 10 → 0 ≤ p → p + d + 1 ≤ 1099511627776 →
    ∃ vs p', Ev (fun k => spec_l91Values.l0 k out (d : Int) l p) (vs, p') ∧ p ≤ p' ∧ p' ≤ p + d + 1 ∧ vs.length ≤ 11 := by
  intro d
  induction d with
  | zero =>
    intro out p hd ho h0 h1
    obtain ⟨v, hv, v0, v1, v2⟩ := pick_ev hl hlen p 25 h0 (by omega)
    by_cases hz : v = 0
    · refine ⟨out ++ [97], p + 1, ?_, by omega, by omega, by simp; omega⟩
      refine Ev.step (fun k => by rw [spec_l91Values.l0]) ?_
      simp only [if_neg (show ¬ (((0 : Nat) : Int) > 0) by omega)]
      refine Ev.bind hv ?_
      simp only [if_pos hz, if_pos (show out.length < 17592186044416 by omega)]
      exact Ev.now _
    · refine ⟨out, p + 1, ?_, by omega, by omega, by omega⟩
      refine Ev.step (fun k => by rw [spec_l91Values.l0]) ?_
      simp only [if_neg (show ¬ (((0 : Nat) : Int) > 0) by omega)]
      refine Ev.bind hv ?_
      simp only [if_neg hz]
      exact Ev.now _
  | succ d ih =>
    intro out p hd ho h0 h1
    obtain ⟨v, hv, v0, v1, v2⟩ := pick_ev hl hlen p 5 h0 (by omega)
    obtain ⟨vs, p', hvs, a, b, c⟩ := ih (out ++ [v]) (p + 1) (by omega) (by simp; omega) (by omega) (by omega)
    refine ⟨vs, p', ?_, by omega, by omega, c⟩
    refine Ev.step (fun k => by rw [spec_l91Values.l0]) ?_
    simp only [if_pos (show (((d + 1 : Nat) : Int) > 0) by omega)]
    refine Ev.bind hv ?_
    have ew : wrap64 (((d + 1 : Nat) : Int) - 1) = (d : Int) := by rw [wrap_id (((d + 1 : Nat) : Int) - 1) (by omega) (by omega)]; omega
    simp only [if_pos (show out.length < 17592186044416 by omega), ew]
    exact hvs
theorem values_ev {l : List Int} (hl : byteL l) (hlen : l.length ≤ 1048576) (p : Int) (h0 : 0 ≤ p) (h1 : p + 20 ≤ 1099511627776) :
    ∃ vs p', Ev (fun k => spec_l91Values.f k l p) (vs, p') ∧ p ≤ p' ∧ p' ≤ p + 20 ∧ vs.length ≤ 11 := by
  obtain ⟨v, hv, v0, v1, v2⟩ := pick_ev hl hlen p 11 h0 (by omega)
  have v3 := v1 (by omega)
  obtain ⟨d, rfl⟩ := Int.eq_ofNat_of_zero_le v0
  obtain ⟨vs, p', hvs, a, b, c⟩ := values_loop hl hlen d [] (p + 1) (by omega) (by simp; omega) (by omega) (by omega)
  refine ⟨vs, p', ?_, by omega, by omega, c⟩
  unfold spec_l91Values.f
  exact Ev.bind hv hvs
end Go.Proofs.Ytooojligedlpeaa.G
end
section
namespace Go.Proofs.Ytooojligedlpeaa.G
open Go.RowKit Go.Proofs.YtooojligedlpeaaW.PrintWords
set_option linter.unusedVariables false
set_option linter.unusedSimpArgs false
def Rep (D : List Int → Int → Int → TR) (x : Int) (fs : List Fk) : Prop :=
  (∀ (pre post : List Int) (lk : Int), D (pre ++ (fs.map (·.f1) ++ post)) (pre.length : Int) lk = (x, true, ((pre.length + fs.length : Nat) : Int), lk)) ∧
  (∀ (pre : List Int) (m : Nat) (f : Fk) (lk : Int), fs[m]? = some f → D (pre ++ (fs.map (·.f1)).take m) (pre.length : Int) lk = (0, false, ((pre.length + m : Nat) : Int), f.f0))
theorem rep_get (n x : Int) : Rep (fun got a lk => getT got a lk n) x [⟨n, x⟩] := by
  refine ⟨fun pre post lk => ?_, fun pre m f lk hf => ?_⟩
  · have e : rd (pre ++ ([(⟨n, x⟩ : Fk)].map (·.f1) ++ post)) (pre.length : Int) = x := by
      simp [rd, List.getD_eq_getElem?_getD]
    show getT (pre ++ ([(⟨n, x⟩ : Fk)].map (·.f1) ++ post)) (pre.length : Int) lk n = _
    unfold getT
    rw [if_neg (by simp only [List.length_append, List.map_cons, List.map_nil, List.length_cons, List.length_nil]; omega), e]
    rfl
  · match m, hf with
    | 0, hf =>
      simp only [List.getElem?_cons_zero, Option.some.injEq] at hf
      subst hf
      unfold getT
      simp
    | m + 1, hf => simp at hf
theorem rep_pure (x : Int) : Rep (fun _ a lk => (x, true, a, lk)) x [] := ⟨fun pre post lk => rfl, fun pre m f lk hf => by simp at hf⟩
theorem rep_seq {D : List Int → Int → Int → TR} {E : List Int → Int → Int → Int → TR} {v u : Int} {fs gs : List Fk} (h : Rep D v fs) (g : Rep (fun got a lk => E got v a lk) u gs) : Rep (fun got a lk => seqT (D got a lk) (E got)) u (fs ++ gs) := by
  refine ⟨fun pre post lk => ?_, fun pre m f lk hf => ?_⟩
  · have e1 := h.1 pre (gs.map (·.f1) ++ post) lk
    have e2 := g.1 (pre ++ fs.map (·.f1)) post lk
    simp only at e2
    rw [List.map_append, List.append_assoc]
    simp only [e1, seqT, if_true]
    rw [show pre ++ (fs.map (·.f1) ++ (gs.map (·.f1) ++ post)) = (pre ++ fs.map (·.f1)) ++ (gs.map (·.f1) ++ post) by simp]
    rw [show ((pre.length + fs.length : Nat) : Int) = ((pre ++ fs.map (·.f1)).length : Int) by simp, e2]
    simp only [List.length_append, List.length_map]
    rw [Nat.add_assoc]
  · rw [List.map_append]
    by_cases hm : m < fs.length
    · rw [List.getElem?_append_left hm] at hf
      rw [List.take_append_of_le_length (by rw [List.length_map]; omega)]
      simp only [h.2 pre m f lk hf, seqT, Bool.false_eq_true, if_false]
    · rw [List.getElem?_append_right (by omega)] at hf
      have e0 : (fs.map (·.f1) ++ gs.map (·.f1)).take m = fs.map (·.f1) ++ (gs.map (·.f1)).take (m - fs.length) := by
        rw [List.take_append, List.length_map, List.take_of_length_le (by rw [List.length_map]; omega)]
      rw [e0]
      have e1 := h.1 pre ((gs.map (·.f1)).take (m - fs.length)) lk
      have e2 := g.2 (pre ++ fs.map (·.f1)) (m - fs.length) f lk hf
      simp only at e2
      simp only [e1, seqT, if_true]
      rw [← List.append_assoc]
      rw [show ((pre.length + fs.length : Nat) : Int) = ((pre ++ fs.map (·.f1)).length : Int) by simp, e2]
      simp only [List.length_append, List.length_map]
      rw [show pre.length + fs.length + (m - fs.length) = pre.length + m by omega]
theorem rep_congr {D D' : List Int → Int → Int → TR} {x : Int} {fs : List Fk} (h : Rep D x fs) (e : D' = D) : Rep D' x fs := e ▸ h
theorem rep_doT (vs : List Int) {t : Tk} (h : Fits t) : Rep (fun got a lk => doT got t a lk) (runT vs t).1 (runT vs t).2 := by
  induction h with
  | num n h0 h1 => rw [runT_num]; exact rep_congr (rep_pure n) (by funext got a lk; exact doT_num got n a lk)
  | get n h0 h1 => rw [runT_get]; exact rep_congr (rep_get n _) (by funext got a lk; exact doT_get got n a lk)
  | add x y _ _ ihx ihy =>
    rw [runT_add]
    have h := rep_seq (E := fun got v a lk => seqT (doT got y a lk) fun u a lk => ((v + u) % 97, true, a, lk)) ihx (rep_seq (E := fun got u a lk => (((runT vs x).1 + u) % 97, true, a, lk)) ihy (rep_pure _))
    rw [List.append_nil] at h
    exact rep_congr h (by funext got a lk; exact doT_add got x y a lk)
  | mul x y _ _ ihx ihy =>
    rw [runT_mul]
    have h := rep_seq (E := fun got v a lk => seqT (doT got y a lk) fun u a lk => ((v * u) % 97, true, a, lk)) ihx (rep_seq (E := fun got u a lk => (((runT vs x).1 * u) % 97, true, a, lk)) ihy (rep_pure _))
    rw [List.append_nil] at h
    exact rep_congr h (by funext got a lk; exact doT_mul got x y a lk)
  | iff x y z _ _ _ ihx ihy ihz =>
    by_cases hv : (runT vs x).1 = 0
    · rw [runT_if0 vs x y z hv]
      have h := rep_seq (E := fun got v a lk => if v = 0 then doT got z a lk else doT got y a lk) ihx (rep_congr ihz (by funext got a lk; rw [if_pos hv]))
      exact rep_congr h (by funext got a lk; exact doT_if got x y z a lk)
    · rw [runT_if1 vs x y z hv]
      have h := rep_seq (E := fun got v a lk => if v = 0 then doT got z a lk else doT got y a lk) ihx (rep_congr ihy (by funext got a lk; rw [if_neg hv]))
      exact rep_congr h (by funext got a lk; exact doT_if got x y z a lk)
  | «at» n h0 h1 x _ ihx =>
    rw [runT_at]
    have h := rep_seq (E := fun got v a lk => getT got a lk ((n + v) % 10)) ihx (rep_get ((n + (runT vs x).1) % 10) (atV vs ((n + (runT vs x).1) % 10)))
    exact rep_congr h (by funext got a lk; exact doT_at got n x a lk)
theorem runT_keys {vs : List Int} (hv : vs.all isVal = true) {t : Tk} (h : Fits t) : ∀ f ∈ (runT vs t).2, 0 ≤ f.f0 ∧ f.f0 ≤ 9 ∧ f.f1 = atV vs f.f0 := by
  induction h with
  | num n h0 h1 => rw [runT_num]; intro f hf; cases hf
  | get n h0 h1 =>
    rw [runT_get]
    intro f hf
    simp only [List.mem_singleton] at hf
    subst hf
    exact ⟨h0, h1, rfl⟩
  | add x y _ _ ihx ihy =>
    rw [runT_add]
    intro f hf
    rcases List.mem_append.1 hf with hf | hf
    · exact ihx f hf
    · exact ihy f hf
  | mul x y _ _ ihx ihy =>
    rw [runT_mul]
    intro f hf
    rcases List.mem_append.1 hf with hf | hf
    · exact ihx f hf
    · exact ihy f hf
  | iff x y z _ _ _ ihx ihy ihz =>
    by_cases hz : (runT vs x).1 = 0
    · rw [runT_if0 vs x y z hz]
      intro f hf
      rcases List.mem_append.1 hf with hf | hf
      · exact ihx f hf
      · exact ihz f hf
    · rw [runT_if1 vs x y z hz]
      intro f hf
      rcases List.mem_append.1 hf with hf | hf
      · exact ihx f hf
      · exact ihy f hf
  | «at» n h0 h1 x hx ihx =>
    rw [runT_at]
    have hval := runT_val hv hx
    intro f hf
    rcases List.mem_append.1 hf with hf | hf
    · exact ihx f hf
    · simp only [List.mem_singleton] at hf
      subst hf
      refine ⟨?_, ?_, rfl⟩ <;> simp only <;> omega
end Go.Proofs.Ytooojligedlpeaa.G
end
section
namespace Go.Proofs.Ytooojligedlpeaa.G
open Go.RowKit Go.Proofs.YtooojligedlpeaaW.PrintWords
set_option linter.unusedVariables false
set_option linter.unusedSimpArgs false
theorem allLoop {α : Type} (l : List α) (F : Nat → Int → Option Bool) (one : Nat → α → Option Bool) (p : α → Bool)
    (hend : ∀ k, F (k + 1) (l.length : Int) = some true)
    (hstep : ∀ k (i : Nat) (h : i < l.length), F (k + 1) (i : Int) = (one k l[i]).bind fun t => if t = true then F k ((i + 1 : Nat) : Int) else some false)
    (hone : ∀ x ∈ l, Ev (fun k => one k x) (p x)) : ∀ (d i : Nat), d = l.length - i → i ≤ l.length → Ev (fun k => F k (i : Int)) ((l.drop i).all p) := by
  intro d
  induction d with
  | zero =>
    intro i hd hi
    have e : i = l.length := by omega
    subst e
    refine Ev.step (fun k => hend k) ?_
    simp only [List.drop_length, List.all_nil]
    exact Ev.now true
  | succ d ihd =>
    intro i hd hi
    have hlt : i < l.length := by omega
    rw [drop_tk l i hlt, List.all_cons]
    refine Ev.step (fun k => hstep k i hlt) ?_
    refine Ev.bind (hone _ (List.getElem_mem hlt)) ?_
    cases hp : p l[i] with
    | true => simp only [if_true, Bool.true_and]; exact ihd (i + 1) (by omega) (by omega)
    | false => simp only [Bool.false_eq_true, if_false, Bool.false_and]; exact Ev.now false
theorem eqLoop {α : Type} (l : List α) (F : Nat → Int → Option Bool) (one : Nat → α → Option Bool)
    (hend : ∀ k, F (k + 1) (l.length : Int) = some true)
    (hstep : ∀ k (i : Nat) (h : i < l.length), F (k + 1) (i : Int) = (one k l[i]).bind fun t => if t = true then F k ((i + 1 : Nat) : Int) else some false)
    (hone : ∀ x ∈ l, Ev (fun k => one k x) true) : Ev (fun k => F k 0) true := by
  have h := allLoop l F one (fun _ => true) hend hstep hone l.length 0 (by omega) (by omega)
  simp only [List.drop_zero, List.all_eq_true, implies_true] at h
  exact Ev.eq h (by simp)
end Go.Proofs.Ytooojligedlpeaa.G
end
section
namespace Go.Proofs.Ytooojligedlpeaa.G
open Go.RowKit Go.Proofs.YtooojligedlpeaaW.PrintWords
set_option linter.unusedVariables false
set_option linter.unusedSimpArgs false
theorem rd_fkf (l : List Fk) (i : Nat) (h : i < l.length) : rd_T49 l (i : Int) = l[i] := by
  simp only [rd_T49, Int.toNat_natCast, List.getD_eq_getElem?_getD, List.getElem?_eq_getElem h, Option.getD_some]
def valsOkF (l : List Int) : Bool := decide (l.length ≤ 10) && l.all isVal
theorem implValsF_ev (l : List Int) : impl_valuesOk.f l = some (valsOkF l) := by
  unfold impl_valuesOk.f valsOkF impl_areValues.f
  by_cases h : l.length ≤ 10
  · rw [if_pos (by omega)]; simp [h]
  · rw [if_neg (by omega)]; simp [h]
def fetL (t : Tk) (vs : List Int) : List Fk := if okT t = true ∧ valsOkF vs = true then (runT vs t).2 else []
theorem fetL_len (t : Tk) (vs : List Int) : (fetL t vs).length ≤ 15 := by
  unfold fetL
  split
  · rename_i h
    have h1 := runT_len vs (fits_of t (okT_fit h.1))
    have h2 := okT_nod h.1
    omega
  · simp
theorem implFet_ev (t : Tk) (vs : List Int) : Ev (fun k => impl_TaskFetches.f k t.f0 t.f1 t.f2 vs) (fetL t vs, okT t && valsOkF vs) := by
  unfold impl_TaskFetches.f
  refine Ev.bind (implOk_ev t) ?_
  cases ht : okT t with
  | false =>
    simp only [Bool.false_eq_true, if_false, Bool.false_and]
    exact Ev.eq (Ev.now _) (by simp [fetL, ht])
  | true =>
    simp only [if_true, implValsF_ev, Option.bind_some, Bool.true_and]
    cases hv : valsOkF vs with
    | false =>
      simp only [Bool.false_eq_true, if_false]
      exact Ev.eq (Ev.now _) (by simp [fetL, hv])
    | true =>
      simp only [if_true]
      have hva : vs.all isVal = true := by simp only [valsOkF, Bool.and_eq_true] at hv; exact hv.2
      have hn := okT_nod ht
      have e : (⟨t.f0, t.f1, t.f2⟩ : Tk) = t := by cases t; rfl
      have hf : impl_Task_fetched.f t.f0 t.f1 t.f2 vs = some (runT vs t) := by
        unfold impl_Task_fetched.f
        rw [e, if_pos ⟨okT_fit ht, hva, by omega⟩]
      simp only [hf, Option.bind_some]
      exact Ev.eq (Ev.now _) (by simp [fetL, ht, hv])
end Go.Proofs.Ytooojligedlpeaa.G
end
section
namespace Go.Proofs.Ytooojligedlpeaa.G
open Go.RowKit Go.Proofs.YtooojligedlpeaaW.PrintWords
set_option linter.unusedVariables false
set_option linter.unusedSimpArgs false
theorem l2OfR_ev (l : List Int) (k : Int) (h : 0 ≤ k) : spec_l2Of.f l k = some (atV l k) := by
  unfold spec_l2Of.f atV
  by_cases h2 : k < (l.length : Int)
  · rw [if_pos h2, if_pos h, if_pos ⟨h, h2⟩]
  · rw [if_neg h2, if_neg (by omega)]
theorem rd_intR (l : List Int) (i : Nat) (h : i < l.length) : rd l (i : Int) = l[i] := by
  simp only [rd, Int.toNat_natCast, List.getD_eq_getElem?_getD, List.getElem?_eq_getElem h, Option.getD_some]
theorem specValsR_ev (l : List Int) : Ev (fun k => spec_l2Values.f k l) (valsOkF l) := by
  unfold spec_l2Values.f valsOkF
  by_cases h : l.length ≤ 10
  · simp only [if_neg (show ¬ ((l.length : Int) > 10) by omega)]
    have h1 := allLoop l (fun k i => spec_l2Values.l0 k l i) (fun _ x => spec_l6In.f x 0 96) isVal
      (fun k => by simp only [spec_l2Values.l0, if_neg (show ¬ ((l.length : Int) < (l.length : Int)) by omega)])
      (fun k i hi => by simp only [spec_l2Values.l0, if_pos (show (i : Int) < (l.length : Int) by omega), if_pos (show (0 : Int) ≤ (i : Int) by omega), rd_intR l i hi, wrap_nat i (by omega)])
      (fun x hx => Ev.of_eq (by
        unfold spec_l6In.f isVal
        by_cases g : x ≥ 0
        · rw [if_pos g]; simp only [ge_iff_le] at g; simp [g]
        · rw [if_neg g]; simp only [ge_iff_le] at g; simp [g]))
      l.length 0 (by omega) (by omega)
    refine Ev.eq h1 ?_
    simp [h]
  · simp only [if_pos (show (l.length : Int) > 10 by omega)]
    refine Ev.eq (Ev.now false) ?_
    simp [h]
theorem next_f (t : Tk) (hf : fitT t = true) (got : List Int) (hg : got.all isVal = true) (hl : got.length ≤ 1000000) : spec_l2Next.f t.f0 t.f1 t.f2 got = some ((doT got t 0 0).1, (doT got t 0 0).2.2.2, (doT got t 0 0).2.1) := by
  have e : (⟨t.f0, t.f1, t.f2⟩ : Tk) = t := by cases t; rfl
  unfold spec_l2Next.f
  rw [e, if_pos ⟨hf, hg, hl⟩]
theorem run_loop (vs : List Int) (hv : vs.all isVal = true) (t : Tk) (hf : fitT t = true) (hn : (runT vs t).2.length ≤ 1000) :
    ∀ (d i : Nat), d = (runT vs t).2.length - i → i ≤ (runT vs t).2.length →
      Ev (fun k => spec_l2Run.l0 k vs ((runT vs t).2.take i) (((runT vs t).2.take i).map (·.f1)) (doT (((runT vs t).2.take i).map (·.f1)) t 0 0).1 (doT (((runT vs t).2.take i).map (·.f1)) t 0 0).2.2.2 (doT (((runT vs t).2.take i).map (·.f1)) t 0 0).2.1 t.f0 t.f1 t.f2) (runT vs t) := by
  have hrep := rep_doT vs (fits_of t hf)
  have hkeys := runT_keys hv (fits_of t hf)
  have hall : ∀ i, (((runT vs t).2.take i).map (·.f1)).all isVal = true := by
    intro i
    rw [List.all_eq_true]
    intro x hx
    obtain ⟨f, hfm, rfl⟩ := List.mem_map.1 hx
    have h1 := hkeys f (List.mem_of_mem_take hfm)
    have h2 := atV_val hv f.f0
    simp only [isVal, decide_eq_true_eq]
    rw [h1.2.2]
    exact h2
  intro d
  induction d with
  | zero =>
    intro i hd hi
    have e : i = (runT vs t).2.length := by omega
    subst e
    rw [List.take_length]
    have h := hrep.1 [] [] 0
    simp only [List.nil_append, List.append_nil, List.length_nil, Int.natCast_zero, Int.ofNat_zero] at h
    have h' : doT ((runT vs t).2.map (·.f1)) t 0 0 = ((runT vs t).1, true, ((0 + (runT vs t).2.length : Nat) : Int), 0) := h
    rw [h']
    refine Ev.step (fun k => by rw [spec_l2Run.l0]) ?_
    simp only [if_true]
    exact Ev.now _
  | succ d ihd =>
    intro i hd hi
    have hlt : i < (runT vs t).2.length := by omega
    have h := hrep.2 [] i (runT vs t).2[i] 0 (List.getElem?_eq_getElem hlt)
    simp only [List.nil_append, List.length_nil, Int.natCast_zero, Int.ofNat_zero] at h
    rw [← List.map_take] at h
    have h' : doT (((runT vs t).2.take i).map (·.f1)) t 0 0 = (0, false, ((0 + i : Nat) : Int), ((runT vs t).2[i]).f0) := h
    rw [h']
    have hk := hkeys _ (List.getElem_mem hlt)
    have e1 : ((runT vs t).2.take i).map (·.f1) ++ [atV vs ((runT vs t).2[i]).f0] = ((runT vs t).2.take (i + 1)).map (·.f1) := by
      rw [List.take_succ_eq_append_getElem hlt, List.map_append, List.map_singleton, hk.2.2]
    have e2 : (runT vs t).2.take i ++ [(⟨((runT vs t).2[i]).f0, atV vs ((runT vs t).2[i]).f0⟩ : Fk)] = (runT vs t).2.take (i + 1) := by
      rw [List.take_succ_eq_append_getElem hlt]
      congr 2
      rw [← hk.2.2]
    refine Ev.step (fun k => by rw [spec_l2Run.l0]) ?_
    simp only [Bool.false_eq_true, if_false, l2OfR_ev vs _ hk.1, Option.bind_some]
    simp only [if_pos (show ((runT vs t).2.take i).length < 8796093022208 by rw [List.length_take]; omega), if_pos (show (((runT vs t).2.take i).map (·.f1)).length < 17592186044416 by rw [List.length_map, List.length_take]; omega), e1, e2]
    simp only [next_f t hf _ (hall (i + 1)) (by rw [List.length_map, List.length_take]; omega), Option.bind_some]
    exact ihd (i + 1) (by omega) (by omega)
theorem l2Run_ev (vs : List Int) (hv : vs.all isVal = true) (t : Tk) (hf : fitT t = true) (hn : nodT t ≤ 1000) : Ev (fun k => spec_l2Run.f k t.f0 t.f1 t.f2 vs) (runT vs t) := by
  unfold spec_l2Run.f
  have hl := runT_len vs (fits_of t hf)
  simp only [Option.bind_some, next_f t hf [] (by rfl) (by simp)]
  have h := run_loop vs hv t hf (by omega) (runT vs t).2.length 0 (by omega) (by omega)
  simp only [List.take_zero, List.map_nil] at h
  exact h
end Go.Proofs.Ytooojligedlpeaa.G
end
section
namespace Go.Proofs.Ytooojligedlpeaa.G
open Go.RowKit Go.Proofs.YtooojligedlpeaaW.PrintWords
set_option linter.unusedVariables false
set_option linter.unusedSimpArgs false
theorem specFet_ev (t : Tk) (hb : (nodT t : Int) ≤ 4000000000) (vs : List Int) : Ev (fun k => spec_TaskFetches.f k t.f0 t.f1 t.f2 vs) (fetL t vs, okT t && valsOkF vs) := by
  unfold spec_TaskFetches.f
  refine Ev.bind (specOk_ev t hb) ?_
  cases ht : okT t with
  | false =>
    simp only [Bool.false_eq_true, if_false, Bool.false_and]
    exact Ev.eq (Ev.now _) (by simp [fetL, ht])
  | true =>
    simp only [if_true, Bool.true_and]
    refine Ev.bind (specValsR_ev vs) ?_
    cases hv : valsOkF vs with
    | false =>
      simp only [Bool.false_eq_true, if_false]
      exact Ev.eq (Ev.now _) (by simp [fetL, hv])
    | true =>
      simp only [if_true]
      have hva : vs.all isVal = true := by simp only [valsOkF, Bool.and_eq_true] at hv; exact hv.2
      refine Ev.bind (l2Run_ev vs hva t (okT_fit ht) (by have := okT_nod ht; omega)) ?_
      exact Ev.eq (Ev.now _) (by simp [fetL, ht, hv])
theorem brFetches_self (l : List Fk) (hl : l.length ≤ 4000000000) : Ev (fun k => laws_brFetches.f k l l) true := by
  unfold laws_brFetches.f
  simp only [if_true]
  exact eqLoop l (fun k i => laws_brFetches.l0 k l l i) (fun _ x => some true)
    (fun k => by simp only [laws_brFetches.l0, if_neg (show ¬ ((l.length : Int) < (l.length : Int)) by omega)])
    (fun k i hi => by simp only [laws_brFetches.l0, if_pos (show (i : Int) < (l.length : Int) by omega), if_pos (show (0 : Int) ≤ (i : Int) by omega), rd_fkf l i hi, wrap_nat i (by omega), Option.bind_some, if_true, beq_self_eq_true, Bool.not_true, Bool.or_self, Bool.false_eq_true, if_false])
    (fun x hx => Ev.of_eq rfl)
theorem fetL_keys (t : Tk) (vs : List Int) : ∀ f ∈ fetL t vs, 0 ≤ f.f0 ∧ f.f0 ≤ 9 ∧ f.f1 = atV vs f.f0 := by
  unfold fetL
  split
  · rename_i h
    have hva : vs.all isVal = true := by have h2 := h.2; simp only [valsOkF, Bool.and_eq_true] at h2; exact h2.2
    exact runT_keys hva (fits_of t (okT_fit h.1))
  · intro f hf; cases hf
theorem ev_FnTaskFetches (l : List Int) (hl : byteL l) : Ev (fun k => laws_FnTaskFetches.f k l) true := by
  unfold laws_FnTaskFetches.f
  by_cases h20 : (l.length : Int) > 1048576
  · simp only [if_pos h20]; exact Ev.now true
  · simp only [if_neg h20]
    obtain ⟨l', ho, hl', hlen'⟩ := open_ev hl
    obtain ⟨t, p', ht, a, b, hn⟩ := any_task_ev hl' (by omega) 0 (by omega) (by omega)
    obtain ⟨vs, p2, hvs, a2, b2, hvl⟩ := values_ev hl' (by omega) p' (by omega) (by omega)
    have hdraw : Ev (fun k => spec_DrawTaskFetches.f k l) (t.f0, t.f1, t.f2, vs) := by
      unfold spec_DrawTaskFetches.f
      refine Ev.bind (Ev.of_eq ho) ?_
      refine Ev.bind ht ?_
      exact Ev.bind hvs (Ev.now _)
    have hfl := fetL_len t vs
    have hfk := fetL_keys t vs
    refine Ev.bind hdraw ?_
    refine Ev.bind (implFet_ev t vs) ?_
    refine Ev.bind (specFet_ev t (by omega) vs) ?_
    refine Ev.bind (brFetches_self (fetL t vs) (by omega)) ?_
    simp only [if_true, bne_self_eq_false]
    refine Ev.step (fun k => by rw [laws_FnTaskFetches.j0]) ?_
    simp only [Bool.false_eq_true, if_false]
    generalize fetL t vs = fs at *
    refine eqLoop fs (fun k i => laws_FnTaskFetches.l0 k vs fs i) (fun _ x => some true)
      (fun k => by simp only [laws_FnTaskFetches.l0, if_neg (show ¬ ((fs.length : Int) < (fs.length : Int)) by omega)])
      (fun k i hi => ?_)
      (fun x hx => Ev.of_eq rfl)
    have h1 := hfk _ (List.getElem_mem hi)
    simp only [laws_FnTaskFetches.l0, if_pos (show (i : Int) < (fs.length : Int) by omega), if_pos (show (0 : Int) ≤ (i : Int) by omega), rd_fkf fs i hi, wrap_nat i (by omega), Option.bind_some, if_true]
    by_cases hlt : (fs[i]).f0 < (vs.length : Int)
    · have e : rd vs (fs[i]).f0 = (fs[i]).f1 := by
        rw [h1.2.2, atV, if_pos ⟨h1.1, hlt⟩]
      rw [if_pos hlt, if_pos h1.1, if_pos e]
    · have e : (0 : Int) = (fs[i]).f1 := by
        rw [h1.2.2, atV, if_neg (by omega)]
      rw [if_neg hlt, if_pos e]
end Go.Proofs.Ytooojligedlpeaa.G
namespace Go.Proofs.Ytooojligedlpeaa.Pure
open Go.RowKit Go.Proofs.Ytooojligedlpeaa.G Go.Proofs.YtooojligedlpeaaW.PrintWords Go.Proofs.YtooojligedlpeaaW.PrintLast
theorem FnTaskFetches : laws_FnTaskFetches.Pure := fun l0 _ _ hw => Ev.rounds (ev_FnTaskFetches l0 (byteL_of hw))
end Go.Proofs.Ytooojligedlpeaa.Pure
end
