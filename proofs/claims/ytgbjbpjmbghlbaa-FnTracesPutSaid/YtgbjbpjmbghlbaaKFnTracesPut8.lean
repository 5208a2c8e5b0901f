-- Written by pack.py (ours): the claim's texts, cut down to what its theorem reaches.
import Derived.Test.YtgbjbpjmbghlbaaKFnTracesPut7
section
namespace Go.Proofs.Ytgbjbpjmbghlbaa.G
open Go.RowKit Go.Proofs.YtgbjbpjmbghlbaaW.PrintWords Go.Proofs.YtgbjbpjmbghlbaaW.PrintLast Go.Proofs.YtgbjbpjmbghlbaaW.PrintMore
attribute [local go_sem] max2_int min2_int max_two min_two max_three min_three max_four min_four
set_option linter.unusedVariables false
set_option linter.unusedSimpArgs false
mutual
def laws_FnTracesPut.j0 : Nat → List (S87) → Bool → Bool → Int → List (S117) → Int → Option (Bool)
  | 0, _, _, _, _, _, _ => none
  | k + 1, x5, x6, x41, x1184000, x1184001, x1184002 => if x41 = true then (none) else (laws_FnTracesPut.l0 k x5 x6 0 0 x1184000 x1184001 x1184002)
def laws_FnTracesPut.l0 : Nat → List (S87) → Bool → Int → Int → Int → List (S117) → Int → Option (Bool)
  | 0, _, _, _, _, _, _, _ => none
  | k + 1, x5, x6, x9, x10, x1184000, x1184001, x1184002 => if x10 < (x5.length : Int) then (if 0 ≤ x10 then ((laws_brTrace.f k ((rd_T87 x5 x10).f0) ((rd_T87 x5 x10).f1) ((rd_T87 x5 x10).f2) x1184000 x1184001 x1184002).bind fun t1194 => (if t1194 = true then (laws_FnTracesPut.l0 k x5 x6 (wrap64 (x9 + 1)) (wrap64 (x10 + 1)) x1184000 x1184001 x1184002) else (laws_FnTracesPut.l0 k x5 x6 x9 (wrap64 (x10 + 1)) x1184000 x1184001 x1184002))) else (none)) else ((impl_TracesPut.f k x5 x1184000 x1184001 x1184002).bind fun bt1195 => (if x6 = true then (if x9 ≥ 1 then (if bt1195.2 = true then ((laws_brTraces.f k bt1195.1 x5).bind fun t1199 => (if t1199 = true then ((impl_TracesOk.f x5).bind fun t1200 => (some t1200)) else (none))) else (none)) else (none)) else (some true)))
end
def laws_FnTracesPut.f (k : Nat) (l0 : List Int) : Option (Bool) := if (l0.length : Int) > 1048576 then (some true) else ((spec_DrawTracesPut.f k l0).bind fun bt1175 => ((impl_TracesPut.f k bt1175.1 bt1175.2.1 bt1175.2.2.1 bt1175.2.2.2).bind fun bt1184 => ((spec_TracesPut.f k bt1175.1 bt1175.2.1 bt1175.2.2.1 bt1175.2.2.2).bind fun bt1188 => ((laws_brTraces.f k bt1184.1 bt1188.1).bind fun t1192 => (if t1192 = true then (laws_FnTracesPut.j0 k bt1184.1 bt1184.2 (bt1184.2 != bt1188.2) bt1175.2.1 bt1175.2.2.1 bt1175.2.2.2) else (laws_FnTracesPut.j0 k bt1184.1 bt1184.2 true bt1175.2.1 bt1175.2.2.1 bt1175.2.2.2))))))
set_option maxHeartbeats 8000000 in
set_option maxRecDepth 100000 in
theorem laws_FnTracesPut.calls (k : Nat) (A0 : Option Addr) (c0 : Nat) (l0 : List Int) (r : Bool) (w : World) (hr0 : Kd.C (Kd.int .u8) w A0 l0.length l0) (hc0 : l0.length ≤ c0) (h : laws_FnTracesPut.f k l0 = some r) :
    Calls Try.prog 13 #[.slice A0 l0.length c0] w fun e w' => e = .returned (.bool r) ∧ Below w.heap.size w w' := by
  have hu87 := Try.underlying87
  have HR0 := Aside0.mk hr0
  have HC0 := Aside0.mk hc0
  clear hr0 hc0
  have HB := Aside0.mk (Below.refl w.heap.size w)
  have H : (if (l0.length : Int) > 1048576 then (some true) else ((spec_DrawTracesPut.f k l0).bind fun bt1175 => ((impl_TracesPut.f k bt1175.1 bt1175.2.1 bt1175.2.2.1 bt1175.2.2.2).bind fun bt1184 => ((spec_TracesPut.f k bt1175.1 bt1175.2.1 bt1175.2.2.1 bt1175.2.2.2).bind fun bt1188 => ((laws_brTraces.f k bt1184.1 bt1188.1).bind fun t1192 => (if t1192 = true then (laws_FnTracesPut.j0 k bt1184.1 bt1184.2 (bt1184.2 != bt1188.2) bt1175.2.1 bt1175.2.2.1 bt1175.2.2.2) else (laws_FnTracesPut.j0 k bt1184.1 bt1184.2 true bt1175.2.1 bt1175.2.2.1 bt1175.2.2.2))))))) = some r := h
  clear h
  by_cases c2 : (l0.length : Int) > 1048576
  · rw [if_pos c2] at H
    have c2b0 : decide (1048576 < (l0.length : Int)) = true := decide_eq_true c2
    have c2b1 : decide (1048576 < l0.length) = true := decide_eq_true (by omega)
    clear c2
    obtain rfl := Option.some.inj H
    go_enter Try.func13, Try.ntmps13
    go_wp2
    go_ret
    exact ⟨by first | rfl | (simp [errW_none, errW_some] <;> rfl) | (simp [*, errW_none, errW_some] <;> rfl), by repeat (first | (with_reducible first | exact HB.out | apply below_alloc | apply pw_below_drewN | apply below_drew1) | exact HB.out)⟩
  · rw [if_neg c2] at H
    have c2b0 : decide (1048576 < (l0.length : Int)) = false := decide_eq_false c2
    have c2b1 : decide (1048576 < l0.length) = false := decide_eq_false (by omega)
    clear c2
    replace H := Option.bind_eq_some_iff.mp H
    obtain ⟨⟨t1175, t1178, t1179, t1182⟩, A30, H⟩ := H
    replace H : ((impl_TracesPut.f k t1175 t1178 t1179 t1182).bind fun bt1184 => ((spec_TracesPut.f k t1175 t1178 t1179 t1182).bind fun bt1188 => ((laws_brTraces.f k bt1184.1 bt1188.1).bind fun t1192 => (if t1192 = true then (laws_FnTracesPut.j0 k bt1184.1 bt1184.2 (bt1184.2 != bt1188.2) t1178 t1179 t1182) else (laws_FnTracesPut.j0 k bt1184.1 bt1184.2 true t1178 t1179 t1182))))) = some r := H
    have A3 := Aside0.mk A30
    clear A30
    replace H := Option.bind_eq_some_iff.mp H
    obtain ⟨⟨t1184, t1187⟩, A40, H⟩ := H
    replace H : ((spec_TracesPut.f k t1175 t1178 t1179 t1182).bind fun bt1188 => ((laws_brTraces.f k t1184 bt1188.1).bind fun t1192 => (if t1192 = true then (laws_FnTracesPut.j0 k t1184 t1187 (t1187 != bt1188.2) t1178 t1179 t1182) else (laws_FnTracesPut.j0 k t1184 t1187 true t1178 t1179 t1182)))) = some r := H
    have A4 := Aside0.mk A40
    clear A40
    replace H := Option.bind_eq_some_iff.mp H
    obtain ⟨⟨t1188, t1191⟩, A50, H⟩ := H
    replace H : ((laws_brTraces.f k t1184 t1188).bind fun t1192 => (if t1192 = true then (laws_FnTracesPut.j0 k t1184 t1187 (t1187 != t1191) t1178 t1179 t1182) else (laws_FnTracesPut.j0 k t1184 t1187 true t1178 t1179 t1182))) = some r := H
    have A5 := Aside0.mk A50
    clear A50
    have HC6 := Aside0.mk H
    clear H
    go_enter Try.func13, Try.ntmps13
    go_upto_region 6 with (first | ((with_reducible refine gate_callee (f := 60) rfl ?_); refine goesL_ (some 18) rfl rfl Try.func60 (by kernel_rfl) rfl #[.slice A0 l0.length c0] rfl (by (try simp only [List.map_toArray, List.map_cons, List.map_nil]); first | done | rfl | (simp only [List.length_drop, List.length_take]; rfl)) ?_; (with_reducible refine (spec_DrawTracesPut.calls k _ _ l0 t1175 t1178 t1179 t1182 _ ?side1 ?side2 A3.out).mono ?_); (case side1 => repeat (first | exact HR0.out | (with_reducible refine Kd.C_alloc ?_ _) | (with_reducible refine Kd.C_drewN ?_ _) | (with_reducible refine Kd.C_drew ?_))); (case side2 => exact HC0.out); rintro e w7 ⟨v1176, v1180, rfl, ho0, ho1, hb⟩; refine ⟨_, rfl, ?_⟩; have n0_ := Aside0.mk (Kd.S_lower ho0 (below_size (by repeat (first | (with_reducible first | exact HB.out | apply below_alloc | apply pw_below_drewN | apply below_drew1) | exact HB.out)))); have n1_ := Aside0.mk (Kd.R_lower ho1 (below_size (by repeat (first | (with_reducible first | exact HB.out | apply below_alloc | apply pw_below_drewN | apply below_drew1) | exact HB.out)))); have n2_ := Aside0.mk (below_step (by repeat (first | (with_reducible first | exact HB.out | apply below_alloc | apply pw_below_drewN | apply below_drew1) | exact HB.out)) hb); clear HB; have HO1177 := n0_; have HO1181 := n1_; have HB := n2_; clear n0_ n1_ n2_; (try clear hb); (try clear hb2); (try clear hk); (try clear hi); (try clear ho0); (try clear ho1)) | ((with_reducible refine gate_dst (N := 4) rfl ?_); refine box_event ?hg (N := 4) ?hd (cs := #[.int .i64 0, .slice none 0 0, .int .i64 0]) (t := 87) ?hr ?_; (case hd => rfl); (case hg => rfl); (case hr => first | (go_simp; done) | (go_simp; rfl)); intro gb1183 hg w8 hbox hb; have n0_ := Aside0.mk (Kd.S_below (Kd.S_elderB (by (with_reducible repeat (first | apply Kd.S_alloc | apply Kd.S_drewN | apply Kd.S_drew)); exact HO1177.out) gb1183 (Nat.le_of_eq hg.symm)) hb); have n1_ := Aside0.mk (Kd.R_below (by (with_reducible repeat (first | apply Kd.R_alloc | apply Kd.R_drewN | apply Kd.R_drew)); exact HO1181.out) hb); have n2_ := Aside0.mk (below_step (by repeat (first | (with_reducible first | exact HB.out | apply below_alloc | apply pw_below_drewN | apply below_drew1) | exact HB.out)) hb); have n3_ := Aside0.mk (hbox); have n4_ := Aside0.mk ((by rw [hg]; exact (below_size (by repeat (first | (with_reducible first | exact HB.out | apply below_alloc | apply pw_below_drewN | apply below_drew1) | exact HB.out))) : w.heap.size ≤ gb1183)); have n5_ := Aside0.mk ((by rw [hg]; exact (below_size (by repeat (first | (with_reducible first | exact HB.out | apply below_alloc | apply pw_below_drewN | apply below_drew1) | exact HB.out))) : w.heap.size ≤ gb1183)); clear HO1177; clear HO1181; clear HB; have HO1177 := n0_; have HO1181 := n1_; have HB := n2_; have BK1183 := n3_; have GW1183 := n4_; have GE1183 := n5_; clear n0_ n1_ n2_ n3_ n4_ n5_; clear hb hbox hg; have hcz9_0 : w8.cell? ⟨gb1183, 0, none⟩ = some (.int .i64 0) := (blk_cell BK1183.out 0).trans rfl; have hcz9_1 : w8.cell? ⟨gb1183, 1, none⟩ = some (.slice none 0 0) := (blk_cell BK1183.out 1).trans rfl; have hcz9_2 : w8.cell? ⟨gb1183, 2, none⟩ = some (.int .i64 0) := (blk_cell BK1183.out 2).trans rfl; have hfz9_0 := blk_frozen BK1183.out 0; have hfz9_1 := blk_frozen BK1183.out 1; have hfz9_2 := blk_frozen BK1183.out 2; obtain ⟨Ao10, co10, eo10⟩ := Kd.R_slice HO1181.out; subst eo10; obtain ⟨Ao11, co11, eo11⟩ := Kd.S_slice HO1177.out; subst eo11) | ((with_reducible refine gate_callee (f := 55) rfl ?_); refine goesL_ (some 24) rfl rfl Try.func55 (by kernel_rfl) rfl #[.slice Ao11 t1175.length co11, .agg #[.int .i64 t1178, .slice Ao10 t1179.length co10, .int .i64 t1182]] rfl (by (try simp only [List.map_toArray, List.map_cons, List.map_nil]); first | done | rfl | (simp only [List.length_drop, List.length_take]; rfl)) ?_; (with_reducible refine (impl_TracesPut.calls k _ _ t1175 t1178 _ _ t1179 t1182 t1184 t1187 _ ?side1 ?side2 ?side3 ?side4 A4.out).mono ?_); (case side1 => refine (Kd.S_reads' (e := 87) (base := w.heap.size) (ok := fun k_ => (True ∧ k_ ≠ gb1183)) (n := t1175.length) (c := co11) ?_).2.2; exact (by (with_reducible repeat (first | apply Kd.S_alloc | apply Kd.S_drewN | apply Kd.S_drew)); exact (Kd.S_mono (Kd.S_far (p := ⟨gb1183, 2, none⟩) (Kd.S_far (p := ⟨gb1183, 1, none⟩) (Kd.S_far (p := ⟨gb1183, 0, none⟩) (Kd.S_mono HO1177.out (fun k_ hk => (⟨hk, hk.2⟩ : _ ∧ k_ ≠ gb1183))) (fun _ hk => hk.2) (.int .i64 t1178)) (fun _ hk => hk.2) (.slice Ao10 t1179.length co10)) (fun _ hk => hk.2) (.int .i64 t1182)) (fun _ h_ => h_.1)))); (case side2 => exact (Kd.S_reads' HO1177.out).2.1); (case side3 => refine (Kd.R_reads' (e := 117) (base := w.heap.size) (ok := fun k_ => True) (n := t1179.length) (c := co10) ?_).2.2; exact (by (with_reducible repeat (first | apply Kd.R_alloc | apply Kd.R_drewN | apply Kd.R_drew)); exact (Kd.R_mono (Kd.R_far (p := ⟨gb1183, 2, none⟩) (Kd.R_far (p := ⟨gb1183, 1, none⟩) (Kd.R_far (p := ⟨gb1183, 0, none⟩) (Kd.R_types HO1181.out BK1183.out (by decide)) (fun _ hk => hk.2) (.int .i64 t1178)) (fun _ hk => hk.2) (.slice Ao10 t1179.length co10)) (fun _ hk => hk.2) (.int .i64 t1182)) (fun _ h_ => h_.1)))); (case side4 => exact (Kd.R_reads' HO1181.out).2.1); rintro e w12 ⟨v1185, rfl, ho0, hb⟩; refine ⟨_, rfl, ?_⟩; have n0_ := Aside0.mk (Kd.S_elder' (by (with_reducible repeat (first | apply Kd.S_alloc | apply Kd.S_drewN | apply Kd.S_drew)); exact (Kd.S_mono (Kd.S_far (p := ⟨gb1183, 2, none⟩) (Kd.S_far (p := ⟨gb1183, 1, none⟩) (Kd.S_far (p := ⟨gb1183, 0, none⟩) (Kd.S_mono HO1177.out (fun k_ hk => (⟨hk, hk.2⟩ : _ ∧ k_ ≠ gb1183))) (fun _ hk => hk.2) (.int .i64 t1178)) (fun _ hk => hk.2) (.slice Ao10 t1179.length co10)) (fun _ hk => hk.2) (.int .i64 t1182)) (fun _ h_ => h_.1))) (Kd.S_base ho0) hb); have n1_ := Aside0.mk (Kd.R_below (by (with_reducible repeat (first | apply Kd.R_alloc | apply Kd.R_drewN | apply Kd.R_drew)); exact (Kd.R_mono (Kd.R_far (p := ⟨gb1183, 2, none⟩) (Kd.R_far (p := ⟨gb1183, 1, none⟩) (Kd.R_far (p := ⟨gb1183, 0, none⟩) (Kd.R_types HO1181.out BK1183.out (by decide)) (fun _ hk => hk.2) (.int .i64 t1178)) (fun _ hk => hk.2) (.slice Ao10 t1179.length co10)) (fun _ hk => hk.2) (.int .i64 t1182)) (fun _ h_ => h_.1))) hb); have n2_ := Aside0.mk (Kd.S_lower (Kd.S_newB (Kd.S_new' (Kd.S_new' ho0 (Kd.S_lt (by (with_reducible repeat (first | apply Kd.S_alloc | apply Kd.S_drewN | apply Kd.S_drew)); exact (Kd.S_mono (Kd.S_far (p := ⟨gb1183, 2, none⟩) (Kd.S_far (p := ⟨gb1183, 1, none⟩) (Kd.S_far (p := ⟨gb1183, 0, none⟩) (Kd.S_mono HO1177.out (fun k_ hk => (⟨hk, hk.2⟩ : _ ∧ k_ ≠ gb1183))) (fun _ hk => hk.2) (.int .i64 t1178)) (fun _ hk => hk.2) (.slice Ao10 t1179.length co10)) (fun _ hk => hk.2) (.int .i64 t1182)) (fun _ h_ => h_.1))))) (Kd.R_lt (by (with_reducible repeat (first | apply Kd.R_alloc | apply Kd.R_drewN | apply Kd.R_drew)); exact (Kd.R_mono (Kd.R_far (p := ⟨gb1183, 2, none⟩) (Kd.R_far (p := ⟨gb1183, 1, none⟩) (Kd.R_far (p := ⟨gb1183, 0, none⟩) (Kd.R_types HO1181.out BK1183.out (by decide)) (fun _ hk => hk.2) (.int .i64 t1178)) (fun _ hk => hk.2) (.slice Ao10 t1179.length co10)) (fun _ hk => hk.2) (.int .i64 t1182)) (fun _ h_ => h_.1))))) (g := gb1183) (o := .cells #[.int .i64 t1178, .slice Ao10 t1179.length co10, .int .i64 t1182] 87 (0, 0)) (by (with_reducible repeat (first | refine blk_drewN ?_ _ | refine blk_drew ?_ | refine blk_alloc ?_ _)); refine blk_put (cs := #[.int .i64 t1178, .slice Ao10 t1179.length co10, .int .i64 0]) ?_ 2 _ rfl; (with_reducible repeat (first | refine blk_drewN ?_ _ | refine blk_drew ?_ | refine blk_alloc ?_ _)); refine blk_put (cs := #[.int .i64 t1178, .slice none 0 0, .int .i64 0]) ?_ 1 _ rfl; (with_reducible repeat (first | refine blk_drewN ?_ _ | refine blk_drew ?_ | refine blk_alloc ?_ _)); refine blk_put (cs := #[.int .i64 0, .slice none 0 0, .int .i64 0]) ?_ 0 _ rfl; (with_reducible repeat (first | refine blk_drewN ?_ _ | refine blk_drew ?_ | refine blk_alloc ?_ _)); exact BK1183.out)) (below_size (by repeat (first | (with_reducible first | exact HB.out | apply below_alloc | apply pw_below_drewN | apply below_drew1 | refine below_set ?_ GE1183.out) | exact HB.out)))); have n3_ := Aside0.mk (blk_below (g := gb1183) (o := .cells #[.int .i64 t1178, .slice Ao10 t1179.length co10, .int .i64 t1182] 87 (0, 0)) (by (with_reducible repeat (first | refine blk_drewN ?_ _ | refine blk_drew ?_ | refine blk_alloc ?_ _)); refine blk_put (cs := #[.int .i64 t1178, .slice Ao10 t1179.length co10, .int .i64 0]) ?_ 2 _ rfl; (with_reducible repeat (first | refine blk_drewN ?_ _ | refine blk_drew ?_ | refine blk_alloc ?_ _)); refine blk_put (cs := #[.int .i64 t1178, .slice none 0 0, .int .i64 0]) ?_ 1 _ rfl; (with_reducible repeat (first | refine blk_drewN ?_ _ | refine blk_drew ?_ | refine blk_alloc ?_ _)); refine blk_put (cs := #[.int .i64 0, .slice none 0 0, .int .i64 0]) ?_ 0 _ rfl; (with_reducible repeat (first | refine blk_drewN ?_ _ | refine blk_drew ?_ | refine blk_alloc ?_ _)); exact BK1183.out) hb); have n4_ := Aside0.mk (below_step (by repeat (first | (with_reducible first | exact HB.out | apply below_alloc | apply pw_below_drewN | apply below_drew1 | refine below_set ?_ GE1183.out) | exact HB.out)) hb); clear HO1177; clear HO1181; clear BK1183; clear HB; have HO1177 := n0_; have HO1181 := n1_; have HO1186 := n2_; have BK1183 := n3_; have HB := n4_; clear n0_ n1_ n2_ n3_ n4_; (try clear hb); (try clear hb2); (try clear hk); (try clear hi); (try clear ho0); have hcz13_0 : w12.cell? ⟨gb1183, 0, none⟩ = some (.int .i64 t1178) := (blk_cell BK1183.out 0).trans rfl; have hcz13_1 : w12.cell? ⟨gb1183, 1, none⟩ = some (.slice Ao10 t1179.length co10) := (blk_cell BK1183.out 1).trans rfl; have hcz13_2 : w12.cell? ⟨gb1183, 2, none⟩ = some (.int .i64 t1182) := (blk_cell BK1183.out 2).trans rfl; have hfz13_0 := blk_frozen BK1183.out 0; have hfz13_1 := blk_frozen BK1183.out 1; have hfz13_2 := blk_frozen BK1183.out 2) | ((with_reducible refine gate_callee (f := 53) rfl ?_); refine goesL_ (some 30) rfl rfl Try.func53 (by kernel_rfl) rfl #[.slice Ao11 t1175.length co11, .agg #[.int .i64 t1178, .slice Ao10 t1179.length co10, .int .i64 t1182]] rfl (by (try simp only [List.map_toArray, List.map_cons, List.map_nil]); first | done | rfl | (simp only [List.length_drop, List.length_take]; rfl)) ?_; (with_reducible refine (spec_TracesPut.calls k _ _ t1175 t1178 _ _ t1179 t1182 t1188 t1191 _ ?side1 ?side2 ?side3 ?side4 A5.out).mono ?_); (case side1 => repeat (first | exact (Kd.S_reads' HO1177.out).2.2 | (with_reducible refine Kd.C_alloc ?_ _) | (with_reducible refine Kd.C_drewN ?_ _) | (with_reducible refine Kd.C_drew ?_))); (case side2 => exact (Kd.S_reads' HO1177.out).2.1); (case side3 => repeat (first | exact (Kd.R_reads' HO1181.out).2.2 | (with_reducible refine Kd.C_alloc ?_ _) | (with_reducible refine Kd.C_drewN ?_ _) | (with_reducible refine Kd.C_drew ?_))); (case side4 => exact (Kd.R_reads' HO1181.out).2.1); rintro e w14 ⟨v1189, rfl, ho0, hb⟩; refine ⟨_, rfl, ?_⟩; have n0_ := Aside0.mk (Kd.S_elder' (by (with_reducible repeat (first | apply Kd.S_alloc | apply Kd.S_drewN | apply Kd.S_drew)); exact HO1177.out) (Kd.S_base ho0) hb); have n1_ := Aside0.mk (Kd.R_below (by (with_reducible repeat (first | apply Kd.R_alloc | apply Kd.R_drewN | apply Kd.R_drew)); exact HO1181.out) hb); have n2_ := Aside0.mk (Kd.S_elder' (by (with_reducible repeat (first | apply Kd.S_alloc | apply Kd.S_drewN | apply Kd.S_drew)); exact HO1186.out) (Kd.S_base ho0) hb); have n3_ := Aside0.mk (Kd.S_lower (Kd.S_newB (Kd.S_new' (Kd.S_new' (Kd.S_new' ho0 (Kd.S_lt (by (with_reducible repeat (first | apply Kd.S_alloc | apply Kd.S_drewN | apply Kd.S_drew)); exact HO1177.out))) (Kd.R_lt (by (with_reducible repeat (first | apply Kd.R_alloc | apply Kd.R_drewN | apply Kd.R_drew)); exact HO1181.out))) (Kd.S_lt (by (with_reducible repeat (first | apply Kd.S_alloc | apply Kd.S_drewN | apply Kd.S_drew)); exact HO1186.out))) (g := gb1183) (o := .cells #[.int .i64 t1178, .slice Ao10 t1179.length co10, .int .i64 t1182] 87 (0, 0)) (by (with_reducible repeat (first | refine blk_drewN ?_ _ | refine blk_drew ?_ | refine blk_alloc ?_ _)); exact BK1183.out)) (below_size (by repeat (first | (with_reducible first | exact HB.out | apply below_alloc | apply pw_below_drewN | apply below_drew1 | refine below_set ?_ GE1183.out) | exact HB.out)))); have n4_ := Aside0.mk (blk_below (g := gb1183) (o := .cells #[.int .i64 t1178, .slice Ao10 t1179.length co10, .int .i64 t1182] 87 (0, 0)) (by (with_reducible repeat (first | refine blk_drewN ?_ _ | refine blk_drew ?_ | refine blk_alloc ?_ _)); exact BK1183.out) hb); have n5_ := Aside0.mk (below_step (by repeat (first | (with_reducible first | exact HB.out | apply below_alloc | apply pw_below_drewN | apply below_drew1 | refine below_set ?_ GE1183.out) | exact HB.out)) hb); clear HO1177; clear HO1181; clear HO1186; clear BK1183; clear HB; have HO1177 := n0_; have HO1181 := n1_; have HO1186 := n2_; have HO1190 := n3_; have BK1183 := n4_; have HB := n5_; clear n0_ n1_ n2_ n3_ n4_ n5_; (try clear hb); (try clear hb2); (try clear hk); (try clear hi); (try clear ho0)))
    (try simp only [Act.put, List.setIfInBounds_toArray, List.set_cons_zero, List.set_cons_succ])
    go_cut [41] (fun v41 wc => ∃ (kq : Nat) (x41_5 : Bool), v41 = .bool x41_5 ∧ Aside0 (laws_FnTracesPut.j0 kq t1184 t1187 x41_5 t1178 t1179 t1182 = some r) ∧ Aside0 (kq ≤ k) ∧ Aside0 (Kd.S k87 87 wc w.heap.size (fun k_ => some k_ ≠ ((.slice Ao10 t1179.length co10) : Value).ownBlock ∧ k_ ≠ gb1183) v1185 t1184) ∧ Aside0 (Kd.R k117 117 wc w.heap.size (fun _ => True) (.slice Ao10 t1179.length co10) t1179) ∧ Aside0 (wc.heap[gb1183]? = some (.cells #[.int .i64 t1178, (.slice Ao10 t1179.length co10), .int .i64 t1182] 87 (0, 0))) ∧ Aside0 (Below w.heap.size w wc))
    case first =>
      have H := HC6.out
      clear HC6
      replace H := Option.bind_eq_some_iff.mp H
      obtain ⟨t1192, A150, H⟩ := H
      replace H : (if t1192 = true then (laws_FnTracesPut.j0 k t1184 t1187 (t1187 != t1191) t1178 t1179 t1182) else (laws_FnTracesPut.j0 k t1184 t1187 true t1178 t1179 t1182)) = some r := H
      have A15 := Aside0.mk A150
      clear A150
      by_cases c16 : t1192 = true
      · subst c16
        have H1 : (laws_FnTracesPut.j0 k t1184 t1187 (t1187 != t1191) t1178 t1179 t1182) = some r := by rw [if_pos rfl] at H; exact H
        clear H
        have H := H1
        clear H1
        have H' := Aside0.mk H
        clear H
        obtain ⟨Ao17, co17, eo17⟩ := Kd.S_slice HO1186.out
        subst eo17
        obtain ⟨Ao18, co18, eo18⟩ := Kd.S_slice HO1190.out
        subst eo18
        go_wp2_with (first | ((with_reducible refine gate_callee (f := 61) rfl ?_); refine goesL_ (some 35) rfl rfl Try.func61 (by kernel_rfl) rfl #[.slice Ao17 t1184.length co17, .slice Ao18 t1188.length co18] rfl (by (try simp only [List.map_toArray, List.map_cons, List.map_nil]); first | done | rfl | (simp only [List.length_drop, List.length_take]; rfl)) ?_; (with_reducible refine (laws_brTraces.calls k _ _ t1184 _ _ t1188 true _ ?side1 ?side2 ?side3 ?side4 A15.out).mono ?_); (case side1 => repeat (first | exact (Kd.S_reads' HO1186.out).2.2 | (with_reducible refine Kd.C_alloc ?_ _) | (with_reducible refine Kd.C_drewN ?_ _) | (with_reducible refine Kd.C_drew ?_))); (case side2 => exact (Kd.S_reads' HO1186.out).2.1); (case side3 => repeat (first | exact (Kd.S_reads' HO1190.out).2.2 | (with_reducible refine Kd.C_alloc ?_ _) | (with_reducible refine Kd.C_drewN ?_ _) | (with_reducible refine Kd.C_drew ?_))); (case side4 => exact (Kd.S_reads' HO1190.out).2.1); rintro e w19 ⟨rfl, hb⟩; refine ⟨_, rfl, ?_⟩; have n0_ := Aside0.mk (Kd.S_below (by (with_reducible repeat (first | apply Kd.S_alloc | apply Kd.S_drewN | apply Kd.S_drew)); exact HO1177.out) hb); have n1_ := Aside0.mk (Kd.R_below (by (with_reducible repeat (first | apply Kd.R_alloc | apply Kd.R_drewN | apply Kd.R_drew)); exact HO1181.out) hb); have n2_ := Aside0.mk (Kd.S_below (by (with_reducible repeat (first | apply Kd.S_alloc | apply Kd.S_drewN | apply Kd.S_drew)); exact HO1186.out) hb); have n3_ := Aside0.mk (Kd.S_below (by (with_reducible repeat (first | apply Kd.S_alloc | apply Kd.S_drewN | apply Kd.S_drew)); exact HO1190.out) hb); have n4_ := Aside0.mk (blk_below (g := gb1183) (o := .cells #[.int .i64 t1178, .slice Ao10 t1179.length co10, .int .i64 t1182] 87 (0, 0)) (by (with_reducible repeat (first | refine blk_drewN ?_ _ | refine blk_drew ?_ | refine blk_alloc ?_ _)); exact BK1183.out) hb); have n5_ := Aside0.mk (below_step (by repeat (first | (with_reducible first | exact HB.out | apply below_alloc | apply pw_below_drewN | apply below_drew1 | refine below_set ?_ GE1183.out) | exact HB.out)) hb); clear HO1177; clear HO1181; clear HO1186; clear HO1190; clear BK1183; clear HB; have HO1177 := n0_; have HO1181 := n1_; have HO1186 := n2_; have HO1190 := n3_; have BK1183 := n4_; have HB := n5_; clear n0_ n1_ n2_ n3_ n4_ n5_; (try clear hb); (try clear hb2); (try clear hk); (try clear hi)))
        go_meet
        case rel => exact ⟨_, ((t1187 != t1191)), (by first | rfl | (simp; done) | (simp [*]; done)), H', ⟨by first | omega | exact Nat.le_refl _⟩, ⟨by (with_reducible repeat (first | apply Kd.S_alloc | apply Kd.S_drewN | apply Kd.S_drew)); exact Kd.S_mono HO1186.out (fun _ hk => ⟨hk.1.1.2, hk.1.2⟩)⟩, ⟨by (with_reducible repeat (first | apply Kd.R_alloc | apply Kd.R_drewN | apply Kd.R_drew)); exact HO1181.out⟩, ⟨by (with_reducible repeat (first | refine blk_drewN ?_ _ | refine blk_drew ?_ | refine blk_alloc ?_ _)); exact BK1183.out⟩, ⟨by repeat (first | (with_reducible first | exact HB.out | apply below_alloc | apply pw_below_drewN | apply below_drew1 | refine below_set ?_ GE1183.out) | exact HB.out)⟩⟩
      · replace c16 := Bool.eq_false_iff.mpr c16
        subst c16
        have H1 : (laws_FnTracesPut.j0 k t1184 t1187 true t1178 t1179 t1182) = some r := by rw [if_neg (show ¬ (false = true) by decide)] at H; exact H
        clear H
        have H := H1
        clear H1
        have H' := Aside0.mk H
        clear H
        obtain ⟨Ao20, co20, eo20⟩ := Kd.S_slice HO1186.out
        subst eo20
        obtain ⟨Ao21, co21, eo21⟩ := Kd.S_slice HO1190.out
        subst eo21
        go_wp2_with (first | ((with_reducible refine gate_callee (f := 61) rfl ?_); refine goesL_ (some 35) rfl rfl Try.func61 (by kernel_rfl) rfl #[.slice Ao20 t1184.length co20, .slice Ao21 t1188.length co21] rfl (by (try simp only [List.map_toArray, List.map_cons, List.map_nil]); first | done | rfl | (simp only [List.length_drop, List.length_take]; rfl)) ?_; (with_reducible refine (laws_brTraces.calls k _ _ t1184 _ _ t1188 false _ ?side1 ?side2 ?side3 ?side4 A15.out).mono ?_); (case side1 => repeat (first | exact (Kd.S_reads' HO1186.out).2.2 | (with_reducible refine Kd.C_alloc ?_ _) | (with_reducible refine Kd.C_drewN ?_ _) | (with_reducible refine Kd.C_drew ?_))); (case side2 => exact (Kd.S_reads' HO1186.out).2.1); (case side3 => repeat (first | exact (Kd.S_reads' HO1190.out).2.2 | (with_reducible refine Kd.C_alloc ?_ _) | (with_reducible refine Kd.C_drewN ?_ _) | (with_reducible refine Kd.C_drew ?_))); (case side4 => exact (Kd.S_reads' HO1190.out).2.1); rintro e w22 ⟨rfl, hb⟩; refine ⟨_, rfl, ?_⟩; have n0_ := Aside0.mk (Kd.S_below (by (with_reducible repeat (first | apply Kd.S_alloc | apply Kd.S_drewN | apply Kd.S_drew)); exact HO1177.out) hb); have n1_ := Aside0.mk (Kd.R_below (by (with_reducible repeat (first | apply Kd.R_alloc | apply Kd.R_drewN | apply Kd.R_drew)); exact HO1181.out) hb); have n2_ := Aside0.mk (Kd.S_below (by (with_reducible repeat (first | apply Kd.S_alloc | apply Kd.S_drewN | apply Kd.S_drew)); exact HO1186.out) hb); have n3_ := Aside0.mk (Kd.S_below (by (with_reducible repeat (first | apply Kd.S_alloc | apply Kd.S_drewN | apply Kd.S_drew)); exact HO1190.out) hb); have n4_ := Aside0.mk (blk_below (g := gb1183) (o := .cells #[.int .i64 t1178, .slice Ao10 t1179.length co10, .int .i64 t1182] 87 (0, 0)) (by (with_reducible repeat (first | refine blk_drewN ?_ _ | refine blk_drew ?_ | refine blk_alloc ?_ _)); exact BK1183.out) hb); have n5_ := Aside0.mk (below_step (by repeat (first | (with_reducible first | exact HB.out | apply below_alloc | apply pw_below_drewN | apply below_drew1 | refine below_set ?_ GE1183.out) | exact HB.out)) hb); clear HO1177; clear HO1181; clear HO1186; clear HO1190; clear BK1183; clear HB; have HO1177 := n0_; have HO1181 := n1_; have HO1186 := n2_; have HO1190 := n3_; have BK1183 := n4_; have HB := n5_; clear n0_ n1_ n2_ n3_ n4_ n5_; (try clear hb); (try clear hb2); (try clear hk); (try clear hi)))
        go_meet
        case rel => exact ⟨_, (true), (by first | rfl | (simp; done) | (simp [*]; done)), H', ⟨by first | omega | exact Nat.le_refl _⟩, ⟨by (with_reducible repeat (first | apply Kd.S_alloc | apply Kd.S_drewN | apply Kd.S_drew)); exact Kd.S_mono HO1186.out (fun _ hk => ⟨hk.1.1.2, hk.1.2⟩)⟩, ⟨by (with_reducible repeat (first | apply Kd.R_alloc | apply Kd.R_drewN | apply Kd.R_drew)); exact HO1181.out⟩, ⟨by (with_reducible repeat (first | refine blk_drewN ?_ _ | refine blk_drew ?_ | refine blk_alloc ?_ _)); exact BK1183.out⟩, ⟨by repeat (first | (with_reducible first | exact HB.out | apply below_alloc | apply pw_below_drewN | apply below_drew1 | refine below_set ?_ GE1183.out) | exact HB.out)⟩⟩
    case rest =>
      clear HC6
      try clear c1
      try clear c2
      try clear c2b0
      try clear c2b1
      try clear p2
      try clear c5
      try clear c6
      try clear c13
      try clear c16
      try clear hcz13_0
      try clear hcz13_1
      try clear hcz13_2
      try clear hcz9_0
      try clear hcz9_1
      try clear hcz9_2
      try clear hfz13_0
      try clear hfz13_1
      try clear hfz13_2
      try clear hfz9_0
      try clear hfz9_1
      try clear hfz9_2
      obtain ⟨kq, x41_5, rfl, HA, HJ5, HO_5, HO_1184001, BK1183, HB⟩ := hcut
      cases kq with
      | zero => exact absurd HA.out (by simp [laws_FnTracesPut.j0])
      | succ kj5 =>
        have H := HA.out
        clear HA
        simp only [laws_FnTracesPut.j0] at H
        by_cases c23 : x41_5 = true
        · subst c23
          have H1 : (none) = some r := by rw [if_pos rfl] at H; exact H
          clear H
          have H := H1
          clear H1
          exact absurd H (by simp)
        · replace c23 := Bool.eq_false_iff.mpr c23
          subst c23
          have H1 : (laws_FnTracesPut.l0 kj5 t1184 t1187 0 0 t1178 t1179 t1182) = some r := by rw [if_neg (show ¬ (false = true) by decide)] at H; exact H
          clear H
          have H := H1
          clear H1
          have H' := Aside0.mk H
          clear H
          go_wp2
          go_loopg [9, 10] kj5 (fun kq v9 v10 w' => ∃ (x9_2 : Int) (x10_2 : Int), v9 = .int .i64 x9_2 ∧ v10 = .int .i64 x10_2 ∧ Aside0 (laws_FnTracesPut.l0 kq t1184 t1187 x9_2 x10_2 t1178 t1179 t1182 = some r) ∧ Aside0 (kq ≤ kj5) ∧ Aside0 (Kd.S k87 87 w' w.heap.size (fun k_ => some k_ ≠ ((.slice Ao10 t1179.length co10) : Value).ownBlock ∧ k_ ≠ gb1183) v1185 t1184) ∧ Aside0 (Kd.R k117 117 w' w.heap.size (fun _ => True) (.slice Ao10 t1179.length co10) t1179) ∧ Aside0 (w'.heap[gb1183]? = some (.cells #[.int .i64 t1178, (.slice Ao10 t1179.length co10), .int .i64 t1182] 87 (0, 0))) ∧ Aside0 (Below w.heap.size w w'))
          case atStart => exact ⟨(0), (0), (by first | rfl | (simp; done) | (simp [*]; done)), (by first | rfl | (simp; done) | (simp [*]; done)), H', ⟨Nat.le_refl _⟩, ⟨by (with_reducible repeat (first | apply Kd.S_alloc | apply Kd.S_drewN | apply Kd.S_drew)); exact HO_5.out⟩, ⟨by (with_reducible repeat (first | apply Kd.R_alloc | apply Kd.R_drewN | apply Kd.R_drew)); exact HO_1184001.out⟩, ⟨by (with_reducible repeat (first | refine blk_drewN ?_ _ | refine blk_drew ?_ | refine blk_alloc ?_ _)); exact BK1183.out⟩, ⟨by repeat (first | (with_reducible first | exact HB.out | apply below_alloc | apply pw_below_drewN | apply below_drew1 | refine below_set ?_ GE1183.out) | exact HB.out)⟩⟩
          case round =>
            clear H'
            try clear c1
            try clear c2
            try clear c2b0
            try clear c2b1
            try clear p2
            try clear c5
            try clear c6
            try clear c13
            try clear c16
            try clear c23
            try clear hcz13_0
            try clear hcz13_1
            try clear hcz13_2
            try clear hcz9_0
            try clear hcz9_1
            try clear hcz9_2
            try clear hfz13_0
            try clear hfz13_1
            try clear hfz13_2
            try clear hfz9_0
            try clear hfz9_1
            try clear hfz9_2
            try clear p2
            obtain ⟨x9_2, x10_2, rfl, rfl, HA, HK2, HO_5, HO_1184001, BK1183, HB⟩ := hrel
            cases gk with
            | zero => exact absurd HA.out (by simp [laws_FnTracesPut.l0])
            | succ k2 =>
              have H := HA.out
              clear HA
              simp only [laws_FnTracesPut.l0] at H
              by_cases c24 : x10_2 < (t1184.length : Int)
              · rw [if_pos c24] at H
                have c24b0 : decide (x10_2 < (t1184.length : Int)) = true := decide_eq_true c24
                clear c24
                by_cases c25 : 0 ≤ x10_2
                · rw [if_pos c25] at H
                  have c25b0 : decide (0 ≤ x10_2) = true := decide_eq_true c25
                  clear c25
                  replace H := Option.bind_eq_some_iff.mp H
                  obtain ⟨t1194, A260, H⟩ := H
                  replace H : (if t1194 = true then (laws_FnTracesPut.l0 k2 t1184 t1187 (wrap64 (x9_2 + 1)) (wrap64 (x10_2 + 1)) t1178 t1179 t1182) else (laws_FnTracesPut.l0 k2 t1184 t1187 x9_2 (wrap64 (x10_2 + 1)) t1178 t1179 t1182)) = some r := H
                  have A26 := Aside0.mk A260
                  clear A260
                  by_cases c27 : t1194 = true
                  · subst c27
                    have H1 : (laws_FnTracesPut.l0 k2 t1184 t1187 (wrap64 (x9_2 + 1)) (wrap64 (x10_2 + 1)) t1178 t1179 t1182) = some r := by rw [if_pos rfl] at H; exact H
                    clear H
                    have H := H1
                    clear H1
                    have H' := Aside0.mk H
                    clear H
                    obtain ⟨Ao28, co28, eo28⟩ := Kd.S_slice HO_5.out
                    subst eo28
                    try go_wp2
                    have n0_ := Aside0.mk (Kd.S_drew HO_5.out)
                    have n1_ := Aside0.mk (Kd.R_drew HO_1184001.out)
                    have n2_ := Aside0.mk (blk_drew BK1183.out)
                    have n3_ := Aside0.mk (below_drew1 HB.out)
                    clear HO_5
                    clear HO_1184001
                    clear BK1183
                    clear HB
                    have HO_5 := n0_
                    have HO_1184001 := n1_
                    have BK1183 := n2_
                    have HB := n3_
                    clear n0_ n1_ n2_ n3_
                    have p1193 : 0 ≤ (x10_2 : Int) := of_decide_eq_true (by first | (with_reducible assumption) | assumption)
                    have q1193 : x10_2 < (t1184.length : Int) := of_decide_eq_true (by first | (with_reducible assumption) | assumption)
                    obtain ⟨ad1193, A1193_1, c1193_1, e1193, hx1193_0, hx1193_1, hx1193_2, hl1193_1, hi1193_1⟩ := at_T87 (Kd.S_reads' HO_5.out).2.2 x10_2 p1193 q1193
                    cases e1193
                    obtain ⟨ce1193, hce1193, hMe1193, hcc1193⟩ := Kd.S_get HO_5.out z87 x10_2 p1193 (by first | exact q1193 | exact of_decide_eq_true (by first | (with_reducible assumption) | assumption) | (have e_ := (Kd.S_reads' HO_5.out).1; omega))
                    obtain ⟨ve1193_1, rfl, ge1193_1⟩ := k87_openM hMe1193
                    have hv1193_1 := hcc1193 1 _ rfl
                    rw [add_field _ _ 1 (by omega)] at hv1193_1
                    replace hv1193_1 := Option.some.inj (hv1193_1.symm.trans hx1193_1)
                    rw [hv1193_1] at ge1193_1
                    have HL1193_1 := Aside0.mk (show Kd.R k117 117 _ _ _ _ ((rd_T87 t1184 x10_2).f1) from ge1193_1)
                    clear hv1193_1 ge1193_1
                    clear hcc1193 hce1193
                    have HR1193_1 := Aside0.mk hi1193_1
                    have HC1193_1 := Aside0.mk hl1193_1
                    clear hi1193_1 hl1193_1
                    replace p1193 := eq_true p1193
                    replace q1193 := eq_true q1193
                    refine start_ (n := 6) (S := fun w' => w'.cell? ⟨gb1183, 0, none⟩ = some (.int .i64 t1178) ∧ w'.cell? ⟨gb1183, 1, none⟩ = some (.slice Ao10 t1179.length co10) ∧ w'.cell? ⟨gb1183, 2, none⟩ = some (.int .i64 t1182) ∧ w'.cell? (ad1193.add ((x10_2).toNat * 3)) = some (.int .i64 ((rd_T87 t1184 x10_2).f0)) ∧ w'.cell? ⟨(ad1193.add ((x10_2).toNat * 3)).block, (ad1193.add ((x10_2).toNat * 3)).off + 1, none⟩ = some (.slice A1193_1 ((rd_T87 t1184 x10_2).f1).length c1193_1) ∧ w'.cell? ⟨(ad1193.add ((x10_2).toNat * 3)).block, (ad1193.add ((x10_2).toNat * 3)).off + 2, none⟩ = some (.int .i64 ((rd_T87 t1184 x10_2).f2))) (ds := []) #[false, false, false, false, false, false] (by kernel_rfl) rfl rfl ⟨(blk_cell BK1183.out 0).trans rfl, (blk_cell BK1183.out 1).trans rfl, (blk_cell BK1183.out 2).trans rfl, hx1193_0, hx1193_1, hx1193_2⟩ (fun hHeld => ?_)
                    generalize wr.drew = w29 at HO_5 HO_1184001 BK1183 HB HL1193_1 HR1193_1 hx1193_0 hx1193_1 hx1193_2 hHeld ⊢
                    refine pure_ (i := 0) (N := some 48) (v := ?_) (a' := ?_) #[true, false, false, false, false, false] rfl rfl (by kernel_rfl) (fun _ _ _ h => h) (Or.inl ⟨by rfl, ?_⟩) ?_ ?_
                    rotate_left
                    · intro w'
                      go_simp
                      with_reducible rfl
                    rotate_left
                    · simp only [Act.put, List.setIfInBounds_toArray, List.set_cons_zero, List.set_cons_succ, i64_w, i32_w]
                      rfl
                    refine pure_ (i := 1) (N := some 49) (v := ?_) (a' := ?_) #[true, true, false, false, false, false] rfl rfl (by kernel_rfl) (fun _ _ _ h => h) (Or.inl ⟨by rfl, ?_⟩) ?_ ?_
                    rotate_left
                    · intro w'
                      go_simp
                      with_reducible rfl
                    rotate_left
                    · simp only [Act.put, List.setIfInBounds_toArray, List.set_cons_zero, List.set_cons_succ, i64_w, i32_w]
                      rfl
                    refine pure_ (i := 2) (N := some 50) (v := ?_) (a' := ?_) #[true, true, true, false, false, false] rfl rfl (by kernel_rfl) (fun _ _ _ h => h) (Or.inl ⟨by rfl, ?_⟩) ?_ ?_
                    rotate_left
                    · intro w'
                      go_simp
                      with_reducible rfl
                    rotate_left
                    · simp only [Act.put, List.setIfInBounds_toArray, List.set_cons_zero, List.set_cons_succ, i64_w, i32_w]
                      rfl
                    refine take_ (i := 3) (N := some 51) (v := ?_) (a' := ?_) #[true, true, true, true, false, false] rfl rfl (by kernel_rfl) (fun _ _ _ h => h) (Or.inl ⟨by rfl, ?_⟩) hHeld ?_ ?_
                    rotate_left
                    · rintro w' ⟨s0, s1, s2, s3, s4, s5⟩
                      go_simp
                      with_reducible rfl
                    rotate_left
                    · simp only [Act.put, List.setIfInBounds_toArray, List.set_cons_zero, List.set_cons_succ, i64_w, i32_w]
                      rfl
                    refine take_ (i := 4) (N := some 52) (v := ?_) (a' := ?_) #[true, true, true, true, true, false] rfl rfl (by kernel_rfl) (fun _ _ _ h => h) (Or.inl ⟨by rfl, ?_⟩) hHeld ?_ ?_
                    rotate_left
                    · rintro w' ⟨s0, s1, s2, s3, s4, s5⟩
                      go_simp
                      with_reducible rfl
                    rotate_left
                    · simp only [Act.put, List.setIfInBounds_toArray, List.set_cons_zero, List.set_cons_succ, i64_w, i32_w]
                      rfl
                    refine one_ (i := 5) (N := some 53) #[true, true, true, true, true, true] rfl rfl (by kernel_rfl) (by decide) (fun K hK => ?_)
                    refine goes_ Try.func62 (by kernel_rfl) rfl #[.agg #[.int .i64 ((rd_T87 t1184 x10_2).f0), .slice A1193_1 ((rd_T87 t1184 x10_2).f1).length c1193_1, .int .i64 ((rd_T87 t1184 x10_2).f2)], .agg #[.int .i64 t1178, .slice Ao10 t1179.length co10, .int .i64 t1182]] (by rfl) rfl rfl (by (try simp only [List.map_toArray, List.map_cons, List.map_nil]); first | done | rfl | (simp only [List.length_drop, List.length_take]; rfl)) ?_
                    with_reducible refine (laws_brTrace.calls k2 ((rd_T87 t1184 x10_2).f0) _ _ ((rd_T87 t1184 x10_2).f1) ((rd_T87 t1184 x10_2).f2) t1178 _ _ t1179 t1182 true _ ?side1 ?side2 ?side3 ?side4 A26.out).mono ?_
                    (case side1 => repeat (first | exact (by repeat (first | (with_reducible exact HR1193_1.out) | (with_reducible refine Kd.C_alloc ?_ _) | (with_reducible refine Kd.C_drewN ?_ _) | (with_reducible refine Kd.C_drew ?_) | exact HR1193_1.out)) | (with_reducible refine Kd.C_alloc ?_ _) | (with_reducible refine Kd.C_drewN ?_ _) | (with_reducible refine Kd.C_drew ?_)))
                    (case side2 => exact HC1193_1.out)
                    (case side3 => repeat (first | exact (Kd.R_reads' HO_1184001.out).2.2 | (with_reducible refine Kd.C_alloc ?_ _) | (with_reducible refine Kd.C_drewN ?_ _) | (with_reducible refine Kd.C_drew ?_)))
                    (case side4 => exact (Kd.R_reads' HO_1184001.out).2.1)
                    rintro e w30 ⟨rfl, hb⟩
                    have HS3_ := (hb.cell (World.block_lt_of_cell? _ _ (hHeld.2.2.2.1))).trans (hHeld.2.2.2.1)
                    have HS4_ := (hb.cell (World.block_lt_of_cell? _ _ (hHeld.2.2.2.2.1))).trans (hHeld.2.2.2.2.1)
                    have HS5_ := (hb.cell (World.block_lt_of_cell? _ _ (hHeld.2.2.2.2.2))).trans (hHeld.2.2.2.2.2)
                    refine ⟨_, rfl, ?_⟩
                    have n0_ := Aside0.mk (Kd.S_below (by (with_reducible repeat (first | apply Kd.S_alloc | apply Kd.S_drewN | apply Kd.S_drew)); exact HO_5.out) hb)
                    have n1_ := Aside0.mk (Kd.R_below (by (with_reducible repeat (first | apply Kd.R_alloc | apply Kd.R_drewN | apply Kd.R_drew)); exact HO_1184001.out) hb)
                    have n2_ := Aside0.mk (Kd.R_below (by (with_reducible repeat (first | apply Kd.R_alloc | apply Kd.R_drewN | apply Kd.R_drew)); exact HL1193_1.out) hb)
                    have n3_ := Aside0.mk (blk_below (g := gb1183) (o := .cells #[.int .i64 t1178, .slice Ao10 t1179.length co10, .int .i64 t1182] 87 (0, 0)) (by (with_reducible repeat (first | refine blk_drewN ?_ _ | refine blk_drew ?_ | refine blk_alloc ?_ _)); exact BK1183.out) hb)
                    have n4_ := Aside0.mk (Kd.C_below (by repeat (first | (with_reducible exact HR1193_1.out) | (with_reducible refine Kd.C_alloc ?_ _) | (with_reducible refine Kd.C_drewN ?_ _) | (with_reducible refine Kd.C_drew ?_) | exact HR1193_1.out)) hb)
                    have n5_ := Aside0.mk (below_step (by repeat (first | (with_reducible first | exact HB.out | apply below_alloc | apply pw_below_drewN | apply below_drew1 | refine below_set ?_ GE1183.out) | exact HB.out)) hb)
                    clear HO_5
                    clear HO_1184001
                    clear HL1193_1
                    clear BK1183
                    clear HR1193_1
                    clear HB
                    have HO_5 := n0_
                    have HO_1184001 := n1_
                    have HL1193_1 := n2_
                    have BK1183 := n3_
                    have HR1193_1 := n4_
                    have HB := n5_
                    clear n0_ n1_ n2_ n3_ n4_ n5_
                    (try clear hb)
                    (try clear hb2)
                    (try clear hk)
                    (try clear hi)
                    refine hK.out _ _ ⟨(blk_cell BK1183.out 0).trans rfl, (blk_cell BK1183.out 1).trans rfl, (blk_cell BK1183.out 2).trans rfl, HS3_, HS4_, HS5_⟩ (fun hHeld => ?_)
                    clear hK K
                    refine norm_ (a' := ?_) ?_ ?_
                    rotate_left
                    · show Act.put _ (some 53) _ = _
                      simp only [Act.put, List.setIfInBounds_toArray, List.set_cons_zero, List.set_cons_succ, i64_w, i32_w]
                      rfl
                    refine done_ (by kernel_rfl) ?_
                    try go_wp2
                    go_roundg k2
                    case measure => have := HJ5.out; have := HK2.out; omega
                    case rel => exact ⟨(wrap64 (x9_2 + 1)), (wrap64 (x10_2 + 1)), (by first | rfl | (simp; done) | (simp [*]; done)), (by first | rfl | (simp; done) | (simp [*]; done)), H', ⟨by have := HJ5.out; have := HK2.out; omega⟩, ⟨by (with_reducible repeat (first | apply Kd.S_alloc | apply Kd.S_drewN | apply Kd.S_drew)); exact HO_5.out⟩, ⟨by (with_reducible repeat (first | apply Kd.R_alloc | apply Kd.R_drewN | apply Kd.R_drew)); exact HO_1184001.out⟩, ⟨by (with_reducible repeat (first | refine blk_drewN ?_ _ | refine blk_drew ?_ | refine blk_alloc ?_ _)); exact BK1183.out⟩, ⟨by repeat (first | (with_reducible first | exact HB.out | apply below_alloc | apply pw_below_drewN | apply below_drew1 | refine below_set ?_ GE1183.out) | exact HB.out)⟩⟩
                  · replace c27 := Bool.eq_false_iff.mpr c27
                    subst c27
                    have H1 : (laws_FnTracesPut.l0 k2 t1184 t1187 x9_2 (wrap64 (x10_2 + 1)) t1178 t1179 t1182) = some r := by rw [if_neg (show ¬ (false = true) by decide)] at H; exact H
                    clear H
                    have H := H1
                    clear H1
                    have H' := Aside0.mk H
                    clear H
                    obtain ⟨Ao31, co31, eo31⟩ := Kd.S_slice HO_5.out
                    subst eo31
                    try go_wp2
                    have n0_ := Aside0.mk (Kd.S_drew HO_5.out)
                    have n1_ := Aside0.mk (Kd.R_drew HO_1184001.out)
                    have n2_ := Aside0.mk (blk_drew BK1183.out)
                    have n3_ := Aside0.mk (below_drew1 HB.out)
                    clear HO_5
                    clear HO_1184001
                    clear BK1183
                    clear HB
                    have HO_5 := n0_
                    have HO_1184001 := n1_
                    have BK1183 := n2_
                    have HB := n3_
                    clear n0_ n1_ n2_ n3_
                    have p1193 : 0 ≤ (x10_2 : Int) := of_decide_eq_true (by first | (with_reducible assumption) | assumption)
                    have q1193 : x10_2 < (t1184.length : Int) := of_decide_eq_true (by first | (with_reducible assumption) | assumption)
                    obtain ⟨ad1193, A1193_1, c1193_1, e1193, hx1193_0, hx1193_1, hx1193_2, hl1193_1, hi1193_1⟩ := at_T87 (Kd.S_reads' HO_5.out).2.2 x10_2 p1193 q1193
                    cases e1193
                    obtain ⟨ce1193, hce1193, hMe1193, hcc1193⟩ := Kd.S_get HO_5.out z87 x10_2 p1193 (by first | exact q1193 | exact of_decide_eq_true (by first | (with_reducible assumption) | assumption) | (have e_ := (Kd.S_reads' HO_5.out).1; omega))
                    obtain ⟨ve1193_1, rfl, ge1193_1⟩ := k87_openM hMe1193
                    have hv1193_1 := hcc1193 1 _ rfl
                    rw [add_field _ _ 1 (by omega)] at hv1193_1
                    replace hv1193_1 := Option.some.inj (hv1193_1.symm.trans hx1193_1)
                    rw [hv1193_1] at ge1193_1
                    have HL1193_1 := Aside0.mk (show Kd.R k117 117 _ _ _ _ ((rd_T87 t1184 x10_2).f1) from ge1193_1)
                    clear hv1193_1 ge1193_1
                    clear hcc1193 hce1193
                    have HR1193_1 := Aside0.mk hi1193_1
                    have HC1193_1 := Aside0.mk hl1193_1
                    clear hi1193_1 hl1193_1
                    replace p1193 := eq_true p1193
                    replace q1193 := eq_true q1193
                    refine start_ (n := 6) (S := fun w' => w'.cell? ⟨gb1183, 0, none⟩ = some (.int .i64 t1178) ∧ w'.cell? ⟨gb1183, 1, none⟩ = some (.slice Ao10 t1179.length co10) ∧ w'.cell? ⟨gb1183, 2, none⟩ = some (.int .i64 t1182) ∧ w'.cell? (ad1193.add ((x10_2).toNat * 3)) = some (.int .i64 ((rd_T87 t1184 x10_2).f0)) ∧ w'.cell? ⟨(ad1193.add ((x10_2).toNat * 3)).block, (ad1193.add ((x10_2).toNat * 3)).off + 1, none⟩ = some (.slice A1193_1 ((rd_T87 t1184 x10_2).f1).length c1193_1) ∧ w'.cell? ⟨(ad1193.add ((x10_2).toNat * 3)).block, (ad1193.add ((x10_2).toNat * 3)).off + 2, none⟩ = some (.int .i64 ((rd_T87 t1184 x10_2).f2))) (ds := []) #[false, false, false, false, false, false] (by kernel_rfl) rfl rfl ⟨(blk_cell BK1183.out 0).trans rfl, (blk_cell BK1183.out 1).trans rfl, (blk_cell BK1183.out 2).trans rfl, hx1193_0, hx1193_1, hx1193_2⟩ (fun hHeld => ?_)
                    generalize wr.drew = w32 at HO_5 HO_1184001 BK1183 HB HL1193_1 HR1193_1 hx1193_0 hx1193_1 hx1193_2 hHeld ⊢
                    refine pure_ (i := 0) (N := some 48) (v := ?_) (a' := ?_) #[true, false, false, false, false, false] rfl rfl (by kernel_rfl) (fun _ _ _ h => h) (Or.inl ⟨by rfl, ?_⟩) ?_ ?_
                    rotate_left
                    · intro w'
                      go_simp
                      with_reducible rfl
                    rotate_left
                    · simp only [Act.put, List.setIfInBounds_toArray, List.set_cons_zero, List.set_cons_succ, i64_w, i32_w]
                      rfl
                    refine pure_ (i := 1) (N := some 49) (v := ?_) (a' := ?_) #[true, true, false, false, false, false] rfl rfl (by kernel_rfl) (fun _ _ _ h => h) (Or.inl ⟨by rfl, ?_⟩) ?_ ?_
                    rotate_left
                    · intro w'
                      go_simp
                      with_reducible rfl
                    rotate_left
                    · simp only [Act.put, List.setIfInBounds_toArray, List.set_cons_zero, List.set_cons_succ, i64_w, i32_w]
                      rfl
                    refine pure_ (i := 2) (N := some 50) (v := ?_) (a' := ?_) #[true, true, true, false, false, false] rfl rfl (by kernel_rfl) (fun _ _ _ h => h) (Or.inl ⟨by rfl, ?_⟩) ?_ ?_
                    rotate_left
                    · intro w'
                      go_simp
                      with_reducible rfl
                    rotate_left
                    · simp only [Act.put, List.setIfInBounds_toArray, List.set_cons_zero, List.set_cons_succ, i64_w, i32_w]
                      rfl
                    refine take_ (i := 3) (N := some 51) (v := ?_) (a' := ?_) #[true, true, true, true, false, false] rfl rfl (by kernel_rfl) (fun _ _ _ h => h) (Or.inl ⟨by rfl, ?_⟩) hHeld ?_ ?_
                    rotate_left
                    · rintro w' ⟨s0, s1, s2, s3, s4, s5⟩
                      go_simp
                      with_reducible rfl
                    rotate_left
                    · simp only [Act.put, List.setIfInBounds_toArray, List.set_cons_zero, List.set_cons_succ, i64_w, i32_w]
                      rfl
                    refine take_ (i := 4) (N := some 52) (v := ?_) (a' := ?_) #[true, true, true, true, true, false] rfl rfl (by kernel_rfl) (fun _ _ _ h => h) (Or.inl ⟨by rfl, ?_⟩) hHeld ?_ ?_
                    rotate_left
                    · rintro w' ⟨s0, s1, s2, s3, s4, s5⟩
                      go_simp
                      with_reducible rfl
                    rotate_left
                    · simp only [Act.put, List.setIfInBounds_toArray, List.set_cons_zero, List.set_cons_succ, i64_w, i32_w]
                      rfl
                    refine one_ (i := 5) (N := some 53) #[true, true, true, true, true, true] rfl rfl (by kernel_rfl) (by decide) (fun K hK => ?_)
                    refine goes_ Try.func62 (by kernel_rfl) rfl #[.agg #[.int .i64 ((rd_T87 t1184 x10_2).f0), .slice A1193_1 ((rd_T87 t1184 x10_2).f1).length c1193_1, .int .i64 ((rd_T87 t1184 x10_2).f2)], .agg #[.int .i64 t1178, .slice Ao10 t1179.length co10, .int .i64 t1182]] (by rfl) rfl rfl (by (try simp only [List.map_toArray, List.map_cons, List.map_nil]); first | done | rfl | (simp only [List.length_drop, List.length_take]; rfl)) ?_
                    with_reducible refine (laws_brTrace.calls k2 ((rd_T87 t1184 x10_2).f0) _ _ ((rd_T87 t1184 x10_2).f1) ((rd_T87 t1184 x10_2).f2) t1178 _ _ t1179 t1182 false _ ?side1 ?side2 ?side3 ?side4 A26.out).mono ?_
                    (case side1 => repeat (first | exact (by repeat (first | (with_reducible exact HR1193_1.out) | (with_reducible refine Kd.C_alloc ?_ _) | (with_reducible refine Kd.C_drewN ?_ _) | (with_reducible refine Kd.C_drew ?_) | exact HR1193_1.out)) | (with_reducible refine Kd.C_alloc ?_ _) | (with_reducible refine Kd.C_drewN ?_ _) | (with_reducible refine Kd.C_drew ?_)))
                    (case side2 => exact HC1193_1.out)
                    (case side3 => repeat (first | exact (Kd.R_reads' HO_1184001.out).2.2 | (with_reducible refine Kd.C_alloc ?_ _) | (with_reducible refine Kd.C_drewN ?_ _) | (with_reducible refine Kd.C_drew ?_)))
                    (case side4 => exact (Kd.R_reads' HO_1184001.out).2.1)
                    rintro e w33 ⟨rfl, hb⟩
                    have HS3_ := (hb.cell (World.block_lt_of_cell? _ _ (hHeld.2.2.2.1))).trans (hHeld.2.2.2.1)
                    have HS4_ := (hb.cell (World.block_lt_of_cell? _ _ (hHeld.2.2.2.2.1))).trans (hHeld.2.2.2.2.1)
                    have HS5_ := (hb.cell (World.block_lt_of_cell? _ _ (hHeld.2.2.2.2.2))).trans (hHeld.2.2.2.2.2)
                    refine ⟨_, rfl, ?_⟩
                    have n0_ := Aside0.mk (Kd.S_below (by (with_reducible repeat (first | apply Kd.S_alloc | apply Kd.S_drewN | apply Kd.S_drew)); exact HO_5.out) hb)
                    have n1_ := Aside0.mk (Kd.R_below (by (with_reducible repeat (first | apply Kd.R_alloc | apply Kd.R_drewN | apply Kd.R_drew)); exact HO_1184001.out) hb)
                    have n2_ := Aside0.mk (Kd.R_below (by (with_reducible repeat (first | apply Kd.R_alloc | apply Kd.R_drewN | apply Kd.R_drew)); exact HL1193_1.out) hb)
                    have n3_ := Aside0.mk (blk_below (g := gb1183) (o := .cells #[.int .i64 t1178, .slice Ao10 t1179.length co10, .int .i64 t1182] 87 (0, 0)) (by (with_reducible repeat (first | refine blk_drewN ?_ _ | refine blk_drew ?_ | refine blk_alloc ?_ _)); exact BK1183.out) hb)
                    have n4_ := Aside0.mk (Kd.C_below (by repeat (first | (with_reducible exact HR1193_1.out) | (with_reducible refine Kd.C_alloc ?_ _) | (with_reducible refine Kd.C_drewN ?_ _) | (with_reducible refine Kd.C_drew ?_) | exact HR1193_1.out)) hb)
                    have n5_ := Aside0.mk (below_step (by repeat (first | (with_reducible first | exact HB.out | apply below_alloc | apply pw_below_drewN | apply below_drew1 | refine below_set ?_ GE1183.out) | exact HB.out)) hb)
                    clear HO_5
                    clear HO_1184001
                    clear HL1193_1
                    clear BK1183
                    clear HR1193_1
                    clear HB
                    have HO_5 := n0_
                    have HO_1184001 := n1_
                    have HL1193_1 := n2_
                    have BK1183 := n3_
                    have HR1193_1 := n4_
                    have HB := n5_
                    clear n0_ n1_ n2_ n3_ n4_ n5_
                    (try clear hb)
                    (try clear hb2)
                    (try clear hk)
                    (try clear hi)
                    refine hK.out _ _ ⟨(blk_cell BK1183.out 0).trans rfl, (blk_cell BK1183.out 1).trans rfl, (blk_cell BK1183.out 2).trans rfl, HS3_, HS4_, HS5_⟩ (fun hHeld => ?_)
                    clear hK K
                    refine norm_ (a' := ?_) ?_ ?_
                    rotate_left
                    · show Act.put _ (some 53) _ = _
                      simp only [Act.put, List.setIfInBounds_toArray, List.set_cons_zero, List.set_cons_succ, i64_w, i32_w]
                      rfl
                    refine done_ (by kernel_rfl) ?_
                    try go_wp2
                    go_roundg k2
                    case measure => have := HJ5.out; have := HK2.out; omega
                    case rel => exact ⟨(x9_2), (wrap64 (x10_2 + 1)), (by first | rfl | (simp; done) | (simp [*]; done)), (by first | rfl | (simp; done) | (simp [*]; done)), H', ⟨by have := HJ5.out; have := HK2.out; omega⟩, ⟨by (with_reducible repeat (first | apply Kd.S_alloc | apply Kd.S_drewN | apply Kd.S_drew)); exact HO_5.out⟩, ⟨by (with_reducible repeat (first | apply Kd.R_alloc | apply Kd.R_drewN | apply Kd.R_drew)); exact HO_1184001.out⟩, ⟨by (with_reducible repeat (first | refine blk_drewN ?_ _ | refine blk_drew ?_ | refine blk_alloc ?_ _)); exact BK1183.out⟩, ⟨by repeat (first | (with_reducible first | exact HB.out | apply below_alloc | apply pw_below_drewN | apply below_drew1 | refine below_set ?_ GE1183.out) | exact HB.out)⟩⟩
                · rw [if_neg c25] at H
                  exact absurd H (by simp)
              · rw [if_neg c24] at H
                have c24b0 : decide (x10_2 < (t1184.length : Int)) = false := decide_eq_false c24
                clear c24
                replace H := Option.bind_eq_some_iff.mp H
                obtain ⟨⟨t1195, t1198⟩, A340, H⟩ := H
                replace H : (if t1187 = true then (if x9_2 ≥ 1 then (if t1198 = true then ((laws_brTraces.f k2 t1195 t1184).bind fun t1199 => (if t1199 = true then ((impl_TracesOk.f t1184).bind fun t1200 => (some t1200)) else (none))) else (none)) else (none)) else (some true)) = some r := H
                have A34 := Aside0.mk A340
                clear A340
                by_cases c35 : t1187 = true
                · subst c35
                  have H1 : (if x9_2 ≥ 1 then (if t1198 = true then ((laws_brTraces.f k2 t1195 t1184).bind fun t1199 => (if t1199 = true then ((impl_TracesOk.f t1184).bind fun t1200 => (some t1200)) else (none))) else (none)) else (none)) = some r := by rw [if_pos rfl] at H; exact H
                  clear H
                  have H := H1
                  clear H1
                  by_cases c36 : x9_2 ≥ 1
                  · rw [if_pos c36] at H
                    have c36b0 : decide (1 ≤ x9_2) = true := decide_eq_true c36
                    clear c36
                    by_cases c37 : t1198 = true
                    · subst c37
                      have H1 : ((laws_brTraces.f k2 t1195 t1184).bind fun t1199 => (if t1199 = true then ((impl_TracesOk.f t1184).bind fun t1200 => (some t1200)) else (none))) = some r := by rw [if_pos rfl] at H; exact H
                      clear H
                      have H := H1
                      clear H1
                      replace H := Option.bind_eq_some_iff.mp H
                      obtain ⟨t1199, A380, H⟩ := H
                      replace H : (if t1199 = true then ((impl_TracesOk.f t1184).bind fun t1200 => (some t1200)) else (none)) = some r := H
                      have A38 := Aside0.mk A380
                      clear A380
                      by_cases c39 : t1199 = true
                      · subst c39
                        have H1 : ((impl_TracesOk.f t1184).bind fun t1200 => (some t1200)) = some r := by rw [if_pos rfl] at H; exact H
                        clear H
                        have H := H1
                        clear H1
                        replace H := Option.bind_eq_some_iff.mp H
                        obtain ⟨t1200, A400, H⟩ := H
                        replace H : (some t1200) = some r := H
                        have A40 := Aside0.mk A400
                        clear A400
                        obtain rfl := Option.some.inj H
                        obtain ⟨Ao41, co41, eo41⟩ := Kd.S_slice HO_5.out
                        subst eo41
                        have hcz42_0 : wr.cell? ⟨gb1183, 0, none⟩ = some (.int .i64 t1178) := (blk_cell BK1183.out 0).trans rfl
                        have hcz42_1 : wr.cell? ⟨gb1183, 1, none⟩ = some (.slice Ao10 t1179.length co10) := (blk_cell BK1183.out 1).trans rfl
                        have hcz42_2 : wr.cell? ⟨gb1183, 2, none⟩ = some (.int .i64 t1182) := (blk_cell BK1183.out 2).trans rfl
                        have hfz42_0 := blk_frozen BK1183.out 0
                        have hfz42_1 := blk_frozen BK1183.out 1
                        have hfz42_2 := blk_frozen BK1183.out 2
                        go_wp2_with (first | ((with_reducible refine gate_callee (f := 55) rfl ?_); refine goesL_ (some 59) rfl rfl Try.func55 (by kernel_rfl) rfl #[.slice Ao41 t1184.length co41, .agg #[.int .i64 t1178, .slice Ao10 t1179.length co10, .int .i64 t1182]] rfl (by (try simp only [List.map_toArray, List.map_cons, List.map_nil]); first | done | rfl | (simp only [List.length_drop, List.length_take]; rfl)) ?_; (with_reducible refine (impl_TracesPut.calls k2 _ _ t1184 t1178 _ _ t1179 t1182 t1195 true _ ?side1 ?side2 ?side3 ?side4 A34.out).mono ?_); (case side1 => repeat (first | exact (Kd.S_reads' HO_5.out).2.2 | (with_reducible refine Kd.C_alloc ?_ _) | (with_reducible refine Kd.C_drewN ?_ _) | (with_reducible refine Kd.C_drew ?_))); (case side2 => exact (Kd.S_reads' HO_5.out).2.1); (case side3 => repeat (first | exact (Kd.R_reads' HO_1184001.out).2.2 | (with_reducible refine Kd.C_alloc ?_ _) | (with_reducible refine Kd.C_drewN ?_ _) | (with_reducible refine Kd.C_drew ?_))); (case side4 => exact (Kd.R_reads' HO_1184001.out).2.1); rintro e w43 ⟨v1196, rfl, ho0, hb⟩; refine ⟨_, rfl, ?_⟩; have n0_ := Aside0.mk (Kd.S_elder' (by (with_reducible repeat (first | apply Kd.S_alloc | apply Kd.S_drewN | apply Kd.S_drew)); exact HO_5.out) (Kd.S_base ho0) hb); have n1_ := Aside0.mk (Kd.R_below (by (with_reducible repeat (first | apply Kd.R_alloc | apply Kd.R_drewN | apply Kd.R_drew)); exact HO_1184001.out) hb); have n2_ := Aside0.mk (Kd.S_lower (Kd.S_newB (Kd.S_new' (Kd.S_new' ho0 (Kd.S_lt (by (with_reducible repeat (first | apply Kd.S_alloc | apply Kd.S_drewN | apply Kd.S_drew)); exact HO_5.out))) (Kd.R_lt (by (with_reducible repeat (first | apply Kd.R_alloc | apply Kd.R_drewN | apply Kd.R_drew)); exact HO_1184001.out))) (g := gb1183) (o := .cells #[.int .i64 t1178, .slice Ao10 t1179.length co10, .int .i64 t1182] 87 (0, 0)) (by (with_reducible repeat (first | refine blk_drewN ?_ _ | refine blk_drew ?_ | refine blk_alloc ?_ _)); exact BK1183.out)) (below_size (by repeat (first | (with_reducible first | exact HB.out | apply below_alloc | apply pw_below_drewN | apply below_drew1 | refine below_set ?_ GE1183.out) | exact HB.out)))); have n3_ := Aside0.mk (blk_below (g := gb1183) (o := .cells #[.int .i64 t1178, .slice Ao10 t1179.length co10, .int .i64 t1182] 87 (0, 0)) (by (with_reducible repeat (first | refine blk_drewN ?_ _ | refine blk_drew ?_ | refine blk_alloc ?_ _)); exact BK1183.out) hb); have n4_ := Aside0.mk (below_step (by repeat (first | (with_reducible first | exact HB.out | apply below_alloc | apply pw_below_drewN | apply below_drew1 | refine below_set ?_ GE1183.out) | exact HB.out)) hb); clear HO_5; clear HO_1184001; clear BK1183; clear HB; have HO_5 := n0_; have HO_1184001 := n1_; have HO1197 := n2_; have BK1183 := n3_; have HB := n4_; clear n0_ n1_ n2_ n3_ n4_; (try clear hb); (try clear hb2); (try clear hk); (try clear hi); (try clear ho0); obtain ⟨Ao44, co44, eo44⟩ := Kd.S_slice HO1197.out; subst eo44) | (go_at_call 61; (with_reducible refine (laws_brTraces.calls k2 _ _ t1195 _ _ t1184 true _ ?side1 ?side2 ?side3 ?side4 A38.out).mono ?_); (case side1 => repeat (first | exact (Kd.S_reads' HO1197.out).2.2 | (with_reducible refine Kd.C_alloc ?_ _) | (with_reducible refine Kd.C_drewN ?_ _) | (with_reducible refine Kd.C_drew ?_))); (case side2 => exact (Kd.S_reads' HO1197.out).2.1); (case side3 => repeat (first | exact (Kd.S_reads' HO_5.out).2.2 | (with_reducible refine Kd.C_alloc ?_ _) | (with_reducible refine Kd.C_drewN ?_ _) | (with_reducible refine Kd.C_drew ?_))); (case side4 => exact (Kd.S_reads' HO_5.out).2.1); rintro e w45 ⟨rfl, hb⟩; have n0_ := Aside0.mk (Kd.S_below (by (with_reducible repeat (first | apply Kd.S_alloc | apply Kd.S_drewN | apply Kd.S_drew)); exact HO_5.out) hb); have n1_ := Aside0.mk (Kd.R_below (by (with_reducible repeat (first | apply Kd.R_alloc | apply Kd.R_drewN | apply Kd.R_drew)); exact HO_1184001.out) hb); have n2_ := Aside0.mk (Kd.S_below (by (with_reducible repeat (first | apply Kd.S_alloc | apply Kd.S_drewN | apply Kd.S_drew)); exact HO1197.out) hb); have n3_ := Aside0.mk (blk_below (g := gb1183) (o := .cells #[.int .i64 t1178, .slice Ao10 t1179.length co10, .int .i64 t1182] 87 (0, 0)) (by (with_reducible repeat (first | refine blk_drewN ?_ _ | refine blk_drew ?_ | refine blk_alloc ?_ _)); exact BK1183.out) hb); have n4_ := Aside0.mk (below_step (by repeat (first | (with_reducible first | exact HB.out | apply below_alloc | apply pw_below_drewN | apply below_drew1 | refine below_set ?_ GE1183.out) | exact HB.out)) hb); clear HO_5; clear HO_1184001; clear HO1197; clear BK1183; clear HB; have HO_5 := n0_; have HO_1184001 := n1_; have HO1197 := n2_; have BK1183 := n3_; have HB := n4_; clear n0_ n1_ n2_ n3_ n4_; (try clear hb); (try clear hb2); (try clear hk); (try clear hi)) | (go_at_call 63; (with_reducible refine (impl_TracesOk.calls _ _ t1184 t1200 _ ?side1 ?side2 A40.out).mono ?_); (case side1 => repeat (first | exact (Kd.S_reads' HO_5.out).2.2 | (with_reducible refine Kd.C_alloc ?_ _) | (with_reducible refine Kd.C_drewN ?_ _) | (with_reducible refine Kd.C_drew ?_))); (case side2 => exact (Kd.S_reads' HO_5.out).2.1); rintro e w46 ⟨rfl, hb⟩; have n0_ := Aside0.mk (Kd.S_below (by (with_reducible repeat (first | apply Kd.S_alloc | apply Kd.S_drewN | apply Kd.S_drew)); exact HO_5.out) hb); have n1_ := Aside0.mk (Kd.R_below (by (with_reducible repeat (first | apply Kd.R_alloc | apply Kd.R_drewN | apply Kd.R_drew)); exact HO_1184001.out) hb); have n2_ := Aside0.mk (Kd.S_below (by (with_reducible repeat (first | apply Kd.S_alloc | apply Kd.S_drewN | apply Kd.S_drew)); exact HO1197.out) hb); have n3_ := Aside0.mk (blk_below (g := gb1183) (o := .cells #[.int .i64 t1178, .slice Ao10 t1179.length co10, .int .i64 t1182] 87 (0, 0)) (by (with_reducible repeat (first | refine blk_drewN ?_ _ | refine blk_drew ?_ | refine blk_alloc ?_ _)); exact BK1183.out) hb); have n4_ := Aside0.mk (below_step (by repeat (first | (with_reducible first | exact HB.out | apply below_alloc | apply pw_below_drewN | apply below_drew1 | refine below_set ?_ GE1183.out) | exact HB.out)) hb); clear HO_5; clear HO_1184001; clear HO1197; clear BK1183; clear HB; have HO_5 := n0_; have HO_1184001 := n1_; have HO1197 := n2_; have BK1183 := n3_; have HB := n4_; clear n0_ n1_ n2_ n3_ n4_; (try clear hb); (try clear hb2); (try clear hk); (try clear hi)))
                        go_ret
                        exact ⟨by first | rfl | (simp [errW_none, errW_some] <;> rfl) | (simp [*, errW_none, errW_some] <;> rfl), by repeat (first | (with_reducible first | exact HB.out | apply below_alloc | apply pw_below_drewN | apply below_drew1 | refine below_set ?_ GE1183.out) | exact HB.out)⟩
                      · replace c39 := Bool.eq_false_iff.mpr c39
                        subst c39
                        have H1 : (none) = some r := by rw [if_neg (show ¬ (false = true) by decide)] at H; exact H
                        clear H
                        have H := H1
                        clear H1
                        exact absurd H (by simp)
                    · replace c37 := Bool.eq_false_iff.mpr c37
                      subst c37
                      have H1 : (none) = some r := by rw [if_neg (show ¬ (false = true) by decide)] at H; exact H
                      clear H
                      have H := H1
                      clear H1
                      exact absurd H (by simp)
                  · rw [if_neg c36] at H
                    exact absurd H (by simp)
                · replace c35 := Bool.eq_false_iff.mpr c35
                  subst c35
                  have H1 : (some true) = some r := by rw [if_neg (show ¬ (false = true) by decide)] at H; exact H
                  clear H
                  have H := H1
                  clear H1
                  obtain rfl := Option.some.inj H
                  obtain ⟨Ao47, co47, eo47⟩ := Kd.S_slice HO_5.out
                  subst eo47
                  have hcz48_0 : wr.cell? ⟨gb1183, 0, none⟩ = some (.int .i64 t1178) := (blk_cell BK1183.out 0).trans rfl
                  have hcz48_1 : wr.cell? ⟨gb1183, 1, none⟩ = some (.slice Ao10 t1179.length co10) := (blk_cell BK1183.out 1).trans rfl
                  have hcz48_2 : wr.cell? ⟨gb1183, 2, none⟩ = some (.int .i64 t1182) := (blk_cell BK1183.out 2).trans rfl
                  have hfz48_0 := blk_frozen BK1183.out 0
                  have hfz48_1 := blk_frozen BK1183.out 1
                  have hfz48_2 := blk_frozen BK1183.out 2
                  go_wp2_with (first | ((with_reducible refine gate_callee (f := 55) rfl ?_); refine goesL_ (some 59) rfl rfl Try.func55 (by kernel_rfl) rfl #[.slice Ao47 t1184.length co47, .agg #[.int .i64 t1178, .slice Ao10 t1179.length co10, .int .i64 t1182]] rfl (by (try simp only [List.map_toArray, List.map_cons, List.map_nil]); first | done | rfl | (simp only [List.length_drop, List.length_take]; rfl)) ?_; (with_reducible refine (impl_TracesPut.calls k2 _ _ t1184 t1178 _ _ t1179 t1182 t1195 t1198 _ ?side1 ?side2 ?side3 ?side4 A34.out).mono ?_); (case side1 => repeat (first | exact (Kd.S_reads' HO_5.out).2.2 | (with_reducible refine Kd.C_alloc ?_ _) | (with_reducible refine Kd.C_drewN ?_ _) | (with_reducible refine Kd.C_drew ?_))); (case side2 => exact (Kd.S_reads' HO_5.out).2.1); (case side3 => repeat (first | exact (Kd.R_reads' HO_1184001.out).2.2 | (with_reducible refine Kd.C_alloc ?_ _) | (with_reducible refine Kd.C_drewN ?_ _) | (with_reducible refine Kd.C_drew ?_))); (case side4 => exact (Kd.R_reads' HO_1184001.out).2.1); rintro e w49 ⟨v1196, rfl, ho0, hb⟩; refine ⟨_, rfl, ?_⟩; have n0_ := Aside0.mk (Kd.S_elder' (by (with_reducible repeat (first | apply Kd.S_alloc | apply Kd.S_drewN | apply Kd.S_drew)); exact HO_5.out) (Kd.S_base ho0) hb); have n1_ := Aside0.mk (Kd.R_below (by (with_reducible repeat (first | apply Kd.R_alloc | apply Kd.R_drewN | apply Kd.R_drew)); exact HO_1184001.out) hb); have n2_ := Aside0.mk (Kd.S_lower (Kd.S_newB (Kd.S_new' (Kd.S_new' ho0 (Kd.S_lt (by (with_reducible repeat (first | apply Kd.S_alloc | apply Kd.S_drewN | apply Kd.S_drew)); exact HO_5.out))) (Kd.R_lt (by (with_reducible repeat (first | apply Kd.R_alloc | apply Kd.R_drewN | apply Kd.R_drew)); exact HO_1184001.out))) (g := gb1183) (o := .cells #[.int .i64 t1178, .slice Ao10 t1179.length co10, .int .i64 t1182] 87 (0, 0)) (by (with_reducible repeat (first | refine blk_drewN ?_ _ | refine blk_drew ?_ | refine blk_alloc ?_ _)); exact BK1183.out)) (below_size (by repeat (first | (with_reducible first | exact HB.out | apply below_alloc | apply pw_below_drewN | apply below_drew1 | refine below_set ?_ GE1183.out) | exact HB.out)))); have n3_ := Aside0.mk (blk_below (g := gb1183) (o := .cells #[.int .i64 t1178, .slice Ao10 t1179.length co10, .int .i64 t1182] 87 (0, 0)) (by (with_reducible repeat (first | refine blk_drewN ?_ _ | refine blk_drew ?_ | refine blk_alloc ?_ _)); exact BK1183.out) hb); have n4_ := Aside0.mk (below_step (by repeat (first | (with_reducible first | exact HB.out | apply below_alloc | apply pw_below_drewN | apply below_drew1 | refine below_set ?_ GE1183.out) | exact HB.out)) hb); clear HO_5; clear HO_1184001; clear BK1183; clear HB; have HO_5 := n0_; have HO_1184001 := n1_; have HO1197 := n2_; have BK1183 := n3_; have HB := n4_; clear n0_ n1_ n2_ n3_ n4_; (try clear hb); (try clear hb2); (try clear hk); (try clear hi); (try clear ho0)))
                  go_ret
                  exact ⟨by first | rfl | (simp [errW_none, errW_some] <;> rfl) | (simp [*, errW_none, errW_some] <;> rfl), by repeat (first | (with_reducible first | exact HB.out | apply below_alloc | apply pw_below_drewN | apply below_drew1 | refine below_set ?_ GE1183.out) | exact HB.out)⟩
def laws_FnTracesPut.Pure : Prop := ∀ (l0 : List Int), l0.length ≤ maxLen → l0.length * 1 ≤ 140737488351232 → (∀ x ∈ l0, (Lit.int .u8 x).wf = true) → ∃ k, laws_FnTracesPut.f k l0 = some true
theorem laws_FnTracesPut.walk (P : laws_FnTracesPut.Pure) (a0 : Option Addr) (len0 cap0 : Nat) (z0 : List Int) (w : World) (w0 : (a0 = none ∧ len0 = 0 ∧ cap0 = 0 ∧ z0 = []) ∨ ∃ x, a0 = some x ∧ len0 ≤ cap0 ∧ cap0 ≤ maxLen ∧ z0.length = cap0 ∧ (∀ i, i < z0.length → w.cell? (x.add i) = some (.int .u8 (z0.getD i 0))) ∧ ∀ n ∈ z0, (Lit.int .u8 n).wf = true) (y0 : len0 * 1 ≤ 140737488351232) :
    Calls Try.prog 13 #[.slice a0 len0 cap0] w fun e w' => e = .returned (.bool true) ∧ Below w.heap.size w w' := by
  obtain ⟨l0, rfl, hr0, hm0, hw0, hc0⟩ := ReadsInt.ofRowC w0
  obtain ⟨k, h⟩ := P l0 hm0 y0 hw0
  refine (laws_FnTracesPut.calls k _ _ l0 true w (Kd.C_of_reads (d := (0 : Int)) (h1 := fun _ => rfl) hr0) hc0 h).mono ?_
  rintro e w' ⟨rfl, hd⟩
  exact ⟨rfl, hd⟩
end Go.Proofs.Ytgbjbpjmbghlbaa.G
end
section
namespace Go.Proofs.Ytgbjbpjmbghlbaa.G
open Go.RowKit Go.Proofs.YtgbjbpjmbghlbaaW.PrintWords
set_option linter.unusedVariables false
set_option linter.unusedSimpArgs false
theorem isKey_ev (a : Int) : impl_isKey.f a = some (decide (0 ≤ a ∧ a < 10)) := by
  unfold impl_isKey.f
  by_cases h : a ≥ 0
  · rw [if_pos h]; simp only [ge_iff_le] at h; simp [h]
  · rw [if_neg h]; simp only [ge_iff_le] at h; simp [h]
theorem isValue_ev (a : Int) : impl_isValue.f a = some (decide (0 ≤ a ∧ a ≤ 96)) := by
  unfold impl_isValue.f
  by_cases h : a ≥ 0
  · rw [if_pos h]; simp only [ge_iff_le] at h; simp [h]
  · rw [if_neg h]; simp only [ge_iff_le] at h; simp [h]
end Go.Proofs.Ytgbjbpjmbghlbaa.G
end
section
namespace Go.Proofs.Ytgbjbpjmbghlbaa.G
open Go.RowKit Go.Proofs.YtgbjbpjmbghlbaaW.PrintWords
set_option linter.unusedVariables false
set_option linter.unusedSimpArgs false
theorem Ev.eq {α : Type} {g : Nat → Option α} {r r' : α} (h : Ev g r) (e : r = r') : Ev g r' := e ▸ h
theorem Ev.of_eq {α : Type} {o : Option α} {r : α} (h : o = some r) : Ev (fun _ => o) r := ⟨0, fun _ _ => h⟩
theorem l1Shape_now (k : Nat) (a : Int) : spec_l1Shape.f (k + 1) a = some (if a = 0 then (0, 96, true) else if a = 1 then (0, 9, true) else if a = 2 then (2, 0, true) else if a = 3 then (2, 0, true) else if a = 4 then (3, 0, true) else if a = 5 then (1, 9, true) else (0, 0, false)) := by
  unfold spec_l1Shape.f
  simp only [spec_l1Shape.j0]
  repeat' split
  all_goals simp_all
theorem l1Shape_ev (a : Int) : Ev (fun k => spec_l1Shape.f k a) (if a = 0 then (0, 96, true) else if a = 1 then (0, 9, true) else if a = 2 then (2, 0, true) else if a = 3 then (2, 0, true) else if a = 4 then (3, 0, true) else if a = 5 then (1, 9, true) else (0, 0, false)) := ⟨1, fun k hk => by
  obtain ⟨m, rfl⟩ : ∃ m, k = m + 1 := ⟨k - 1, by omega⟩
  exact l1Shape_now m a⟩
theorem l6In_ev (a b c : Int) : spec_l6In.f a b c = some (decide (b ≤ a ∧ a ≤ c)) := by
  unfold spec_l6In.f
  by_cases h : a ≥ b
  · rw [if_pos h]; simp only [ge_iff_le] at h; simp [h]
  · rw [if_neg h]; simp only [ge_iff_le] at h; simp [h]
theorem l1Fit_loop (a b : Int) (ps : List Tk) (hlen : ps.length ≤ 3) (ih : ∀ p ∈ ps, Ev (fun k => spec_l1Fit.f k p.f0 p.f1 p.f2) (fitT p)) :
    ∀ (d i : Nat), d = ps.length - i → i ≤ ps.length → Ev (fun k => spec_l1Fit.l0 k (i : Int) a b ps) (fitL (ps.drop i)) := by
  intro d
  induction d with
  | zero =>
    intro i hd hi
    have e : i = ps.length := by omega
    subst e
    refine Ev.step (fun k => by rw [spec_l1Fit.l0]) ?_
    simp only [if_neg (show ¬ ((ps.length : Int) < (ps.length : Int)) by omega), List.drop_length, fitL]
    exact Ev.now true
  | succ d ihd =>
    intro i hd hi
    have hlt : i < ps.length := by omega
    have hrd := rd_tk ps i hlt
    have hmem : ps[i] ∈ ps := List.getElem_mem hlt
    rw [drop_tk ps i hlt]
    refine Ev.step (fun k => by rw [spec_l1Fit.l0]) ?_
    simp only [if_pos (show (i : Int) < (ps.length : Int) by omega), if_pos (show (0 : Int) ≤ (i : Int) by omega), hrd]
    refine Ev.bind (ih _ hmem) ?_
    simp only [fitL]
    cases h : fitT ps[i] with
    | true =>
      simp only [if_true, Bool.true_and, wrap_nat i (by omega)]
      exact ihd (i + 1) (by omega) (by omega)
    | false =>
      simp only [Bool.false_eq_true, if_false, Bool.false_and]
      exact Ev.now false
theorem l1Fit_ev : ∀ t : Tk, Ev (fun k => spec_l1Fit.f k t.f0 t.f1 t.f2) (fitT t) := by
  refine tk_ind fun t ih => ?_
  refine Ev.step (fun k => by rw [spec_l1Fit.f]) ?_
  refine Ev.bind (l1Shape_ev t.f0) ?_
  rw [fitT_eq]
  have bad : Ev (fun k => spec_l1Fit.j0 k true t.f0 t.f1 t.f2) false := by
    refine Ev.step (fun k => by rw [spec_l1Fit.j0]) ?_
    simp only [if_true]
    exact Ev.now false
  have good : t.f2.length ≤ 3 → ∀ c : Bool, Ev (fun k => spec_l1Fit.j0 k (!c) t.f0 t.f1 t.f2) (c && fitL t.f2) := by
    intro hl c
    refine Ev.step (fun k => by rw [spec_l1Fit.j0]) ?_
    cases c with
    | false =>
      simp only [Bool.not_false, if_true, Bool.false_and]
      exact Ev.now false
    | true =>
      simp only [Bool.not_true, Bool.false_eq_true, if_false, Bool.true_and]
      exact l1Fit_loop t.f0 t.f1 t.f2 hl ih t.f2.length 0 (by omega) (by omega)
  have e0 : ∀ m : Nat, ((t.f2.length : Int) = (m : Int)) = (t.f2.length = m) := fun m => by rw [eq_iff_iff]; omega
  have e1 : ((t.f2.length : Int) = 0) = (t.f2.length = 0) := e0 0
  have e2 : ((t.f2.length : Int) = 1) = (t.f2.length = 1) := e0 1
  have e3 : ((t.f2.length : Int) = 2) = (t.f2.length = 2) := e0 2
  have e4 : ((t.f2.length : Int) = 3) = (t.f2.length = 3) := e0 3
  simp only [l6In_ev, Option.bind_some]
  unfold shapeB
  by_cases h0 : t.f0 = 0
  · simp only [h0, if_true, e1] at good bad ⊢
    by_cases hl : t.f2.length = 0
    · simp only [hl, if_true, decide_true, Bool.and_true] at good ⊢
      exact good (by omega) _
    · simp only [hl, if_false, decide_false, Bool.and_false, Bool.false_and]
      exact bad
  by_cases h1 : t.f0 = 1
  · have e9 : ∀ x : Int, (0 ≤ x ∧ x < 10) = (0 ≤ x ∧ x ≤ 9) := fun x => by rw [eq_iff_iff]; omega
    simp only [h1, if_true, e1, e9, show ¬ ((1 : Int) = 0) by decide, if_false] at good bad ⊢
    by_cases hl : t.f2.length = 0
    · simp only [hl, if_true, decide_true, Bool.and_true] at good ⊢
      exact good (by omega) _
    · simp only [hl, if_false, decide_false, Bool.and_false, Bool.false_and]
      exact bad
  by_cases h2 : t.f0 = 2
  · have e9 : ∀ x : Int, (x = 0) = (0 ≤ x ∧ x ≤ 0) := fun x => by rw [eq_iff_iff]; omega
    simp only [h2, if_true, e3, e9 t.f1, show ¬ ((2 : Int) = 0) by decide, show ¬ ((2 : Int) = 1) by decide, if_false] at good bad ⊢
    by_cases hl : t.f2.length = 2
    · simp only [hl, if_true, decide_true, Bool.and_true] at good ⊢
      exact good (by omega) _
    · simp only [hl, if_false, decide_false, Bool.and_false, Bool.false_and]
      exact bad
  by_cases h3 : t.f0 = 3
  · have e9 : ∀ x : Int, (x = 0) = (0 ≤ x ∧ x ≤ 0) := fun x => by rw [eq_iff_iff]; omega
    simp only [h3, if_true, e3, e9 t.f1, show ¬ ((3 : Int) = 0) by decide, show ¬ ((3 : Int) = 1) by decide, show ¬ ((3 : Int) = 2) by decide, if_false] at good bad ⊢
    by_cases hl : t.f2.length = 2
    · simp only [hl, if_true, decide_true, Bool.and_true] at good ⊢
      exact good (by omega) _
    · simp only [hl, if_false, decide_false, Bool.and_false, Bool.false_and]
      exact bad
  by_cases h4 : t.f0 = 4
  · have e9 : ∀ x : Int, (x = 0) = (0 ≤ x ∧ x ≤ 0) := fun x => by rw [eq_iff_iff]; omega
    simp only [h4, if_true, e4, e9 t.f1, show ¬ ((4 : Int) = 0) by decide, show ¬ ((4 : Int) = 1) by decide, show ¬ ((4 : Int) = 2) by decide, show ¬ ((4 : Int) = 3) by decide, if_false] at good bad ⊢
    by_cases hl : t.f2.length = 3
    · simp only [hl, if_true, decide_true, Bool.and_true] at good ⊢
      exact good (by omega) _
    · simp only [hl, if_false, decide_false, Bool.and_false, Bool.false_and]
      exact bad
  by_cases h5 : t.f0 = 5
  · have e9 : ∀ x : Int, (0 ≤ x ∧ x < 10) = (0 ≤ x ∧ x ≤ 9) := fun x => by rw [eq_iff_iff]; omega
    simp only [h5, if_true, e2, e9 t.f1, show ¬ ((5 : Int) = 0) by decide, show ¬ ((5 : Int) = 1) by decide, show ¬ ((5 : Int) = 2) by decide, show ¬ ((5 : Int) = 3) by decide, show ¬ ((5 : Int) = 4) by decide, if_false] at good bad ⊢
    by_cases hl : t.f2.length = 1
    · simp only [hl, if_true, decide_true, Bool.and_true] at good ⊢
      exact good (by omega) _
    · simp only [hl, if_false, decide_false, Bool.and_false, Bool.false_and]
      exact bad
  · simp only [h0, h1, h2, h3, h4, h5, if_false, Bool.false_eq_true, Bool.false_and]
    exact bad
theorem l1Nodes_loop (a b : Int) (ps : List Tk) (hlen : ps.length ≤ 4000000000) (ih : ∀ p ∈ ps, (nodT p : Int) ≤ 4000000000 → Ev (fun k => spec_l1Nodes.f k p.f0 p.f1 p.f2) (nodT p : Int)) :
    ∀ (d i : Nat) (n : Int), d = ps.length - i → i ≤ ps.length → 0 ≤ n → n + (nodL (ps.drop i) : Int) ≤ 4000000000 → Ev (fun k => spec_l1Nodes.l0 k n (i : Int) a b ps) (n + nodL (ps.drop i)) := by
  intro d
  induction d with
  | zero =>
    intro i n hd hi hn hb
    have e : i = ps.length := by omega
    subst e
    refine Ev.step (fun k => by rw [spec_l1Nodes.l0]) ?_
    simp only [if_neg (show ¬ ((ps.length : Int) < (ps.length : Int)) by omega), List.drop_length, nodL]
    exact Ev.eq (Ev.now n) (by omega)
  | succ d ihd =>
    intro i n hd hi hn hb
    have hlt : i < ps.length := by omega
    have hrd := rd_tk ps i hlt
    have hmem : ps[i] ∈ ps := List.getElem_mem hlt
    rw [drop_tk ps i hlt] at hb ⊢
    simp only [nodL] at hb ⊢
    refine Ev.step (fun k => by rw [spec_l1Nodes.l0]) ?_
    simp only [if_pos (show (i : Int) < (ps.length : Int) by omega), if_pos (show (0 : Int) ≤ (i : Int) by omega), hrd]
    refine Ev.bind (ih _ hmem (by omega)) ?_
    simp only [wrap_nat i (by omega), wrap_id (n + (nodT ps[i] : Int)) (by omega) (by omega)]
    exact Ev.eq (ihd (i + 1) (n + nodT ps[i]) (by omega) (by omega) (by omega) (by omega)) (by omega)
theorem l1Nodes_ev : ∀ t : Tk, (nodT t : Int) ≤ 4000000000 → Ev (fun k => spec_l1Nodes.f k t.f0 t.f1 t.f2) (nodT t : Int) := by
  refine tk_ind fun t ih hb => ?_
  rw [nodT_eq] at hb ⊢
  have := nodL_len t.f2
  refine Ev.step (fun k => by rw [spec_l1Nodes.f]) ?_
  exact Ev.eq (l1Nodes_loop t.f0 t.f1 t.f2 (by omega) ih t.f2.length 0 1 (by omega) (by omega) (by omega) (by rw [List.drop_zero]; omega)) (by rw [List.drop_zero]; omega)
theorem specOk_ev (t : Tk) (hb : (nodT t : Int) ≤ 4000000000) : Ev (fun k => spec_TaskOk.f k t.f0 t.f1 t.f2) (okT t) := by
  unfold spec_TaskOk.f
  refine Ev.bind (l1Fit_ev t) ?_
  unfold okT
  cases h : fitT t with
  | false =>
    simp only [Bool.false_eq_true, if_false, Bool.false_and]
    exact Ev.now false
  | true =>
    simp only [if_true, Bool.true_and]
    refine Ev.bind (l1Nodes_ev t hb) ?_
    refine Ev.of_eq ?_
    congr 1
    rw [Bool.eq_iff_iff]
    simp only [decide_eq_true_eq]
    omega
end Go.Proofs.Ytgbjbpjmbghlbaa.G
end
section
namespace Go.Proofs.Ytgbjbpjmbghlbaa.G
open Go.RowKit Go.Proofs.YtgbjbpjmbghlbaaW.PrintWords
set_option linter.unusedVariables false
set_option linter.unusedSimpArgs false
theorem xor_nonneg (a b : Int) (ha : 0 ≤ a) (ha2 : a < 4611686018427387904) (hb : 0 ≤ b) (hb2 : b < 4611686018427387904) : 0 ≤ Go.bits .xor .i64 a b := by
  obtain ⟨x, rfl⟩ := Int.eq_ofNat_of_zero_le ha
  obtain ⟨y, rfl⟩ := Int.eq_ofNat_of_zero_le hb
  have hx : x < 2 ^ 62 := by omega
  have hy : y < 2 ^ 62 := by omega
  have hx2 : x % 2 ^ 64 = x := Nat.mod_eq_of_lt (by omega)
  have hy2 : y % 2 ^ 64 = y := Nat.mod_eq_of_lt (by omega)
  have hz : x ^^^ y < 2 ^ 62 := Nat.xor_lt_two_pow hx hy
  have e : Go.bits .xor .i64 (x : Int) (y : Int) = ((x ^^^ y : Nat) : Int) := by
    show IntKind.i64.wrap ((BitVec.ofInt 64 (x : Int) ^^^ BitVec.ofInt 64 (y : Int)).toNat : Int) = _
    rw [BitVec.toNat_xor, BitVec.ofInt_natCast, BitVec.ofInt_natCast, BitVec.toNat_ofNat, BitVec.toNat_ofNat, hx2, hy2, IntKind.wrap_i64]
    omega
  rw [e]
  omega
def byteL (l : List Int) : Prop := ∀ x ∈ l, 0 ≤ x ∧ x ≤ 255
theorem rd_byte {l : List Int} (h : byteL l) (i : Int) : 0 ≤ rd l i ∧ rd l i ≤ 255 := by
  unfold rd
  by_cases hi : i.toNat < l.length
  · rw [List.getD_eq_getElem?_getD, List.getElem?_eq_getElem hi, Option.getD_some]
    exact h _ (List.getElem_mem hi)
  · rw [List.getD_eq_getElem?_getD, List.getElem?_eq_none (by omega), Option.getD_none]
    omega
theorem pick_ev {l : List Int} (hl : byteL l) (hlen : l.length ≤ 1048576) (p n : Int) (h0 : 0 ≤ p) (h1 : p ≤ 1099511627776) :
    ∃ v, Ev (fun k => spec_l6Rd_pick.f k l p n) (v, p + 1) ∧ 0 ≤ v ∧ (1 ≤ n → v < n) ∧ (n < 1 → v = 0) := by
  have e1 : wrap64 (p + 1) = p + 1 := wrap_id _ (by omega) (by omega)
  have e2 : wrap64 (p + 1 - 1) = p := by rw [wrap_id (p + 1 - 1) (by omega) (by omega)]; omega
  by_cases hn : n < 1
  · refine ⟨0, ?_, by omega, by omega, by omega⟩
    unfold spec_l6Rd_pick.f
    simp only [if_pos hn, e1]
    refine Ev.step (fun k => by rw [spec_l6Rd_pick.j0]) ?_
    simp only [if_true]
    exact Ev.now _
  · by_cases hz : l.length = 0
    · refine ⟨0, ?_, by omega, by omega, by omega⟩
      unfold spec_l6Rd_pick.f
      simp only [if_neg hn, e1, show ((l.length : Int) == 0) = true by simp [hz]]
      refine Ev.step (fun k => by rw [spec_l6Rd_pick.j0]) ?_
      simp only [if_true]
      exact Ev.now _
    · have hzb : ((l.length : Int) == 0) = false := beq_eq_false_iff_ne.mpr (by omega)
      by_cases hp : p < (l.length : Int)
      · have hr := rd_byte hl p
        have ew : wrap64 (rd l p) = rd l p := wrap_id _ (by omega) (by omega)
        refine ⟨Int.tmod (rd l p) n, ?_, Int.tmod_nonneg _ hr.1, fun _ => Int.tmod_lt_of_pos _ (by omega), by omega⟩
        unfold spec_l6Rd_pick.f
        simp only [if_neg hn, e1, hzb]
        refine Ev.step (fun k => by rw [spec_l6Rd_pick.j0]) ?_
        simp only [Bool.false_eq_true, if_false, e2, if_pos hp, if_pos h0, if_neg (show ¬ n = 0 by omega), ew]
        exact Ev.now _
      · have hl0 : 0 < (l.length : Int) := by omega
        have t1 := Int.tmod_nonneg (l.length : Int) h0
        have t2 := Int.tmod_lt_of_pos p hl0
        have e3 : wrap64 (p * 7) = p * 7 := wrap_id _ (by omega) (by omega)
        have e4 : wrap64 (p * 7 + 3) = p * 7 + 3 := wrap_id _ (by omega) (by omega)
        have t3 := Int.tmod_nonneg (l.length : Int) (show 0 ≤ p * 7 + 3 by omega)
        have t4 := Int.tmod_lt_of_pos (p * 7 + 3) hl0
        have q1 : 0 ≤ Int.tdiv p (l.length : Int) := Int.tdiv_nonneg h0 (by omega)
        have q2 : Int.tdiv p (l.length : Int) ≤ p := by
          rw [Int.tdiv_eq_ediv_of_nonneg h0]
          exact Int.ediv_le_self _ h0
        have ha := rd_byte hl (Int.tmod p (l.length : Int))
        have hb := rd_byte hl (Int.tmod (p * 7 + 3) (l.length : Int))
        have key : ∃ v, Ev (fun k => spec_l6Rd_pick.j0 k n false l (p + 1)) (v, p + 1) ∧ 0 ≤ v ∧ (1 ≤ n → v < n) := by
          refine ⟨?_, ?_, ?_, ?_⟩
          rotate_left
          · refine Ev.step (fun k => by rw [spec_l6Rd_pick.j0]) ?_
            simp only [Bool.false_eq_true, if_false, e2, if_neg hp, if_neg (show ¬ (l.length : Int) = 0 by omega), if_pos t1, if_pos t2, e3, e4, if_pos t3, if_pos t4, if_neg (show ¬ n = 0 by omega)]
            exact Ev.now _
          · refine Int.tmod_nonneg _ ?_
            generalize rd l (Int.tmod p (l.length : Int)) = a at *
            generalize rd l (Int.tmod (p * 7 + 3) (l.length : Int)) = b at *
            generalize Int.tdiv p (l.length : Int) = q at *
            have hX : 0 ≤ wrap64 (wrap64 (wrap64 (wrap64 (wrap64 a * 131) + wrap64 (wrap64 b * 1117)) + wrap64 (p * 29)) + wrap64 (wrap64 q * 53)) ∧ wrap64 (wrap64 (wrap64 (wrap64 (wrap64 a * 131) + wrap64 (wrap64 b * 1117)) + wrap64 (p * 29)) + wrap64 (wrap64 q * 53)) < 4611686018427387904 := by
              simp only [wrap_id a (by omega) (by omega), wrap_id b (by omega) (by omega), wrap_id q (by omega) (by omega), wrap_id (a * 131) (by omega) (by omega), wrap_id (b * 1117) (by omega) (by omega), wrap_id (q * 53) (by omega) (by omega), wrap_id (p * 29) (by omega) (by omega), wrap_id (a * 131 + b * 1117) (by omega) (by omega), wrap_id (a * 131 + b * 1117 + p * 29) (by omega) (by omega), wrap_id (a * 131 + b * 1117 + p * 29 + q * 53) (by omega) (by omega)]
              omega
            generalize wrap64 (wrap64 (wrap64 (wrap64 (wrap64 a * 131) + wrap64 (wrap64 b * 1117)) + wrap64 (p * 29)) + wrap64 (wrap64 q * 53)) = X at *
            have hY : 0 ≤ Int.tdiv X 64 := Int.tdiv_nonneg hX.1 (by omega)
            have hY2 : Int.tdiv X 64 ≤ X := by
              rw [Int.tdiv_eq_ediv_of_nonneg hX.1]
              exact Int.ediv_le_self _ hX.1
            rw [wrap_id (Int.tdiv X 64) (by omega) (by omega)]
            exact xor_nonneg _ _ hX.1 hX.2 hY (by omega)
          · intro _
            exact Int.tmod_lt_of_pos _ (by omega)
        obtain ⟨v, hv, hv1, hv2⟩ := key
        refine ⟨v, ?_, hv1, hv2, by omega⟩
        unfold spec_l6Rd_pick.f
        simp only [if_neg hn, e1, hzb]
        exact hv
theorem key_ev {l : List Int} (hl : byteL l) (hlen : l.length ≤ 1048576) (p below : Int) (h0 : 0 ≤ p) (h1 : p + 1 ≤ 1099511627776) (hb : below ≤ 10) :
    ∃ v p', Ev (fun k => spec_l91Key.f k l p below) (v, p') ∧ 0 ≤ v ∧ v ≤ 9 ∧ p ≤ p' ∧ p' ≤ p + 2 := by
  obtain ⟨v, hv, v0, v1, v2⟩ := pick_ev hl hlen p 25 h0 (by omega)
  by_cases hz : v = 0
  · refine ⟨9, p + 1, ?_, by omega, by omega, by omega, by omega⟩
    unfold spec_l91Key.f
    refine Ev.bind hv ?_
    simp only [if_pos hz]
    exact Ev.now _
  · obtain ⟨u, hu, u0, u1, u2⟩ := pick_ev hl hlen (p + 1) below (by omega) (by omega)
    refine ⟨u, p + 1 + 1, ?_, by omega, ?_, by omega, by omega⟩
    · unfold spec_l91Key.f
      refine Ev.bind hv ?_
      simp only [if_neg hz]
      exact Ev.bind hu (Ev.now _)
    · by_cases hc : 1 ≤ below
      · have := u1 hc; omega
      · have := u2 (by omega); omega
def room : Nat → Int
  | 0 => 4
  | d + 1 => 4 * room d
theorem room_pos : ∀ d, 4 ≤ room d
  | 0 => by simp [room]
  | d + 1 => by have := room_pos d; simp only [room]; omega
theorem room2 : room 2 = 64 := by decide
theorem room_le {d : Nat} (h : d ≤ 3) : room d ≤ 256 := by
  match d, h with
  | 0, _ => decide
  | 1, _ => decide
  | 2, _ => decide
  | 3, _ => decide
theorem tk_eta (t : Tk) : (⟨t.f0, t.f1, t.f2⟩ : Tk) = t := by cases t; rfl
theorem nodT_one (a b : Int) : nodT ⟨a, b, []⟩ = 1 := by simp [nodT, nodL]
theorem task_ev {l : List Int} (hl : byteL l) (hlen : l.length ≤ 1048576) (below : Int) (hb : below ≤ 10) : ∀ (d : Nat) (p : Int), d ≤ 3 → 0 ≤ p → p + 4 * room d + 10 ≤ 1099511627776 →
    ∃ (t : Tk) (p' : Int), Ev (fun k => spec_l91Task.f k l p below (d : Int)) (t.f0, t.f1, t.f2, p') ∧ p ≤ p' ∧ p' ≤ p + room d ∧ (nodT t : Int) ≤ room d := by
  intro d
  induction d with
  | zero =>
    intro p hd h0 h1
    have hr0 : room 0 = 4 := rfl
    obtain ⟨v, hv, v0, v1, v2⟩ := pick_ev hl hlen p 9 h0 (by omega)
    have num : ∃ (t : Tk) (p' : Int), Ev (fun k => spec_l91Task.j1 k below true l (p + 1)) (t.f0, t.f1, t.f2, p') ∧ p ≤ p' ∧ p' ≤ p + room 0 ∧ (nodT t : Int) ≤ room 0 := by
      obtain ⟨u, hu, u0, u1, u2⟩ := pick_ev hl hlen (p + 1) 97 (by omega) (by omega)
      refine ⟨⟨0, u, []⟩, p + 1 + 1, ?_, by omega, by simp only [room]; omega, by rw [nodT_one]; simp [room]⟩
      refine Ev.step (fun k => by rw [spec_l91Task.j1]) ?_
      simp only [if_true]
      exact Ev.bind hu (Ev.now _)
    have key : ∃ (t : Tk) (p' : Int), Ev (fun k => spec_l91Task.j1 k below false l (p + 1)) (t.f0, t.f1, t.f2, p') ∧ p ≤ p' ∧ p' ≤ p + room 0 ∧ (nodT t : Int) ≤ room 0 := by
      obtain ⟨u, p', hu, u0, u1, u2, u3⟩ := key_ev hl hlen (p + 1) below (by omega) (by omega) hb
      refine ⟨⟨1, u, []⟩, p', ?_, by omega, by simp only [room]; omega, by rw [nodT_one]; simp [room]⟩
      refine Ev.step (fun k => by rw [spec_l91Task.j1]) ?_
      simp only [Bool.false_eq_true, if_false]
      exact Ev.bind hu (Ev.now _)
    have both : ∃ (t : Tk) (p' : Int), Ev (fun k => spec_l91Task.j0 k below ((0 : Nat) : Int) v true l (p + 1)) (t.f0, t.f1, t.f2, p') ∧ p ≤ p' ∧ p' ≤ p + room 0 ∧ (nodT t : Int) ≤ room 0 := by
      by_cases h2 : Int.tmod v 2 = 0
      · obtain ⟨t, p', ht, hr⟩ := num
        refine ⟨t, p', ?_, hr⟩
        refine Ev.step (fun k => by rw [spec_l91Task.j0]) ?_
        simp only [if_true, if_pos h2]
        exact ht
      · cases hz : (below == 0) with
        | true =>
          obtain ⟨t, p', ht, hr⟩ := num
          refine ⟨t, p', ?_, hr⟩
          refine Ev.step (fun k => by rw [spec_l91Task.j0]) ?_
          simp only [if_true, if_neg h2, hz]
          exact ht
        | false =>
          obtain ⟨t, p', ht, hr⟩ := key
          refine ⟨t, p', ?_, hr⟩
          refine Ev.step (fun k => by rw [spec_l91Task.j0]) ?_
          simp only [if_true, if_neg h2, hz]
          exact ht
    obtain ⟨t, p', ht, hr⟩ := both
    refine ⟨t, p', ?_, hr⟩
    refine Ev.step (fun k => by rw [spec_l91Task.f]) ?_
    refine Ev.bind hv ?_
    simp only [if_pos (show ((0 : Nat) : Int) = 0 from rfl)]
    exact ht
  | succ d ih =>
    intro p hd h0 h1
    have hr0 := room_pos d
    have hr1 := room_le (show d ≤ 3 by omega)
    have hr2 : room (d + 1) = 4 * room d := rfl
    have ew : wrap64 (((d + 1 : Nat) : Int) - 1) = (d : Int) := by rw [wrap_id (((d + 1 : Nat) : Int) - 1) (by omega) (by omega)]; omega
    obtain ⟨v, hv, v0, v1, v2⟩ := pick_ev hl hlen p 9 h0 (by omega)
    have leaf : ∀ b, ∃ (t : Tk) (p' : Int), Ev (fun k => spec_l91Task.j1 k below b l (p + 1)) (t.f0, t.f1, t.f2, p') ∧ p ≤ p' ∧ p' ≤ p + room (d + 1) ∧ (nodT t : Int) ≤ room (d + 1) := by
      intro b
      cases b with
      | true =>
        obtain ⟨u, hu, u0, u1, u2⟩ := pick_ev hl hlen (p + 1) 97 (by omega) (by omega)
        refine ⟨⟨0, u, []⟩, p + 1 + 1, ?_, by omega, by omega, by rw [nodT_one]; omega⟩
        refine Ev.step (fun k => by rw [spec_l91Task.j1]) ?_
        simp only [if_true]
        exact Ev.bind hu (Ev.now _)
      | false =>
        obtain ⟨u, p', hu, u0, u1, u2, u3⟩ := key_ev hl hlen (p + 1) below (by omega) (by omega) hb
        refine ⟨⟨1, u, []⟩, p', ?_, by omega, by omega, by rw [nodT_one]; omega⟩
        refine Ev.step (fun k => by rw [spec_l91Task.j1]) ?_
        simp only [Bool.false_eq_true, if_false]
        exact Ev.bind hu (Ev.now _)
    have main : ∃ (t : Tk) (p' : Int), Ev (fun k => spec_l91Task.j0 k below ((d + 1 : Nat) : Int) v (decide (v < 3)) l (p + 1)) (t.f0, t.f1, t.f2, p') ∧ p ≤ p' ∧ p' ≤ p + room (d + 1) ∧ (nodT t : Int) ≤ room (d + 1) := by
      by_cases h3 : v < 3
      · by_cases h2 : Int.tmod v 2 = 0
        · obtain ⟨t, p', ht, hr⟩ := leaf true
          refine ⟨t, p', ?_, hr⟩
          refine Ev.step (fun k => by rw [spec_l91Task.j0]) ?_
          simp only [decide_eq_true h3, if_true, if_pos h2]
          exact ht
        · obtain ⟨t, p', ht, hr⟩ := leaf (below == 0)
          refine ⟨t, p', ?_, hr⟩
          refine Ev.step (fun k => by rw [spec_l91Task.j0]) ?_
          simp only [decide_eq_true h3, if_true, if_neg h2]
          exact ht
      · have h3b : decide (v < 3) = false := decide_eq_false h3
        obtain ⟨t1, p1, e1, a1, b1, n1⟩ := ih (p + 1) (by omega) (by omega) (by omega)
        obtain ⟨t2, p2, e2, a2, b2, n2⟩ := ih p1 (by omega) (by omega) (by omega)
        by_cases h5 : v < 5
        · refine ⟨⟨2, 0, [t1, t2]⟩, p2, ?_, by omega, by omega, ?_⟩
          · refine Ev.step (fun k => by rw [spec_l91Task.j0]) ?_
            simp only [h3b, Bool.false_eq_true, if_false, if_pos h5, ew]
            exact Ev.bind e1 (Ev.bind e2 (Ev.eq (Ev.now _) (by simp only [tk_eta])))
          · simp only [nodT, nodL]; omega
        · by_cases h6 : v = 5
          · refine ⟨⟨3, 0, [t1, t2]⟩, p2, ?_, by omega, by omega, ?_⟩
            · refine Ev.step (fun k => by rw [spec_l91Task.j0]) ?_
              simp only [h3b, Bool.false_eq_true, if_false, if_neg h5, if_pos h6, ew]
              exact Ev.bind e1 (Ev.bind e2 (Ev.eq (Ev.now _) (by simp only [tk_eta])))
            · simp only [nodT, nodL]; omega
          · have three : ∀ q : Int, p + 1 ≤ q → q ≤ p + 2 → ∃ (t : Tk) (p' : Int), Ev (fun k => spec_l91Task.j2 k below ((d + 1 : Nat) : Int) true l q) (t.f0, t.f1, t.f2, p') ∧ p ≤ p' ∧ p' ≤ p + room (d + 1) ∧ (nodT t : Int) ≤ room (d + 1) := by
              intro q hq1 hq2
              obtain ⟨t1, p1, e1, a1, b1, n1⟩ := ih q (by omega) (by omega) (by omega)
              obtain ⟨t2, p2, e2, a2, b2, n2⟩ := ih p1 (by omega) (by omega) (by omega)
              obtain ⟨t3, p3, e3, a3, b3, n3⟩ := ih p2 (by omega) (by omega) (by omega)
              refine ⟨⟨4, 0, [t1, t2, t3]⟩, p3, ?_, by omega, by omega, ?_⟩
              · refine Ev.step (fun k => by rw [spec_l91Task.j2]) ?_
                simp only [if_true, ew]
                exact Ev.bind e1 (Ev.bind e2 (Ev.bind e3 (Ev.eq (Ev.now _) (by simp only [tk_eta]))))
              · simp only [nodT, nodL]; omega
            by_cases h8 : v < 8
            · obtain ⟨t, p', ht, hr⟩ := three (p + 1) (by omega) (by omega)
              refine ⟨t, p', ?_, hr⟩
              refine Ev.step (fun k => by rw [spec_l91Task.j0]) ?_
              simp only [h3b, Bool.false_eq_true, if_false, if_neg h5, if_neg h6, if_pos h8]
              exact ht
            · obtain ⟨u, hu, u0, u1, u2⟩ := pick_ev hl hlen (p + 1) 3 (by omega) (by omega)
              by_cases hu0 : u > 0
              · obtain ⟨t, p', ht, hr⟩ := three (p + 1 + 1) (by omega) (by omega)
                refine ⟨t, p', ?_, hr⟩
                refine Ev.step (fun k => by rw [spec_l91Task.j0]) ?_
                simp only [h3b, Bool.false_eq_true, if_false, if_neg h5, if_neg h6, if_neg h8]
                refine Ev.bind hu ?_
                simp only [decide_eq_true hu0]
                exact ht
              · obtain ⟨x, hx, x0, x1, x2⟩ := pick_ev hl hlen (p + 1 + 1) 10 (by omega) (by omega)
                obtain ⟨t1, p1, e1, a1, b1, n1⟩ := ih (p + 1 + 1 + 1) (by omega) (by omega) (by omega)
                refine ⟨⟨5, x, [t1]⟩, p1, ?_, by omega, by omega, ?_⟩
                · refine Ev.step (fun k => by rw [spec_l91Task.j0]) ?_
                  simp only [h3b, Bool.false_eq_true, if_false, if_neg h5, if_neg h6, if_neg h8]
                  refine Ev.bind hu ?_
                  simp only [decide_eq_false hu0]
                  refine Ev.step (fun k => by rw [spec_l91Task.j2]) ?_
                  simp only [Bool.false_eq_true, if_false, ew]
                  exact Ev.bind hx (Ev.bind e1 (Ev.eq (Ev.now _) (by simp only [tk_eta])))
                · simp only [nodT, nodL]; omega
    obtain ⟨t, p', ht, hr⟩ := main
    refine ⟨t, p', ?_, hr⟩
    refine Ev.step (fun k => by rw [spec_l91Task.f]) ?_
    refine Ev.bind hv ?_
    simp only [if_neg (show ¬ ((d + 1 : Nat) : Int) = 0 by omega)]
    exact ht
theorem fit_ev {l : List Int} (hl : byteL l) (hlen : l.length ≤ 1048576) (below : Int) (hb : below ≤ 10) (p : Int) (h0 : 0 ≤ p) (h1 : p + 2000 ≤ 1099511627776) :
    ∃ (t : Tk) (p' : Int), Ev (fun k => spec_l91Fit.f k l p below) (t.f0, t.f1, t.f2, p') ∧ p ≤ p' ∧ p' ≤ p + 100 ∧ okT t = true := by
  obtain ⟨t, p', ht, a, b, n⟩ := task_ev hl hlen below hb 2 p (by omega) h0 (by rw [room2]; omega)
  rw [room2] at b n
  cases hok : okT t with
  | true =>
    refine ⟨t, p', ?_, a, by omega, hok⟩
    unfold spec_l91Fit.f
    refine Ev.bind ht ?_
    refine Ev.bind (specOk_ev t (by omega)) ?_
    rw [hok]
    simp only [if_true]
    exact Ev.now _
  | false =>
    obtain ⟨u, hu, u0, u1, u2⟩ := pick_ev hl hlen p' 10 (by omega) (by omega)
    have u3 := u1 (by omega)
    refine ⟨⟨1, u, []⟩, p' + 1, ?_, by omega, by omega, ?_⟩
    · unfold spec_l91Fit.f
      refine Ev.bind ht ?_
      refine Ev.bind (specOk_ev t (by omega)) ?_
      rw [hok]
      simp only [Bool.false_eq_true, if_false]
      exact Ev.bind hu (Ev.now _)
    · simp only [okT, fitT, fitL, nodT, nodL, shapeB, List.length_nil]
      simp
      omega
theorem num_ev {l : List Int} (hl : byteL l) (hlen : l.length ≤ 1048576) (p : Int) (h0 : 0 ≤ p) (h1 : p ≤ 1099511627776) (ns : List Int) (hn : 0 < ns.length) :
    ∃ x ∈ ns, Ev (fun k => spec_l91Num.f k l p ns) (x, p + 1) := by
  obtain ⟨u, hu, u0, u1, u2⟩ := pick_ev hl hlen p (ns.length : Int) h0 h1
  have u3 := u1 (by omega)
  obtain ⟨i, rfl⟩ := Int.eq_ofNat_of_zero_le u0
  have hi : i < ns.length := by omega
  refine ⟨ns[i], List.getElem_mem hi, ?_⟩
  unfold spec_l91Num.f
  refine Ev.bind hu ?_
  simp only [if_pos u0, if_pos u3]
  have e : rd ns (i : Int) = ns[i] := by
    simp only [rd, Int.toNat_natCast, List.getD_eq_getElem?_getD, List.getElem?_eq_getElem hi, Option.getD_some]
  rw [e]
  exact Ev.now _
theorem open_ev {l : List Int} (hl : byteL l) : ∃ l', spec_l6Open.f l = some (l', 0) ∧ byteL l' ∧ l'.length ≤ 2000 := by
  unfold spec_l6Open.f
  by_cases h : (l.length : Int) > 2000
  · refine ⟨l.take 2000, by rw [if_pos h, if_pos (by omega)], fun x hx => hl x (List.mem_of_mem_take hx), by simp; omega⟩
  · exact ⟨l, by rw [if_neg h], hl, by omega⟩
theorem byteL_of {l : List Int} (h : ∀ x ∈ l, (Lit.int .u8 x).wf = true) : byteL l := by
  intro x hx
  have h1 := h x hx
  simp only [Lit.wf, Bool.and_eq_true, decide_eq_true_eq] at h1
  have e1 : IntKind.u8.min = 0 := by decide
  have e2 : IntKind.u8.max = 255 := by decide
  rw [e1, e2] at h1
  exact h1
end Go.Proofs.Ytgbjbpjmbghlbaa.G
end
section
namespace Go.Proofs.Ytgbjbpjmbghlbaa.G
open Go.RowKit Go.Proofs.YtgbjbpjmbghlbaaW.PrintWords
set_option linter.unusedVariables false
set_option linter.unusedSimpArgs false
def Rep (D : List Int → Int → Int → TR) (x : Int) (fs : List Fk) : Prop :=
  (∀ (pre post : List Int) (lk : Int), D (pre ++ (fs.map (·.f1) ++ post)) (pre.length : Int) lk = (x, true, ((pre.length + fs.length : Nat) : Int), lk)) ∧
  (∀ (pre : List Int) (m : Nat) (f : Fk) (lk : Int), fs[m]? = some f → D (pre ++ (fs.map (·.f1)).take m) (pre.length : Int) lk = (0, false, ((pre.length + m : Nat) : Int), f.f0))
theorem rep_get (n x : Int) : Rep (fun got a lk => getT got a lk n) x [⟨n, x⟩] := by
  refine ⟨fun pre post lk => ?_, fun pre m f lk hf => ?_⟩
  · have e : rd (pre ++ ([(⟨n, x⟩ : Fk)].map (·.f1) ++ post)) (pre.length : Int) = x := by
      simp [rd, List.getD_eq_getElem?_getD]
    show getT (pre ++ ([(⟨n, x⟩ : Fk)].map (·.f1) ++ post)) (pre.length : Int) lk n = _
    unfold getT
    rw [if_neg (by simp only [List.length_append, List.map_cons, List.map_nil, List.length_cons, List.length_nil]; omega), e]
    rfl
  · match m, hf with
    | 0, hf =>
      simp only [List.getElem?_cons_zero, Option.some.injEq] at hf
      subst hf
      unfold getT
      simp
    | m + 1, hf => simp at hf
theorem rep_pure (x : Int) : Rep (fun _ a lk => (x, true, a, lk)) x [] := ⟨fun pre post lk => rfl, fun pre m f lk hf => by simp at hf⟩
theorem rep_seq {D : List Int → Int → Int → TR} {E : List Int → Int → Int → Int → TR} {v u : Int} {fs gs : List Fk} (h : Rep D v fs) (g : Rep (fun got a lk => E got v a lk) u gs) : Rep (fun got a lk => seqT (D got a lk) (E got)) u (fs ++ gs) := by
  refine ⟨fun pre post lk => ?_, fun pre m f lk hf => ?_⟩
  · have e1 := h.1 pre (gs.map (·.f1) ++ post) lk
    have e2 := g.1 (pre ++ fs.map (·.f1)) post lk
    simp only at e2
    rw [List.map_append, List.append_assoc]
    simp only [e1, seqT, if_true]
    rw [show pre ++ (fs.map (·.f1) ++ (gs.map (·.f1) ++ post)) = (pre ++ fs.map (·.f1)) ++ (gs.map (·.f1) ++ post) by simp]
    rw [show ((pre.length + fs.length : Nat) : Int) = ((pre ++ fs.map (·.f1)).length : Int) by simp, e2]
    simp only [List.length_append, List.length_map]
    rw [Nat.add_assoc]
  · rw [List.map_append]
    by_cases hm : m < fs.length
    · rw [List.getElem?_append_left hm] at hf
      rw [List.take_append_of_le_length (by rw [List.length_map]; omega)]
      simp only [h.2 pre m f lk hf, seqT, Bool.false_eq_true, if_false]
    · rw [List.getElem?_append_right (by omega)] at hf
      have e0 : (fs.map (·.f1) ++ gs.map (·.f1)).take m = fs.map (·.f1) ++ (gs.map (·.f1)).take (m - fs.length) := by
        rw [List.take_append, List.length_map, List.take_of_length_le (by rw [List.length_map]; omega)]
      rw [e0]
      have e1 := h.1 pre ((gs.map (·.f1)).take (m - fs.length)) lk
      have e2 := g.2 (pre ++ fs.map (·.f1)) (m - fs.length) f lk hf
      simp only at e2
      simp only [e1, seqT, if_true]
      rw [← List.append_assoc]
      rw [show ((pre.length + fs.length : Nat) : Int) = ((pre ++ fs.map (·.f1)).length : Int) by simp, e2]
      simp only [List.length_append, List.length_map]
      rw [show pre.length + fs.length + (m - fs.length) = pre.length + m by omega]
theorem rep_congr {D D' : List Int → Int → Int → TR} {x : Int} {fs : List Fk} (h : Rep D x fs) (e : D' = D) : Rep D' x fs := e ▸ h
theorem rep_doT (vs : List Int) {t : Tk} (h : Fits t) : Rep (fun got a lk => doT got t a lk) (runT vs t).1 (runT vs t).2 := by
  induction h with
  | num n h0 h1 => rw [runT_num]; exact rep_congr (rep_pure n) (by funext got a lk; exact doT_num got n a lk)
  | get n h0 h1 => rw [runT_get]; exact rep_congr (rep_get n _) (by funext got a lk; exact doT_get got n a lk)
  | add x y _ _ ihx ihy =>
    rw [runT_add]
    have h := rep_seq (E := fun got v a lk => seqT (doT got y a lk) fun u a lk => ((v + u) % 97, true, a, lk)) ihx (rep_seq (E := fun got u a lk => (((runT vs x).1 + u) % 97, true, a, lk)) ihy (rep_pure _))
    rw [List.append_nil] at h
    exact rep_congr h (by funext got a lk; exact doT_add got x y a lk)
  | mul x y _ _ ihx ihy =>
    rw [runT_mul]
    have h := rep_seq (E := fun got v a lk => seqT (doT got y a lk) fun u a lk => ((v * u) % 97, true, a, lk)) ihx (rep_seq (E := fun got u a lk => (((runT vs x).1 * u) % 97, true, a, lk)) ihy (rep_pure _))
    rw [List.append_nil] at h
    exact rep_congr h (by funext got a lk; exact doT_mul got x y a lk)
  | iff x y z _ _ _ ihx ihy ihz =>
    by_cases hv : (runT vs x).1 = 0
    · rw [runT_if0 vs x y z hv]
      have h := rep_seq (E := fun got v a lk => if v = 0 then doT got z a lk else doT got y a lk) ihx (rep_congr ihz (by funext got a lk; rw [if_pos hv]))
      exact rep_congr h (by funext got a lk; exact doT_if got x y z a lk)
    · rw [runT_if1 vs x y z hv]
      have h := rep_seq (E := fun got v a lk => if v = 0 then doT got z a lk else doT got y a lk) ihx (rep_congr ihy (by funext got a lk; rw [if_neg hv]))
      exact rep_congr h (by funext got a lk; exact doT_if got x y z a lk)
  | «at» n h0 h1 x _ ihx =>
    rw [runT_at]
    have h := rep_seq (E := fun got v a lk => getT got a lk ((n + v) % 10)) ihx (rep_get ((n + (runT vs x).1) % 10) (atV vs ((n + (runT vs x).1) % 10)))
    exact rep_congr h (by funext got a lk; exact doT_at got n x a lk)
theorem runT_keys {vs : List Int} (hv : vs.all isVal = true) {t : Tk} (h : Fits t) : ∀ f ∈ (runT vs t).2, 0 ≤ f.f0 ∧ f.f0 ≤ 9 ∧ f.f1 = atV vs f.f0 := by
  induction h with
  | num n h0 h1 => rw [runT_num]; intro f hf; cases hf
  | get n h0 h1 =>
    rw [runT_get]
    intro f hf
    simp only [List.mem_singleton] at hf
    subst hf
    exact ⟨h0, h1, rfl⟩
  | add x y _ _ ihx ihy =>
    rw [runT_add]
    intro f hf
    rcases List.mem_append.1 hf with hf | hf
    · exact ihx f hf
    · exact ihy f hf
  | mul x y _ _ ihx ihy =>
    rw [runT_mul]
    intro f hf
    rcases List.mem_append.1 hf with hf | hf
    · exact ihx f hf
    · exact ihy f hf
  | iff x y z _ _ _ ihx ihy ihz =>
    by_cases hz : (runT vs x).1 = 0
    · rw [runT_if0 vs x y z hz]
      intro f hf
      rcases List.mem_append.1 hf with hf | hf
      · exact ihx f hf
      · exact ihz f hf
    · rw [runT_if1 vs x y z hz]
      intro f hf
      rcases List.mem_append.1 hf with hf | hf
      · exact ihx f hf
      · exact ihy f hf
  | «at» n h0 h1 x hx ihx =>
    rw [runT_at]
    have hval := runT_val hv hx
    intro f hf
    rcases List.mem_append.1 hf with hf | hf
    · exact ihx f hf
    · simp only [List.mem_singleton] at hf
      subst hf
      refine ⟨?_, ?_, rfl⟩ <;> simp only <;> omega
end Go.Proofs.Ytgbjbpjmbghlbaa.G
end
section
namespace Go.Proofs.Ytgbjbpjmbghlbaa.G
open Go.RowKit Go.Proofs.YtgbjbpjmbghlbaaW.PrintWords
set_option linter.unusedVariables false
set_option linter.unusedSimpArgs false
theorem allLoop {α : Type} (l : List α) (F : Nat → Int → Option Bool) (one : Nat → α → Option Bool) (p : α → Bool)
    (hend : ∀ k, F (k + 1) (l.length : Int) = some true)
    (hstep : ∀ k (i : Nat) (h : i < l.length), F (k + 1) (i : Int) = (one k l[i]).bind fun t => if t = true then F k ((i + 1 : Nat) : Int) else some false)
    (hone : ∀ x ∈ l, Ev (fun k => one k x) (p x)) : ∀ (d i : Nat), d = l.length - i → i ≤ l.length → Ev (fun k => F k (i : Int)) ((l.drop i).all p) := by
  intro d
  induction d with
  | zero =>
    intro i hd hi
    have e : i = l.length := by omega
    subst e
    refine Ev.step (fun k => hend k) ?_
    simp only [List.drop_length, List.all_nil]
    exact Ev.now true
  | succ d ihd =>
    intro i hd hi
    have hlt : i < l.length := by omega
    rw [drop_tk l i hlt, List.all_cons]
    refine Ev.step (fun k => hstep k i hlt) ?_
    refine Ev.bind (hone _ (List.getElem_mem hlt)) ?_
    cases hp : p l[i] with
    | true => simp only [if_true, Bool.true_and]; exact ihd (i + 1) (by omega) (by omega)
    | false => simp only [Bool.false_eq_true, if_false, Bool.false_and]; exact Ev.now false
theorem eqLoop {α : Type} (l : List α) (F : Nat → Int → Option Bool) (one : Nat → α → Option Bool)
    (hend : ∀ k, F (k + 1) (l.length : Int) = some true)
    (hstep : ∀ k (i : Nat) (h : i < l.length), F (k + 1) (i : Int) = (one k l[i]).bind fun t => if t = true then F k ((i + 1 : Nat) : Int) else some false)
    (hone : ∀ x ∈ l, Ev (fun k => one k x) true) : Ev (fun k => F k 0) true := by
  have h := allLoop l F one (fun _ => true) hend hstep hone l.length 0 (by omega) (by omega)
  simp only [List.drop_zero, List.all_eq_true, implies_true] at h
  exact Ev.eq h (by simp)
end Go.Proofs.Ytgbjbpjmbghlbaa.G
end
section
namespace Go.Proofs.Ytgbjbpjmbghlbaa.G
open Go.RowKit Go.Proofs.YtgbjbpjmbghlbaaW.PrintWords
set_option linter.unusedVariables false
set_option linter.unusedSimpArgs false
theorem l2OfR_ev (l : List Int) (k : Int) (h : 0 ≤ k) : spec_l2Of.f l k = some (atV l k) := by
  unfold spec_l2Of.f atV
  by_cases h2 : k < (l.length : Int)
  · rw [if_pos h2, if_pos h, if_pos ⟨h, h2⟩]
  · rw [if_neg h2, if_neg (by omega)]
end Go.Proofs.Ytgbjbpjmbghlbaa.G
end
section
namespace Go.Proofs.Ytgbjbpjmbghlbaa.G
open Go.RowKit Go.Proofs.YtgbjbpjmbghlbaaW.PrintWords
set_option linter.unusedVariables false
set_option linter.unusedSimpArgs false
theorem next_f (t : Tk) (hf : fitT t = true) (got : List Int) (hg : got.all isVal = true) (hl : got.length ≤ 1000000) : spec_l2Next.f t.f0 t.f1 t.f2 got = some ((doT got t 0 0).1, (doT got t 0 0).2.2.2, (doT got t 0 0).2.1) := by
  have e : (⟨t.f0, t.f1, t.f2⟩ : Tk) = t := by cases t; rfl
  unfold spec_l2Next.f
  rw [e, if_pos ⟨hf, hg, hl⟩]
theorem run_loop (vs : List Int) (hv : vs.all isVal = true) (t : Tk) (hf : fitT t = true) (hn : (runT vs t).2.length ≤ 1000) :
    ∀ (d i : Nat), d = (runT vs t).2.length - i → i ≤ (runT vs t).2.length →
      Ev (fun k => spec_l2Run.l0 k vs ((runT vs t).2.take i) (((runT vs t).2.take i).map (·.f1)) (doT (((runT vs t).2.take i).map (·.f1)) t 0 0).1 (doT (((runT vs t).2.take i).map (·.f1)) t 0 0).2.2.2 (doT (((runT vs t).2.take i).map (·.f1)) t 0 0).2.1 t.f0 t.f1 t.f2) (runT vs t) := by
  have hrep := rep_doT vs (fits_of t hf)
  have hkeys := runT_keys hv (fits_of t hf)
  have hall : ∀ i, (((runT vs t).2.take i).map (·.f1)).all isVal = true := by
    intro i
    rw [List.all_eq_true]
    intro x hx
    obtain ⟨f, hfm, rfl⟩ := List.mem_map.1 hx
    have h1 := hkeys f (List.mem_of_mem_take hfm)
    have h2 := atV_val hv f.f0
    simp only [isVal, decide_eq_true_eq]
    rw [h1.2.2]
    exact h2
  intro d
  induction d with
  | zero =>
    intro i hd hi
    have e : i = (runT vs t).2.length := by omega
    subst e
    rw [List.take_length]
    have h := hrep.1 [] [] 0
    simp only [List.nil_append, List.append_nil, List.length_nil, Int.natCast_zero, Int.ofNat_zero] at h
    have h' : doT ((runT vs t).2.map (·.f1)) t 0 0 = ((runT vs t).1, true, ((0 + (runT vs t).2.length : Nat) : Int), 0) := h
    rw [h']
    refine Ev.step (fun k => by rw [spec_l2Run.l0]) ?_
    simp only [if_true]
    exact Ev.now _
  | succ d ihd =>
    intro i hd hi
    have hlt : i < (runT vs t).2.length := by omega
    have h := hrep.2 [] i (runT vs t).2[i] 0 (List.getElem?_eq_getElem hlt)
    simp only [List.nil_append, List.length_nil, Int.natCast_zero, Int.ofNat_zero] at h
    rw [← List.map_take] at h
    have h' : doT (((runT vs t).2.take i).map (·.f1)) t 0 0 = (0, false, ((0 + i : Nat) : Int), ((runT vs t).2[i]).f0) := h
    rw [h']
    have hk := hkeys _ (List.getElem_mem hlt)
    have e1 : ((runT vs t).2.take i).map (·.f1) ++ [atV vs ((runT vs t).2[i]).f0] = ((runT vs t).2.take (i + 1)).map (·.f1) := by
      rw [List.take_succ_eq_append_getElem hlt, List.map_append, List.map_singleton, hk.2.2]
    have e2 : (runT vs t).2.take i ++ [(⟨((runT vs t).2[i]).f0, atV vs ((runT vs t).2[i]).f0⟩ : Fk)] = (runT vs t).2.take (i + 1) := by
      rw [List.take_succ_eq_append_getElem hlt]
      congr 2
      rw [← hk.2.2]
    refine Ev.step (fun k => by rw [spec_l2Run.l0]) ?_
    simp only [Bool.false_eq_true, if_false, l2OfR_ev vs _ hk.1, Option.bind_some]
    simp only [if_pos (show ((runT vs t).2.take i).length < 8796093022208 by rw [List.length_take]; omega), if_pos (show (((runT vs t).2.take i).map (·.f1)).length < 17592186044416 by rw [List.length_map, List.length_take]; omega), e1, e2]
    simp only [next_f t hf _ (hall (i + 1)) (by rw [List.length_map, List.length_take]; omega), Option.bind_some]
    exact ihd (i + 1) (by omega) (by omega)
theorem l2Run_ev (vs : List Int) (hv : vs.all isVal = true) (t : Tk) (hf : fitT t = true) (hn : nodT t ≤ 1000) : Ev (fun k => spec_l2Run.f k t.f0 t.f1 t.f2 vs) (runT vs t) := by
  unfold spec_l2Run.f
  have hl := runT_len vs (fits_of t hf)
  simp only [Option.bind_some, next_f t hf [] (by rfl) (by simp)]
  have h := run_loop vs hv t hf (by omega) (runT vs t).2.length 0 (by omega) (by omega)
  simp only [List.take_zero, List.map_nil] at h
  exact h
end Go.Proofs.Ytgbjbpjmbghlbaa.G
end
section
namespace Go.Proofs.Ytgbjbpjmbghlbaa.G
open Go.RowKit Go.Proofs.YtgbjbpjmbghlbaaW.PrintWords
set_option linter.unusedVariables false
set_option linter.unusedSimpArgs false
abbrev Trc := S87
theorem rd_fk (l : List Fk) (i : Nat) (h : i < l.length) : rd_T117 l (i : Int) = l[i] := by
  simp only [rd_T117, Int.toNat_natCast, List.getD_eq_getElem?_getD, List.getElem?_eq_getElem h, Option.getD_some]
theorem rd_trc (l : List Trc) (i : Nat) (h : i < l.length) : rd_T87 l (i : Int) = l[i] := by
  simp only [rd_T87, Int.toNat_natCast, List.getD_eq_getElem?_getD, List.getElem?_eq_getElem h, Option.getD_some]
def fkOk (f : Fk) : Bool := decide (0 ≤ f.f0 ∧ f.f0 < 10) && decide (0 ≤ f.f1 ∧ f.f1 ≤ 96)
def trOk (t : Trc) : Bool := ((decide (0 ≤ t.f0 ∧ t.f0 < 10) && decide (0 ≤ t.f2 ∧ t.f2 ≤ 96)) && decide ((onceL t.f1).length = t.f1.length)) && t.f1.all fkOk
theorem onceF_nodup (out : List Fk) (f : Fk) (h : (out.map (·.f0)).Nodup) : ((onceF out f).map (·.f0)).Nodup := by
  unfold onceF
  split
  · exact h
  · rename_i hn
    rw [List.map_append, List.map_singleton, List.nodup_append]
    refine ⟨h, by simp, ?_⟩
    intro a ha b hb
    have hb' : b = f.f0 := by simpa using hb
    subst hb'
    rintro rfl
    apply hn
    obtain ⟨g, hg, he⟩ := List.mem_map.1 ha
    exact List.any_eq_true.2 ⟨g, hg, by simp [he]⟩
theorem onceF_mem (out : List Fk) (f g : Fk) (h : g ∈ onceF out f) : g ∈ out ∨ g = f := by
  unfold onceF at h
  split at h
  · exact .inl h
  · simpa using h
theorem fold_once (l : List Fk) : ∀ out : List Fk, (out.map (·.f0)).Nodup → ((l.foldl onceF out).map (·.f0)).Nodup ∧ ∀ g ∈ l.foldl onceF out, g ∈ out ∨ g ∈ l := by
  induction l with
  | nil => intro out h; exact ⟨h, fun g hg => .inl hg⟩
  | cons f l ih =>
    intro out h
    obtain ⟨h1, h2⟩ := ih (onceF out f) (onceF_nodup out f h)
    refine ⟨h1, fun g hg => ?_⟩
    rcases h2 g hg with h3 | h3
    · rcases onceF_mem out f g h3 with h4 | h4
      · exact .inl h4
      · exact .inr (by simp [h4])
    · exact .inr (by simp [h3])
theorem onceL_nodup (l : List Fk) : ((onceL l).map (·.f0)).Nodup := (fold_once l [] (by simp)).1
theorem onceL_mem (l : List Fk) : ∀ g ∈ onceL l, g ∈ l := by
  intro g hg
  rcases (fold_once l [] (by simp)).2 g hg with h | h
  · cases h
  · exact h
theorem onceL_length (l : List Fk) : (onceL l).length ≤ l.length := by
  have := onceL_len l l.length (Nat.le_refl _)
  rwa [List.take_length] at this
theorem few_keys : ∀ (n : Nat) (l : List Int), l.Nodup → (∀ x ∈ l, 0 ≤ x ∧ x < (n : Int)) → l.length ≤ n := by
  intro n
  induction n with
  | zero =>
    intro l _ h
    cases l with
    | nil => simp
    | cons x xs => have := h x (by simp); omega
  | succ n ih =>
    intro l hn h
    by_cases hm : (n : Int) ∈ l
    · have h1 := List.length_erase_of_mem hm
      have h2 : ∀ x ∈ l.erase (n : Int), 0 ≤ x ∧ x < (n : Int) := by
        intro x hx
        have h3 := (List.Nodup.mem_erase_iff hn).1 hx
        have h4 := h x h3.2
        have h5 := h3.1
        omega
      have h6 := ih _ (hn.erase (n : Int)) h2
      have h7 : 0 < l.length := List.length_pos_of_mem hm
      omega
    · have h2 : ∀ x ∈ l, 0 ≤ x ∧ x < (n : Int) := by
        intro x hx
        have h4 := h x hx
        have h5 : x ≠ (n : Int) := fun e => hm (e ▸ hx)
        omega
      have := ih l hn h2
      omega
theorem trOk_len {t : Trc} (h : trOk t = true) : t.f1.length ≤ 10 := by
  simp only [trOk, Bool.and_eq_true, decide_eq_true_eq] at h
  have h1 := few_keys 10 ((onceL t.f1).map (·.f0)) (onceL_nodup t.f1) (fun x hx => by
    obtain ⟨g, hg, rfl⟩ := List.mem_map.1 hx
    have h2 := List.all_eq_true.1 h.2 g (onceL_mem t.f1 g hg)
    simp only [fkOk, Bool.and_eq_true, decide_eq_true_eq] at h2
    exact h2.1)
  rw [List.length_map] at h1
  omega
theorem implFk_ev (a b : Int) : impl_Trace_ok_1.f a b = some (!fkOk ⟨a, b⟩) := by
  unfold impl_Trace_ok_1.f fkOk
  simp only [isKey_ev, isValue_ev, Option.bind_some]
  by_cases h : 0 ≤ a ∧ a < 10
  · simp [h]
  · simp [h]
theorem implFks_ev (l : List Fk) : impl_Trace_ok_1_any.f l = some (!(l.all fkOk)) := by
  unfold impl_Trace_ok_1_any.f
  rw [if_pos (fun x _ => by rw [implFk_ev]; rfl)]
  congr 1
  rw [List.all_eq_not_any_not, Bool.not_not]
  congr 1
  funext x
  rw [implFk_ev]
  rfl
theorem implTr_ev (t : Trc) (h : t.f1.length < 8796093022208) : impl_Trace_ok.f t.f0 t.f1 t.f2 = some (trOk t) := by
  unfold impl_Trace_ok.f trOk
  simp only [isKey_ev, isValue_ev, Option.bind_some, impl_once.f, if_pos h, implFks_ev, Bool.not_not]
  have e : ((onceL t.f1).length : Int) = (t.f1.length : Int) ↔ (onceL t.f1).length = t.f1.length := by omega
  simp only [e]
  by_cases h1 : 0 ≤ t.f0 ∧ t.f0 < 10
  · by_cases h2 : 0 ≤ t.f2 ∧ t.f2 ≤ 96
    · by_cases h3 : (onceL t.f1).length = t.f1.length
      · simp [h1, h2, h3]
      · simp [h1, h2, h3]
    · simp [h1, h2]
  · simp [h1]
def trsOk (l : List Trc) : Bool := decide (l.length ≤ 60) && l.all trOk
theorem implTrs_ev (l : List Trc) (h : ∀ t ∈ l, t.f1.length < 8796093022208) : impl_TracesOk.f l = some (trsOk l) := by
  have h1 : ∀ t ∈ l, impl_TracesOk_1.f t.f0 t.f1 t.f2 = some (!trOk t) := by
    intro t ht
    unfold impl_TracesOk_1.f
    rw [implTr_ev t (h t ht), Option.bind_some]
  have h2 : impl_TracesOk_1_any.f l = some (!(l.all trOk)) := by
    unfold impl_TracesOk_1_any.f
    rw [if_pos (fun x hx => by rw [h1 x hx]; rfl)]
    congr 1
    rw [List.all_eq_not_any_not, Bool.not_not]
    clear h
    induction l with
    | nil => rfl
    | cons t l ih =>
      simp only [List.any_cons]
      rw [h1 t (by simp), ih (fun x hx => h1 x (by simp [hx]))]
      rfl
  unfold impl_TracesOk.f trsOk
  by_cases hl : l.length ≤ 60
  · rw [if_pos (by omega), h2]
    simp [hl]
  · rw [if_neg (by omega)]
    simp [hl]
theorem l5Once_inner (l out : List Fk) (i : Nat) (hi : i < l.length) (hol : out.length ≤ 4000000000) (rest : Ev (fun k => spec_l5Once.l0 k l (onceF out l[i]) (wrap64 ((i : Int) + 1))) (onceL l)) :
    ∀ (d j : Nat) (b : Bool), d = out.length - j → j ≤ out.length → (b || (out.drop j).any fun g => g.f0 == l[i].f0) = (out.any fun g => g.f0 == l[i].f0) → Ev (fun k => spec_l5Once.l1 k l out (i : Int) b (j : Int)) (onceL l) := by
  intro d
  induction d with
  | zero =>
    intro j b hd hj hb
    have e : j = out.length := by omega
    subst e
    rw [List.drop_length, List.any_nil, Bool.or_false] at hb
    refine Ev.step (fun k => by rw [spec_l5Once.l1]) ?_
    simp only [if_neg (show ¬ ((out.length : Int) < (out.length : Int)) by omega)]
    unfold onceF at rest
    cases b with
    | true =>
      rw [if_pos hb.symm] at rest
      simp only [if_true]
      exact rest
    | false =>
      rw [if_neg (by rw [← hb]; decide)] at rest
      simp only [Bool.false_eq_true, if_false, if_pos (show (0 : Int) ≤ (i : Int) by omega), if_pos (show (i : Int) < (l.length : Int) by omega), if_pos (show out.length < 8796093022208 by omega), rd_fk l i hi]
      exact rest
  | succ d ihd =>
    intro j b hd hj hb
    have hlt : j < out.length := by omega
    refine Ev.step (fun k => by rw [spec_l5Once.l1]) ?_
    rw [drop_tk out j hlt, List.any_cons] at hb
    simp only [if_pos (show (j : Int) < (out.length : Int) by omega), wrap_nat j (by omega)]
    cases b with
    | true =>
      simp only [if_true]
      exact ihd (j + 1) true (by omega) (by omega) (by rw [← hb]; simp)
    | false =>
      simp only [Bool.false_eq_true, if_false, if_pos (show (0 : Int) ≤ (j : Int) by omega), if_pos (show (0 : Int) ≤ (i : Int) by omega), if_pos (show (i : Int) < (l.length : Int) by omega), rd_fk l i hi, rd_fk out j hlt]
      exact ihd (j + 1) _ (by omega) (by omega) (by rw [← hb, Bool.false_or])
theorem l5Once_loop (l : List Fk) (hl : l.length ≤ 4000000000) : ∀ (d i : Nat), d = l.length - i → i ≤ l.length → Ev (fun k => spec_l5Once.l0 k l ((l.take i).foldl onceF []) (i : Int)) (onceL l) := by
  intro d
  induction d with
  | zero =>
    intro i hd hi
    have e : i = l.length := by omega
    subst e
    refine Ev.step (fun k => by rw [spec_l5Once.l0]) ?_
    simp only [if_neg (show ¬ ((l.length : Int) < (l.length : Int)) by omega), List.take_length]
    exact Ev.now _
  | succ d ihd =>
    intro i hd hi
    have hlt : i < l.length := by omega
    refine Ev.step (fun k => by rw [spec_l5Once.l0]) ?_
    simp only [if_pos (show (i : Int) < (l.length : Int) by omega)]
    have h := ihd (i + 1) (by omega) (by omega)
    rw [onceL_take l i hlt] at h
    have hol := onceL_len l i (by omega)
    refine l5Once_inner l _ i hlt (by omega) (by rw [wrap_nat i (by omega)]; exact h) _ 0 false rfl (by omega) ?_
    rw [List.drop_zero, Bool.false_or]
theorem l5Once_ev (l : List Fk) (hl : l.length ≤ 4000000000) : Ev (fun k => spec_l5Once.f k l) (onceL l) := by
  unfold spec_l5Once.f
  exact l5Once_loop l hl l.length 0 (by omega) (by omega)
theorem l5One_loop (t : Trc) (hl : t.f1.length ≤ 10) : ∀ (d i : Nat), d = t.f1.length - i → i ≤ t.f1.length → Ev (fun k => spec_l5One.l0 k (i : Int) t.f0 t.f1 t.f2) ((t.f1.drop i).all fkOk && decide ((onceL t.f1).length = t.f1.length)) := by
  intro d
  induction d with
  | zero =>
    intro i hd hi
    have e : i = t.f1.length := by omega
    subst e
    refine Ev.step (fun k => by rw [spec_l5One.l0]) ?_
    simp only [if_neg (show ¬ ((t.f1.length : Int) < (t.f1.length : Int)) by omega), List.drop_length, List.all_nil, Bool.true_and]
    refine Ev.bind (l5Once_ev t.f1 (by omega)) ?_
    refine Ev.of_eq ?_
    congr 1
    rw [Bool.eq_iff_iff]
    simp only [beq_iff_eq, decide_eq_true_eq]
    omega
  | succ d ihd =>
    intro i hd hi
    have hlt : i < t.f1.length := by omega
    refine Ev.step (fun k => by rw [spec_l5One.l0]) ?_
    rw [drop_tk t.f1 i hlt, List.all_cons]
    simp only [if_pos (show (i : Int) < (t.f1.length : Int) by omega), if_pos (show (0 : Int) ≤ (i : Int) by omega), rd_fk t.f1 i hlt, l6In_ev, Option.bind_some, wrap_nat i (by omega)]
    have e9 : (0 ≤ t.f1[i].f0 ∧ t.f1[i].f0 ≤ 9) ↔ (0 ≤ t.f1[i].f0 ∧ t.f1[i].f0 < 10) := by omega
    simp only [fkOk, decide_eq_true_eq, e9]
    by_cases h1 : 0 ≤ t.f1[i].f0 ∧ t.f1[i].f0 < 10
    · by_cases h2 : 0 ≤ t.f1[i].f1 ∧ t.f1[i].f1 ≤ 96
      · simp only [if_pos h1, if_pos h2, decide_eq_true h1, decide_eq_true h2, Bool.true_and]
        exact ihd (i + 1) (by omega) (by omega)
      · simp only [if_pos h1, if_neg h2, decide_eq_true h1, decide_eq_false h2, Bool.and_false, Bool.false_and]
        exact Ev.now false
    · simp only [if_neg h1, decide_eq_false h1, Bool.false_and]
      exact Ev.now false
theorem l5One_ev (t : Trc) : Ev (fun k => spec_l5One.f k t.f0 t.f1 t.f2) (trOk t) := by
  unfold spec_l5One.f
  have bad : Ev (fun k => spec_l5One.j0 k true t.f0 t.f1 t.f2) false := by
    refine Ev.step (fun k => by rw [spec_l5One.j0]) ?_
    simp only [if_true]
    exact Ev.now false
  by_cases hl : t.f1.length ≤ 10
  · simp only [if_neg (show ¬ ((t.f1.length : Int) > 10) by omega), l6In_ev, Option.bind_some]
    have e9 : (0 ≤ t.f0 ∧ t.f0 ≤ 9) ↔ (0 ≤ t.f0 ∧ t.f0 < 10) := by omega
    simp only [decide_eq_true_eq, e9]
    by_cases h1 : 0 ≤ t.f0 ∧ t.f0 < 10
    · simp only [if_pos h1]
      refine Ev.step (fun k => by rw [spec_l5One.j0]) ?_
      by_cases h2 : 0 ≤ t.f2 ∧ t.f2 ≤ 96
      · simp only [decide_eq_true h2, Bool.not_true, Bool.false_eq_true, if_false]
        refine Ev.eq (l5One_loop t hl t.f1.length 0 (by omega) (by omega)) ?_
        rw [List.drop_zero, trOk, decide_eq_true h1, decide_eq_true h2, Bool.and_comm]
        simp
      · simp only [decide_eq_false h2, Bool.not_false, if_true]
        exact Ev.eq (Ev.now false) (by rw [trOk, decide_eq_false h2]; simp)
    · simp only [if_neg h1]
      exact Ev.eq bad (by rw [trOk, decide_eq_false h1]; simp)
  · simp only [if_pos (show ((t.f1.length : Int) > 10) by omega)]
    refine Ev.eq bad ?_
    cases h : trOk t with
    | false => rfl
    | true => exact absurd (trOk_len h) hl
theorem specTrs_loop (l : List Trc) (hl : l.length ≤ 60) : ∀ (d i : Nat), d = l.length - i → i ≤ l.length → Ev (fun k => spec_TracesOk.l0 k l (i : Int)) ((l.drop i).all trOk) := by
  intro d
  induction d with
  | zero =>
    intro i hd hi
    have e : i = l.length := by omega
    subst e
    refine Ev.step (fun k => by rw [spec_TracesOk.l0]) ?_
    simp only [if_neg (show ¬ ((l.length : Int) < (l.length : Int)) by omega), List.drop_length, List.all_nil]
    exact Ev.now true
  | succ d ihd =>
    intro i hd hi
    have hlt : i < l.length := by omega
    refine Ev.step (fun k => by rw [spec_TracesOk.l0]) ?_
    rw [drop_tk l i hlt, List.all_cons]
    simp only [if_pos (show (i : Int) < (l.length : Int) by omega), if_pos (show (0 : Int) ≤ (i : Int) by omega), rd_trc l i hlt]
    refine Ev.bind (l5One_ev _) ?_
    cases h : trOk l[i] with
    | true =>
      simp only [if_true, Bool.true_and, wrap_nat i (by omega)]
      exact ihd (i + 1) (by omega) (by omega)
    | false =>
      simp only [Bool.false_eq_true, if_false, Bool.false_and]
      exact Ev.now false
theorem specTrs_ev (l : List Trc) : Ev (fun k => spec_TracesOk.f k l) (trsOk l) := by
  unfold spec_TracesOk.f trsOk
  by_cases hl : l.length ≤ 60
  · simp only [if_neg (show ¬ ((l.length : Int) > 60) by omega), decide_eq_true hl, Bool.true_and]
    exact specTrs_loop l hl l.length 0 (by omega) (by omega)
  · simp only [if_pos (show ((l.length : Int) > 60) by omega), decide_eq_false hl, Bool.false_and]
    exact Ev.now false
end Go.Proofs.Ytgbjbpjmbghlbaa.G
end
section
namespace Go.Proofs.Ytgbjbpjmbghlbaa.G
open Go.RowKit Go.Proofs.YtgbjbpjmbghlbaaW.PrintWords
set_option linter.unusedVariables false
set_option linter.unusedSimpArgs false
theorem of_ev (key : Int) (t : Tk) (ht : okT t = true) (vs : List Int) (hv : vs.all isVal = true) : Ev (fun k => spec_l5Of.f k key t.f0 t.f1 t.f2 vs) (key, onceL (runT vs t).2, (runT vs t).1) := by
  have h1 := runT_len vs (fits_of t (okT_fit ht))
  have h2 := okT_nod ht
  unfold spec_l5Of.f
  refine Ev.bind (l2Run_ev vs hv t (okT_fit ht) (by omega)) ?_
  exact Ev.bind (l5Once_ev _ (by omega)) (Ev.now _)
def TrDrawn (t : Trc) : Prop := t.f1.length ≤ 20 ∧ ∀ f ∈ t.f1, 0 ≤ f.f0 ∧ f.f0 ≤ 10
theorem trace_end {l : List Int} (hl : byteL l) (hlen : l.length ≤ 1048576) (p : Int) (h0 : 0 ≤ p) (h1 : p + 10 ≤ 1099511627776) (t : Trc) (ht : TrDrawn t) :
    ∃ (u : Trc) (p' : Int), Ev (fun k => spec_l91Trace.j1 k l p t.f0 t.f1 t.f2) (u.f0, u.f1, u.f2, p') ∧ p ≤ p' ∧ p' ≤ p + 2 ∧ TrDrawn u := by
  obtain ⟨v, hv, v0, v1, v2⟩ := pick_ev hl hlen p 20 h0 (by omega)
  by_cases hz : v = 0
  · obtain ⟨x, _, hx⟩ := num_ev hl hlen (p + 1) (by omega) (by omega) [97, -1, 0] (by simp)
    refine ⟨⟨t.f0, t.f1, x⟩, p + 1 + 1, ?_, by omega, by omega, ht⟩
    refine Ev.step (fun k => by rw [spec_l91Trace.j1]) ?_
    refine Ev.bind hv ?_
    simp only [if_pos hz]
    exact Ev.bind hx (Ev.now _)
  · refine ⟨t, p + 1, ?_, by omega, by omega, ht⟩
    refine Ev.step (fun k => by rw [spec_l91Trace.j1]) ?_
    refine Ev.bind hv ?_
    simp only [if_neg hz]
    exact Ev.now _
theorem trace_loop {l : List Int} (hl : byteL l) (hlen : l.length ≤ 1048576) : ∀ (d : Nat) (out : List Int) (p : Int), d ≤ 10 → out.length + d ≤ 10 → out.all isVal = true → 0 ≤ p → p + d + 3000 ≤ 1099511627776 →
    ∃ (u : Trc) (p' : Int), Ev (fun k => spec_l91Trace.l0 k out (d : Int) l p) (u.f0, u.f1, u.f2, p') ∧ p ≤ p' ∧ p' ≤ p + d + 200 ∧ TrDrawn u := by
  intro d
  induction d with
  | zero =>
    intro out p hd ho hv h0 h1
    obtain ⟨key, hk, k0, k1, k2⟩ := pick_ev hl hlen p 10 h0 (by omega)
    obtain ⟨t, p1, ht, a, b, hok⟩ := fit_ev hl hlen 10 (by omega) (p + 1) (by omega) (by omega)
    obtain ⟨c, hc, c0, c1, c2⟩ := pick_ev hl hlen p1 8 (by omega) (by omega)
    have hof := of_ev key t hok out hv
    have hlen1 := runT_len out (fits_of t (okT_fit hok))
    have hnod := okT_nod hok
    have hol := onceL_length (runT out t).2
    have hkeys : ∀ f ∈ onceL (runT out t).2, 0 ≤ f.f0 ∧ f.f0 ≤ 10 := by
      intro f hf
      have h := runT_keys hv (fits_of t (okT_fit hok)) f (onceL_mem _ f hf)
      omega
    by_cases hz : c = 0
    · obtain ⟨x, hx, x0, x1, x2⟩ := pick_ev hl hlen (p1 + 1) 11 (by omega) (by omega)
      obtain ⟨y, hy, y0, y1, y2⟩ := pick_ev hl hlen (p1 + 1 + 1) 5 (by omega) (by omega)
      have x3 := x1 (by omega)
      obtain ⟨u, p', hu, a2, b2, hd2⟩ := trace_end hl hlen (p1 + 1 + 1 + 1) (by omega) (by omega) ⟨key, onceL (runT out t).2 ++ [⟨x, y⟩], (runT out t).1⟩ ⟨by simp only [List.length_append, List.length_singleton]; omega, by
        intro f hf
        rcases List.mem_append.1 hf with hf | hf
        · exact hkeys f hf
        · simp only [List.mem_singleton] at hf
          subst hf
          simp only
          omega⟩
      refine ⟨u, p', ?_, by omega, by omega, hd2⟩
      refine Ev.step (fun k => by rw [spec_l91Trace.l0]) ?_
      simp only [if_neg (show ¬ (((0 : Nat) : Int) > 0) by omega)]
      refine Ev.bind hk (Ev.bind ht (Ev.bind hof (Ev.bind hc ?_)))
      simp only [if_pos hz]
      refine Ev.bind hx (Ev.bind hy ?_)
      simp only [if_pos (show (onceL (runT out t).2).length < 8796093022208 by omega)]
      exact hu
    · obtain ⟨u, p', hu, a2, b2, hd2⟩ := trace_end hl hlen (p1 + 1) (by omega) (by omega) ⟨key, onceL (runT out t).2, (runT out t).1⟩ ⟨by simp only; omega, hkeys⟩
      refine ⟨u, p', ?_, by omega, by omega, hd2⟩
      refine Ev.step (fun k => by rw [spec_l91Trace.l0]) ?_
      simp only [if_neg (show ¬ (((0 : Nat) : Int) > 0) by omega)]
      refine Ev.bind hk (Ev.bind ht (Ev.bind hof (Ev.bind hc ?_)))
      simp only [if_neg hz]
      exact hu
  | succ d ih =>
    intro out p hd ho hv h0 h1
    obtain ⟨x, hx, x0, x1, x2⟩ := pick_ev hl hlen p 5 h0 (by omega)
    have x3 := x1 (by omega)
    have hv2 : (out ++ [x]).all isVal = true := by
      rw [List.all_append, hv]
      simp [isVal]
      omega
    obtain ⟨u, p', hu, a, b, hd2⟩ := ih (out ++ [x]) (p + 1) (by omega) (by simp; omega) hv2 (by omega) (by omega)
    refine ⟨u, p', ?_, by omega, by omega, hd2⟩
    refine Ev.step (fun k => by rw [spec_l91Trace.l0]) ?_
    simp only [if_pos (show (((d + 1 : Nat) : Int) > 0) by omega)]
    refine Ev.bind hx ?_
    have ew : wrap64 (((d + 1 : Nat) : Int) - 1) = (d : Int) := by rw [wrap_id (((d + 1 : Nat) : Int) - 1) (by omega) (by omega)]; omega
    simp only [if_pos (show out.length < 17592186044416 by omega), ew]
    exact hu
theorem trace_ev {l : List Int} (hl : byteL l) (hlen : l.length ≤ 1048576) (p : Int) (h0 : 0 ≤ p) (h1 : p + 4000 ≤ 1099511627776) :
    ∃ (u : Trc) (p' : Int), Ev (fun k => spec_l91Trace.f k l p) (u.f0, u.f1, u.f2, p') ∧ p ≤ p' ∧ p' ≤ p + 300 ∧ TrDrawn u := by
  obtain ⟨v, hv, v0, v1, v2⟩ := pick_ev hl hlen p 11 h0 (by omega)
  have v3 := v1 (by omega)
  obtain ⟨d, rfl⟩ := Int.eq_ofNat_of_zero_le v0
  obtain ⟨u, p', hu, a, b, hd⟩ := trace_loop hl hlen d [] (p + 1) (by omega) (by simp; omega) (by rfl) (by omega) (by omega)
  refine ⟨u, p', ?_, by omega, by omega, hd⟩
  unfold spec_l91Trace.f
  exact Ev.bind hv hu
theorem traces_loop {l : List Int} (hl : byteL l) (hlen : l.length ≤ 1048576) : ∀ (d : Nat) (out : List Trc) (p : Int), d ≤ 10 → out.length + d ≤ 10 → (∀ t ∈ out, TrDrawn t) → 0 ≤ p → p + 300 * d + 4000 ≤ 1099511627776 →
    ∃ (ts : List Trc) (p' : Int), Ev (fun k => spec_l91Traces.l0 k out (d : Int) l p) (ts, p') ∧ p ≤ p' ∧ p' ≤ p + 300 * d ∧ ts.length ≤ 10 ∧ ∀ t ∈ ts, TrDrawn t := by
  intro d
  induction d with
  | zero =>
    intro out p hd ho hT h0 h1
    refine ⟨out, p, ?_, by omega, by omega, by omega, hT⟩
    refine Ev.step (fun k => by rw [spec_l91Traces.l0]) ?_
    simp only [if_neg (show ¬ (((0 : Nat) : Int) > 0) by omega)]
    exact Ev.now _
  | succ d ih =>
    intro out p hd ho hT h0 h1
    obtain ⟨u, p1, hu, a, b, hdu⟩ := trace_ev hl hlen p h0 (by omega)
    obtain ⟨ts, p', hts, a2, b2, c2, d2⟩ := ih (out ++ [u]) p1 (by omega) (by simp; omega) (fun t ht => by
      rcases List.mem_append.1 ht with ht | ht
      · exact hT t ht
      · simp only [List.mem_singleton] at ht
        exact ht ▸ hdu) (by omega) (by omega)
    refine ⟨ts, p', ?_, by omega, by omega, c2, d2⟩
    refine Ev.step (fun k => by rw [spec_l91Traces.l0]) ?_
    simp only [if_pos (show (((d + 1 : Nat) : Int) > 0) by omega)]
    refine Ev.bind hu ?_
    have ew : wrap64 (((d + 1 : Nat) : Int) - 1) = (d : Int) := by rw [wrap_id (((d + 1 : Nat) : Int) - 1) (by omega) (by omega)]; omega
    simp only [if_pos (show out.length < 3518437208883 by omega), ew]
    exact hts
theorem traces_ev {l : List Int} (hl : byteL l) (hlen : l.length ≤ 1048576) (p : Int) (h0 : 0 ≤ p) (h1 : p + 8000 ≤ 1099511627776) :
    ∃ (ts : List Trc) (p' : Int), Ev (fun k => spec_l91Traces.f k l p) (ts, p') ∧ p ≤ p' ∧ p' ≤ p + 2000 ∧ ts.length ≤ 10 ∧ ∀ t ∈ ts, TrDrawn t := by
  obtain ⟨v, hv, v0, v1, v2⟩ := pick_ev hl hlen p 6 h0 (by omega)
  have v3 := v1 (by omega)
  obtain ⟨d, rfl⟩ := Int.eq_ofNat_of_zero_le v0
  obtain ⟨ts, p', hts, a, b, c, e⟩ := traces_loop hl hlen d [] (p + 1) (by omega) (by simp; omega) (fun t ht => by cases ht) (by omega) (by omega)
  refine ⟨ts, p', ?_, by omega, by omega, c, e⟩
  unfold spec_l91Traces.f
  exact Ev.bind hv hts
end Go.Proofs.Ytgbjbpjmbghlbaa.G
end
section
namespace Go.Proofs.Ytgbjbpjmbghlbaa.G
open Go.RowKit Go.Proofs.YtgbjbpjmbghlbaaW.PrintWords
set_option linter.unusedVariables false
set_option linter.unusedSimpArgs false
theorem rd_fkH (l : List Fk) (i : Nat) (h : i < l.length) : rd_T117 l (i : Int) = l[i] := by
  simp only [rd_T117, Int.toNat_natCast, List.getD_eq_getElem?_getD, List.getElem?_eq_getElem h, Option.getD_some]
def eqU : List Fk → List Fk → Bool
  | [], [] => true
  | f :: fs, g :: gs => (f.f0 == g.f0 && f.f1 == g.f1) && eqU fs gs
  | _, _ => false
theorem eqU_len : ∀ {a b : List Fk}, eqU a b = true → a.length = b.length
  | [], [], _ => rfl
  | [], _ :: _, h => by simp [eqU] at h
  | _ :: _, [], h => by simp [eqU] at h
  | f :: fs, g :: gs, h => by
    simp only [eqU, Bool.and_eq_true] at h
    simp only [List.length_cons, eqU_len h.2]
def sameTr (a : Int) (u : List Fk) (b : Int) (c : Int) (v : List Fk) (d : Int) : Bool := (decide (a = c) && decide (b = d)) && eqU u v
theorem ne_or (a b c d : Int) : ((!(a == b)) || (!(c == d))) = !((a == b) && (c == d)) := by cases (a == b) <;> cases (c == d) <;> rfl
theorem equal_loop (u v : List Fk) (hl : u.length ≤ 4000000000) (he : u.length = v.length) : ∀ (d i : Nat), d = u.length - i → i ≤ u.length → Ev (fun k => slices_Equal_Fetch.l0 k u v (u.length : Int) (i : Int)) (eqU (u.drop i) (v.drop i)) := by
  intro d
  induction d with
  | zero =>
    intro i hd hi
    have e : i = u.length := by omega
    refine Ev.step (fun k => by rw [slices_Equal_Fetch.l0]) ?_
    simp only [if_neg (show ¬ ((i : Int) < (u.length : Int)) by omega)]
    refine Ev.eq (Ev.now true) ?_
    rw [List.drop_of_length_le (by omega), List.drop_of_length_le (by omega)]
    rfl
  | succ d ih =>
    intro i hd hi
    have hlt : i < u.length := by omega
    have h := ih (i + 1) (by omega) (by omega)
    refine Ev.step (fun k => by rw [slices_Equal_Fetch.l0]) ?_
    simp only [if_pos (show (i : Int) < (u.length : Int) by omega), if_pos (show (0 : Int) ≤ (i : Int) by omega), if_pos (show (i : Int) < (v.length : Int) by omega), rd_fkH u i hlt, rd_fkH v i (by omega), wrap_nat i (by omega), ne_or]
    rw [List.drop_eq_getElem_cons hlt, List.drop_eq_getElem_cons (show i < v.length by omega), eqU]
    cases hc : ((u[i].f0 == v[i].f0) && (u[i].f1 == v[i].f1)) with
    | true => simp only [Bool.not_true, Bool.false_eq_true, if_false, Bool.true_and]; exact h
    | false => simp only [Bool.not_false, if_true, Bool.false_and]; exact Ev.now _
theorem equal_ev (u v : List Fk) (hl : u.length ≤ 4000000000) : Ev (fun k => slices_Equal_Fetch.f k u v) (eqU u v) := by
  unfold slices_Equal_Fetch.f
  by_cases he : u.length = v.length
  · simp only [if_pos (show (u.length : Int) = (v.length : Int) by omega)]
    have h := equal_loop u v hl he u.length 0 (by omega) (by omega)
    rw [List.drop_zero, List.drop_zero] at h
    exact h
  · simp only [if_neg (show ¬ ((u.length : Int) = (v.length : Int)) by omega)]
    refine Ev.eq (Ev.now _) ?_
    cases h : eqU u v with
    | true => exact absurd (eqU_len h) he
    | false => rfl
theorem implSameTr_ev (a : Int) (u : List Fk) (b : Int) (c : Int) (v : List Fk) (d : Int) (hl : u.length ≤ 4000000000) : Ev (fun k => impl_Trace_same.f k a u b c v d) (sameTr a u b c v d) := by
  unfold impl_Trace_same.f sameTr
  by_cases h1 : a = c
  · simp only [if_pos h1, decide_eq_true h1]
    by_cases h2 : b = d
    · simp only [if_pos h2, decide_eq_true h2, Bool.and_self, Bool.true_and]
      exact Ev.bind (equal_ev u v hl) (Ev.now _)
    · simp only [if_neg h2, decide_eq_false h2, Bool.and_false, Bool.false_and]
      exact Ev.now _
  · simp only [if_neg h1, decide_eq_false h1, Bool.false_and]
    exact Ev.now _
theorem specSame_loop (a : Int) (u : List Fk) (b : Int) (c : Int) (v : List Fk) (d : Int) (hl : u.length ≤ 4000000000) (he : u.length = v.length) : ∀ (m i : Nat), m = u.length - i → i ≤ u.length → Ev (fun k => spec_l5Same.l0 k (i : Int) a u b c v d) (eqU (u.drop i) (v.drop i)) := by
  intro m
  induction m with
  | zero =>
    intro i hd hi
    refine Ev.step (fun k => by rw [spec_l5Same.l0]) ?_
    simp only [if_neg (show ¬ ((i : Int) < (u.length : Int)) by omega)]
    refine Ev.eq (Ev.now true) ?_
    rw [List.drop_of_length_le (by omega), List.drop_of_length_le (by omega)]
    rfl
  | succ m ih =>
    intro i hd hi
    have hlt : i < u.length := by omega
    have h := ih (i + 1) (by omega) (by omega)
    refine Ev.step (fun k => by rw [spec_l5Same.l0]) ?_
    simp only [if_pos (show (i : Int) < (u.length : Int) by omega), if_pos (show (0 : Int) ≤ (i : Int) by omega), if_pos (show (i : Int) < (v.length : Int) by omega), rd_fkH u i hlt, rd_fkH v i (by omega), wrap_nat i (by omega), ne_or]
    rw [List.drop_eq_getElem_cons hlt, List.drop_eq_getElem_cons (show i < v.length by omega), eqU]
    cases hc : ((u[i].f0 == v[i].f0) && (u[i].f1 == v[i].f1)) with
    | true => simp only [Bool.not_true, Bool.false_eq_true, if_false, Bool.true_and]; exact h
    | false => simp only [Bool.not_false, if_true, Bool.false_and]; exact Ev.now _
theorem specSameTr_ev (a : Int) (u : List Fk) (b : Int) (c : Int) (v : List Fk) (d : Int) (hl : u.length ≤ 4000000000) : Ev (fun k => spec_l5Same.f k a u b c v d) (sameTr a u b c v d) := by
  have bad : sameTr a u b c v d = false → Ev (fun k => spec_l5Same.j0 k true a u b c v d) (sameTr a u b c v d) := fun e => by
    refine Ev.step (fun k => by rw [spec_l5Same.j0]) ?_
    simp only [if_true]
    exact Ev.eq (Ev.now _) e.symm
  unfold spec_l5Same.f
  by_cases h1 : a = c
  · simp only [if_pos h1]
    by_cases h2 : b = d
    · simp only [if_pos h2]
      by_cases he : u.length = v.length
      · have e0 : ((u.length : Int) != (v.length : Int)) = false := by simp [he]
        rw [e0]
        refine Ev.step (fun k => by rw [spec_l5Same.j0]) ?_
        simp only [Bool.false_eq_true, if_false]
        have h := specSame_loop a u b c v d hl he u.length 0 (by omega) (by omega)
        rw [List.drop_zero, List.drop_zero] at h
        exact Ev.eq h (by simp [sameTr, h1, h2])
      · have e0 : ((u.length : Int) != (v.length : Int)) = true := by simp; omega
        rw [e0]
        refine bad ?_
        unfold sameTr
        cases h : eqU u v with
        | true => exact absurd (eqU_len h) he
        | false => simp
    · simp only [if_neg h2]
      exact bad (by simp [sameTr, h2])
  · simp only [if_neg h1]
    exact bad (by simp [sameTr, h1])
end Go.Proofs.Ytgbjbpjmbghlbaa.G
end
section
namespace Go.Proofs.Ytgbjbpjmbghlbaa.G
open Go.RowKit Go.Proofs.YtgbjbpjmbghlbaaW.PrintWords Go.Proofs.YtgbjbpjmbghlbaaW.PrintMore
set_option linter.unusedVariables false
set_option linter.unusedSimpArgs false
theorem beqI (a b : Int) : (a == b) = (b == a) := by
  by_cases h : a = b
  · subst h; rfl
  · have h2 : ¬ b = a := fun e => h e.symm
    rw [beq_eq_false_iff_ne.2 h, beq_eq_false_iff_ne.2 h2]
theorem eqU_symm : ∀ a b : List Fk, eqU a b = eqU b a
  | [], [] => rfl
  | [], _ :: _ => rfl
  | _ :: _, [] => rfl
  | f :: fs, g :: gs => by
    show ((f.f0 == g.f0 && f.f1 == g.f1) && eqU fs gs) = ((g.f0 == f.f0 && g.f1 == f.f1) && eqU gs fs)
    rw [eqU_symm fs gs, beqI f.f0, beqI f.f1]
theorem sameTr_symm (a : Int) (u : List Fk) (b : Int) (c : Int) (v : List Fk) (d : Int) : sameTr a u b c v d = sameTr c v d a u b := by
  unfold sameTr
  rw [eqU_symm u v]
  congr 2
  · exact decide_eq_decide.2 eq_comm
  · exact decide_eq_decide.2 eq_comm
def hasTr (l : List Trc) (t : Trc) : Bool := l.any fun x => sameTr x.f0 x.f1 x.f2 t.f0 t.f1 t.f2
def putL (l : List Trc) (t : Trc) : List Trc := if hasTr l t = true then l else (l ++ [t]).drop ((l ++ [t]).length - 60)
def putF (l : List Trc) (t : Trc) : List Trc × Bool := if (trsOk l && trOk t) = true then (putL l t, true) else ([], false)
theorem putL_ok {l : List Trc} {t : Trc} (hl : l.length ≤ 60) (hu : ∀ x ∈ l, x.f1.length ≤ 10) (ht : t.f1.length ≤ 10) : (putL l t).length ≤ 60 ∧ ∀ x ∈ putL l t, x.f1.length ≤ 10 := by
  unfold putL
  split
  · exact ⟨hl, hu⟩
  · refine ⟨?_, fun x hx => ?_⟩
    · rw [List.length_drop, List.length_append, List.length_singleton]; omega
    · rcases List.mem_append.1 (List.mem_of_mem_drop hx) with h | h
      · exact hu x h
      · rw [List.mem_singleton] at h; subst h; exact ht
theorem sameAny_ev (l : List Trc) (t : Trc) (ht : t.f1.length ≤ 10) : Ev (fun k => impl_Trace_same_any.f k l t.f0 t.f1 t.f2) (hasTr l t) := by
  have h : ∃ K, ∀ k, K ≤ k → ∀ x ∈ l, impl_Trace_same.f k t.f0 t.f1 t.f2 x.f0 x.f1 x.f2 = some (sameTr x.f0 x.f1 x.f2 t.f0 t.f1 t.f2) := by
    induction l with
    | nil => exact ⟨0, fun k _ x hx => by cases hx⟩
    | cons y ys ih =>
      obtain ⟨K1, h1⟩ := ih
      obtain ⟨K2, h2⟩ := implSameTr_ev t.f0 t.f1 t.f2 y.f0 y.f1 y.f2 (by omega)
      refine ⟨K1 + K2, fun k hk x hx => ?_⟩
      rcases List.mem_cons.1 hx with rfl | hx
      · rw [sameTr_symm]; exact h2 k (by omega)
      · exact h1 k (by omega) x hx
  obtain ⟨K, h⟩ := h
  refine ⟨K, fun k hk => ?_⟩
  have hh := h k hk
  show impl_Trace_same_any.f k l t.f0 t.f1 t.f2 = _
  unfold impl_Trace_same_any.f
  rw [if_pos (fun x hx => by rw [hh x hx]; rfl)]
  unfold hasTr
  congr 1
  clear h
  induction l with
  | nil => rfl
  | cons y ys ih => rw [List.any_cons, List.any_cons, hh y (by simp), ih (fun x hx => hh x (by simp [hx])), Option.getD_some]
theorem mx60 (n : Nat) (hn : n ≤ 100) : mx 0 (wrap64 ((n : Int) - 60)) = ((n - 60 : Nat) : Int) := by
  rw [wrap_id _ (by omega) (by omega)]
  unfold mx
  split <;> omega
theorem implPut_ev (l : List Trc) (t : Trc) (hl : l.length ≤ 60) (ht : t.f1.length ≤ 10) : Ev (fun k => impl_put.f k l t.f0 t.f1 t.f2) (putL l t) := by
  unfold impl_put.f
  refine Ev.bind (sameAny_ev l t ht) ?_
  unfold putL
  cases hasTr l t with
  | true => simp only [if_true]; exact Ev.now _
  | false =>
    simp only [Bool.false_eq_true, if_false, slices_Clone_Trace.f, if_pos (show l.length < 3518437208883 by omega), Option.bind_some, List.length_singleton, if_pos (show l.length + 1 < 3518437208883 by omega)]
    have e : (⟨t.f0, t.f1, t.f2⟩ : Trc) = t := rfl
    rw [e]
    have hn : (l ++ [t]).length ≤ 100 := by rw [List.length_append, List.length_singleton]; omega
    generalize l ++ [t] = y at hn ⊢
    simp only [mx60 y.length hn, if_pos (show (0 : Int) ≤ ((y.length - 60 : Nat) : Int) by omega), if_pos (show ((y.length - 60 : Nat) : Int) ≤ (y.length : Int) by omega), Int.toNat_natCast]
    exact Ev.now _
theorem implCopy_loop (l : List Trc) (hl : l.length ≤ 60) (hu : ∀ x ∈ l, x.f1.length ≤ 10) : ∀ (d i : Nat), d = l.length - i → i ≤ l.length → Ev (fun k => impl_copyTraces.l0 k (l.take i) l (l.length : Int) (i : Int)) l := by
  intro d
  induction d with
  | zero =>
    intro i hd hi
    refine Ev.step (fun k => by rw [impl_copyTraces.l0]) ?_
    simp only [if_neg (show ¬ ((i : Int) < (l.length : Int)) by omega)]
    exact Ev.eq (Ev.now _) (List.take_of_length_le (by omega))
  | succ d ih =>
    intro i hd hi
    have hlt : i < l.length := by omega
    have h := ih (i + 1) (by omega) (by omega)
    have h10 := hu _ (List.getElem_mem hlt)
    have hlen : (l.take i).length = i := by rw [List.length_take]; omega
    rw [List.take_succ_eq_append_getElem hlt] at h
    refine Ev.step (fun k => by rw [impl_copyTraces.l0]) ?_
    simp only [if_pos (show (i : Int) < (l.length : Int) by omega), if_pos (show (0 : Int) ≤ (i : Int) by omega), rd_trc l i hlt, impl_Trace_copy.f, slices_Clone_Fetch.f, if_pos (show (l[i]).f1.length < 8796093022208 by omega), Option.bind_some, hlen, if_pos (show i < 3518437208883 by omega), wrap_nat i (by omega)]
    exact h
theorem implCopy_ev (l : List Trc) (hl : l.length ≤ 60) (hu : ∀ x ∈ l, x.f1.length ≤ 10) : Ev (fun k => impl_copyTraces.f k l) l := by
  unfold impl_copyTraces.f
  have h := implCopy_loop l hl hu l.length 0 (by omega) (by omega)
  rw [List.take_zero] at h
  exact h
theorem specAll_loop (l : List Trc) (hl : l.length ≤ 60) (hu : ∀ x ∈ l, x.f1.length ≤ 10) : ∀ (d i : Nat), d = l.length - i → i ≤ l.length → Ev (fun k => spec_l5All.l0 k l (l.take i) (i : Int)) l := by
  intro d
  induction d with
  | zero =>
    intro i hd hi
    refine Ev.step (fun k => by rw [spec_l5All.l0]) ?_
    simp only [if_neg (show ¬ ((i : Int) < (l.length : Int)) by omega)]
    exact Ev.eq (Ev.now _) (List.take_of_length_le (by omega))
  | succ d ih =>
    intro i hd hi
    have hlt : i < l.length := by omega
    have h := ih (i + 1) (by omega) (by omega)
    have h10 := hu _ (List.getElem_mem hlt)
    have hlen : (l.take i).length = i := by rw [List.length_take]; omega
    rw [List.take_succ_eq_append_getElem hlt] at h
    refine Ev.step (fun k => by rw [spec_l5All.l0]) ?_
    simp only [if_pos (show (i : Int) < (l.length : Int) by omega), if_pos (show (0 : Int) ≤ (i : Int) by omega), rd_trc l i hlt, spec_l5Copy.f, Option.bind_some, List.length_nil, Nat.zero_add, List.nil_append, if_pos (show (l[i]).f1.length < 8796093022208 by omega), hlen, if_pos (show i < 3518437208883 by omega), wrap_nat i (by omega)]
    exact h
theorem specAll_ev (l : List Trc) (hl : l.length ≤ 60) (hu : ∀ x ∈ l, x.f1.length ≤ 10) : Ev (fun k => spec_l5All.f k l) l := by
  unfold spec_l5All.f
  have h := specAll_loop l hl hu l.length 0 (by omega) (by omega)
  rw [List.take_zero] at h
  exact h
theorem specPut_loop (l : List Trc) (t : Trc) (hl : l.length ≤ 60) (hu : ∀ x ∈ l, x.f1.length ≤ 10) : ∀ (d i : Nat), d = l.length - i → i ≤ l.length → Ev (fun k => spec_l5Put.l0 k l (i : Int) t.f0 t.f1 t.f2) (if hasTr (l.drop i) t = true then l else (l ++ [t]).drop ((l ++ [t]).length - 60)) := by
  intro d
  induction d with
  | zero =>
    intro i hd hi
    have e0 : hasTr (l.drop i) t = false := by rw [List.drop_of_length_le (by omega)]; rfl
    rw [e0]
    refine Ev.step (fun k => by rw [spec_l5Put.l0]) ?_
    have e : (⟨t.f0, t.f1, t.f2⟩ : Trc) = t := rfl
    simp only [if_neg (show ¬ ((i : Int) < (l.length : Int)) by omega), Option.bind_some, List.length_nil, Nat.zero_add, List.nil_append, if_pos (show l.length < 3518437208883 by omega), List.length_singleton, if_pos (show l.length + 1 < 3518437208883 by omega), Bool.false_eq_true, if_false, e]
    have hn : (l ++ [t]).length ≤ 61 := by rw [List.length_append, List.length_singleton]; omega
    generalize l ++ [t] = y at hn ⊢
    by_cases h60 : (y.length : Int) > 60
    · simp only [if_pos h60, if_pos (show (1 : Int) ≤ (y.length : Int) by omega)]
      refine Ev.eq (Ev.now _) ?_
      rw [show y.length - 60 = 1 by omega]
    · simp only [if_neg h60]
      refine Ev.eq (Ev.now _) ?_
      rw [show y.length - 60 = 0 by omega, List.drop_zero]
  | succ d ih =>
    intro i hd hi
    have hlt : i < l.length := by omega
    have h := ih (i + 1) (by omega) (by omega)
    have h10 := hu _ (List.getElem_mem hlt)
    refine Ev.step (fun k => by rw [spec_l5Put.l0]) ?_
    simp only [if_pos (show (i : Int) < (l.length : Int) by omega), if_pos (show (0 : Int) ≤ (i : Int) by omega), rd_trc l i hlt, wrap_nat i (by omega)]
    refine Ev.bind (specSameTr_ev _ _ _ _ _ _ (by omega)) ?_
    have e : hasTr (l.drop i) t = (sameTr (l[i]).f0 (l[i]).f1 (l[i]).f2 t.f0 t.f1 t.f2 || hasTr (l.drop (i + 1)) t) := by
      rw [List.drop_eq_getElem_cons hlt]; rfl
    rw [e]
    cases sameTr (l[i]).f0 (l[i]).f1 (l[i]).f2 t.f0 t.f1 t.f2 with
    | true => simp only [if_true, Bool.true_or]; exact Ev.now _
    | false => simp only [Bool.false_eq_true, if_false, Bool.false_or]; exact h
theorem specPut_ev (l : List Trc) (t : Trc) (hl : l.length ≤ 60) (hu : ∀ x ∈ l, x.f1.length ≤ 10) : Ev (fun k => spec_l5Put.f k l t.f0 t.f1 t.f2) (putL l t) := by
  unfold spec_l5Put.f putL
  have h := specPut_loop l t hl hu l.length 0 (by omega) (by omega)
  rw [List.drop_zero] at h
  exact h
theorem trsOk_parts {l : List Trc} (h : trsOk l = true) : l.length ≤ 60 ∧ ∀ x ∈ l, x.f1.length ≤ 10 := by
  simp only [trsOk, Bool.and_eq_true, decide_eq_true_eq] at h
  exact ⟨h.1, fun x hx => trOk_len (List.all_eq_true.1 h.2 x hx)⟩
theorem putF_ok (l : List Trc) (t : Trc) : (putF l t).1.length ≤ 60 ∧ ∀ x ∈ (putF l t).1, x.f1.length ≤ 10 := by
  unfold putF
  split
  · rename_i h
    rw [Bool.and_eq_true] at h
    obtain ⟨h1, h2⟩ := trsOk_parts h.1
    exact putL_ok h1 h2 (trOk_len h.2)
  · exact ⟨by simp, fun x hx => by cases hx⟩
theorem implPuts_ev (l : List Trc) (t : Trc) (hl : ∀ x ∈ l, x.f1.length < 8796093022208) (ht : t.f1.length < 8796093022208) : Ev (fun k => impl_TracesPut.f k l t.f0 t.f1 t.f2) (putF l t) := by
  have bad : (trsOk l && trOk t) = false → Ev (fun k => impl_TracesPut.j0 k l true t.f0 t.f1 t.f2) (putF l t) := fun e => by
    refine Ev.step (fun k => by rw [impl_TracesPut.j0]) ?_
    simp only [if_true]
    exact Ev.eq (Ev.now _) (by simp [putF, e])
  unfold impl_TracesPut.f
  simp only [implTrs_ev l hl, Option.bind_some]
  cases h1 : trsOk l with
  | false => simp only [Bool.false_eq_true, if_false]; exact bad (by simp [h1])
  | true =>
    simp only [if_true, implTr_ev t ht, Option.bind_some]
    cases h2 : trOk t with
    | false => simp only [Bool.not_false]; exact bad (by simp [h2])
    | true =>
      simp only [Bool.not_true]
      obtain ⟨h3, h4⟩ := trsOk_parts h1
      have h5 := putL_ok h3 h4 (trOk_len h2)
      refine Ev.step (fun k => by rw [impl_TracesPut.j0]) ?_
      simp only [Bool.false_eq_true, if_false]
      refine Ev.bind (implPut_ev l t h3 (trOk_len h2)) ?_
      refine Ev.bind (implCopy_ev _ h5.1 h5.2) ?_
      exact Ev.eq (Ev.now _) (by simp [putF, h1, h2])
theorem specPuts_ev (l : List Trc) (t : Trc) : Ev (fun k => spec_TracesPut.f k l t.f0 t.f1 t.f2) (putF l t) := by
  have bad : (trsOk l && trOk t) = false → Ev (fun k => spec_TracesPut.j0 k l true t.f0 t.f1 t.f2) (putF l t) := fun e => by
    refine Ev.step (fun k => by rw [spec_TracesPut.j0]) ?_
    simp only [if_true]
    exact Ev.eq (Ev.now _) (by simp [putF, e])
  unfold spec_TracesPut.f
  refine Ev.bind (specTrs_ev l) ?_
  cases h1 : trsOk l with
  | false => simp only [Bool.false_eq_true, if_false]; exact bad (by simp [h1])
  | true =>
    simp only [if_true]
    refine Ev.bind (l5One_ev t) ?_
    cases h2 : trOk t with
    | false => simp only [Bool.not_false]; exact bad (by simp [h2])
    | true =>
      simp only [Bool.not_true]
      obtain ⟨h3, h4⟩ := trsOk_parts h1
      have h5 := putL_ok h3 h4 (trOk_len h2)
      refine Ev.step (fun k => by rw [spec_TracesPut.j0]) ?_
      simp only [Bool.false_eq_true, if_false]
      refine Ev.bind (specPut_ev l t h3 h4) ?_
      refine Ev.bind (specAll_ev _ h5.1 h5.2) ?_
      exact Ev.eq (Ev.now _) (by simp [putF, h1, h2])
end Go.Proofs.Ytgbjbpjmbghlbaa.G
end
section
namespace Go.Proofs.Ytgbjbpjmbghlbaa.G
open Go.RowKit Go.Proofs.YtgbjbpjmbghlbaaW.PrintWords
set_option linter.unusedVariables false
set_option linter.unusedSimpArgs false
theorem eqU_self : ∀ u : List Fk, eqU u u = true
  | [] => rfl
  | f :: fs => by
    show ((f.f0 == f.f0 && f.f1 == f.f1) && eqU fs fs) = true
    rw [eqU_self fs]
    simp
theorem sameTr_self (a : Int) (u : List Fk) (b : Int) : sameTr a u b a u b = true := by simp [sameTr, eqU_self]
theorem brF_loop (u v : List Fk) (hl : u.length ≤ 4000000000) (he : u.length = v.length) : ∀ (d i : Nat), d = u.length - i → i ≤ u.length → Ev (fun k => laws_brFetches.l0 k u v (i : Int)) (eqU (u.drop i) (v.drop i)) := by
  intro d
  induction d with
  | zero =>
    intro i hd hi
    refine Ev.step (fun k => by rw [laws_brFetches.l0]) ?_
    simp only [if_neg (show ¬ ((i : Int) < (u.length : Int)) by omega)]
    refine Ev.eq (Ev.now true) ?_
    rw [List.drop_of_length_le (by omega), List.drop_of_length_le (by omega)]
    rfl
  | succ d ih =>
    intro i hd hi
    have hlt : i < u.length := by omega
    have h := ih (i + 1) (by omega) (by omega)
    refine Ev.step (fun k => by rw [laws_brFetches.l0]) ?_
    simp only [if_pos (show (i : Int) < (u.length : Int) by omega), if_pos (show (0 : Int) ≤ (i : Int) by omega), if_pos (show (i : Int) < (v.length : Int) by omega), rd_fkH u i hlt, rd_fkH v i (by omega), wrap_nat i (by omega), ne_or]
    rw [List.drop_eq_getElem_cons hlt, List.drop_eq_getElem_cons (show i < v.length by omega), eqU]
    cases hc : ((u[i].f0 == v[i].f0) && (u[i].f1 == v[i].f1)) with
    | true => simp only [Bool.not_true, Bool.false_eq_true, if_false, Bool.true_and]; exact h
    | false => simp only [Bool.not_false, if_true, Bool.false_and]; exact Ev.now _
theorem brF_ev (u v : List Fk) (hl : u.length ≤ 4000000000) : Ev (fun k => laws_brFetches.f k u v) (eqU u v) := by
  unfold laws_brFetches.f
  by_cases he : u.length = v.length
  · simp only [if_pos (show (u.length : Int) = (v.length : Int) by omega)]
    have h := brF_loop u v hl he u.length 0 (by omega) (by omega)
    rw [List.drop_zero, List.drop_zero] at h
    exact h
  · simp only [if_neg (show ¬ ((u.length : Int) = (v.length : Int)) by omega)]
    refine Ev.eq (Ev.now _) ?_
    cases h : eqU u v with
    | true => exact absurd (eqU_len h) he
    | false => rfl
theorem brTr_ev (a : Int) (u : List Fk) (b : Int) (c : Int) (v : List Fk) (d : Int) (hl : u.length ≤ 4000000000) : Ev (fun k => laws_brTrace.f k a u b c v d) (sameTr a u b c v d) := by
  unfold laws_brTrace.f sameTr
  by_cases h1 : a = c
  · simp only [if_pos h1, decide_eq_true h1]
    by_cases h2 : b = d
    · simp only [if_pos h2, decide_eq_true h2, Bool.and_self, Bool.true_and]
      exact Ev.bind (brF_ev u v hl) (Ev.now _)
    · simp only [if_neg h2, decide_eq_false h2, Bool.and_false, Bool.false_and]
      exact Ev.now _
  · simp only [if_neg h1, decide_eq_false h1, Bool.false_and]
    exact Ev.now _
theorem brTrs_self (l : List Trc) (hl : l.length ≤ 4000000000) (hb : ∀ t ∈ l, t.f1.length ≤ 4000000000) : Ev (fun k => laws_brTraces.f k l l) true := by
  unfold laws_brTraces.f
  simp only [if_true]
  exact eqLoop l (fun k i => laws_brTraces.l0 k l l i) (fun k t => laws_brTrace.f k t.f0 t.f1 t.f2 t.f0 t.f1 t.f2)
    (fun k => by simp only [laws_brTraces.l0, if_neg (show ¬ ((l.length : Int) < (l.length : Int)) by omega)])
    (fun k i hi => by simp only [laws_brTraces.l0, if_pos (show (i : Int) < (l.length : Int) by omega), if_pos (show (0 : Int) ≤ (i : Int) by omega), rd_trc l i hi, wrap_nat i (by omega)])
    (fun t ht => Ev.eq (brTr_ev t.f0 t.f1 t.f2 t.f0 t.f1 t.f2 (hb t ht)) (sameTr_self _ _ _))
theorem put_snoc {l : List Trc} {t : Trc} (hl : l.length ≤ 60) : (l ++ [t]).drop ((l ++ [t]).length - 60) = l.drop (l.length + 1 - 60) ++ [t] := by
  rw [List.length_append, List.length_singleton, List.drop_append_of_le_length (by omega)]
theorem put_has {l : List Trc} {t : Trc} (hl : l.length ≤ 60) : hasTr (putL l t) t = true := by
  unfold putL
  split
  · rename_i h; exact h
  · rw [put_snoc hl]
    unfold hasTr
    rw [List.any_append, List.any_cons, sameTr_self]
    simp
theorem put_trs {l : List Trc} {t : Trc} (hl : trsOk l = true) (ht : trOk t = true) : trsOk (putL l t) = true := by
  obtain ⟨h1, h2⟩ := trsOk_parts hl
  have h3 := (putL_ok h1 h2 (trOk_len ht)).1
  simp only [trsOk, Bool.and_eq_true, decide_eq_true_eq] at hl ⊢
  refine ⟨h3, ?_⟩
  unfold putL
  split
  · exact hl.2
  · rw [put_snoc h1, List.all_append, Bool.and_eq_true]
    refine ⟨List.all_eq_true.2 fun x hx => List.all_eq_true.1 hl.2 x (List.mem_of_mem_drop hx), ?_⟩
    simp [ht]
theorem put_again {l : List Trc} {t : Trc} (hl : trsOk l = true) (ht : trOk t = true) (hh : hasTr l t = true) : putF l t = (l, true) := by
  simp [putF, putL, hl, ht, hh]
theorem put_loop (R1 : List Trc) (R2 : Bool) (t : Trc) (hl : R1.length ≤ 60) (hu : ∀ x ∈ R1, x.f1.length ≤ 20) (htl : t.f1.length ≤ 20) (hfin : R2 = true → trsOk R1 = true ∧ trOk t = true ∧ hasTr R1 t = true) :
    ∀ (d i n : Nat), d = R1.length - i → i ≤ R1.length → n ≤ i → (R2 = true → 1 ≤ n ∨ hasTr (R1.drop i) t = true) → Ev (fun k => laws_FnTracesPut.l0 k R1 R2 (n : Int) (i : Int) t.f0 t.f1 t.f2) true := by
  have hlt8 : ∀ x ∈ R1, x.f1.length < 8796093022208 := fun x hx => by have := hu x hx; omega
  intro d
  induction d with
  | zero =>
    intro i n hd hi hn hc
    refine Ev.step (fun k => by rw [laws_FnTracesPut.l0]) ?_
    simp only [if_neg (show ¬ ((i : Int) < (R1.length : Int)) by omega)]
    refine Ev.bind (implPuts_ev R1 t hlt8 (by omega)) ?_
    cases R2 with
    | false => simp only [Bool.false_eq_true, if_false]; exact Ev.now _
    | true =>
      obtain ⟨h1, h2, h3⟩ := hfin rfl
      have hn1 : 1 ≤ n := by
        rcases hc rfl with h | h
        · exact h
        · rw [List.drop_of_length_le (by omega)] at h
          cases h
      rw [put_again h1 h2 h3]
      simp only [if_true, if_pos (show (n : Int) ≥ 1 by omega)]
      refine Ev.bind (brTrs_self R1 (by omega) (fun x hx => by have := hu x hx; omega)) ?_
      simp only [if_true, implTrs_ev R1 hlt8, Option.bind_some, h1]
      exact Ev.now _
  | succ d ih =>
    intro i n hd hi hn hc
    have hlt : i < R1.length := by omega
    have hx := hu _ (List.getElem_mem hlt)
    refine Ev.step (fun k => by rw [laws_FnTracesPut.l0]) ?_
    simp only [if_pos (show (i : Int) < (R1.length : Int) by omega), if_pos (show (0 : Int) ≤ (i : Int) by omega), rd_trc R1 i hlt, wrap_nat i (by omega), wrap_nat n (by omega)]
    refine Ev.bind (brTr_ev _ _ _ _ _ _ (by omega)) ?_
    have e : hasTr (R1.drop i) t = (sameTr (R1[i]).f0 (R1[i]).f1 (R1[i]).f2 t.f0 t.f1 t.f2 || hasTr (R1.drop (i + 1)) t) := by
      rw [List.drop_eq_getElem_cons hlt]; rfl
    rw [e] at hc
    cases hs : sameTr (R1[i]).f0 (R1[i]).f1 (R1[i]).f2 t.f0 t.f1 t.f2 with
    | true =>
      simp only [if_true]
      exact ih (i + 1) (n + 1) (by omega) (by omega) (by omega) (fun _ => .inl (by omega))
    | false =>
      simp only [Bool.false_eq_true, if_false]
      refine ih (i + 1) n (by omega) (by omega) (by omega) (fun h => ?_)
      rcases hc h with h | h
      · exact .inl h
      · rw [hs, Bool.false_or] at h; exact .inr h
theorem draw_put {l : List Int} (hl : byteL l) (h20 : ¬ (l.length : Int) > 1048576) : ∃ (ts : List Trc) (t : Trc), Ev (fun k => spec_DrawTracesPut.f k l) (ts, t.f0, t.f1, t.f2) ∧ (∀ x ∈ ts, x.f1.length ≤ 20) ∧ t.f1.length ≤ 20 := by
  obtain ⟨l', ho, hl', hlen'⟩ := open_ev hl
  obtain ⟨ts, p1, hts, a1, b1, hn, hT⟩ := traces_ev hl' (by omega) 0 (by omega) (by omega)
  obtain ⟨t, p2, ht, a2, b2, hD⟩ := trace_ev hl' (by omega) p1 (by omega) (by omega)
  have hT1 : ∀ x ∈ ts, x.f1.length ≤ 20 := fun x hx => (hT x hx).1
  have loop : ∀ (t : Trc) (d i : Nat) (u : List Trc) (p : Int), d = 60 - i → i ≤ 60 → u.length ≤ 10 + i → (∀ x ∈ u, x.f1.length ≤ 20) → 0 ≤ p → p + d + 10 ≤ 1099511627776 →
      ∃ r, Ev (fun k => spec_DrawTracesPut.l0 k u (i : Int) l' p t.f0 t.f1 t.f2) (r, t.f0, t.f1, t.f2) ∧ ∀ x ∈ r, x.f1.length ≤ 20 := by
    intro t d
    induction d with
    | zero =>
      intro i u p hd hi hul hux h0 h1
      refine ⟨u, ?_, hux⟩
      refine Ev.step (fun k => by rw [spec_DrawTracesPut.l0]) ?_
      simp only [if_neg (show ¬ ((i : Int) < 60) by omega)]
      exact Ev.now _
    | succ d ih =>
      intro i u p hd hi hul hux h0 h1
      obtain ⟨v, hv, v0, v1, v2⟩ := pick_ev hl' (by omega) p 400 h0 (by omega)
      by_cases hz : v = 0
      · obtain ⟨r, hr, hrx⟩ := ih (i + 1) (u ++ [⟨Int.tmod (i : Int) 10, [], (i : Int)⟩]) (p + 1) (by omega) (by omega) (by rw [List.length_append, List.length_singleton]; omega) (fun x hx => by
          rcases List.mem_append.1 hx with hx | hx
          · exact hux x hx
          · rw [List.mem_singleton] at hx; subst hx; simp) (by omega) (by omega)
        refine ⟨r, ?_, hrx⟩
        refine Ev.step (fun k => by rw [spec_DrawTracesPut.l0]) ?_
        simp only [if_pos (show (i : Int) < 60 by omega)]
        refine Ev.bind hv ?_
        simp only [if_pos hz, if_pos (show u.length < 3518437208883 by omega), wrap_nat i (by omega)]
        exact hr
      · refine ⟨u, ?_, hux⟩
        refine Ev.step (fun k => by rw [spec_DrawTracesPut.l0]) ?_
        simp only [if_pos (show (i : Int) < 60 by omega)]
        refine Ev.bind hv ?_
        simp only [if_neg hz]
        exact Ev.now _
  have j1 : ∀ (t : Trc) (p : Int), 0 ≤ p → p + 100 ≤ 1099511627776 → ∃ r, Ev (fun k => spec_DrawTracesPut.j1 k ts l' p t.f0 t.f1 t.f2) (r, t.f0, t.f1, t.f2) ∧ ∀ x ∈ r, x.f1.length ≤ 20 := by
    intro t p h0 h1
    obtain ⟨r, hr, hrx⟩ := loop t 60 0 ts p (by omega) (by omega) (by omega) hT1 h0 (by omega)
    refine ⟨r, ?_, hrx⟩
    refine Ev.step (fun k => by rw [spec_DrawTracesPut.j1]) ?_
    exact hr
  have j0f : ∀ p : Int, 0 ≤ p → p + 100 ≤ 1099511627776 → ∃ r, Ev (fun k => spec_DrawTracesPut.j0 k ts false l' p t.f0 t.f1 t.f2) (r, t.f0, t.f1, t.f2) ∧ ∀ x ∈ r, x.f1.length ≤ 20 := by
    intro p h0 h1
    obtain ⟨r, hr, hrx⟩ := j1 t p h0 h1
    refine ⟨r, ?_, hrx⟩
    refine Ev.step (fun k => by rw [spec_DrawTracesPut.j0]) ?_
    simp only [Bool.false_eq_true, if_false]
    exact hr
  by_cases hz : (ts.length : Int) > 0
  · obtain ⟨v, hv, v0, v1, v2⟩ := pick_ev hl' (by omega) p2 3 (by omega) (by omega)
    cases hv3 : (v == 0) with
    | true =>
      obtain ⟨j, hj, jj0, jj1, jj2⟩ := pick_ev hl' (by omega) (p2 + 1) (ts.length : Int) (by omega) (by omega)
      have j3 := jj1 (by omega)
      obtain ⟨jn, rfl⟩ := Int.eq_ofNat_of_zero_le jj0
      have hjl : jn < ts.length := by omega
      obtain ⟨r, hr, hrx⟩ := j1 ts[jn] (p2 + 1 + 1) (by omega) (by omega)
      refine ⟨r, ts[jn], ?_, hrx, hT1 _ (List.getElem_mem hjl)⟩
      unfold spec_DrawTracesPut.f
      refine Ev.bind (Ev.of_eq ho) (Ev.bind hts (Ev.bind ht ?_))
      simp only [if_pos hz]
      refine Ev.bind hv ?_
      simp only [hv3]
      refine Ev.step (fun k => by rw [spec_DrawTracesPut.j0]) ?_
      simp only [if_true]
      refine Ev.bind hj ?_
      simp only [if_pos (show (0 : Int) ≤ (jn : Int) by omega), if_pos j3, rd_trc ts jn hjl]
      exact hr
    | false =>
      obtain ⟨r, hr, hrx⟩ := j0f (p2 + 1) (by omega) (by omega)
      refine ⟨r, t, ?_, hrx, hD.1⟩
      unfold spec_DrawTracesPut.f
      refine Ev.bind (Ev.of_eq ho) (Ev.bind hts (Ev.bind ht ?_))
      simp only [if_pos hz]
      refine Ev.bind hv ?_
      simp only [hv3]
      exact hr
  · obtain ⟨r, hr, hrx⟩ := j0f p2 (by omega) (by omega)
    refine ⟨r, t, ?_, hrx, hD.1⟩
    unfold spec_DrawTracesPut.f
    refine Ev.bind (Ev.of_eq ho) (Ev.bind hts (Ev.bind ht ?_))
    simp only [if_neg hz]
    exact hr
theorem ev_FnTracesPut (l : List Int) (hl : byteL l) : Ev (fun k => laws_FnTracesPut.f k l) true := by
  unfold laws_FnTracesPut.f
  by_cases h20 : (l.length : Int) > 1048576
  · simp only [if_pos h20]; exact Ev.now true
  · simp only [if_neg h20]
    obtain ⟨ts, t, hd, hT, ht⟩ := draw_put hl h20
    obtain ⟨hp1, hp2⟩ := putF_ok ts t
    have hfin : (putF ts t).2 = true → trsOk (putF ts t).1 = true ∧ trOk t = true ∧ hasTr (putF ts t).1 t = true := by
      unfold putF
      split
      · rename_i h
        rw [Bool.and_eq_true] at h
        exact fun _ => ⟨put_trs h.1 h.2, h.2, put_has (trsOk_parts h.1).1⟩
      · intro h; cases h
    refine Ev.bind hd ?_
    refine Ev.bind (implPuts_ev ts t (fun x hx => by have := hT x hx; omega) (by (try dsimp only); omega)) ?_
    refine Ev.bind (specPuts_ev ts t) ?_
    refine Ev.bind (brTrs_self _ (by omega) (fun x hx => by have := hp2 x hx; omega)) ?_
    simp only [if_true, bne_self_eq_false]
    refine Ev.step (fun k => by rw [laws_FnTracesPut.j0]) ?_
    simp only [Bool.false_eq_true, if_false]
    have h := put_loop (putF ts t).1 (putF ts t).2 t hp1 (fun x hx => by have := hp2 x hx; omega) ht hfin (putF ts t).1.length 0 0 (by omega) (by omega) (by omega) (fun h => .inr (by rw [List.drop_zero]; exact (hfin h).2.2))
    exact h
end Go.Proofs.Ytgbjbpjmbghlbaa.G
namespace Go.Proofs.Ytgbjbpjmbghlbaa.Pure
open Go.RowKit Go.Proofs.Ytgbjbpjmbghlbaa.G Go.Proofs.YtgbjbpjmbghlbaaW.PrintWords Go.Proofs.YtgbjbpjmbghlbaaW.PrintLast
theorem FnTracesPut : laws_FnTracesPut.Pure := fun l0 _ _ hw => Ev.rounds (ev_FnTracesPut l0 (byteL_of hw))
end Go.Proofs.Ytgbjbpjmbghlbaa.Pure
end
