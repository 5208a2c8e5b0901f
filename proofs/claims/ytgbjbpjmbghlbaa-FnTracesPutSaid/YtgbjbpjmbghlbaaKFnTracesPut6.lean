-- Written by pack.py (ours): the claim's texts, cut down to what its theorem reaches.
import Derived.Test.YtgbjbpjmbghlbaaKFnTracesPut5
section
namespace Go.Proofs.Ytgbjbpjmbghlbaa.G
open Go.RowKit Go.Proofs.YtgbjbpjmbghlbaaW.PrintWords Go.Proofs.YtgbjbpjmbghlbaaW.PrintLast Go.Proofs.YtgbjbpjmbghlbaaW.PrintMore
attribute [local go_sem] max2_int min2_int max_two min_two max_three min_three max_four min_four
set_option linter.unusedVariables false
set_option linter.unusedSimpArgs false
mutual
def spec_l91Trace.l0 : Nat → List Int → Int → List Int → Int → Option (Int × (List (S117)) × Int × Int)
  | 0, _, _, _, _ => none
  | k + 1, x3, x4, x1000, x1001 => if x4 > 0 then ((spec_l6Rd_pick.f k x1000 x1001 5).bind fun bt1118 => (if x3.length < 17592186044416 then (spec_l91Trace.l0 k (x3 ++ [bt1118.1]) (wrap64 (x4 - 1)) x1000 bt1118.2) else (none))) else ((spec_l6Rd_pick.f k x1000 x1001 10).bind fun bt1123 => ((spec_l91Fit.f k x1000 bt1123.2 10).bind fun bt1125 => ((spec_l5Of.f k bt1123.1 bt1125.1 bt1125.2.1 bt1125.2.2.1 x3).bind fun bt1131 => ((spec_l6Rd_pick.f k x1000 bt1125.2.2.2 8).bind fun bt1137 => (if bt1137.1 = 0 then ((spec_l6Rd_pick.f k x1000 bt1137.2 11).bind fun bt1139 => ((spec_l6Rd_pick.f k x1000 bt1139.2 5).bind fun bt1141 => (if bt1131.2.1.length < 8796093022208 then (spec_l91Trace.j1 k x1000 bt1141.2 bt1131.1 (bt1131.2.1 ++ [(⟨bt1139.1, bt1141.1⟩ : S117)]) bt1131.2.2) else (none)))) else (spec_l91Trace.j1 k x1000 bt1137.2 bt1131.1 bt1131.2.1 bt1131.2.2))))))
def spec_l91Trace.j1 : Nat → List Int → Int → Int → List (S117) → Int → Option (Int × (List (S117)) × Int × Int)
  | 0, _, _, _, _, _ => none
  | k + 1, x1000, x1001, x1137000, x1137001, x1137002 => (spec_l6Rd_pick.f k x1000 x1001 20).bind fun bt1146 => (if bt1146.1 = 0 then ((spec_l91Num.f k x1000 bt1146.2 (([97, (-1), 0] : List Int))).bind fun bt1151 => (some (x1137000, x1137001, bt1151.1, bt1151.2))) else (some (x1137000, x1137001, x1137002, bt1146.2)))
end
def spec_l91Trace.f (k : Nat) (s0_0 : List Int) (s0_1 : Int) : Option (Int × (List (S117)) × Int × Int) := (spec_l6Rd_pick.f k s0_0 s0_1 11).bind fun bt1116 => (spec_l91Trace.l0 k (([] : List Int)) bt1116.1 s0_0 bt1116.2)
def spec_l91Trace.T8 : Bool × List (List Nat × List Nat) := (true, [([], []), ([0], [0]), ([], []), ([2], [2]), ([], []), ([4, 3], [4]), ([3, 5], [3, 5]), ([6], [6]), ([1, 7, 5], [1, 7]), ([0, 1, 2, 3, 4, 5, 6, 7, 8], []), ([9, 8, 8, 0, 1, 2, 3, 4, 5, 6, 7, 8], [8, 9])])
def spec_l91Trace.B8 : List Nat := [0, 1, 0, 4, 0, 28, 60, 124, 255, 511, 1023]
theorem spec_l91Trace.tab8 : rtab .any (opsOf Try.f119 8) = spec_l91Trace.T8 := by kernel_rfl
theorem spec_l91Trace.bits8 : waitsOk spec_l91Trace.T8.2 spec_l91Trace.B8 = true := by kernel_rfl
set_option maxHeartbeats 8000000 in
set_option maxRecDepth 100000 in
theorem spec_l91Trace.calls (k : Nat) (g : Nat) (s0_0 : List Int) (s0_1 : Int) (r1 : Int) (r2 : List (S117)) (r3 : Int) (r4 : Int) (w0 w : World) (hI : IsS148 w0 w g s0_0 s0_1) (hB : Below w0.heap.size w0 w) (h : spec_l91Trace.f k s0_0 s0_1 = some (r1, r2, r3, r4)) :
    Calls Try.prog 119 #[.pointer (some ⟨g, 0, none⟩)] w fun e w' => ∃ v1_ : Value, e = .returned (.agg #[.int .i64 r1, v1_, .int .i64 r3]) ∧ Kd.R k117 117 w' w.heap.size (fun _ => True) v1_ r2 ∧ IsS148 w0 w' g s0_0 r4 ∧ Below w0.heap.size w0 w' ∧ KeepBut w w' g none := by
  have hu87 := Try.underlying87
  have hu117 := Try.underlying117
  have HI0 := Aside0.mk hI
  have HK := Aside0.mk (KeepBut.refl w g none)
  have HL := Aside0.mk hB.size
  clear hI
  have HW0 := Aside0.mk hB.size
  have HB := Aside0.mk hB
  clear hB
  have H : ((spec_l6Rd_pick.f k s0_0 s0_1 11).bind fun bt1116 => (spec_l91Trace.l0 k (([] : List Int)) bt1116.1 s0_0 bt1116.2)) = some (r1, r2, r3, r4) := h
  clear h
  obtain ⟨y1113, hy1113⟩ : ∃ y_ : List Int, y_ = (([] : List Int)) := ⟨_, rfl⟩
  replace H : ((spec_l6Rd_pick.f k s0_0 s0_1 11).bind fun bt1116 => (spec_l91Trace.l0 k y1113 bt1116.1 s0_0 bt1116.2)) = some (r1, r2, r3, r4) := by first | (rw [hy1113]; with_reducible exact H) | (have H2_ := (Option.bind_some _ _).symm.trans H; rw [hy1113]; with_reducible exact H2_) | (have H2_ := (Option.bind_some _ _).symm.trans H; with_reducible exact H2_) | with_reducible exact H | (rw [hy1113]; exact H) | exact H
  have Ny1113 := Aside0.mk hy1113
  clear hy1113
  replace H := Option.bind_eq_some_iff.mp H
  obtain ⟨⟨t1116, t1117⟩, A20, H⟩ := H
  replace H : (spec_l91Trace.l0 k y1113 t1116 s0_0 t1117) = some (r1, r2, r3, r4) := H
  have A2 := Aside0.mk A20
  clear A20
  have H' := Aside0.mk H
  clear H
  go_enter Try.func119, Try.ntmps119
  go_wp2_with (first | ((with_reducible refine gate_dst (N := 2) rfl ?_); refine box_event ?hg (N := 2) ?hd (cs := #[.int .i64 0, .slice none 0 0, .int .i64 0]) (t := 87) ?hr ?_; (case hd => rfl); (case hg => rfl); (case hr => first | (go_simp; done) | (go_simp; rfl)); intro gb1112 hg w3 hbox hb; have n0_ := Aside0.mk (IsS148.below (by repeat (first | (with_reducible first | exact HI0.out | apply IsS148.alloc | apply IsS148.drewN | apply IsS148.drew | apply IsS148.set_1) | exact HI0.out)) hb); have n1_ := Aside0.mk (KeepBut.trans (by repeat (first | (with_reducible first | exact HK.out | apply KeepBut.set_ | apply keep_drewN | apply keep_drew | apply keep_alloc) | exact HK.out)) (KeepBut.of_below hb g none) (.inl rfl)); have n2_ := Aside0.mk (below_step (by repeat (first | (with_reducible first | exact HB.out | apply below_alloc | apply pw_below_drewN | apply below_drew1 | refine below_set ?_ (IsS148.ge HI0.out)) | exact HB.out)) hb); have n3_ := Aside0.mk (hbox); have n4_ := Aside0.mk ((by rw [hg]; exact (keep_size (w := w) (g := g) (row := none) (by repeat (first | (with_reducible first | exact HK.out | apply KeepBut.set_ | apply keep_drewN | apply keep_drew | apply keep_alloc) | exact HK.out))) : w.heap.size ≤ gb1112)); have n5_ := Aside0.mk ((Nat.le_trans HW0.out (by rw [hg]; exact (keep_size (w := w) (g := g) (row := none) (by repeat (first | (with_reducible first | exact HK.out | apply KeepBut.set_ | apply keep_drewN | apply keep_drew | apply keep_alloc) | exact HK.out))) : w.heap.size ≤ gb1112) : w0.heap.size ≤ gb1112)); have n6_ := Aside0.mk ((by rw [hg]; exact Nat.ne_of_lt (IsS148.lt (show IsS148 w0 _ g s0_0 s0_1 from by repeat (first | (with_reducible first | exact HI0.out | apply IsS148.alloc | apply IsS148.drewN | apply IsS148.drew | apply IsS148.set_1) | exact HI0.out))) : g ≠ gb1112)); have n7_ := Aside0.mk ((by rw [hg]; exact Nat.ne_of_gt (IsS148.lt (show IsS148 w0 _ g s0_0 s0_1 from by repeat (first | (with_reducible first | exact HI0.out | apply IsS148.alloc | apply IsS148.drewN | apply IsS148.drew | apply IsS148.set_1) | exact HI0.out))) : gb1112 ≠ g)); clear HI0; clear HK; clear HB; have HI0 := n0_; have HK := n1_; have HB := n2_; have BK1112 := n3_; have GW1112 := n4_; have GE1112 := n5_; have NB0_1112 := n6_; have NB1112_0 := n7_; clear n0_ n1_ n2_ n3_ n4_ n5_ n6_ n7_; clear hb hbox hg) | ((with_reducible refine gate_dst (N := 6) rfl ?_); refine Kd.R_lit (Kd.int .i64) _ 3 ?hg (N := 6) ?hd (xs := ([] : List Int)) (inner := []) (ok := fun _ => True) (okp := fun _ => True) ?hr ?hp (fun _ hk => hk) trivial (Below.refl _ _) (Nat.le_refl _) (by simp) ?_; (case hd => rfl); (case hg => rfl); (case hr => first | (go_simp; done) | (go_simp; rfl)); (case hp => exact (Reps.none _ _)); intro v1114 w4 ho5 hb hg_ hnew_; clear hg_ hnew_; (first | rw [← Ny1113.out] at ho5 | (simp only [Int.reduceToNat] at ho5; rw [← Ny1113.out] at ho5)); have n0_ := Aside0.mk (Kd.R_lower ho5 (keep_size (w := w) (g := g) (row := none) (by repeat (first | (with_reducible first | exact HK.out | apply KeepBut.set_ | apply keep_drewN | apply keep_drew | apply keep_alloc | refine keep_far ?_ GW1112.out _) | exact HK.out)))); have n1_ := Aside0.mk (IsS148.below (by repeat (first | (with_reducible first | exact HI0.out | apply IsS148.alloc | apply IsS148.drewN | apply IsS148.drew | apply IsS148.set_1 | refine IsS148.far ?_ NB0_1112.out _) | exact HI0.out)) hb); have n2_ := Aside0.mk (blk_below (g := gb1112) (o := .cells #[.int .i64 0, .slice none 0 0, .int .i64 0] 87 (0, 0)) (by (with_reducible repeat (first | refine blk_drewN ?_ _ | refine blk_drew ?_ | refine blk_alloc ?_ _)); exact BK1112.out) hb); have n3_ := Aside0.mk (KeepBut.trans (by repeat (first | (with_reducible first | exact HK.out | apply KeepBut.set_ | apply keep_drewN | apply keep_drew | apply keep_alloc | refine keep_far ?_ GW1112.out _) | exact HK.out)) (KeepBut.of_below hb g none) (.inl rfl)); have n4_ := Aside0.mk (below_step (by repeat (first | (with_reducible first | exact HB.out | apply below_alloc | apply pw_below_drewN | apply below_drew1 | refine below_set ?_ (IsS148.ge HI0.out) | refine below_set ?_ GE1112.out) | exact HB.out)) hb); clear HI0; clear BK1112; clear HK; clear HB; have HO1115 := n0_; have HI0 := n1_; have BK1112 := n2_; have HK := n3_; have HB := n4_; clear n0_ n1_ n2_ n3_ n4_; clear hb ho5) | ((with_reducible refine gate_callee (f := 103) rfl ?_); refine goesL_ (some 8) rfl rfl Try.func103 (by kernel_rfl) rfl #[.pointer (some ⟨g, 0, none⟩), .int .i64 11] rfl (by (try simp only [List.map_toArray, List.map_cons, List.map_nil]); first | done | rfl | (simp only [List.length_drop, List.length_take]; rfl)) ?_; (with_reducible refine (spec_l6Rd_pick.calls k g s0_0 s0_1 11 t1116 t1117 w0 _ ?side1 ?side2 A2.out).mono ?_); (case side1 => repeat (first | (with_reducible first | exact HI0.out | apply IsS148.alloc | apply IsS148.drewN | apply IsS148.drew | apply IsS148.set_1 | refine IsS148.far ?_ NB0_1112.out _) | exact HI0.out)); (case side2 => repeat (first | (with_reducible first | exact HB.out | apply below_alloc | apply pw_below_drewN | apply below_drew1 | refine below_set ?_ (IsS148.ge HI0.out) | refine below_set ?_ GE1112.out) | exact HB.out)); rintro e w6 ⟨rfl, hi, hb, hk⟩; refine ⟨_, rfl, ?_⟩; have n0_ := Aside0.mk (KeepBut.blk hk (g' := gb1112) (o := .cells #[.int .i64 0, .slice none 0 0, .int .i64 0] 87 (0, 0)) (by (with_reducible repeat (first | refine blk_drewN ?_ _ | refine blk_drew ?_ | refine blk_alloc ?_ _)); exact BK1112.out) NB1112_0.out (by simp)); have n1_ := Aside0.mk (Kd.R_mono (Kd.R_keep (IsS148.apart (show IsS148 w0 _ g s0_0 s0_1 from by repeat (first | (with_reducible first | exact HI0.out | apply IsS148.alloc | apply IsS148.drewN | apply IsS148.drew | apply IsS148.set_1 | refine IsS148.far ?_ NB0_1112.out _) | exact HI0.out)) (by (with_reducible repeat (first | apply Kd.R_alloc | apply Kd.R_drewN | apply Kd.R_drew)); exact HO1115.out) (by decide)) hk (fun _ h => h.2)) (fun _ h => h.1)); have n2_ := Aside0.mk (KeepBut.trans (by repeat (first | (with_reducible first | exact HK.out | apply KeepBut.set_ | apply keep_drewN | apply keep_drew | apply keep_alloc | refine keep_far ?_ GW1112.out _) | exact HK.out)) hk (.inl rfl)); have n3_ := Aside0.mk (hb); have n4_ := Aside0.mk (hi); clear BK1112; clear HO1115; clear HK; clear HB; clear HI0; have BK1112 := n0_; have HO1115 := n1_; have HK := n2_; have HB := n3_; have HI0 := n4_; clear n0_ n1_ n2_ n3_ n4_; (try clear hb); (try clear hb2); (try clear hk); (try clear hi)))
  go_loopg [3, 4] k (fun kq v3 v4 w' => ∃ (x3_1 : List Int) (x4_1 : Int) (x1001_1 : Int), v4 = .int .i64 x4_1 ∧ Aside0 (spec_l91Trace.l0 kq x3_1 x4_1 s0_0 x1001_1 = some (r1, r2, r3, r4)) ∧ Aside0 (kq ≤ k) ∧ Aside0 (Kd.R (Kd.int .i64) 3 w' w.heap.size (fun _ => True) v3 x3_1) ∧ Aside0 (w'.heap[gb1112]? = some (.cells #[.int .i64 0, (.slice none 0 0), .int .i64 0] 87 (0, 0))) ∧ Aside0 (IsS148 w0 w' g s0_0 x1001_1) ∧ Aside0 (KeepBut w w' g none) ∧ Aside0 (Below w0.heap.size w0 w'))
  case atStart => exact ⟨(y1113), (t1116), (t1117), (by first | rfl | (simp; done) | (simp [*]; done)), H', ⟨Nat.le_refl _⟩, ⟨by (with_reducible repeat (first | apply Kd.R_alloc | apply Kd.R_drewN | apply Kd.R_drew)); exact HO1115.out⟩, ⟨by (with_reducible repeat (first | refine blk_drewN ?_ _ | refine blk_drew ?_ | refine blk_alloc ?_ _)); exact BK1112.out⟩, ⟨by repeat (first | (with_reducible first | exact HI0.out | apply IsS148.alloc | apply IsS148.drewN | apply IsS148.drew | apply IsS148.set_1 | refine IsS148.far ?_ NB0_1112.out _) | exact HI0.out)⟩, ⟨by repeat (first | (with_reducible first | exact HK.out | apply KeepBut.set_ | apply keep_drewN | apply keep_drew | apply keep_alloc | refine keep_far ?_ GW1112.out _) | exact HK.out)⟩, ⟨by repeat (first | (with_reducible first | exact HB.out | apply below_alloc | apply pw_below_drewN | apply below_drew1 | refine below_set ?_ (IsS148.ge HI0.out) | refine below_set ?_ GE1112.out) | exact HB.out)⟩⟩
  case round =>
    clear H'
    try clear c1
    try clear p2
    obtain ⟨x3_1, x4_1, x1001_1, rfl, HA, HK1, HO_3, BK1112, HI0, HK, HB⟩ := hrel
    cases gk with
    | zero => exact absurd HA.out (by simp [spec_l91Trace.l0])
    | succ k1 =>
      have H := HA.out
      clear HA
      simp only [spec_l91Trace.l0] at H
      by_cases c7 : x4_1 > 0
      · rw [if_pos c7] at H
        have c7b0 : decide (0 < x4_1) = true := decide_eq_true c7
        clear c7
        replace H := Option.bind_eq_some_iff.mp H
        obtain ⟨⟨t1118, t1119⟩, A80, H⟩ := H
        replace H : (if x3_1.length < 17592186044416 then (spec_l91Trace.l0 k1 (x3_1 ++ [t1118]) (wrap64 (x4_1 - 1)) s0_0 t1119) else (none)) = some (r1, r2, r3, r4) := H
        have A8 := Aside0.mk A80
        clear A80
        by_cases c9 : x3_1.length < 17592186044416
        · rw [if_pos c9] at H
          have LMc9 := Aside0.mk c9
          clear c9
          obtain ⟨y1120, hy1120⟩ : ∃ y_ : List Int, y_ = (x3_1 ++ [t1118]) := ⟨_, rfl⟩
          replace H : (spec_l91Trace.l0 k1 y1120 (wrap64 (x4_1 - 1)) s0_0 t1119) = some (r1, r2, r3, r4) := by first | (rw [hy1120]; with_reducible exact H) | (have H2_ := (Option.bind_some _ _).symm.trans H; rw [hy1120]; with_reducible exact H2_) | (have H2_ := (Option.bind_some _ _).symm.trans H; with_reducible exact H2_) | with_reducible exact H | (rw [hy1120]; exact H) | exact H
          have Ny1120 := Aside0.mk hy1120
          clear hy1120
          have H' := Aside0.mk H
          clear H
          go_wp2_with (first | ((with_reducible refine gate_callee (f := 103) rfl ?_); refine goesL_ (some 15) rfl rfl Try.func103 (by kernel_rfl) rfl #[.pointer (some ⟨g, 0, none⟩), .int .i64 5] rfl (by (try simp only [List.map_toArray, List.map_cons, List.map_nil]); first | done | rfl | (simp only [List.length_drop, List.length_take]; rfl)) ?_; (with_reducible refine (spec_l6Rd_pick.calls k1 g s0_0 x1001_1 5 t1118 t1119 w0 _ ?side1 ?side2 A8.out).mono ?_); (case side1 => repeat (first | (with_reducible first | exact HI0.out | apply IsS148.alloc | apply IsS148.drewN | apply IsS148.drew | apply IsS148.set_1 | refine IsS148.far ?_ NB0_1112.out _) | exact HI0.out)); (case side2 => repeat (first | (with_reducible first | exact HB.out | apply below_alloc | apply pw_below_drewN | apply below_drew1 | refine below_set ?_ (IsS148.ge HI0.out) | refine below_set ?_ GE1112.out) | exact HB.out)); rintro e w10 ⟨rfl, hi, hb, hk⟩; refine ⟨_, rfl, ?_⟩; have n0_ := Aside0.mk (Kd.R_mono (Kd.R_keep (IsS148.apart (show IsS148 w0 _ g s0_0 x1001_1 from by repeat (first | (with_reducible first | exact HI0.out | apply IsS148.alloc | apply IsS148.drewN | apply IsS148.drew | apply IsS148.set_1 | refine IsS148.far ?_ NB0_1112.out _) | exact HI0.out)) (by (with_reducible repeat (first | apply Kd.R_alloc | apply Kd.R_drewN | apply Kd.R_drew)); exact HO_3.out) (by decide)) hk (fun _ h => h.2)) (fun _ h => h.1)); have n1_ := Aside0.mk (KeepBut.blk hk (g' := gb1112) (o := .cells #[.int .i64 0, .slice none 0 0, .int .i64 0] 87 (0, 0)) (by (with_reducible repeat (first | refine blk_drewN ?_ _ | refine blk_drew ?_ | refine blk_alloc ?_ _)); exact BK1112.out) NB1112_0.out (by simp)); have n2_ := Aside0.mk (KeepBut.trans (by repeat (first | (with_reducible first | exact HK.out | apply KeepBut.set_ | apply keep_drewN | apply keep_drew | apply keep_alloc | refine keep_far ?_ GW1112.out _) | exact HK.out)) hk (.inl rfl)); have n3_ := Aside0.mk (hb); have n4_ := Aside0.mk (hi); clear HO_3; clear BK1112; clear HK; clear HB; clear HI0; have HO_3 := n0_; have BK1112 := n1_; have HK := n2_; have HB := n3_; have HI0 := n4_; clear n0_ n1_ n2_ n3_ n4_; (try clear hb); (try clear hb2); (try clear hk); (try clear hi)) | ((with_reducible refine gate_builtin (b := .append) (xs := #[.tmp 13, .tmp 16]) rfl ?_); at_builtin; refine Kd.R_append (Kd.int .i64) w.heap.size rfl (.tmp 13) (.tmp 16) 26 3 (.int .i64 0) 8 rfl Try.underlying26 info3 rfl (by decide) (by omega) u3 x3_1 t1118 [.int .i64 t1118] (fun _ => True) (fun _ => False) rfl rfl ?aP (fun _ hk => hk.elim) ?aF ?aO (Below.refl _ _) ?aS ?aL ?_; (case aP => exact rfl); (case aF => exact (fun _ _ => trivial)); (case aO => exact (by (with_reducible repeat (first | apply Kd.R_alloc | apply Kd.R_drewN | apply Kd.R_drew)); exact HO_3.out)); (case aS => exact (keep_size (w := w) (g := g) (row := none) (by repeat (first | (with_reducible first | exact HK.out | apply KeepBut.set_ | apply keep_drewN | apply keep_drew | apply keep_alloc | refine keep_far ?_ GW1112.out _) | exact HK.out)))); (case aL => have := LMc9.out; omega); intro v1121 w11 ho hb hg hat; rw [← Ny1120.out] at ho; have n0_ := Aside0.mk (blk_grown (g := gb1112) (o := .cells #[.int .i64 0, .slice none 0 0, .int .i64 0] 87 (0, 0)) (by (with_reducible repeat (first | refine blk_drewN ?_ _ | refine blk_drew ?_ | refine blk_alloc ?_ _)); exact BK1112.out) hg (Kd.R_ne HO_3.out BK1112.out (by decide))); have n1_ := Aside0.mk (IsS148.grown (by repeat (first | (with_reducible first | exact HI0.out | apply IsS148.alloc | apply IsS148.drewN | apply IsS148.drew | apply IsS148.set_1 | refine IsS148.far ?_ NB0_1112.out _) | exact HI0.out)) hg (IsS148.own_ne HI0.out HO_3.out (by decide))); have n2_ := Aside0.mk (below_weaken (by repeat (first | (with_reducible first | exact HB.out | apply below_alloc | apply pw_below_drewN | apply below_drew1 | refine below_set ?_ (IsS148.ge HI0.out) | refine below_set ?_ GE1112.out) | exact HB.out)) HL.out hb); have n3_ := Aside0.mk (KeepBut.trans (by repeat (first | (with_reducible first | exact HK.out | apply KeepBut.set_ | apply keep_drewN | apply keep_drew | apply keep_alloc | refine keep_far ?_ GW1112.out _) | exact HK.out)) (KeepBut.of_grown hg g) (Kd.R_base2 HO_3.out)); have n4_ := Aside0.mk (ho); clear BK1112; clear HI0; clear HB; clear HK; clear HO_3; have BK1112 := n0_; have HI0 := n1_; have HB := n2_; have HK := n3_; have HO1122 := n4_; clear n0_ n1_ n2_ n3_ n4_; clear ho hb hg hat))
          go_roundg k1
          case measure => have := HK1.out; omega
          case rel => exact ⟨(y1120), (wrap64 (x4_1 - 1)), (t1119), (by first | rfl | (simp; done) | (simp [*]; done)), H', ⟨by have := HK1.out; omega⟩, ⟨by (with_reducible repeat (first | apply Kd.R_alloc | apply Kd.R_drewN | apply Kd.R_drew)); exact HO1122.out⟩, ⟨by (with_reducible repeat (first | refine blk_drewN ?_ _ | refine blk_drew ?_ | refine blk_alloc ?_ _)); exact BK1112.out⟩, ⟨by repeat (first | (with_reducible first | exact HI0.out | apply IsS148.alloc | apply IsS148.drewN | apply IsS148.drew | apply IsS148.set_1 | refine IsS148.far ?_ NB0_1112.out _) | exact HI0.out)⟩, ⟨by repeat (first | (with_reducible first | exact HK.out | apply KeepBut.set_ | apply keep_drewN | apply keep_drew | apply keep_alloc | refine keep_far ?_ GW1112.out _) | exact HK.out)⟩, ⟨by repeat (first | (with_reducible first | exact HB.out | apply below_alloc | apply pw_below_drewN | apply below_drew1 | refine below_set ?_ (IsS148.ge HI0.out) | refine below_set ?_ GE1112.out) | exact HB.out)⟩⟩
        · rw [if_neg c9] at H
          exact absurd H (by simp)
      · rw [if_neg c7] at H
        have c7b0 : decide (0 < x4_1) = false := decide_eq_false c7
        clear c7
        replace H := Option.bind_eq_some_iff.mp H
        obtain ⟨⟨t1123, t1124⟩, A120, H⟩ := H
        replace H : ((spec_l91Fit.f k1 s0_0 t1124 10).bind fun bt1125 => ((spec_l5Of.f k1 t1123 bt1125.1 bt1125.2.1 bt1125.2.2.1 x3_1).bind fun bt1131 => ((spec_l6Rd_pick.f k1 s0_0 bt1125.2.2.2 8).bind fun bt1137 => (if bt1137.1 = 0 then ((spec_l6Rd_pick.f k1 s0_0 bt1137.2 11).bind fun bt1139 => ((spec_l6Rd_pick.f k1 s0_0 bt1139.2 5).bind fun bt1141 => (if bt1131.2.1.length < 8796093022208 then (spec_l91Trace.j1 k1 s0_0 bt1141.2 bt1131.1 (bt1131.2.1 ++ [(⟨bt1139.1, bt1141.1⟩ : S117)]) bt1131.2.2) else (none)))) else (spec_l91Trace.j1 k1 s0_0 bt1137.2 bt1131.1 bt1131.2.1 bt1131.2.2))))) = some (r1, r2, r3, r4) := H
        have A12 := Aside0.mk A120
        clear A120
        replace H := Option.bind_eq_some_iff.mp H
        obtain ⟨⟨t1125, t1126, t1127, t1130⟩, A130, H⟩ := H
        replace H : ((spec_l5Of.f k1 t1123 t1125 t1126 t1127 x3_1).bind fun bt1131 => ((spec_l6Rd_pick.f k1 s0_0 t1130 8).bind fun bt1137 => (if bt1137.1 = 0 then ((spec_l6Rd_pick.f k1 s0_0 bt1137.2 11).bind fun bt1139 => ((spec_l6Rd_pick.f k1 s0_0 bt1139.2 5).bind fun bt1141 => (if bt1131.2.1.length < 8796093022208 then (spec_l91Trace.j1 k1 s0_0 bt1141.2 bt1131.1 (bt1131.2.1 ++ [(⟨bt1139.1, bt1141.1⟩ : S117)]) bt1131.2.2) else (none)))) else (spec_l91Trace.j1 k1 s0_0 bt1137.2 bt1131.1 bt1131.2.1 bt1131.2.2)))) = some (r1, r2, r3, r4) := H
        have A13 := Aside0.mk A130
        clear A130
        replace H := Option.bind_eq_some_iff.mp H
        obtain ⟨⟨t1131, t1132, t1135⟩, A140, H⟩ := H
        replace H : ((spec_l6Rd_pick.f k1 s0_0 t1130 8).bind fun bt1137 => (if bt1137.1 = 0 then ((spec_l6Rd_pick.f k1 s0_0 bt1137.2 11).bind fun bt1139 => ((spec_l6Rd_pick.f k1 s0_0 bt1139.2 5).bind fun bt1141 => (if t1132.length < 8796093022208 then (spec_l91Trace.j1 k1 s0_0 bt1141.2 t1131 (t1132 ++ [(⟨bt1139.1, bt1141.1⟩ : S117)]) t1135) else (none)))) else (spec_l91Trace.j1 k1 s0_0 bt1137.2 t1131 t1132 t1135))) = some (r1, r2, r3, r4) := H
        have A14 := Aside0.mk A140
        clear A140
        replace H := Option.bind_eq_some_iff.mp H
        obtain ⟨⟨t1137, t1138⟩, A150, H⟩ := H
        replace H : (if t1137 = 0 then ((spec_l6Rd_pick.f k1 s0_0 t1138 11).bind fun bt1139 => ((spec_l6Rd_pick.f k1 s0_0 bt1139.2 5).bind fun bt1141 => (if t1132.length < 8796093022208 then (spec_l91Trace.j1 k1 s0_0 bt1141.2 t1131 (t1132 ++ [(⟨bt1139.1, bt1141.1⟩ : S117)]) t1135) else (none)))) else (spec_l91Trace.j1 k1 s0_0 t1138 t1131 t1132 t1135)) = some (r1, r2, r3, r4) := H
        have A15 := Aside0.mk A150
        clear A150
        have HC16 := Aside0.mk H
        clear H
        go_upto_if 26 with (first | ((with_reducible refine gate_callee (f := 103) rfl ?_); refine goesL_ (some 19) rfl rfl Try.func103 (by kernel_rfl) rfl #[.pointer (some ⟨g, 0, none⟩), .int .i64 10] rfl (by (try simp only [List.map_toArray, List.map_cons, List.map_nil]); first | done | rfl | (simp only [List.length_drop, List.length_take]; rfl)) ?_; (with_reducible refine (spec_l6Rd_pick.calls k1 g s0_0 x1001_1 10 t1123 t1124 w0 _ ?side1 ?side2 A12.out).mono ?_); (case side1 => repeat (first | (with_reducible first | exact HI0.out | apply IsS148.alloc | apply IsS148.drewN | apply IsS148.drew | apply IsS148.set_1 | refine IsS148.far ?_ NB0_1112.out _) | exact HI0.out)); (case side2 => repeat (first | (with_reducible first | exact HB.out | apply below_alloc | apply pw_below_drewN | apply below_drew1 | refine below_set ?_ (IsS148.ge HI0.out) | refine below_set ?_ GE1112.out) | exact HB.out)); rintro e w17 ⟨rfl, hi, hb, hk⟩; refine ⟨_, rfl, ?_⟩; have n0_ := Aside0.mk (Kd.R_mono (Kd.R_keep (IsS148.apart (show IsS148 w0 _ g s0_0 x1001_1 from by repeat (first | (with_reducible first | exact HI0.out | apply IsS148.alloc | apply IsS148.drewN | apply IsS148.drew | apply IsS148.set_1 | refine IsS148.far ?_ NB0_1112.out _) | exact HI0.out)) (by (with_reducible repeat (first | apply Kd.R_alloc | apply Kd.R_drewN | apply Kd.R_drew)); exact HO_3.out) (by decide)) hk (fun _ h => h.2)) (fun _ h => h.1)); have n1_ := Aside0.mk (KeepBut.blk hk (g' := gb1112) (o := .cells #[.int .i64 0, .slice none 0 0, .int .i64 0] 87 (0, 0)) (by (with_reducible repeat (first | refine blk_drewN ?_ _ | refine blk_drew ?_ | refine blk_alloc ?_ _)); exact BK1112.out) NB1112_0.out (by simp)); have n2_ := Aside0.mk (KeepBut.trans (by repeat (first | (with_reducible first | exact HK.out | apply KeepBut.set_ | apply keep_drewN | apply keep_drew | apply keep_alloc | refine keep_far ?_ GW1112.out _) | exact HK.out)) hk (.inl rfl)); have n3_ := Aside0.mk (hb); have n4_ := Aside0.mk (hi); clear HO_3; clear BK1112; clear HK; clear HB; clear HI0; have HO_3 := n0_; have BK1112 := n1_; have HK := n2_; have HB := n3_; have HI0 := n4_; clear n0_ n1_ n2_ n3_ n4_; (try clear hb); (try clear hb2); (try clear hk); (try clear hi)) | ((with_reducible refine gate_callee (f := 132) rfl ?_); refine goesL_ (some 21) rfl rfl Try.func132 (by kernel_rfl) rfl #[.pointer (some ⟨g, 0, none⟩), .int .i64 10] rfl (by (try simp only [List.map_toArray, List.map_cons, List.map_nil]); first | done | rfl | (simp only [List.length_drop, List.length_take]; rfl)) ?_; (with_reducible refine (spec_l91Fit.calls k1 g s0_0 t1124 10 t1125 t1126 t1127 t1130 w0 _ ?side1 ?side2 A13.out).mono ?_); (case side1 => repeat (first | (with_reducible first | exact HI0.out | apply IsS148.alloc | apply IsS148.drewN | apply IsS148.drew | apply IsS148.set_1 | refine IsS148.far ?_ NB0_1112.out _) | exact HI0.out)); (case side2 => repeat (first | (with_reducible first | exact HB.out | apply below_alloc | apply pw_below_drewN | apply below_drew1 | refine below_set ?_ (IsS148.ge HI0.out) | refine below_set ?_ GE1112.out) | exact HB.out)); rintro e w18 ⟨v1128, rfl, ho0, hi, hb, hk⟩; refine ⟨_, rfl, ?_⟩; have n0_ := Aside0.mk (Kd.R_mono (Kd.R_keep (IsS148.apart (show IsS148 w0 _ g s0_0 t1124 from by repeat (first | (with_reducible first | exact HI0.out | apply IsS148.alloc | apply IsS148.drewN | apply IsS148.drew | apply IsS148.set_1 | refine IsS148.far ?_ NB0_1112.out _) | exact HI0.out)) (by (with_reducible repeat (first | apply Kd.R_alloc | apply Kd.R_drewN | apply Kd.R_drew)); exact HO_3.out) (by decide)) hk (fun _ h => h.2)) (fun _ h => h.1)); have n1_ := Aside0.mk (KeepBut.blk hk (g' := gb1112) (o := .cells #[.int .i64 0, .slice none 0 0, .int .i64 0] 87 (0, 0)) (by (with_reducible repeat (first | refine blk_drewN ?_ _ | refine blk_drew ?_ | refine blk_alloc ?_ _)); exact BK1112.out) NB1112_0.out (by simp)); have n2_ := Aside0.mk (Kd.N_lower (Kd.N_mono (ok' := fun k_ => some k_ ≠ (u3 : Value).ownBlock ∧ k_ ≠ gb1112 ∧ k_ ≠ g) ho0 (fun k_ hk_ => ⟨(Kd.fresh' (Kd.R_lt (by (with_reducible repeat (first | apply Kd.R_alloc | apply Kd.R_drewN | apply Kd.R_drew)); exact HO_3.out)) k_ hk_), (Kd.freshB (g := gb1112) (o := .cells #[.int .i64 0, .slice none 0 0, .int .i64 0] 87 (0, 0)) (by (with_reducible repeat (first | refine blk_drewN ?_ _ | refine blk_drew ?_ | refine blk_alloc ?_ _)); exact BK1112.out) k_ hk_), (IsS148.fresh (by repeat (first | (with_reducible first | exact HI0.out | apply IsS148.alloc | apply IsS148.drewN | apply IsS148.drew | apply IsS148.set_1 | refine IsS148.far ?_ NB0_1112.out _) | exact HI0.out)) k_ hk_)⟩)) (keep_size (w := w) (g := g) (row := none) (by repeat (first | (with_reducible first | exact HK.out | apply KeepBut.set_ | apply keep_drewN | apply keep_drew | apply keep_alloc | refine keep_far ?_ GW1112.out _) | exact HK.out)))); have n3_ := Aside0.mk (KeepBut.trans (by repeat (first | (with_reducible first | exact HK.out | apply KeepBut.set_ | apply keep_drewN | apply keep_drew | apply keep_alloc | refine keep_far ?_ GW1112.out _) | exact HK.out)) hk (.inl rfl)); have n4_ := Aside0.mk (hb); have n5_ := Aside0.mk (hi); clear HO_3; clear BK1112; clear HK; clear HB; clear HI0; have HO_3 := n0_; have BK1112 := n1_; have HO1129 := n2_; have HK := n3_; have HB := n4_; have HI0 := n5_; clear n0_ n1_ n2_ n3_ n4_ n5_; (try clear hb); (try clear hb2); (try clear hk); (try clear hi); (try clear ho0); obtain ⟨Ao19, co19, eo19⟩ := Kd.N_slice HO1129.out; subst eo19; obtain ⟨Ao20, co20, eo20⟩ := Kd.R_slice HO_3.out; subst eo20) | ((with_reducible refine gate_callee (f := 97) rfl ?_); refine goesL_ (some 23) rfl rfl Try.func97 (by kernel_rfl) rfl #[.int .i64 t1123, .agg #[.int .i64 t1125, .int .i64 t1126, .slice Ao19 t1127.length co19], .slice Ao20 x3_1.length co20] rfl (by (try simp only [List.map_toArray, List.map_cons, List.map_nil]); first | done | rfl | (simp only [List.length_drop, List.length_take]; rfl)) ?_; (with_reducible refine (spec_l5Of.calls k1 t1123 t1125 t1126 _ _ t1127 _ _ x3_1 t1131 t1132 t1135 _ ?side1 ?side2 ?side3 ?side4 A14.out).mono ?_); (case side1 => repeat (first | exact (Kd.N_reads' HO1129.out).2.2 | (with_reducible refine Kd.C_alloc ?_ _) | (with_reducible refine Kd.C_drewN ?_ _) | (with_reducible refine Kd.C_drew ?_))); (case side2 => exact (Kd.N_reads' HO1129.out).2.1); (case side3 => repeat (first | exact (Kd.R_reads' HO_3.out).2.2 | (with_reducible refine Kd.C_alloc ?_ _) | (with_reducible refine Kd.C_drewN ?_ _) | (with_reducible refine Kd.C_drew ?_))); (case side4 => exact (Kd.R_reads' HO_3.out).2.1); rintro e w21 ⟨v1133, rfl, ho0, hb⟩; refine ⟨_, rfl, ?_⟩; have n0_ := Aside0.mk (Kd.R_below (by (with_reducible repeat (first | apply Kd.R_alloc | apply Kd.R_drewN | apply Kd.R_drew)); exact HO_3.out) hb); have n1_ := Aside0.mk (Kd.N_elder' (by (with_reducible repeat (first | apply Kd.N_alloc | apply Kd.N_drewN | apply Kd.N_drew)); exact HO1129.out) (Kd.R_base ho0) hb); have n2_ := Aside0.mk (Kd.R_lower ho0 (keep_size (w := w) (g := g) (row := none) (by repeat (first | (with_reducible first | exact HK.out | apply KeepBut.set_ | apply keep_drewN | apply keep_drew | apply keep_alloc | refine keep_far ?_ GW1112.out _) | exact HK.out)))); have n3_ := Aside0.mk (blk_below (g := gb1112) (o := .cells #[.int .i64 0, .slice none 0 0, .int .i64 0] 87 (0, 0)) (by (with_reducible repeat (first | refine blk_drewN ?_ _ | refine blk_drew ?_ | refine blk_alloc ?_ _)); exact BK1112.out) hb); have n4_ := Aside0.mk (IsS148.below (by repeat (first | (with_reducible first | exact HI0.out | apply IsS148.alloc | apply IsS148.drewN | apply IsS148.drew | apply IsS148.set_1 | refine IsS148.far ?_ NB0_1112.out _) | exact HI0.out)) hb); have n5_ := Aside0.mk (KeepBut.trans (by repeat (first | (with_reducible first | exact HK.out | apply KeepBut.set_ | apply keep_drewN | apply keep_drew | apply keep_alloc | refine keep_far ?_ GW1112.out _) | exact HK.out)) (KeepBut.of_below hb g none) (.inl rfl)); have n6_ := Aside0.mk (below_step (by repeat (first | (with_reducible first | exact HB.out | apply below_alloc | apply pw_below_drewN | apply below_drew1 | refine below_set ?_ (IsS148.ge HI0.out) | refine below_set ?_ GE1112.out) | exact HB.out)) hb); clear HO_3; clear HO1129; clear BK1112; clear HI0; clear HK; clear HB; have HO_3 := n0_; have HO1129 := n1_; have HO1134 := n2_; have BK1112 := n3_; have HI0 := n4_; have HK := n5_; have HB := n6_; clear n0_ n1_ n2_ n3_ n4_ n5_ n6_; (try clear hb); (try clear hb2); (try clear hk); (try clear hi); (try clear ho0)) | ((with_reducible refine gate_dst (N := 5) rfl ?_); refine box_event ?hg (N := 5) ?hd (cs := #[.int .i64 0, .slice none 0 0, .int .i64 0]) (t := 87) ?hr ?_; (case hd => rfl); (case hg => rfl); (case hr => first | (go_simp; done) | (go_simp; rfl)); intro gb1136 hg w22 hbox hb; have n0_ := Aside0.mk (Kd.R_below (by (with_reducible repeat (first | apply Kd.R_alloc | apply Kd.R_drewN | apply Kd.R_drew)); exact HO_3.out) hb); have n1_ := Aside0.mk (Kd.N_below (Kd.N_elderB (by (with_reducible repeat (first | apply Kd.N_alloc | apply Kd.N_drewN | apply Kd.N_drew)); exact HO1129.out) gb1136 (Nat.le_of_eq hg.symm)) hb); have n2_ := Aside0.mk (Kd.R_below (by (with_reducible repeat (first | apply Kd.R_alloc | apply Kd.R_drewN | apply Kd.R_drew)); exact HO1134.out) hb); have n3_ := Aside0.mk (blk_below (g := gb1112) (o := .cells #[.int .i64 0, .slice none 0 0, .int .i64 0] 87 (0, 0)) (by (with_reducible repeat (first | refine blk_drewN ?_ _ | refine blk_drew ?_ | refine blk_alloc ?_ _)); exact BK1112.out) hb); have n4_ := Aside0.mk (IsS148.below (by repeat (first | (with_reducible first | exact HI0.out | apply IsS148.alloc | apply IsS148.drewN | apply IsS148.drew | apply IsS148.set_1 | refine IsS148.far ?_ NB0_1112.out _) | exact HI0.out)) hb); have n5_ := Aside0.mk (KeepBut.trans (by repeat (first | (with_reducible first | exact HK.out | apply KeepBut.set_ | apply keep_drewN | apply keep_drew | apply keep_alloc | refine keep_far ?_ GW1112.out _) | exact HK.out)) (KeepBut.of_below hb g none) (.inl rfl)); have n6_ := Aside0.mk (below_step (by repeat (first | (with_reducible first | exact HB.out | apply below_alloc | apply pw_below_drewN | apply below_drew1 | refine below_set ?_ (IsS148.ge HI0.out) | refine below_set ?_ GE1112.out) | exact HB.out)) hb); have n7_ := Aside0.mk (hbox); have n8_ := Aside0.mk ((by rw [hg]; exact (keep_size (w := w) (g := g) (row := none) (by repeat (first | (with_reducible first | exact HK.out | apply KeepBut.set_ | apply keep_drewN | apply keep_drew | apply keep_alloc | refine keep_far ?_ GW1112.out _) | exact HK.out))) : w.heap.size ≤ gb1136)); have n9_ := Aside0.mk ((Nat.le_trans HW0.out (by rw [hg]; exact (keep_size (w := w) (g := g) (row := none) (by repeat (first | (with_reducible first | exact HK.out | apply KeepBut.set_ | apply keep_drewN | apply keep_drew | apply keep_alloc | refine keep_far ?_ GW1112.out _) | exact HK.out))) : w.heap.size ≤ gb1136) : w0.heap.size ≤ gb1136)); have n10_ := Aside0.mk ((by rw [hg]; exact Nat.ne_of_lt (blk_lt (g := gb1112) (o := .cells #[.int .i64 0, .slice none 0 0, .int .i64 0] 87 (0, 0)) (by (with_reducible repeat (first | refine blk_drewN ?_ _ | refine blk_drew ?_ | refine blk_alloc ?_ _)); exact BK1112.out)) : gb1112 ≠ gb1136)); have n11_ := Aside0.mk ((by rw [hg]; exact Nat.ne_of_gt (blk_lt (g := gb1112) (o := .cells #[.int .i64 0, .slice none 0 0, .int .i64 0] 87 (0, 0)) (by (with_reducible repeat (first | refine blk_drewN ?_ _ | refine blk_drew ?_ | refine blk_alloc ?_ _)); exact BK1112.out)) : gb1136 ≠ gb1112)); have n12_ := Aside0.mk ((by rw [hg]; exact Nat.ne_of_lt (IsS148.lt (show IsS148 w0 _ g s0_0 t1130 from by repeat (first | (with_reducible first | exact HI0.out | apply IsS148.alloc | apply IsS148.drewN | apply IsS148.drew | apply IsS148.set_1 | refine IsS148.far ?_ NB0_1112.out _) | exact HI0.out))) : g ≠ gb1136)); have n13_ := Aside0.mk ((by rw [hg]; exact Nat.ne_of_gt (IsS148.lt (show IsS148 w0 _ g s0_0 t1130 from by repeat (first | (with_reducible first | exact HI0.out | apply IsS148.alloc | apply IsS148.drewN | apply IsS148.drew | apply IsS148.set_1 | refine IsS148.far ?_ NB0_1112.out _) | exact HI0.out))) : gb1136 ≠ g)); clear HO_3; clear HO1129; clear HO1134; clear BK1112; clear HI0; clear HK; clear HB; have HO_3 := n0_; have HO1129 := n1_; have HO1134 := n2_; have BK1112 := n3_; have HI0 := n4_; have HK := n5_; have HB := n6_; have BK1136 := n7_; have GW1136 := n8_; have GE1136 := n9_; have NB1112_1136 := n10_; have NB1136_1112 := n11_; have NB0_1136 := n12_; have NB1136_0 := n13_; clear n0_ n1_ n2_ n3_ n4_ n5_ n6_ n7_ n8_ n9_ n10_ n11_ n12_ n13_; clear hb hbox hg; have hnb23 := NB1136_1112.out; have hnc23 := NB1112_1136.out; have hnb24 := NB1136_0.out; have hnc24 := NB0_1136.out; have hcz25_0 : w22.cell? ⟨gb1136, 0, none⟩ = some (.int .i64 0) := (blk_cell BK1136.out 0).trans rfl; have hcz25_1 : w22.cell? ⟨gb1136, 1, none⟩ = some (.slice none 0 0) := (blk_cell BK1136.out 1).trans rfl; have hcz25_2 : w22.cell? ⟨gb1136, 2, none⟩ = some (.int .i64 0) := (blk_cell BK1136.out 2).trans rfl; have hfz25_0 := blk_frozen BK1136.out 0; have hfz25_1 := blk_frozen BK1136.out 1; have hfz25_2 := blk_frozen BK1136.out 2; obtain ⟨Ao26, co26, eo26⟩ := Kd.R_slice HO1134.out; subst eo26) | ((with_reducible refine gate_callee (f := 103) rfl ?_); refine goesL_ (some 25) rfl rfl Try.func103 (by kernel_rfl) rfl #[.pointer (some ⟨g, 0, none⟩), .int .i64 8] rfl (by (try simp only [List.map_toArray, List.map_cons, List.map_nil]); first | done | rfl | (simp only [List.length_drop, List.length_take]; rfl)) ?_; (with_reducible refine (spec_l6Rd_pick.calls k1 g s0_0 t1130 8 t1137 t1138 w0 _ ?side1 ?side2 A15.out).mono ?_); (case side1 => repeat (first | (with_reducible first | exact HI0.out | apply IsS148.alloc | apply IsS148.drewN | apply IsS148.drew | apply IsS148.set_1 | refine IsS148.far ?_ NB0_1112.out _ | refine IsS148.far ?_ NB0_1136.out _) | exact HI0.out)); (case side2 => repeat (first | (with_reducible first | exact HB.out | apply below_alloc | apply pw_below_drewN | apply below_drew1 | refine below_set ?_ (IsS148.ge HI0.out) | refine below_set ?_ GE1112.out | refine below_set ?_ GE1136.out) | exact HB.out)); rintro e w27 ⟨rfl, hi, hb, hk⟩; refine ⟨_, rfl, ?_⟩; have n0_ := Aside0.mk (Kd.R_mono (Kd.R_keep (IsS148.apart (show IsS148 w0 _ g s0_0 t1130 from by repeat (first | (with_reducible first | exact HI0.out | apply IsS148.alloc | apply IsS148.drewN | apply IsS148.drew | apply IsS148.set_1 | refine IsS148.far ?_ NB0_1112.out _ | refine IsS148.far ?_ NB0_1136.out _) | exact HI0.out)) (by (with_reducible repeat (first | apply Kd.R_alloc | apply Kd.R_drewN | apply Kd.R_drew)); exact (Kd.R_mono (Kd.R_far (p := ⟨gb1136, 2, none⟩) (Kd.R_far (p := ⟨gb1136, 1, none⟩) (Kd.R_far (p := ⟨gb1136, 0, none⟩) (Kd.R_types HO_3.out BK1136.out (by decide)) (fun _ hk => hk.2) (.int .i64 t1131)) (fun _ hk => hk.2) (.slice Ao26 t1132.length co26)) (fun _ hk => hk.2) (.int .i64 t1135)) (fun _ h_ => h_.1))) (by decide)) hk (fun _ h => h.2)) (fun _ h => h.1)); have n1_ := Aside0.mk (KeepBut.blk hk (g' := gb1112) (o := .cells #[.int .i64 0, .slice none 0 0, .int .i64 0] 87 (0, 0)) (by (with_reducible repeat (first | refine blk_drewN ?_ _ | refine blk_drew ?_ | refine blk_alloc ?_ _)); refine blk_far ?_ NB1112_1136.out _; (with_reducible repeat (first | refine blk_drewN ?_ _ | refine blk_drew ?_ | refine blk_alloc ?_ _)); refine blk_far ?_ NB1112_1136.out _; (with_reducible repeat (first | refine blk_drewN ?_ _ | refine blk_drew ?_ | refine blk_alloc ?_ _)); refine blk_far ?_ NB1112_1136.out _; (with_reducible repeat (first | refine blk_drewN ?_ _ | refine blk_drew ?_ | refine blk_alloc ?_ _)); exact BK1112.out) NB1112_0.out (by simp)); have n2_ := Aside0.mk (Kd.N_mono (Kd.N_keep (Kd.N_mono (ok := fun k_ => (((some k_ ≠ (.slice Ao20 x3_1.length co20 : Value).ownBlock ∧ (k_ ≠ gb1112 ∧ k_ ≠ g)) ∧ some k_ ≠ (.slice Ao26 t1132.length co26 : Value).ownBlock) ∧ k_ ≠ gb1136)) (by (with_reducible repeat (first | apply Kd.N_alloc | apply Kd.N_drewN | apply Kd.N_drew)); exact (Kd.N_mono (Kd.N_far (p := ⟨gb1136, 2, none⟩) (Kd.N_far (p := ⟨gb1136, 1, none⟩) (Kd.N_far (p := ⟨gb1136, 0, none⟩) (Kd.N_mono HO1129.out (fun k_ hk => (⟨hk, hk.2⟩ : _ ∧ k_ ≠ gb1136))) (fun _ hk => hk.2) (.int .i64 t1131)) (fun _ hk => hk.2) (.slice Ao26 t1132.length co26)) (fun _ hk => hk.2) (.int .i64 t1135)) (fun _ h_ => h_.1))) (fun k_ hk_ => (⟨hk_, hk_.1.1.2.2⟩ : _ ∧ k_ ≠ g))) hk (fun _ h => h.2)) (fun _ h => h.1)); have n3_ := Aside0.mk (Kd.R_mono (Kd.R_keep (IsS148.apart (show IsS148 w0 _ g s0_0 t1130 from by repeat (first | (with_reducible first | exact HI0.out | apply IsS148.alloc | apply IsS148.drewN | apply IsS148.drew | apply IsS148.set_1 | refine IsS148.far ?_ NB0_1112.out _ | refine IsS148.far ?_ NB0_1136.out _) | exact HI0.out)) (by (with_reducible repeat (first | apply Kd.R_alloc | apply Kd.R_drewN | apply Kd.R_drew)); exact (Kd.R_mono (Kd.R_far (p := ⟨gb1136, 2, none⟩) (Kd.R_far (p := ⟨gb1136, 1, none⟩) (Kd.R_far (p := ⟨gb1136, 0, none⟩) (Kd.R_types HO1134.out BK1136.out (by decide)) (fun _ hk => hk.2) (.int .i64 t1131)) (fun _ hk => hk.2) (.slice Ao26 t1132.length co26)) (fun _ hk => hk.2) (.int .i64 t1135)) (fun _ h_ => h_.1))) (by decide)) hk (fun _ h => h.2)) (fun _ h => h.1)); have n4_ := Aside0.mk (KeepBut.blk hk (g' := gb1136) (o := .cells #[.int .i64 t1131, .slice Ao26 t1132.length co26, .int .i64 t1135] 87 (0, 0)) (by (with_reducible repeat (first | refine blk_drewN ?_ _ | refine blk_drew ?_ | refine blk_alloc ?_ _)); refine blk_put (cs := #[.int .i64 t1131, .slice Ao26 t1132.length co26, .int .i64 0]) ?_ 2 _ rfl; (with_reducible repeat (first | refine blk_drewN ?_ _ | refine blk_drew ?_ | refine blk_alloc ?_ _)); refine blk_put (cs := #[.int .i64 t1131, .slice none 0 0, .int .i64 0]) ?_ 1 _ rfl; (with_reducible repeat (first | refine blk_drewN ?_ _ | refine blk_drew ?_ | refine blk_alloc ?_ _)); refine blk_put (cs := #[.int .i64 0, .slice none 0 0, .int .i64 0]) ?_ 0 _ rfl; (with_reducible repeat (first | refine blk_drewN ?_ _ | refine blk_drew ?_ | refine blk_alloc ?_ _)); exact BK1136.out) NB1136_0.out (by simp)); have n5_ := Aside0.mk (KeepBut.trans (by repeat (first | (with_reducible first | exact HK.out | apply KeepBut.set_ | apply keep_drewN | apply keep_drew | apply keep_alloc | refine keep_far ?_ GW1112.out _ | refine keep_far ?_ GW1136.out _) | exact HK.out)) hk (.inl rfl)); have n6_ := Aside0.mk (hb); have n7_ := Aside0.mk (hi); clear HO_3; clear BK1112; clear HO1129; clear HO1134; clear BK1136; clear HK; clear HB; clear HI0; have HO_3 := n0_; have BK1112 := n1_; have HO1129 := n2_; have HO1134 := n3_; have BK1136 := n4_; have HK := n5_; have HB := n6_; have HI0 := n7_; clear n0_ n1_ n2_ n3_ n4_ n5_ n6_ n7_; (try clear hb); (try clear hb2); (try clear hk); (try clear hi)))
        (try simp only [Act.put, List.setIfInBounds_toArray, List.set_cons_zero, List.set_cons_succ])
        go_cut [] (fun wc => ∃ (kq : Nat) (x1001_15 : Int) (x1137001_15 : List (S117)) (u1137001 : Value), Aside0 (spec_l91Trace.j1 kq s0_0 x1001_15 t1131 x1137001_15 t1135 = some (r1, r2, r3, r4)) ∧ Aside0 (kq ≤ k1) ∧ Aside0 (Kd.R k117 117 wc w.heap.size (fun _ => True) u1137001 x1137001_15) ∧ Aside0 (wc.heap[gb1112]? = some (.cells #[.int .i64 0, (.slice none 0 0), .int .i64 0] 87 (0, 0))) ∧ Aside0 (wc.heap[gb1136]? = some (.cells #[.int .i64 t1131, u1137001, .int .i64 t1135] 87 (0, 0))) ∧ Aside0 (IsS148 w0 wc g s0_0 x1001_15) ∧ Aside0 (KeepBut w wc g none) ∧ Aside0 (Below w0.heap.size w0 wc))
        case first =>
          have H := HC16.out
          clear HC16
          by_cases c28 : t1137 = 0
          · rw [if_pos c28] at H
            have c28b0 : (t1137 == 0) = true := beq_iff_eq.mpr c28
            have c28b1 : (t1137 != 0) = false := bne_eq_false_iff_eq.mpr c28
            clear c28
            (first | rw [c28b0] | (simp only [i64_w, i32_w]; rw [c28b0]) | skip)
            replace H := Option.bind_eq_some_iff.mp H
            obtain ⟨⟨t1139, t1140⟩, A290, H⟩ := H
            replace H : ((spec_l6Rd_pick.f k1 s0_0 t1140 5).bind fun bt1141 => (if t1132.length < 8796093022208 then (spec_l91Trace.j1 k1 s0_0 bt1141.2 t1131 (t1132 ++ [(⟨t1139, bt1141.1⟩ : S117)]) t1135) else (none))) = some (r1, r2, r3, r4) := H
            have A29 := Aside0.mk A290
            clear A290
            replace H := Option.bind_eq_some_iff.mp H
            obtain ⟨⟨t1141, t1142⟩, A300, H⟩ := H
            replace H : (if t1132.length < 8796093022208 then (spec_l91Trace.j1 k1 s0_0 t1142 t1131 (t1132 ++ [(⟨t1139, t1141⟩ : S117)]) t1135) else (none)) = some (r1, r2, r3, r4) := H
            have A30 := Aside0.mk A300
            clear A300
            by_cases c31 : t1132.length < 8796093022208
            · rw [if_pos c31] at H
              have LMc31 := Aside0.mk c31
              clear c31
              obtain ⟨y1143, hy1143⟩ : ∃ y_ : List (S117), y_ = (t1132 ++ [(⟨t1139, t1141⟩ : S117)]) := ⟨_, rfl⟩
              replace H : (spec_l91Trace.j1 k1 s0_0 t1142 t1131 y1143 t1135) = some (r1, r2, r3, r4) := by first | (rw [hy1143]; with_reducible exact H) | (have H2_ := (Option.bind_some _ _).symm.trans H; rw [hy1143]; with_reducible exact H2_) | (have H2_ := (Option.bind_some _ _).symm.trans H; with_reducible exact H2_) | with_reducible exact H | (rw [hy1143]; exact H) | exact H
              have Ny1143 := Aside0.mk hy1143
              clear hy1143
              have H' := Aside0.mk H
              clear H
              try go_wp2
              have n0_ := Aside0.mk (Kd.R_drew HO_3.out)
              have n1_ := Aside0.mk (Kd.N_drew HO1129.out)
              have n2_ := Aside0.mk (Kd.R_drew HO1134.out)
              have n3_ := Aside0.mk (blk_drew BK1112.out)
              have n4_ := Aside0.mk (blk_drew BK1136.out)
              have n5_ := Aside0.mk (IsS148.drew HI0.out)
              have n6_ := Aside0.mk (keep_drew HK.out)
              have n7_ := Aside0.mk (below_drew1 HB.out)
              clear HO_3
              clear HO1129
              clear HO1134
              clear BK1112
              clear BK1136
              clear HI0
              clear HK
              clear HB
              have HO_3 := n0_
              have HO1129 := n1_
              have HO1134 := n2_
              have BK1112 := n3_
              have BK1136 := n4_
              have HI0 := n5_
              have HK := n6_
              have HB := n7_
              clear n0_ n1_ n2_ n3_ n4_ n5_ n6_ n7_
              refine start_ (n := 11) (S := fun w' => w'.cell? ⟨gb1136, 0, none⟩ = some (.int .i64 t1131) ∧ w'.cell? ⟨gb1136, 1, none⟩ = some (.slice Ao26 t1132.length co26) ∧ w'.cell? ⟨gb1136, 2, none⟩ = some (.int .i64 t1135)) (ds := [10]) #[false, false, false, false, false, false, false, false, false, false, false] (by kernel_rfl) rfl rfl ⟨(blk_cell BK1136.out 0).trans rfl, (blk_cell BK1136.out 1).trans rfl, (blk_cell BK1136.out 2).trans rfl⟩ (fun hHeld => ?_); refine with_tabW spec_l91Trace.tab8 spec_l91Trace.bits8 (fun HT_ HW_ => ?_)
              generalize w27.drew = w32 at HO_3 HO1129 HO1134 BK1112 BK1136 HI0 HK HB hHeld ⊢
              refine pure_ (i := 0) (N := some 27) (v := ?_) (a' := ?_) #[true, false, false, false, false, false, false, false, false, false, false] rfl rfl (any_of HT_.out (by kernel_rfl)) (fun _ _ _ h => h) (Or.inl ⟨by rfl, ?_⟩) ?_ ?_
              rotate_left
              · intro w'
                go_simp
                with_reducible rfl
              rotate_left
              · simp only [Act.put, List.setIfInBounds_toArray, List.set_cons_zero, List.set_cons_succ, i64_w, i32_w]
                rfl
              refine pure_ (i := 2) (N := some 29) (v := ?_) (a' := ?_) #[true, false, true, false, false, false, false, false, false, false, false] rfl rfl (any_of HT_.out (by kernel_rfl)) (fun _ _ _ h => h) (Or.inl ⟨by rfl, ?_⟩) ?_ ?_
              rotate_left
              · intro w'
                go_simp
                with_reducible rfl
              rotate_left
              · simp only [Act.put, List.setIfInBounds_toArray, List.set_cons_zero, List.set_cons_succ, i64_w, i32_w]
                rfl
              refine pure_ (i := 4) (N := some 31) (v := ?_) (a' := ?_) #[true, false, true, false, true, false, false, false, false, false, false] rfl rfl (any_of HT_.out (by kernel_rfl)) (fun _ _ _ h => h) (Or.inl ⟨by rfl, ?_⟩) ?_ ?_
              rotate_left
              · intro w'
                go_simp
                with_reducible rfl
              rotate_left
              · simp only [Act.put, List.setIfInBounds_toArray, List.set_cons_zero, List.set_cons_succ, i64_w, i32_w]
                rfl
              refine take_ (i := 1) (N := some 28) (v := ?_) (a' := ?_) #[true, true, true, false, true, false, false, false, false, false, false] rfl rfl (take_ofW HT_.out HW_.out (by kernel_rfl)) (fun _ _ _ h => h) (Or.inl ⟨by rfl, ?_⟩) hHeld ?_ ?_
              rotate_left
              · rintro w' ⟨s0, s1, s2⟩
                go_simp
                with_reducible rfl
              rotate_left
              · simp only [Act.put, List.setIfInBounds_toArray, List.set_cons_zero, List.set_cons_succ, i64_w, i32_w]
                rfl
              refine one_ (i := 3) (N := some 30) #[true, true, true, true, true, false, false, false, false, false, false] rfl rfl (one_of HT_.out (by kernel_rfl)) (by decide) (fun K hK => ?_)
              refine goes_ Try.func103 (by kernel_rfl) rfl #[.pointer (some ⟨g, 0, none⟩), .int .i64 11] (by rfl) rfl rfl (by (try simp only [List.map_toArray, List.map_cons, List.map_nil]); first | done | rfl | (simp only [List.length_drop, List.length_take]; rfl)) ?_
              with_reducible refine (spec_l6Rd_pick.calls k1 g s0_0 t1138 11 t1139 t1140 w0 _ ?side1 ?side2 A29.out).mono ?_
              (case side1 => repeat (first | (with_reducible first | exact HI0.out | apply IsS148.alloc | apply IsS148.drewN | apply IsS148.drew | apply IsS148.set_1 | refine IsS148.far ?_ NB0_1112.out _ | refine IsS148.far ?_ NB0_1136.out _) | exact HI0.out))
              (case side2 => repeat (first | (with_reducible first | exact HB.out | apply below_alloc | apply pw_below_drewN | apply below_drew1 | refine below_set ?_ (IsS148.ge HI0.out) | refine below_set ?_ GE1112.out | refine below_set ?_ GE1136.out) | exact HB.out))
              rintro e w33 ⟨rfl, hi, hb, hk⟩
              refine ⟨_, rfl, ?_⟩
              have n0_ := Aside0.mk (Kd.R_mono (Kd.R_keep (IsS148.apart (show IsS148 w0 _ g s0_0 t1138 from by repeat (first | (with_reducible first | exact HI0.out | apply IsS148.alloc | apply IsS148.drewN | apply IsS148.drew | apply IsS148.set_1 | refine IsS148.far ?_ NB0_1112.out _ | refine IsS148.far ?_ NB0_1136.out _) | exact HI0.out)) (by (with_reducible repeat (first | apply Kd.R_alloc | apply Kd.R_drewN | apply Kd.R_drew)); exact HO_3.out) (by decide)) hk (fun _ h => h.2)) (fun _ h => h.1))
              have n1_ := Aside0.mk (KeepBut.blk hk (g' := gb1112) (o := .cells #[.int .i64 0, .slice none 0 0, .int .i64 0] 87 (0, 0)) (by (with_reducible repeat (first | refine blk_drewN ?_ _ | refine blk_drew ?_ | refine blk_alloc ?_ _)); exact BK1112.out) NB1112_0.out (by simp))
              have n2_ := Aside0.mk (Kd.N_mono (Kd.N_keep (Kd.N_mono (ok := fun k_ => (((some k_ ≠ (.slice Ao20 x3_1.length co20 : Value).ownBlock ∧ (k_ ≠ gb1112 ∧ k_ ≠ g)) ∧ some k_ ≠ (.slice Ao26 t1132.length co26 : Value).ownBlock) ∧ k_ ≠ gb1136)) (by (with_reducible repeat (first | apply Kd.N_alloc | apply Kd.N_drewN | apply Kd.N_drew)); exact HO1129.out) (fun k_ hk_ => (⟨hk_, hk_.1.1.2.2⟩ : _ ∧ k_ ≠ g))) hk (fun _ h => h.2)) (fun _ h => h.1))
              have n3_ := Aside0.mk (Kd.R_mono (Kd.R_keep (IsS148.apart (show IsS148 w0 _ g s0_0 t1138 from by repeat (first | (with_reducible first | exact HI0.out | apply IsS148.alloc | apply IsS148.drewN | apply IsS148.drew | apply IsS148.set_1 | refine IsS148.far ?_ NB0_1112.out _ | refine IsS148.far ?_ NB0_1136.out _) | exact HI0.out)) (by (with_reducible repeat (first | apply Kd.R_alloc | apply Kd.R_drewN | apply Kd.R_drew)); exact HO1134.out) (by decide)) hk (fun _ h => h.2)) (fun _ h => h.1))
              have n4_ := Aside0.mk (KeepBut.blk hk (g' := gb1136) (o := .cells #[.int .i64 t1131, .slice Ao26 t1132.length co26, .int .i64 t1135] 87 (0, 0)) (by (with_reducible repeat (first | refine blk_drewN ?_ _ | refine blk_drew ?_ | refine blk_alloc ?_ _)); exact BK1136.out) NB1136_0.out (by simp))
              have n5_ := Aside0.mk (KeepBut.trans (by repeat (first | (with_reducible first | exact HK.out | apply KeepBut.set_ | apply keep_drewN | apply keep_drew | apply keep_alloc | refine keep_far ?_ GW1112.out _ | refine keep_far ?_ GW1136.out _) | exact HK.out)) hk (.inl rfl))
              have n6_ := Aside0.mk (hb)
              have n7_ := Aside0.mk (hi)
              clear HO_3
              clear BK1112
              clear HO1129
              clear HO1134
              clear BK1136
              clear HK
              clear HB
              clear HI0
              have HO_3 := n0_
              have BK1112 := n1_
              have HO1129 := n2_
              have HO1134 := n3_
              have BK1136 := n4_
              have HK := n5_
              have HB := n6_
              have HI0 := n7_
              clear n0_ n1_ n2_ n3_ n4_ n5_ n6_ n7_
              (try clear hb)
              (try clear hb2)
              (try clear hk)
              (try clear hi)
              refine hK.out _ _ ⟨(blk_cell BK1136.out 0).trans rfl, (blk_cell BK1136.out 1).trans rfl, (blk_cell BK1136.out 2).trans rfl⟩ (fun hHeld => ?_)
              clear hK K
              refine norm_ (a' := ?_) ?_ ?_
              rotate_left
              · show Act.put _ (some 30) _ = _
                simp only [Act.put, List.setIfInBounds_toArray, List.set_cons_zero, List.set_cons_succ, i64_w, i32_w]
                rfl
              refine one_ (i := 5) (N := some 32) #[true, true, true, true, true, true, false, false, false, false, false] rfl rfl (one_of HT_.out (by kernel_rfl)) (by decide) (fun K hK => ?_)
              refine goes_ Try.func103 (by kernel_rfl) rfl #[.pointer (some ⟨g, 0, none⟩), .int .i64 5] (by rfl) rfl rfl (by (try simp only [List.map_toArray, List.map_cons, List.map_nil]); first | done | rfl | (simp only [List.length_drop, List.length_take]; rfl)) ?_
              with_reducible refine (spec_l6Rd_pick.calls k1 g s0_0 t1140 5 t1141 t1142 w0 _ ?side1 ?side2 A30.out).mono ?_
              (case side1 => repeat (first | (with_reducible first | exact HI0.out | apply IsS148.alloc | apply IsS148.drewN | apply IsS148.drew | apply IsS148.set_1 | refine IsS148.far ?_ NB0_1112.out _ | refine IsS148.far ?_ NB0_1136.out _) | exact HI0.out))
              (case side2 => repeat (first | (with_reducible first | exact HB.out | apply below_alloc | apply pw_below_drewN | apply below_drew1 | refine below_set ?_ (IsS148.ge HI0.out) | refine below_set ?_ GE1112.out | refine below_set ?_ GE1136.out) | exact HB.out))
              rintro e w34 ⟨rfl, hi, hb, hk⟩
              refine ⟨_, rfl, ?_⟩
              have n0_ := Aside0.mk (Kd.R_mono (Kd.R_keep (IsS148.apart (show IsS148 w0 _ g s0_0 t1140 from by repeat (first | (with_reducible first | exact HI0.out | apply IsS148.alloc | apply IsS148.drewN | apply IsS148.drew | apply IsS148.set_1 | refine IsS148.far ?_ NB0_1112.out _ | refine IsS148.far ?_ NB0_1136.out _) | exact HI0.out)) (by (with_reducible repeat (first | apply Kd.R_alloc | apply Kd.R_drewN | apply Kd.R_drew)); exact HO_3.out) (by decide)) hk (fun _ h => h.2)) (fun _ h => h.1))
              have n1_ := Aside0.mk (KeepBut.blk hk (g' := gb1112) (o := .cells #[.int .i64 0, .slice none 0 0, .int .i64 0] 87 (0, 0)) (by (with_reducible repeat (first | refine blk_drewN ?_ _ | refine blk_drew ?_ | refine blk_alloc ?_ _)); exact BK1112.out) NB1112_0.out (by simp))
              have n2_ := Aside0.mk (Kd.N_mono (Kd.N_keep (Kd.N_mono (ok := fun k_ => (((some k_ ≠ (.slice Ao20 x3_1.length co20 : Value).ownBlock ∧ (k_ ≠ gb1112 ∧ k_ ≠ g)) ∧ some k_ ≠ (.slice Ao26 t1132.length co26 : Value).ownBlock) ∧ k_ ≠ gb1136)) (by (with_reducible repeat (first | apply Kd.N_alloc | apply Kd.N_drewN | apply Kd.N_drew)); exact HO1129.out) (fun k_ hk_ => (⟨hk_, hk_.1.1.2.2⟩ : _ ∧ k_ ≠ g))) hk (fun _ h => h.2)) (fun _ h => h.1))
              have n3_ := Aside0.mk (Kd.R_mono (Kd.R_keep (IsS148.apart (show IsS148 w0 _ g s0_0 t1140 from by repeat (first | (with_reducible first | exact HI0.out | apply IsS148.alloc | apply IsS148.drewN | apply IsS148.drew | apply IsS148.set_1 | refine IsS148.far ?_ NB0_1112.out _ | refine IsS148.far ?_ NB0_1136.out _) | exact HI0.out)) (by (with_reducible repeat (first | apply Kd.R_alloc | apply Kd.R_drewN | apply Kd.R_drew)); exact HO1134.out) (by decide)) hk (fun _ h => h.2)) (fun _ h => h.1))
              have n4_ := Aside0.mk (KeepBut.blk hk (g' := gb1136) (o := .cells #[.int .i64 t1131, .slice Ao26 t1132.length co26, .int .i64 t1135] 87 (0, 0)) (by (with_reducible repeat (first | refine blk_drewN ?_ _ | refine blk_drew ?_ | refine blk_alloc ?_ _)); exact BK1136.out) NB1136_0.out (by simp))
              have n5_ := Aside0.mk (KeepBut.trans (by repeat (first | (with_reducible first | exact HK.out | apply KeepBut.set_ | apply keep_drewN | apply keep_drew | apply keep_alloc | refine keep_far ?_ GW1112.out _ | refine keep_far ?_ GW1136.out _) | exact HK.out)) hk (.inl rfl))
              have n6_ := Aside0.mk (hb)
              have n7_ := Aside0.mk (hi)
              clear HO_3
              clear BK1112
              clear HO1129
              clear HO1134
              clear BK1136
              clear HK
              clear HB
              clear HI0
              have HO_3 := n0_
              have BK1112 := n1_
              have HO1129 := n2_
              have HO1134 := n3_
              have BK1136 := n4_
              have HK := n5_
              have HB := n6_
              have HI0 := n7_
              clear n0_ n1_ n2_ n3_ n4_ n5_ n6_ n7_
              (try clear hb)
              (try clear hb2)
              (try clear hk)
              (try clear hi)
              refine hK.out _ _ ⟨(blk_cell BK1136.out 0).trans rfl, (blk_cell BK1136.out 1).trans rfl, (blk_cell BK1136.out 2).trans rfl⟩ (fun hHeld => ?_)
              clear hK K
              refine norm_ (a' := ?_) ?_ ?_
              rotate_left
              · show Act.put _ (some 32) _ = _
                simp only [Act.put, List.setIfInBounds_toArray, List.set_cons_zero, List.set_cons_succ, i64_w, i32_w]
                rfl
              refine pure_ (i := 6) (N := some 33) (v := ?_) (a' := ?_) #[true, true, true, true, true, true, true, false, false, false, false] rfl rfl (any_of HT_.out (by kernel_rfl)) (fun _ _ _ h => h) (Or.inl ⟨by rfl, ?_⟩) ?_ ?_
              rotate_left
              · intro w'
                go_simp
                with_reducible rfl
              rotate_left
              · simp only [Act.put, List.setIfInBounds_toArray, List.set_cons_zero, List.set_cons_succ, i64_w, i32_w]
                rfl
              refine one_ (i := 7) (N := some 34) #[true, true, true, true, true, true, true, true, false, false, false] rfl rfl (one_of HT_.out (by kernel_rfl)) (by decide) (fun K hK => ?_)
              refine value_ (w1 := ?_) (v := ?_) (by rfl) rfl ?_ ?_
              rotate_left 2
              · go_simp
                constructor
                · rfl
                · rfl
              refine hK.out _ _ ⟨(blk_cell (blk_alloc BK1136.out _) 0).trans rfl, (blk_cell (blk_alloc BK1136.out _) 1).trans rfl, (blk_cell (blk_alloc BK1136.out _) 2).trans rfl⟩ (fun hHeld => ?_)
              clear hK K
              refine norm_ (a' := ?_) ?_ ?_
              rotate_left
              · show Act.put _ (some 34) _ = _
                simp only [Act.put, List.setIfInBounds_toArray, List.set_cons_zero, List.set_cons_succ, i64_w, i32_w]
                rfl
              refine one_ (i := 8) (N := some 35) #[true, true, true, true, true, true, true, true, true, false, false] rfl rfl (one_of HT_.out (by kernel_rfl)) (by decide) (fun K hK => ?_)
              refine Kd.R_append_step k117 w.heap.size (by rfl) (.tmp 28) (.tmp 34) 85 117 (.agg #[(.int .i64 0), (.int .i64 0)]) 16 rfl Try.underlying85 info117 rfl (by decide) (by omega) (.slice Ao26 t1132.length co26) t1132 (⟨t1139, t1141⟩ : S117) [.int .i64 t1139, .int .i64 t1141] (fun _ => True) (fun _ => False) rfl rfl ?aP (fun _ hk => hk.elim) ?aF ?aO (Below.refl _ _) ?aS ?aL ?_
              (case aP => exact k117_mkM _ _ _ (⟨t1139, t1141⟩ : S117))
              (case aF => exact (fun _ _ => trivial))
              (case aO => exact (by (with_reducible repeat (first | apply Kd.R_alloc | apply Kd.R_drewN | apply Kd.R_drew)); exact HO1134.out))
              (case aS => exact (keep_size (w := w) (g := g) (row := none) (by repeat (first | (with_reducible first | exact HK.out | apply KeepBut.set_ | apply keep_drewN | apply keep_drew | apply keep_alloc | refine keep_far ?_ GW1112.out _ | refine keep_far ?_ GW1136.out _) | exact HK.out))))
              (case aL => have := LMc31.out; omega)
              intro v1144 w35 ho hb hg hat
              rw [← Ny1143.out] at ho
              have n0_ := Aside0.mk (Kd.R_over' (by (with_reducible repeat (first | apply Kd.R_alloc | apply Kd.R_drewN | apply Kd.R_drew)); exact HO_3.out) (Kd.R_typed (by (with_reducible repeat (first | apply Kd.R_alloc | apply Kd.R_drewN | apply Kd.R_drew)); exact HO1134.out)) (by decide) hg)
              have n1_ := Aside0.mk (blk_grown (g := gb1112) (o := .cells #[.int .i64 0, .slice none 0 0, .int .i64 0] 87 (0, 0)) (by (with_reducible repeat (first | refine blk_drewN ?_ _ | refine blk_drew ?_ | refine blk_alloc ?_ _)); exact BK1112.out) hg (Kd.R_ne HO1134.out BK1112.out (by decide)))
              have n2_ := Aside0.mk (IsS148.grown (by repeat (first | (with_reducible first | exact HI0.out | apply IsS148.alloc | apply IsS148.drewN | apply IsS148.drew | apply IsS148.set_1 | refine IsS148.far ?_ NB0_1112.out _ | refine IsS148.far ?_ NB0_1136.out _) | exact HI0.out)) hg (IsS148.own_ne HI0.out HO1134.out (by decide)))
              have n3_ := Aside0.mk (Kd.N_afterv (ok := (fun k_ => some k_ ≠ (.slice Ao20 x3_1.length co20 : Value).ownBlock ∧ k_ ≠ gb1112 ∧ k_ ≠ g ∧ k_ ≠ gb1136)) (by (with_reducible repeat (first | apply Kd.N_alloc | apply Kd.N_drewN | apply Kd.N_drew)); exact Kd.N_mono HO1129.out (fun _ hk => ⟨⟨hk.1.1.1, ⟨hk.1.1.2.1, ⟨hk.1.1.2.2, hk.2⟩⟩⟩, hk.1.2⟩)) hg hat)
              have n4_ := Aside0.mk (blk_grown (g := gb1136) (o := .cells #[.int .i64 t1131, .slice Ao26 t1132.length co26, .int .i64 t1135] 87 (0, 0)) (by (with_reducible repeat (first | refine blk_drewN ?_ _ | refine blk_drew ?_ | refine blk_alloc ?_ _)); exact BK1136.out) hg (Kd.R_ne HO1134.out BK1136.out (by decide)))
              have n5_ := Aside0.mk (below_weaken (by repeat (first | (with_reducible first | exact HB.out | apply below_alloc | apply pw_below_drewN | apply below_drew1 | refine below_set ?_ (IsS148.ge HI0.out) | refine below_set ?_ GE1112.out | refine below_set ?_ GE1136.out) | exact HB.out)) HL.out hb)
              have n6_ := Aside0.mk (KeepBut.trans (by repeat (first | (with_reducible first | exact HK.out | apply KeepBut.set_ | apply keep_drewN | apply keep_drew | apply keep_alloc | refine keep_far ?_ GW1112.out _ | refine keep_far ?_ GW1136.out _) | exact HK.out)) (KeepBut.of_grown hg g) (Kd.R_base2 HO1134.out))
              have n7_ := Aside0.mk (ho)
              clear HO_3
              clear BK1112
              clear HI0
              clear HO1129
              clear BK1136
              clear HB
              clear HK
              clear HO1134
              have HO_3 := n0_
              have BK1112 := n1_
              have HI0 := n2_
              have HO1129 := n3_
              have BK1136 := n4_
              have HB := n5_
              have HK := n6_
              have HO1145 := n7_
              clear n0_ n1_ n2_ n3_ n4_ n5_ n6_ n7_
              clear ho hb hg hat
              obtain ⟨Ao36, co36, eo36⟩ := Kd.R_slice HO1145.out
              (first | subst eo36 | (injection eo36 with f1_ f2_ f3_; have f4_ := f1_.symm; have f5_ := f3_.symm; clear f1_ f2_ f3_; subst f4_; subst f5_))
              refine hK.out _ _ ⟨(blk_cell BK1136.out 0).trans rfl, (blk_cell BK1136.out 1).trans rfl, (blk_cell BK1136.out 2).trans rfl⟩ (fun hHeld => ?_)
              clear hK K
              refine norm_ (a' := ?_) ?_ ?_
              rotate_left
              · show Act.put _ (some 35) _ = _
                simp only [Act.put, List.setIfInBounds_toArray, List.set_cons_zero, List.set_cons_succ, i64_w, i32_w]
                rfl
              refine pure_ (i := 9) (N := some 36) (v := ?_) (a' := ?_) #[true, true, true, true, true, true, true, true, true, true, false] rfl rfl (any_of HT_.out (by kernel_rfl)) (fun _ _ _ h => h) (Or.inl ⟨by rfl, ?_⟩) ?_ ?_
              rotate_left
              · intro w'
                go_simp
                with_reducible rfl
              rotate_left
              · simp only [Act.put, List.setIfInBounds_toArray, List.set_cons_zero, List.set_cons_succ, i64_w, i32_w]
                rfl
              refine last_ (i := 10) (N := none) #[true, true, true, true, true, true, true, true, true, true, true] rfl rfl (one_of HT_.out (by kernel_rfl)) (by decide) (fun K hK => ?_)
              have hs37 : w35.cell? ⟨gb1136, 1, none⟩ = some (.slice Ao26 t1132.length co26) := (blk_cell BK1136.out 1).trans rfl
              have hfs37 := blk_frozen BK1136.out 1
              have hns37_0 := NB1112_1136.out
              have hms37_0 := NB1136_1112.out
              refine skip_ (w1 := ?_) (by rfl) rfl ?_ ?_
              rotate_left
              · go_simp
                rfl
              refine hK.out _ _ ?_
              clear hK K
              refine done_ (done_of HT_.out (by kernel_rfl)) ?_
              try go_wp2
              go_meet
              case rel => exact ⟨_, (t1142), (y1143), (.slice Ao36 y1143.length co36), H', ⟨by have := HK1.out; first | omega | exact Nat.le_refl _⟩, ⟨by (with_reducible repeat (first | apply Kd.R_alloc | apply Kd.R_drewN | apply Kd.R_drew)); exact Kd.R_mono (Kd.R_far (p := ⟨gb1136, 1, none⟩) (Kd.R_types HO1145.out BK1136.out (by decide)) (fun _ hk => hk.2) (.slice Ao36 y1143.length co36)) (fun _ hk => trivial)⟩, ⟨by (with_reducible repeat (first | refine blk_drewN ?_ _ | refine blk_drew ?_ | refine blk_alloc ?_ _)); refine blk_far ?_ NB1112_1136.out _; (with_reducible repeat (first | refine blk_drewN ?_ _ | refine blk_drew ?_ | refine blk_alloc ?_ _)); exact BK1112.out⟩, ⟨by (with_reducible repeat (first | refine blk_drewN ?_ _ | refine blk_drew ?_ | refine blk_alloc ?_ _)); refine blk_put (cs := #[.int .i64 t1131, .slice Ao26 t1132.length co26, .int .i64 t1135]) ?_ 1 _ rfl; (with_reducible repeat (first | refine blk_drewN ?_ _ | refine blk_drew ?_ | refine blk_alloc ?_ _)); exact BK1136.out⟩, ⟨by repeat (first | (with_reducible first | exact HI0.out | apply IsS148.alloc | apply IsS148.drewN | apply IsS148.drew | apply IsS148.set_1 | refine IsS148.far ?_ NB0_1112.out _ | refine IsS148.far ?_ NB0_1136.out _) | exact HI0.out)⟩, ⟨by repeat (first | (with_reducible first | exact HK.out | apply KeepBut.set_ | apply keep_drewN | apply keep_drew | apply keep_alloc | refine keep_far ?_ GW1112.out _ | refine keep_far ?_ GW1136.out _) | exact HK.out)⟩, ⟨by repeat (first | (with_reducible first | exact HB.out | apply below_alloc | apply pw_below_drewN | apply below_drew1 | refine below_set ?_ (IsS148.ge HI0.out) | refine below_set ?_ GE1112.out | refine below_set ?_ GE1136.out) | exact HB.out)⟩⟩
            · rw [if_neg c31] at H
              exact absurd H (by simp)
          · rw [if_neg c28] at H
            have c28b0 : (t1137 == 0) = false := beq_eq_false_iff_ne.mpr c28
            have c28b1 : (t1137 != 0) = true := bne_iff_ne.mpr c28
            (first | rw [c28b0] | (simp only [i64_w, i32_w]; rw [c28b0]) | skip)
            have H' := Aside0.mk H
            clear H
            go_wp2
            go_meet
            case rel => exact ⟨_, (t1138), (t1132), (.slice Ao26 t1132.length co26), H', ⟨by have := HK1.out; first | omega | exact Nat.le_refl _⟩, ⟨by (with_reducible repeat (first | apply Kd.R_alloc | apply Kd.R_drewN | apply Kd.R_drew)); exact HO1134.out⟩, ⟨by (with_reducible repeat (first | refine blk_drewN ?_ _ | refine blk_drew ?_ | refine blk_alloc ?_ _)); exact BK1112.out⟩, ⟨by (with_reducible repeat (first | refine blk_drewN ?_ _ | refine blk_drew ?_ | refine blk_alloc ?_ _)); exact BK1136.out⟩, ⟨by repeat (first | (with_reducible first | exact HI0.out | apply IsS148.alloc | apply IsS148.drewN | apply IsS148.drew | apply IsS148.set_1 | refine IsS148.far ?_ NB0_1112.out _ | refine IsS148.far ?_ NB0_1136.out _) | exact HI0.out)⟩, ⟨by repeat (first | (with_reducible first | exact HK.out | apply KeepBut.set_ | apply keep_drewN | apply keep_drew | apply keep_alloc | refine keep_far ?_ GW1112.out _ | refine keep_far ?_ GW1136.out _) | exact HK.out)⟩, ⟨by repeat (first | (with_reducible first | exact HB.out | apply below_alloc | apply pw_below_drewN | apply below_drew1 | refine below_set ?_ (IsS148.ge HI0.out) | refine below_set ?_ GE1112.out | refine below_set ?_ GE1136.out) | exact HB.out)⟩⟩
        case rest =>
          clear HC16
          try clear c1
          try clear c2
          try clear p2
          try clear c3
          try clear p6
          try clear c7
          try clear c7b0
          try clear c9
          try clear c10
          try clear c11
          try clear c13
          try clear c23
          try clear c24
          try clear c28
          try clear c28b0
          try clear c28b1
          try clear c31
          try clear hcz25_0
          try clear hcz25_1
          try clear hcz25_2
          try clear hfz25_0
          try clear hfz25_1
          try clear hfz25_2
          try clear p2
          obtain ⟨kq, x1001_15, x1137001_15, u1137001, HA, HJ15, HO_1137001, BK1112, BK1136, HI0, HK, HB⟩ := hcut
          cases kq with
          | zero => exact absurd HA.out (by simp [spec_l91Trace.j1])
          | succ kj15 =>
            have H := HA.out
            clear HA
            simp only [spec_l91Trace.j1] at H
            replace H := Option.bind_eq_some_iff.mp H
            obtain ⟨⟨t1146, t1147⟩, A380, H⟩ := H
            replace H : (if t1146 = 0 then ((spec_l91Num.f kj15 s0_0 t1147 (([97, (-1), 0] : List Int))).bind fun bt1151 => (some (t1131, x1137001_15, bt1151.1, bt1151.2))) else (some (t1131, x1137001_15, t1135, t1147))) = some (r1, r2, r3, r4) := H
            have A38 := Aside0.mk A380
            clear A380
            by_cases c39 : t1146 = 0
            · rw [if_pos c39] at H
              have c39b0 : (t1146 == 0) = true := beq_iff_eq.mpr c39
              have c39b1 : (t1146 != 0) = false := bne_eq_false_iff_eq.mpr c39
              clear c39
              obtain ⟨y1148, hy1148⟩ : ∃ y_ : List Int, y_ = (([97, (-1), 0] : List Int)) := ⟨_, rfl⟩
              replace H : ((spec_l91Num.f kj15 s0_0 t1147 y1148).bind fun bt1151 => (some (t1131, x1137001_15, bt1151.1, bt1151.2))) = some (r1, r2, r3, r4) := by first | (rw [hy1148]; with_reducible exact H) | (have H2_ := (Option.bind_some _ _).symm.trans H; rw [hy1148]; with_reducible exact H2_) | (have H2_ := (Option.bind_some _ _).symm.trans H; with_reducible exact H2_) | with_reducible exact H | (rw [hy1148]; exact H) | exact H
              have Ny1148 := Aside0.mk hy1148
              clear hy1148
              replace H := Option.bind_eq_some_iff.mp H
              obtain ⟨⟨t1151, t1152⟩, A400, H⟩ := H
              replace H : (some (t1131, x1137001_15, t1151, t1152)) = some (r1, r2, r3, r4) := H
              have A40 := Aside0.mk A400
              clear A400
              simp only [Option.some.injEq, Prod.mk.injEq] at H
              obtain ⟨rfl, rfl, rfl, rfl⟩ := H
              go_wp2_with (first | ((with_reducible refine gate_callee (f := 103) rfl ?_); refine goesL_ (some 38) rfl rfl Try.func103 (by kernel_rfl) rfl #[.pointer (some ⟨g, 0, none⟩), .int .i64 20] rfl (by (try simp only [List.map_toArray, List.map_cons, List.map_nil]); first | done | rfl | (simp only [List.length_drop, List.length_take]; rfl)) ?_; (with_reducible refine (spec_l6Rd_pick.calls kj15 g s0_0 x1001_15 20 t1146 t1147 w0 _ ?side1 ?side2 A38.out).mono ?_); (case side1 => repeat (first | (with_reducible first | exact HI0.out | apply IsS148.alloc | apply IsS148.drewN | apply IsS148.drew | apply IsS148.set_1 | refine IsS148.far ?_ NB0_1112.out _ | refine IsS148.far ?_ NB0_1136.out _) | exact HI0.out)); (case side2 => repeat (first | (with_reducible first | exact HB.out | apply below_alloc | apply pw_below_drewN | apply below_drew1 | refine below_set ?_ (IsS148.ge HI0.out) | refine below_set ?_ GE1112.out | refine below_set ?_ GE1136.out) | exact HB.out)); rintro e w41 ⟨rfl, hi, hb, hk⟩; refine ⟨_, rfl, ?_⟩; have n0_ := Aside0.mk (Kd.R_mono (Kd.R_keep (IsS148.apart (show IsS148 w0 _ g s0_0 x1001_15 from by repeat (first | (with_reducible first | exact HI0.out | apply IsS148.alloc | apply IsS148.drewN | apply IsS148.drew | apply IsS148.set_1 | refine IsS148.far ?_ NB0_1112.out _ | refine IsS148.far ?_ NB0_1136.out _) | exact HI0.out)) (by (with_reducible repeat (first | apply Kd.R_alloc | apply Kd.R_drewN | apply Kd.R_drew)); exact HO_1137001.out) (by decide)) hk (fun _ h => h.2)) (fun _ h => h.1)); have n1_ := Aside0.mk (KeepBut.blk hk (g' := gb1112) (o := .cells #[.int .i64 0, .slice none 0 0, .int .i64 0] 87 (0, 0)) (by (with_reducible repeat (first | refine blk_drewN ?_ _ | refine blk_drew ?_ | refine blk_alloc ?_ _)); exact BK1112.out) NB1112_0.out (by simp)); have n2_ := Aside0.mk (KeepBut.blk hk (g' := gb1136) (o := .cells #[.int .i64 t1131, u1137001, .int .i64 t1135] 87 (0, 0)) (by (with_reducible repeat (first | refine blk_drewN ?_ _ | refine blk_drew ?_ | refine blk_alloc ?_ _)); exact BK1136.out) NB1136_0.out (by simp)); have n3_ := Aside0.mk (KeepBut.trans (by repeat (first | (with_reducible first | exact HK.out | apply KeepBut.set_ | apply keep_drewN | apply keep_drew | apply keep_alloc | refine keep_far ?_ GW1112.out _ | refine keep_far ?_ GW1136.out _) | exact HK.out)) hk (.inl rfl)); have n4_ := Aside0.mk (hb); have n5_ := Aside0.mk (hi); clear HO_1137001; clear BK1112; clear BK1136; clear HK; clear HB; clear HI0; have HO_1137001 := n0_; have BK1112 := n1_; have BK1136 := n2_; have HK := n3_; have HB := n4_; have HI0 := n5_; clear n0_ n1_ n2_ n3_ n4_ n5_; (try clear hb); (try clear hb2); (try clear hk); (try clear hi)) | ((with_reducible refine gate_dst (N := 41) rfl ?_); refine Kd.R_lit (Kd.int .i64) _ 3 ?hg (N := 41) ?hd (xs := ([97, (-1), 0] : List Int)) (inner := [.int .i64 97, .int .i64 (-1), .int .i64 0]) (ok := fun _ => True) (okp := fun _ => True) ?hr ?hp (fun _ hk => hk) trivial (Below.refl _ _) (Nat.le_refl _) (by simp) ?_; (case hd => rfl); (case hg => rfl); (case hr => first | (go_simp; done) | (go_simp; rfl)); (case hp => exact (Reps.one (show Kd.M (Kd.int .i64) _ _ _ 97 [.int .i64 97] from rfl) (Reps.one (show Kd.M (Kd.int .i64) _ _ _ (-1) [.int .i64 (-1)] from rfl) (Reps.one (show Kd.M (Kd.int .i64) _ _ _ 0 [.int .i64 0] from rfl) (Reps.none _ _))))); intro v1149 w42 ho43 hb hg_ hnew_; clear hg_ hnew_; (first | rw [← Ny1148.out] at ho43 | (simp only [Int.reduceToNat] at ho43; rw [← Ny1148.out] at ho43)); have n0_ := Aside0.mk (Kd.R_below (by (with_reducible repeat (first | apply Kd.R_alloc | apply Kd.R_drewN | apply Kd.R_drew)); exact HO_1137001.out) hb); have n1_ := Aside0.mk (Kd.R_lower ho43 (keep_size (w := w) (g := g) (row := none) (by repeat (first | (with_reducible first | exact HK.out | apply KeepBut.set_ | apply keep_drewN | apply keep_drew | apply keep_alloc | refine keep_far ?_ GW1112.out _ | refine keep_far ?_ GW1136.out _) | exact HK.out)))); have n2_ := Aside0.mk (blk_below (g := gb1112) (o := .cells #[.int .i64 0, .slice none 0 0, .int .i64 0] 87 (0, 0)) (by (with_reducible repeat (first | refine blk_drewN ?_ _ | refine blk_drew ?_ | refine blk_alloc ?_ _)); exact BK1112.out) hb); have n3_ := Aside0.mk (blk_below (g := gb1136) (o := .cells #[.int .i64 t1131, u1137001, .int .i64 t1135] 87 (0, 0)) (by (with_reducible repeat (first | refine blk_drewN ?_ _ | refine blk_drew ?_ | refine blk_alloc ?_ _)); exact BK1136.out) hb); have n4_ := Aside0.mk (IsS148.below (by repeat (first | (with_reducible first | exact HI0.out | apply IsS148.alloc | apply IsS148.drewN | apply IsS148.drew | apply IsS148.set_1 | refine IsS148.far ?_ NB0_1112.out _ | refine IsS148.far ?_ NB0_1136.out _) | exact HI0.out)) hb); have n5_ := Aside0.mk (KeepBut.trans (by repeat (first | (with_reducible first | exact HK.out | apply KeepBut.set_ | apply keep_drewN | apply keep_drew | apply keep_alloc | refine keep_far ?_ GW1112.out _ | refine keep_far ?_ GW1136.out _) | exact HK.out)) (KeepBut.of_below hb g none) (.inl rfl)); have n6_ := Aside0.mk (below_step (by repeat (first | (with_reducible first | exact HB.out | apply below_alloc | apply pw_below_drewN | apply below_drew1 | refine below_set ?_ (IsS148.ge HI0.out) | refine below_set ?_ GE1112.out | refine below_set ?_ GE1136.out) | exact HB.out)) hb); clear HO_1137001; clear BK1112; clear BK1136; clear HI0; clear HK; clear HB; have HO_1137001 := n0_; have HO1150 := n1_; have BK1112 := n2_; have BK1136 := n3_; have HI0 := n4_; have HK := n5_; have HB := n6_; clear n0_ n1_ n2_ n3_ n4_ n5_ n6_; clear hb ho43; obtain ⟨Ao44, co44, eo44⟩ := Kd.R_slice HO1150.out; subst eo44) | ((with_reducible refine gate_callee (f := 133) rfl ?_); refine goesL_ (some 42) rfl rfl Try.func133 (by kernel_rfl) rfl #[.pointer (some ⟨g, 0, none⟩), .slice Ao44 y1148.length co44] rfl (by (try simp only [List.map_toArray, List.map_cons, List.map_nil]); first | done | rfl | (simp only [List.length_drop, List.length_take]; rfl)) ?_; (with_reducible refine (spec_l91Num.calls kj15 g s0_0 t1147 _ _ y1148 t1151 t1152 w0 _ ?side1 ?side2 ?side3 ?side4 ?side5 A40.out).mono ?_); (case side1 => repeat (first | (with_reducible first | exact HI0.out | apply IsS148.alloc | apply IsS148.drewN | apply IsS148.drew | apply IsS148.set_1 | refine IsS148.far ?_ NB0_1112.out _ | refine IsS148.far ?_ NB0_1136.out _) | exact HI0.out)); (case side2 => repeat (first | (with_reducible first | exact HB.out | apply below_alloc | apply pw_below_drewN | apply below_drew1 | refine below_set ?_ (IsS148.ge HI0.out) | refine below_set ?_ GE1112.out | refine below_set ?_ GE1136.out) | exact HB.out)); (case side3 => repeat (first | exact (Kd.R_reads' HO1150.out).2.2 | (with_reducible refine Kd.C_alloc ?_ _) | (with_reducible refine Kd.C_drewN ?_ _) | (with_reducible refine Kd.C_drew ?_))); (case side4 => exact (Kd.R_reads' HO1150.out).2.1); (case side5 => exact far_slice (IsS148.own_ne HI0.out HO1150.out (by decide))); rintro e w45 ⟨rfl, hi, hb, hk⟩; refine ⟨_, rfl, ?_⟩; have n0_ := Aside0.mk (Kd.R_mono (Kd.R_keep (IsS148.apart (show IsS148 w0 _ g s0_0 t1147 from by repeat (first | (with_reducible first | exact HI0.out | apply IsS148.alloc | apply IsS148.drewN | apply IsS148.drew | apply IsS148.set_1 | refine IsS148.far ?_ NB0_1112.out _ | refine IsS148.far ?_ NB0_1136.out _) | exact HI0.out)) (by (with_reducible repeat (first | apply Kd.R_alloc | apply Kd.R_drewN | apply Kd.R_drew)); exact HO_1137001.out) (by decide)) hk (fun _ h => h.2)) (fun _ h => h.1)); have n1_ := Aside0.mk (KeepBut.blk hk (g' := gb1112) (o := .cells #[.int .i64 0, .slice none 0 0, .int .i64 0] 87 (0, 0)) (by (with_reducible repeat (first | refine blk_drewN ?_ _ | refine blk_drew ?_ | refine blk_alloc ?_ _)); exact BK1112.out) NB1112_0.out (by simp)); have n2_ := Aside0.mk (KeepBut.blk hk (g' := gb1136) (o := .cells #[.int .i64 t1131, u1137001, .int .i64 t1135] 87 (0, 0)) (by (with_reducible repeat (first | refine blk_drewN ?_ _ | refine blk_drew ?_ | refine blk_alloc ?_ _)); exact BK1136.out) NB1136_0.out (by simp)); have n3_ := Aside0.mk (Kd.R_mono (Kd.R_keep (IsS148.apart (show IsS148 w0 _ g s0_0 t1147 from by repeat (first | (with_reducible first | exact HI0.out | apply IsS148.alloc | apply IsS148.drewN | apply IsS148.drew | apply IsS148.set_1 | refine IsS148.far ?_ NB0_1112.out _ | refine IsS148.far ?_ NB0_1136.out _) | exact HI0.out)) (by (with_reducible repeat (first | apply Kd.R_alloc | apply Kd.R_drewN | apply Kd.R_drew)); exact HO1150.out) (by decide)) hk (fun _ h => h.2)) (fun _ h => h.1)); have n4_ := Aside0.mk (KeepBut.trans (by repeat (first | (with_reducible first | exact HK.out | apply KeepBut.set_ | apply keep_drewN | apply keep_drew | apply keep_alloc | refine keep_far ?_ GW1112.out _ | refine keep_far ?_ GW1136.out _) | exact HK.out)) hk (.inl rfl)); have n5_ := Aside0.mk (hb); have n6_ := Aside0.mk (hi); clear HO_1137001; clear BK1112; clear BK1136; clear HO1150; clear HK; clear HB; clear HI0; have HO_1137001 := n0_; have BK1112 := n1_; have BK1136 := n2_; have HO1150 := n3_; have HK := n4_; have HB := n5_; have HI0 := n6_; clear n0_ n1_ n2_ n3_ n4_ n5_ n6_; (try clear hb); (try clear hb2); (try clear hk); (try clear hi); have hnb46 := NB1136_1112.out; have hnc46 := NB1112_1136.out; have hnb47 := NB1136_0.out; have hnc47 := NB0_1136.out; have hcz48_0 : w45.cell? ⟨gb1136, 0, none⟩ = some (.int .i64 t1131) := (blk_cell BK1136.out 0).trans rfl; have hcz48_1 : w45.cell? ⟨gb1136, 1, none⟩ = some (u1137001) := (blk_cell BK1136.out 1).trans rfl; have hcz48_2 : w45.cell? ⟨gb1136, 2, none⟩ = some (.int .i64 t1135) := (blk_cell BK1136.out 2).trans rfl; have hfz48_0 := blk_frozen BK1136.out 0; have hfz48_1 := blk_frozen BK1136.out 1; have hfz48_2 := blk_frozen BK1136.out 2; have hnb49 := NB1112_0.out; have hnc49 := NB0_1112.out; have hcz50_0 : w45.cell? ⟨gb1112, 0, none⟩ = some (.int .i64 0) := (blk_cell BK1112.out 0).trans rfl; have hcz50_1 : w45.cell? ⟨gb1112, 1, none⟩ = some (.slice none 0 0) := (blk_cell BK1112.out 1).trans rfl; have hcz50_2 : w45.cell? ⟨gb1112, 2, none⟩ = some (.int .i64 0) := (blk_cell BK1112.out 2).trans rfl; have hfz50_0 := blk_frozen BK1112.out 0; have hfz50_1 := blk_frozen BK1112.out 1; have hfz50_2 := blk_frozen BK1112.out 2; obtain ⟨Ao51, co51, eo51⟩ := Kd.R_slice HO_1137001.out; subst eo51))
              refine bodyPost_ret (results_cell_row rfl _ _ gb1112 87 #[.int .i64 t1131, .slice Ao51 x1137001_15.length co51, .int .i64 t1151] (0, 0) _ rfl (by (with_reducible repeat (first | refine blk_drewN ?_ _ | refine blk_drew ?_ | refine blk_alloc ?_ _)); refine blk_put (cs := #[.int .i64 t1131, .slice Ao51 x1137001_15.length co51, .int .i64 0]) ?_ 2 _ rfl; (with_reducible repeat (first | refine blk_drewN ?_ _ | refine blk_drew ?_ | refine blk_alloc ?_ _)); refine blk_put (cs := #[.int .i64 t1131, .slice none 0 0, .int .i64 0]) ?_ 1 _ rfl; (with_reducible repeat (first | refine blk_drewN ?_ _ | refine blk_drew ?_ | refine blk_alloc ?_ _)); refine blk_put (cs := #[.int .i64 0, .slice none 0 0, .int .i64 0]) ?_ 0 _ rfl; (with_reducible repeat (first | refine blk_drewN ?_ _ | refine blk_drew ?_ | refine blk_alloc ?_ _)); refine blk_far ?_ NB1112_1136.out _; (with_reducible repeat (first | refine blk_drewN ?_ _ | refine blk_drew ?_ | refine blk_alloc ?_ _)); exact BK1112.out) Try.underlying87 rfl (by kernel_rfl)) rfl ?_
              exact ⟨_, by first | rfl | (simp [errW_none, errW_some] <;> rfl) | (simp [*, errW_none, errW_some] <;> rfl), by (with_reducible repeat (first | apply Kd.R_alloc | apply Kd.R_drewN | apply Kd.R_drew)); exact Kd.R_mono (Kd.R_far (p := ⟨gb1112, 2, none⟩) (Kd.R_far (p := ⟨gb1112, 1, none⟩) (Kd.R_far (p := ⟨gb1112, 0, none⟩) (Kd.R_far (p := ⟨gb1136, 2, none⟩) (Kd.R_types (Kd.R_types HO_1137001.out BK1136.out (by decide)) BK1112.out (by decide)) (fun _ hk => hk.1.2) (.int .i64 t1151)) (fun _ hk => hk.2) (.int .i64 t1131)) (fun _ hk => hk.2) (.slice Ao51 x1137001_15.length co51)) (fun _ hk => hk.2) (.int .i64 t1151)) (fun _ hk => trivial), by repeat (first | (with_reducible first | exact HI0.out | apply IsS148.alloc | apply IsS148.drewN | apply IsS148.drew | apply IsS148.set_1 | refine IsS148.far ?_ NB0_1112.out _ | refine IsS148.far ?_ NB0_1136.out _) | exact HI0.out), by repeat (first | (with_reducible first | exact HB.out | apply below_alloc | apply pw_below_drewN | apply below_drew1 | refine below_set ?_ (IsS148.ge HI0.out) | refine below_set ?_ GE1112.out | refine below_set ?_ GE1136.out) | exact HB.out), by repeat (first | (with_reducible first | exact HK.out | apply KeepBut.set_ | apply keep_drewN | apply keep_drew | apply keep_alloc | refine keep_far ?_ GW1112.out _ | refine keep_far ?_ GW1136.out _) | exact HK.out)⟩
            · rw [if_neg c39] at H
              have c39b0 : (t1146 == 0) = false := beq_eq_false_iff_ne.mpr c39
              have c39b1 : (t1146 != 0) = true := bne_iff_ne.mpr c39
              simp only [Option.some.injEq, Prod.mk.injEq] at H
              obtain ⟨rfl, rfl, rfl, rfl⟩ := H
              go_wp2_with (first | ((with_reducible refine gate_callee (f := 103) rfl ?_); refine goesL_ (some 38) rfl rfl Try.func103 (by kernel_rfl) rfl #[.pointer (some ⟨g, 0, none⟩), .int .i64 20] rfl (by (try simp only [List.map_toArray, List.map_cons, List.map_nil]); first | done | rfl | (simp only [List.length_drop, List.length_take]; rfl)) ?_; (with_reducible refine (spec_l6Rd_pick.calls kj15 g s0_0 x1001_15 20 t1146 t1147 w0 _ ?side1 ?side2 A38.out).mono ?_); (case side1 => repeat (first | (with_reducible first | exact HI0.out | apply IsS148.alloc | apply IsS148.drewN | apply IsS148.drew | apply IsS148.set_1 | refine IsS148.far ?_ NB0_1112.out _ | refine IsS148.far ?_ NB0_1136.out _) | exact HI0.out)); (case side2 => repeat (first | (with_reducible first | exact HB.out | apply below_alloc | apply pw_below_drewN | apply below_drew1 | refine below_set ?_ (IsS148.ge HI0.out) | refine below_set ?_ GE1112.out | refine below_set ?_ GE1136.out) | exact HB.out)); rintro e w52 ⟨rfl, hi, hb, hk⟩; refine ⟨_, rfl, ?_⟩; have n0_ := Aside0.mk (Kd.R_mono (Kd.R_keep (IsS148.apart (show IsS148 w0 _ g s0_0 x1001_15 from by repeat (first | (with_reducible first | exact HI0.out | apply IsS148.alloc | apply IsS148.drewN | apply IsS148.drew | apply IsS148.set_1 | refine IsS148.far ?_ NB0_1112.out _ | refine IsS148.far ?_ NB0_1136.out _) | exact HI0.out)) (by (with_reducible repeat (first | apply Kd.R_alloc | apply Kd.R_drewN | apply Kd.R_drew)); exact HO_1137001.out) (by decide)) hk (fun _ h => h.2)) (fun _ h => h.1)); have n1_ := Aside0.mk (KeepBut.blk hk (g' := gb1112) (o := .cells #[.int .i64 0, .slice none 0 0, .int .i64 0] 87 (0, 0)) (by (with_reducible repeat (first | refine blk_drewN ?_ _ | refine blk_drew ?_ | refine blk_alloc ?_ _)); exact BK1112.out) NB1112_0.out (by simp)); have n2_ := Aside0.mk (KeepBut.blk hk (g' := gb1136) (o := .cells #[.int .i64 t1131, u1137001, .int .i64 t1135] 87 (0, 0)) (by (with_reducible repeat (first | refine blk_drewN ?_ _ | refine blk_drew ?_ | refine blk_alloc ?_ _)); exact BK1136.out) NB1136_0.out (by simp)); have n3_ := Aside0.mk (KeepBut.trans (by repeat (first | (with_reducible first | exact HK.out | apply KeepBut.set_ | apply keep_drewN | apply keep_drew | apply keep_alloc | refine keep_far ?_ GW1112.out _ | refine keep_far ?_ GW1136.out _) | exact HK.out)) hk (.inl rfl)); have n4_ := Aside0.mk (hb); have n5_ := Aside0.mk (hi); clear HO_1137001; clear BK1112; clear BK1136; clear HK; clear HB; clear HI0; have HO_1137001 := n0_; have BK1112 := n1_; have BK1136 := n2_; have HK := n3_; have HB := n4_; have HI0 := n5_; clear n0_ n1_ n2_ n3_ n4_ n5_; (try clear hb); (try clear hb2); (try clear hk); (try clear hi); have hnb53 := NB1136_1112.out; have hnc53 := NB1112_1136.out; have hnb54 := NB1136_0.out; have hnc54 := NB0_1136.out; have hcz55_0 : w52.cell? ⟨gb1136, 0, none⟩ = some (.int .i64 t1131) := (blk_cell BK1136.out 0).trans rfl; have hcz55_1 : w52.cell? ⟨gb1136, 1, none⟩ = some (u1137001) := (blk_cell BK1136.out 1).trans rfl; have hcz55_2 : w52.cell? ⟨gb1136, 2, none⟩ = some (.int .i64 t1135) := (blk_cell BK1136.out 2).trans rfl; have hfz55_0 := blk_frozen BK1136.out 0; have hfz55_1 := blk_frozen BK1136.out 1; have hfz55_2 := blk_frozen BK1136.out 2; have hnb56 := NB1112_0.out; have hnc56 := NB0_1112.out; have hcz57_0 : w52.cell? ⟨gb1112, 0, none⟩ = some (.int .i64 0) := (blk_cell BK1112.out 0).trans rfl; have hcz57_1 : w52.cell? ⟨gb1112, 1, none⟩ = some (.slice none 0 0) := (blk_cell BK1112.out 1).trans rfl; have hcz57_2 : w52.cell? ⟨gb1112, 2, none⟩ = some (.int .i64 0) := (blk_cell BK1112.out 2).trans rfl; have hfz57_0 := blk_frozen BK1112.out 0; have hfz57_1 := blk_frozen BK1112.out 1; have hfz57_2 := blk_frozen BK1112.out 2; obtain ⟨Ao58, co58, eo58⟩ := Kd.R_slice HO_1137001.out; subst eo58))
              refine bodyPost_ret (results_cell_row rfl _ _ gb1112 87 #[.int .i64 t1131, .slice Ao58 x1137001_15.length co58, .int .i64 t1135] (0, 0) _ rfl (by (with_reducible repeat (first | refine blk_drewN ?_ _ | refine blk_drew ?_ | refine blk_alloc ?_ _)); refine blk_put (cs := #[.int .i64 t1131, .slice Ao58 x1137001_15.length co58, .int .i64 0]) ?_ 2 _ rfl; (with_reducible repeat (first | refine blk_drewN ?_ _ | refine blk_drew ?_ | refine blk_alloc ?_ _)); refine blk_put (cs := #[.int .i64 t1131, .slice none 0 0, .int .i64 0]) ?_ 1 _ rfl; (with_reducible repeat (first | refine blk_drewN ?_ _ | refine blk_drew ?_ | refine blk_alloc ?_ _)); refine blk_put (cs := #[.int .i64 0, .slice none 0 0, .int .i64 0]) ?_ 0 _ rfl; (with_reducible repeat (first | refine blk_drewN ?_ _ | refine blk_drew ?_ | refine blk_alloc ?_ _)); exact BK1112.out) Try.underlying87 rfl (by kernel_rfl)) rfl ?_
              exact ⟨_, by first | rfl | (simp [errW_none, errW_some] <;> rfl) | (simp [*, errW_none, errW_some] <;> rfl), by (with_reducible repeat (first | apply Kd.R_alloc | apply Kd.R_drewN | apply Kd.R_drew)); exact Kd.R_mono (Kd.R_far (p := ⟨gb1112, 2, none⟩) (Kd.R_far (p := ⟨gb1112, 1, none⟩) (Kd.R_far (p := ⟨gb1112, 0, none⟩) (Kd.R_types HO_1137001.out BK1112.out (by decide)) (fun _ hk => hk.2) (.int .i64 t1131)) (fun _ hk => hk.2) (.slice Ao58 x1137001_15.length co58)) (fun _ hk => hk.2) (.int .i64 t1135)) (fun _ hk => trivial), by repeat (first | (with_reducible first | exact HI0.out | apply IsS148.alloc | apply IsS148.drewN | apply IsS148.drew | apply IsS148.set_1 | refine IsS148.far ?_ NB0_1112.out _ | refine IsS148.far ?_ NB0_1136.out _) | exact HI0.out), by repeat (first | (with_reducible first | exact HB.out | apply below_alloc | apply pw_below_drewN | apply below_drew1 | refine below_set ?_ (IsS148.ge HI0.out) | refine below_set ?_ GE1112.out | refine below_set ?_ GE1136.out) | exact HB.out), by repeat (first | (with_reducible first | exact HK.out | apply KeepBut.set_ | apply keep_drewN | apply keep_drew | apply keep_alloc | refine keep_far ?_ GW1112.out _ | refine keep_far ?_ GW1136.out _) | exact HK.out)⟩
def spec_l91Traces.l0 : Nat → List (S87) → Int → List Int → Int → Option ((List (S87)) × Int)
  | 0, _, _, _, _ => none
  | k + 1, x3, x4, x1000, x1001 => if x4 > 0 then ((spec_l91Trace.f k x1000 x1001).bind fun bt1158 => (if x3.length < 3518437208883 then (spec_l91Traces.l0 k (x3 ++ [(⟨bt1158.1, bt1158.2.1, bt1158.2.2.1⟩ : S87)]) (wrap64 (x4 - 1)) x1000 bt1158.2.2.2) else (none))) else (some (x3, x1001))
def spec_l91Traces.f (k : Nat) (s0_0 : List Int) (s0_1 : Int) : Option ((List (S87)) × Int) := (spec_l6Rd_pick.f k s0_0 s0_1 6).bind fun bt1156 => (spec_l91Traces.l0 k (([] : List (S87))) bt1156.1 s0_0 bt1156.2)
set_option maxHeartbeats 8000000 in
set_option maxRecDepth 100000 in
theorem spec_l91Traces.calls (k : Nat) (g : Nat) (s0_0 : List Int) (s0_1 : Int) (r1 : List (S87)) (r2 : Int) (w0 w : World) (hI : IsS148 w0 w g s0_0 s0_1) (hB : Below w0.heap.size w0 w) (h : spec_l91Traces.f k s0_0 s0_1 = some (r1, r2)) :
    Calls Try.prog 118 #[.pointer (some ⟨g, 0, none⟩)] w fun e w' => ∃ v0_ : Value, e = .returned (v0_) ∧ Kd.S k87 87 w' w.heap.size (fun _ => True) v0_ r1 ∧ IsS148 w0 w' g s0_0 r2 ∧ Below w0.heap.size w0 w' ∧ KeepBut w w' g none := by
  have HI0 := Aside0.mk hI
  have HK := Aside0.mk (KeepBut.refl w g none)
  have HL := Aside0.mk hB.size
  clear hI
  have HW0 := Aside0.mk hB.size
  have HB := Aside0.mk hB
  clear hB
  have H : ((spec_l6Rd_pick.f k s0_0 s0_1 6).bind fun bt1156 => (spec_l91Traces.l0 k (([] : List (S87))) bt1156.1 s0_0 bt1156.2)) = some (r1, r2) := h
  clear h
  obtain ⟨y1153, hy1153⟩ : ∃ y_ : List (S87), y_ = (([] : List (S87))) := ⟨_, rfl⟩
  replace H : ((spec_l6Rd_pick.f k s0_0 s0_1 6).bind fun bt1156 => (spec_l91Traces.l0 k y1153 bt1156.1 s0_0 bt1156.2)) = some (r1, r2) := by first | (rw [hy1153]; with_reducible exact H) | (have H2_ := (Option.bind_some _ _).symm.trans H; rw [hy1153]; with_reducible exact H2_) | (have H2_ := (Option.bind_some _ _).symm.trans H; with_reducible exact H2_) | with_reducible exact H | (rw [hy1153]; exact H) | exact H
  have Ny1153 := Aside0.mk hy1153
  clear hy1153
  replace H := Option.bind_eq_some_iff.mp H
  obtain ⟨⟨t1156, t1157⟩, A20, H⟩ := H
  replace H : (spec_l91Traces.l0 k y1153 t1156 s0_0 t1157) = some (r1, r2) := H
  have A2 := Aside0.mk A20
  clear A20
  have H' := Aside0.mk H
  clear H
  go_enter Try.func118, Try.ntmps118
  go_wp2_with (first | ((with_reducible refine gate_dst (N := 5) rfl ?_); refine Kd.S_lit k87 _ 87 ?hg (N := 5) ?hd (xs := ([] : List (S87))) (inner := []) (ok := fun _ => True) (okp := fun _ => True) ?hr ?hp (fun _ hk => hk) trivial (Below.refl _ _) (Nat.le_refl _) (by simp) ?_; (case hd => rfl); (case hg => rfl); (case hr => first | (go_simp; done) | (go_simp; rfl)); (case hp => exact (Reps.none _ _)); intro v1154 w3 ho4 hb hg_ hnew_; clear hg_ hnew_; (first | rw [← Ny1153.out] at ho4 | (simp only [Int.reduceToNat] at ho4; rw [← Ny1153.out] at ho4)); have n0_ := Aside0.mk (Kd.S_lower ho4 (keep_size (w := w) (g := g) (row := none) (by repeat (first | (with_reducible first | exact HK.out | apply KeepBut.set_ | apply keep_drewN | apply keep_drew | apply keep_alloc) | exact HK.out)))); have n1_ := Aside0.mk (IsS148.below (by repeat (first | (with_reducible first | exact HI0.out | apply IsS148.alloc | apply IsS148.drewN | apply IsS148.drew | apply IsS148.set_1) | exact HI0.out)) hb); have n2_ := Aside0.mk (KeepBut.trans (by repeat (first | (with_reducible first | exact HK.out | apply KeepBut.set_ | apply keep_drewN | apply keep_drew | apply keep_alloc) | exact HK.out)) (KeepBut.of_below hb g none) (.inl rfl)); have n3_ := Aside0.mk (below_step (by repeat (first | (with_reducible first | exact HB.out | apply below_alloc | apply pw_below_drewN | apply below_drew1 | refine below_set ?_ (IsS148.ge HI0.out)) | exact HB.out)) hb); clear HI0; clear HK; clear HB; have HO1155 := n0_; have HI0 := n1_; have HK := n2_; have HB := n3_; clear n0_ n1_ n2_ n3_; clear hb ho4) | ((with_reducible refine gate_callee (f := 103) rfl ?_); refine goesL_ (some 7) rfl rfl Try.func103 (by kernel_rfl) rfl #[.pointer (some ⟨g, 0, none⟩), .int .i64 6] rfl (by (try simp only [List.map_toArray, List.map_cons, List.map_nil]); first | done | rfl | (simp only [List.length_drop, List.length_take]; rfl)) ?_; (with_reducible refine (spec_l6Rd_pick.calls k g s0_0 s0_1 6 t1156 t1157 w0 _ ?side1 ?side2 A2.out).mono ?_); (case side1 => repeat (first | (with_reducible first | exact HI0.out | apply IsS148.alloc | apply IsS148.drewN | apply IsS148.drew | apply IsS148.set_1) | exact HI0.out)); (case side2 => repeat (first | (with_reducible first | exact HB.out | apply below_alloc | apply pw_below_drewN | apply below_drew1 | refine below_set ?_ (IsS148.ge HI0.out)) | exact HB.out)); rintro e w5 ⟨rfl, hi, hb, hk⟩; refine ⟨_, rfl, ?_⟩; have n0_ := Aside0.mk (Kd.S_mono (Kd.S_keep (IsS148.apartS (show IsS148 w0 _ g s0_0 s0_1 from by repeat (first | (with_reducible first | exact HI0.out | apply IsS148.alloc | apply IsS148.drewN | apply IsS148.drew | apply IsS148.set_1) | exact HI0.out)) (by (with_reducible repeat (first | apply Kd.S_alloc | apply Kd.S_drewN | apply Kd.S_drew)); exact HO1155.out) (by decide)) hk (fun _ h => h.2)) (fun _ h => h.1)); have n1_ := Aside0.mk (KeepBut.trans (by repeat (first | (with_reducible first | exact HK.out | apply KeepBut.set_ | apply keep_drewN | apply keep_drew | apply keep_alloc) | exact HK.out)) hk (.inl rfl)); have n2_ := Aside0.mk (hb); have n3_ := Aside0.mk (hi); clear HO1155; clear HK; clear HB; clear HI0; have HO1155 := n0_; have HK := n1_; have HB := n2_; have HI0 := n3_; clear n0_ n1_ n2_ n3_; (try clear hb); (try clear hb2); (try clear hk); (try clear hi)))
  go_loopg [3, 4] k (fun kq v3 v4 w' => ∃ (x3_1 : List (S87)) (x4_1 : Int) (x1001_1 : Int), v4 = .int .i64 x4_1 ∧ Aside0 (spec_l91Traces.l0 kq x3_1 x4_1 s0_0 x1001_1 = some (r1, r2)) ∧ Aside0 (kq ≤ k) ∧ Aside0 (Kd.S k87 87 w' w.heap.size (fun _ => True) v3 x3_1) ∧ Aside0 (IsS148 w0 w' g s0_0 x1001_1) ∧ Aside0 (KeepBut w w' g none) ∧ Aside0 (Below w0.heap.size w0 w'))
  case atStart => exact ⟨(y1153), (t1156), (t1157), (by first | rfl | (simp; done) | (simp [*]; done)), H', ⟨Nat.le_refl _⟩, ⟨by (with_reducible repeat (first | apply Kd.S_alloc | apply Kd.S_drewN | apply Kd.S_drew)); exact HO1155.out⟩, ⟨by repeat (first | (with_reducible first | exact HI0.out | apply IsS148.alloc | apply IsS148.drewN | apply IsS148.drew | apply IsS148.set_1) | exact HI0.out)⟩, ⟨by repeat (first | (with_reducible first | exact HK.out | apply KeepBut.set_ | apply keep_drewN | apply keep_drew | apply keep_alloc) | exact HK.out)⟩, ⟨by repeat (first | (with_reducible first | exact HB.out | apply below_alloc | apply pw_below_drewN | apply below_drew1 | refine below_set ?_ (IsS148.ge HI0.out)) | exact HB.out)⟩⟩
  case round =>
    clear H'
    try clear c1
    try clear p2
    obtain ⟨x3_1, x4_1, x1001_1, rfl, HA, HK1, HO_3, HI0, HK, HB⟩ := hrel
    cases gk with
    | zero => exact absurd HA.out (by simp [spec_l91Traces.l0])
    | succ k1 =>
      have H := HA.out
      clear HA
      simp only [spec_l91Traces.l0] at H
      by_cases c6 : x4_1 > 0
      · rw [if_pos c6] at H
        have c6b0 : decide (0 < x4_1) = true := decide_eq_true c6
        clear c6
        replace H := Option.bind_eq_some_iff.mp H
        obtain ⟨⟨t1158, t1159, t1162, t1163⟩, A70, H⟩ := H
        replace H : (if x3_1.length < 3518437208883 then (spec_l91Traces.l0 k1 (x3_1 ++ [(⟨t1158, t1159, t1162⟩ : S87)]) (wrap64 (x4_1 - 1)) s0_0 t1163) else (none)) = some (r1, r2) := H
        have A7 := Aside0.mk A70
        clear A70
        by_cases c8 : x3_1.length < 3518437208883
        · rw [if_pos c8] at H
          have LMc8 := Aside0.mk c8
          clear c8
          obtain ⟨y1164, hy1164⟩ : ∃ y_ : List (S87), y_ = (x3_1 ++ [(⟨t1158, t1159, t1162⟩ : S87)]) := ⟨_, rfl⟩
          replace H : (spec_l91Traces.l0 k1 y1164 (wrap64 (x4_1 - 1)) s0_0 t1163) = some (r1, r2) := by first | (rw [hy1164]; with_reducible exact H) | (have H2_ := (Option.bind_some _ _).symm.trans H; rw [hy1164]; with_reducible exact H2_) | (have H2_ := (Option.bind_some _ _).symm.trans H; with_reducible exact H2_) | with_reducible exact H | (rw [hy1164]; exact H) | exact H
          have Ny1164 := Aside0.mk hy1164
          clear hy1164
          have H' := Aside0.mk H
          clear H
          go_wp2_with (first | ((with_reducible refine gate_callee (f := 119) rfl ?_); refine goesL_ (some 14) rfl rfl Try.func119 (by kernel_rfl) rfl #[.pointer (some ⟨g, 0, none⟩)] rfl (by (try simp only [List.map_toArray, List.map_cons, List.map_nil]); first | done | rfl | (simp only [List.length_drop, List.length_take]; rfl)) ?_; (with_reducible refine (spec_l91Trace.calls k1 g s0_0 x1001_1 t1158 t1159 t1162 t1163 w0 _ ?side1 ?side2 A7.out).mono ?_); (case side1 => repeat (first | (with_reducible first | exact HI0.out | apply IsS148.alloc | apply IsS148.drewN | apply IsS148.drew | apply IsS148.set_1) | exact HI0.out)); (case side2 => repeat (first | (with_reducible first | exact HB.out | apply below_alloc | apply pw_below_drewN | apply below_drew1 | refine below_set ?_ (IsS148.ge HI0.out)) | exact HB.out)); rintro e w9 ⟨v1160, rfl, ho0, hi, hb, hk⟩; refine ⟨_, rfl, ?_⟩; have n0_ := Aside0.mk (Kd.S_mono (Kd.S_told (Kd.S_oldK (IsS148.apartS (show IsS148 w0 _ g s0_0 x1001_1 from by repeat (first | (with_reducible first | exact HI0.out | apply IsS148.alloc | apply IsS148.drewN | apply IsS148.drew | apply IsS148.set_1) | exact HI0.out)) (by (with_reducible repeat (first | apply Kd.S_alloc | apply Kd.S_drewN | apply Kd.S_drew)); exact HO_3.out) (by decide)) hk) (Kd.R_base ho0)) (fun _ h_ => h_.1)); have n1_ := Aside0.mk (Kd.R_lower ho0 (keep_size (w := w) (g := g) (row := none) (by repeat (first | (with_reducible first | exact HK.out | apply KeepBut.set_ | apply keep_drewN | apply keep_drew | apply keep_alloc) | exact HK.out)))); have n2_ := Aside0.mk (KeepBut.trans (by repeat (first | (with_reducible first | exact HK.out | apply KeepBut.set_ | apply keep_drewN | apply keep_drew | apply keep_alloc) | exact HK.out)) hk (.inl rfl)); have n3_ := Aside0.mk (hb); have n4_ := Aside0.mk (hi); clear HO_3; clear HK; clear HB; clear HI0; have HO_3 := n0_; have HO1161 := n1_; have HK := n2_; have HB := n3_; have HI0 := n4_; clear n0_ n1_ n2_ n3_ n4_; (try clear hb); (try clear hb2); (try clear hk); (try clear hi); (try clear ho0); obtain ⟨Ao11, co11, eo11⟩ := Kd.R_slice HO1161.out; subst eo11) | ((with_reducible refine gate_builtin (b := .append) (xs := #[.tmp 12, .tmp 15]) rfl ?_); at_builtin; refine Kd.S_append k87 w.heap.size rfl (.tmp 12) (.tmp 15) 58 87 (.agg #[(.int .i64 0), (.slice none 0 0), (.int .i64 0)]) 40 rfl Try.underlying58 info87 rfl (by decide) (by omega) u3 x3_1 (⟨t1158, t1159, t1162⟩ : S87) [.int .i64 t1158, .slice Ao11 t1159.length co11, .int .i64 t1162] (fun _ => True) (fun k_ => some k_ = (.slice Ao11 t1159.length co11 : Value).ownBlock) rfl rfl ?aP (fun k_ hk_ => ((Kd.R_mono (ok' := fun k_ => ((fun _ => True)) k_ ∧ some k_ ≠ (u3 : Value).ownBlock) (Kd.R_apart' (HO1161.out) (Kd.S_typed HO_3.out) (by decide)) (fun k_ hk => ⟨trivial, hk.2⟩))).1 k_ hk_.symm) ?aF ?aO (Below.refl _ _) ?aS ?aL ?_; (case aP => exact k87_mkM _ _ _ (⟨t1158, t1159, t1162⟩ : S87) (Kd.R_mono (Kd.R_tight rfl (Kd.R_mono (ok' := fun k_ => ((fun _ => True)) k_ ∧ some k_ ≠ (u3 : Value).ownBlock) (Kd.R_apart' (HO1161.out) (Kd.S_typed HO_3.out) (by decide)) (fun k_ hk => ⟨trivial, hk.2⟩))) (fun _ h_ => h_))); (case aF => exact (fun _ _ => trivial)); (case aO => exact (by (with_reducible repeat (first | apply Kd.S_alloc | apply Kd.S_drewN | apply Kd.S_drew)); exact Kd.S_mono HO_3.out (fun k_ hk => ⟨trivial, fun e_ => hk.2 e_⟩))); (case aS => exact (keep_size (w := w) (g := g) (row := none) (by repeat (first | (with_reducible first | exact HK.out | apply KeepBut.set_ | apply keep_drewN | apply keep_drew | apply keep_alloc) | exact HK.out)))); (case aL => have := LMc8.out; omega); intro v1165 w10 ho hb hg hat; rw [← Ny1164.out] at ho; have n0_ := Aside0.mk (IsS148.grown (by repeat (first | (with_reducible first | exact HI0.out | apply IsS148.alloc | apply IsS148.drewN | apply IsS148.drew | apply IsS148.set_1) | exact HI0.out)) hg (IsS148.own_neS HI0.out HO_3.out (by decide))); have n1_ := Aside0.mk (below_weaken (by repeat (first | (with_reducible first | exact HB.out | apply below_alloc | apply pw_below_drewN | apply below_drew1 | refine below_set ?_ (IsS148.ge HI0.out)) | exact HB.out)) HL.out hb); have n2_ := Aside0.mk (KeepBut.trans (by repeat (first | (with_reducible first | exact HK.out | apply KeepBut.set_ | apply keep_drewN | apply keep_drew | apply keep_alloc) | exact HK.out)) (KeepBut.of_grown hg g) (Kd.S_base2 HO_3.out)); have n3_ := Aside0.mk (ho); clear HI0; clear HB; clear HK; clear HO_3; clear HO1161; have HI0 := n0_; have HB := n1_; have HK := n2_; have HO1166 := n3_; clear n0_ n1_ n2_ n3_; clear ho hb hg hat))
          go_roundg k1
          case measure => have := HK1.out; omega
          case rel => exact ⟨(y1164), (wrap64 (x4_1 - 1)), (t1163), (by first | rfl | (simp; done) | (simp [*]; done)), H', ⟨by have := HK1.out; omega⟩, ⟨by (with_reducible repeat (first | apply Kd.S_alloc | apply Kd.S_drewN | apply Kd.S_drew)); exact HO1166.out⟩, ⟨by repeat (first | (with_reducible first | exact HI0.out | apply IsS148.alloc | apply IsS148.drewN | apply IsS148.drew | apply IsS148.set_1) | exact HI0.out)⟩, ⟨by repeat (first | (with_reducible first | exact HK.out | apply KeepBut.set_ | apply keep_drewN | apply keep_drew | apply keep_alloc) | exact HK.out)⟩, ⟨by repeat (first | (with_reducible first | exact HB.out | apply below_alloc | apply pw_below_drewN | apply below_drew1 | refine below_set ?_ (IsS148.ge HI0.out)) | exact HB.out)⟩⟩
        · rw [if_neg c8] at H
          exact absurd H (by simp)
      · rw [if_neg c6] at H
        have c6b0 : decide (0 < x4_1) = false := decide_eq_false c6
        clear c6
        simp only [Option.some.injEq, Prod.mk.injEq] at H
        obtain ⟨rfl, rfl⟩ := H
        go_wp2
        go_ret
        exact ⟨_, by first | rfl | (simp [errW_none, errW_some] <;> rfl) | (simp [*, errW_none, errW_some] <;> rfl), by (with_reducible repeat (first | apply Kd.S_alloc | apply Kd.S_drewN | apply Kd.S_drew)); exact HO_3.out, by repeat (first | (with_reducible first | exact HI0.out | apply IsS148.alloc | apply IsS148.drewN | apply IsS148.drew | apply IsS148.set_1) | exact HI0.out), by repeat (first | (with_reducible first | exact HB.out | apply below_alloc | apply pw_below_drewN | apply below_drew1 | refine below_set ?_ (IsS148.ge HI0.out)) | exact HB.out), by repeat (first | (with_reducible first | exact HK.out | apply KeepBut.set_ | apply keep_drewN | apply keep_drew | apply keep_alloc) | exact HK.out)⟩
end Go.Proofs.Ytgbjbpjmbghlbaa.G
end
section
namespace Go.Proofs.Ytgbjbpjmbghlbaa.G
open Go.RowKit Go.Proofs.YtgbjbpjmbghlbaaW.PrintWords Go.Proofs.YtgbjbpjmbghlbaaW.PrintLast Go.Proofs.YtgbjbpjmbghlbaaW.PrintMore
attribute [local go_sem] max2_int min2_int max_two min_two max_three min_three max_four min_four
set_option linter.unusedVariables false
set_option linter.unusedSimpArgs false
mutual
def spec_DrawTracesPut.j0 : Nat → List (S87) → Bool → List Int → Int → Int → List (S117) → Int → Option ((List (S87)) × Int × (List (S117)) × Int)
  | 0, _, _, _, _, _, _, _ => none
  | k + 1, x5, x21, x435000, x435001, x446000, x446001, x446002 => if x21 = true then ((spec_l6Rd_pick.f k x435000 x435001 (x5.length : Int)).bind fun bt448 => (if 0 ≤ bt448.1 then (if bt448.1 < (x5.length : Int) then (spec_DrawTracesPut.j1 k x5 x435000 bt448.2 ((rd_T87 x5 bt448.1).f0) ((rd_T87 x5 bt448.1).f1) ((rd_T87 x5 bt448.1).f2)) else (none)) else (none))) else (spec_DrawTracesPut.j1 k x5 x435000 x435001 x446000 x446001 x446002)
def spec_DrawTracesPut.j1 : Nat → List (S87) → List Int → Int → Int → List (S117) → Int → Option ((List (S87)) × Int × (List (S117)) × Int)
  | 0, _, _, _, _, _, _ => none
  | k + 1, x5, x435000, x435001, x446000, x446001, x446002 => spec_DrawTracesPut.l0 k x5 0 x435000 x435001 x446000 x446001 x446002
def spec_DrawTracesPut.l0 : Nat → List (S87) → Int → List Int → Int → Int → List (S117) → Int → Option ((List (S87)) × Int × (List (S117)) × Int)
  | 0, _, _, _, _, _, _, _ => none
  | k + 1, x5, x7, x435000, x435001, x446000, x446001, x446002 => if x7 < 60 then ((spec_l6Rd_pick.f k x435000 x435001 400).bind fun bt456 => (if bt456.1 = 0 then (if x5.length < 3518437208883 then (spec_DrawTracesPut.l0 k (x5 ++ [(⟨Int.tmod x7 10, ([] : List (S117)), x7⟩ : S87)]) (wrap64 (x7 + 1)) x435000 bt456.2 x446000 x446001 x446002) else (none)) else (some (x5, x446000, x446001, x446002)))) else (some (x5, x446000, x446001, x446002))
end
def spec_DrawTracesPut.f (k : Nat) (l0 : List Int) : Option ((List (S87)) × Int × (List (S117)) × Int) := (spec_l6Open.f l0).bind fun bt432 => ((spec_l91Traces.f k bt432.1 bt432.2).bind fun bt435 => ((spec_l91Trace.f k bt432.1 bt435.2).bind fun bt439 => (if (bt435.1.length : Int) > 0 then ((spec_l6Rd_pick.f k bt432.1 bt439.2.2.2 3).bind fun bt446 => (spec_DrawTracesPut.j0 k bt435.1 (bt446.1 == 0) bt432.1 bt446.2 bt439.1 bt439.2.1 bt439.2.2.1)) else (spec_DrawTracesPut.j0 k bt435.1 false bt432.1 bt439.2.2.2 bt439.1 bt439.2.1 bt439.2.2.1))))
set_option maxHeartbeats 8000000 in
set_option maxRecDepth 100000 in
theorem spec_DrawTracesPut.calls (k : Nat) (A0 : Option Addr) (c0 : Nat) (l0 : List Int) (r1 : List (S87)) (r2 : Int) (r3 : List (S117)) (r4 : Int) (w : World) (hr0 : Kd.C (Kd.int .u8) w A0 l0.length l0) (hc0 : l0.length ≤ c0) (h : spec_DrawTracesPut.f k l0 = some (r1, r2, r3, r4)) :
    Calls Try.prog 60 #[.slice A0 l0.length c0] w fun e w' => ∃ v0_ v2_ : Value, e = .returned (.tuple #[v0_, .agg #[.int .i64 r2, v2_, .int .i64 r4]]) ∧ Kd.S k87 87 w' w.heap.size (fun _ => True) v0_ r1 ∧ Kd.R k117 117 w' w.heap.size (fun _ => True) v2_ r3 ∧ Below w.heap.size w w' := by
  have hu87 := Try.underlying87
  have HR0 := Aside0.mk hr0
  have HC0 := Aside0.mk hc0
  clear hr0 hc0
  have HB := Aside0.mk (Below.refl w.heap.size w)
  have H : ((spec_l6Open.f l0).bind fun bt432 => ((spec_l91Traces.f k bt432.1 bt432.2).bind fun bt435 => ((spec_l91Trace.f k bt432.1 bt435.2).bind fun bt439 => (if (bt435.1.length : Int) > 0 then ((spec_l6Rd_pick.f k bt432.1 bt439.2.2.2 3).bind fun bt446 => (spec_DrawTracesPut.j0 k bt435.1 (bt446.1 == 0) bt432.1 bt446.2 bt439.1 bt439.2.1 bt439.2.2.1)) else (spec_DrawTracesPut.j0 k bt435.1 false bt432.1 bt439.2.2.2 bt439.1 bt439.2.1 bt439.2.2.1))))) = some (r1, r2, r3, r4) := h
  clear h
  replace H := Option.bind_eq_some_iff.mp H
  obtain ⟨⟨t432, t433⟩, A20, H⟩ := H
  replace H : ((spec_l91Traces.f k t432 t433).bind fun bt435 => ((spec_l91Trace.f k t432 bt435.2).bind fun bt439 => (if (bt435.1.length : Int) > 0 then ((spec_l6Rd_pick.f k t432 bt439.2.2.2 3).bind fun bt446 => (spec_DrawTracesPut.j0 k bt435.1 (bt446.1 == 0) t432 bt446.2 bt439.1 bt439.2.1 bt439.2.2.1)) else (spec_DrawTracesPut.j0 k bt435.1 false t432 bt439.2.2.2 bt439.1 bt439.2.1 bt439.2.2.1)))) = some (r1, r2, r3, r4) := H
  have A2 := Aside0.mk A20
  clear A20
  replace H := Option.bind_eq_some_iff.mp H
  obtain ⟨⟨t435, t438⟩, A30, H⟩ := H
  replace H : ((spec_l91Trace.f k t432 t438).bind fun bt439 => (if (t435.length : Int) > 0 then ((spec_l6Rd_pick.f k t432 bt439.2.2.2 3).bind fun bt446 => (spec_DrawTracesPut.j0 k t435 (bt446.1 == 0) t432 bt446.2 bt439.1 bt439.2.1 bt439.2.2.1)) else (spec_DrawTracesPut.j0 k t435 false t432 bt439.2.2.2 bt439.1 bt439.2.1 bt439.2.2.1))) = some (r1, r2, r3, r4) := H
  have A3 := Aside0.mk A30
  clear A30
  replace H := Option.bind_eq_some_iff.mp H
  obtain ⟨⟨t439, t440, t443, t444⟩, A40, H⟩ := H
  replace H : (if (t435.length : Int) > 0 then ((spec_l6Rd_pick.f k t432 t444 3).bind fun bt446 => (spec_DrawTracesPut.j0 k t435 (bt446.1 == 0) t432 bt446.2 t439 t440 t443)) else (spec_DrawTracesPut.j0 k t435 false t432 t444 t439 t440 t443)) = some (r1, r2, r3, r4) := H
  have A4 := Aside0.mk A40
  clear A40
  have HC5 := Aside0.mk H
  clear H
  go_enter Try.func60, Try.ntmps60
  go_upto_region 4 with (first | ((with_reducible refine gate_dst (N := 3) rfl ?_); refine box_event ?hg (N := 3) ?hd (cs := #[.int .i64 0, .slice none 0 0, .int .i64 0]) (t := 87) ?hr ?_; (case hd => rfl); (case hg => rfl); (case hr => first | (go_simp; done) | (go_simp; rfl)); intro gb431 hg w6 hbox hb; have n0_ := Aside0.mk (below_step (by repeat (first | (with_reducible first | exact HB.out | apply below_alloc | apply pw_below_drewN | apply below_drew1) | exact HB.out)) hb); have n1_ := Aside0.mk (hbox); have n2_ := Aside0.mk ((by rw [hg]; exact (below_size (by repeat (first | (with_reducible first | exact HB.out | apply below_alloc | apply pw_below_drewN | apply below_drew1) | exact HB.out))) : w.heap.size ≤ gb431)); have n3_ := Aside0.mk ((by rw [hg]; exact (below_size (by repeat (first | (with_reducible first | exact HB.out | apply below_alloc | apply pw_below_drewN | apply below_drew1) | exact HB.out))) : w.heap.size ≤ gb431)); clear HB; have HB := n0_; have BK431 := n1_; have GW431 := n2_; have GE431 := n3_; clear n0_ n1_ n2_ n3_; clear hb hbox hg) | ((with_reducible refine gate_callee (f := 75) rfl ?_); refine goesL_ (some 9) rfl rfl Try.func75 (by kernel_rfl) rfl #[.slice A0 l0.length c0] rfl (by (try simp only [List.map_toArray, List.map_cons, List.map_nil]); first | done | rfl | (simp only [List.length_drop, List.length_take]; rfl)) ?_; (with_reducible refine (spec_l6Open.calls _ _ l0 t432 t433 w _ ?side1 ?side2 ?side3 A2.out).mono ?_); (case side1 => repeat (first | (with_reducible first | exact HB.out | apply below_alloc | apply pw_below_drewN | apply below_drew1 | refine below_set ?_ GE431.out) | exact HB.out)); (case side2 => exact HR0.out); (case side3 => exact HC0.out); rintro e w7 ⟨g434, rfl, hi, hb, hb2⟩; refine ⟨_, rfl, ?_⟩; have n0_ := Aside0.mk (blk_below (g := gb431) (o := .cells #[.int .i64 0, .slice none 0 0, .int .i64 0] 87 (0, 0)) (by (with_reducible repeat (first | refine blk_drewN ?_ _ | refine blk_drew ?_ | refine blk_alloc ?_ _)); exact BK431.out) hb2); have n1_ := Aside0.mk (hb); have n2_ := Aside0.mk (hi); have n3_ := Aside0.mk (IsS148.ne_blk hi (blk_below (g := gb431) (o := .cells #[.int .i64 0, .slice none 0 0, .int .i64 0] 87 (0, 0)) (by (with_reducible repeat (first | refine blk_drewN ?_ _ | refine blk_drew ?_ | refine blk_alloc ?_ _)); exact BK431.out) hb2) (by decide)); have n4_ := Aside0.mk (Ne.symm (IsS148.ne_blk hi (blk_below (g := gb431) (o := .cells #[.int .i64 0, .slice none 0 0, .int .i64 0] 87 (0, 0)) (by (with_reducible repeat (first | refine blk_drewN ?_ _ | refine blk_drew ?_ | refine blk_alloc ?_ _)); exact BK431.out) hb2) (by decide))); clear BK431; clear HB; have BK431 := n0_; have HB := n1_; have HI434 := n2_; have NB434_431 := n3_; have NB431_434 := n4_; clear n0_ n1_ n2_ n3_ n4_; (try clear hb); (try clear hb2); (try clear hk); (try clear hi)) | ((with_reducible refine gate_callee (f := 118) rfl ?_); refine goesL_ (some 11) rfl rfl Try.func118 (by kernel_rfl) rfl #[.pointer (some ⟨g434, 0, none⟩)] rfl (by (try simp only [List.map_toArray, List.map_cons, List.map_nil]); first | done | rfl | (simp only [List.length_drop, List.length_take]; rfl)) ?_; (with_reducible refine (spec_l91Traces.calls k g434 t432 t433 t435 t438 w _ ?side1 ?side2 A3.out).mono ?_); (case side1 => repeat (first | (with_reducible first | exact HI434.out | apply IsS148.alloc | apply IsS148.drewN | apply IsS148.drew | apply IsS148.set_1 | refine IsS148.far ?_ NB434_431.out _) | exact HI434.out)); (case side2 => repeat (first | (with_reducible first | exact HB.out | apply below_alloc | apply pw_below_drewN | apply below_drew1 | refine below_set ?_ (IsS148.ge HI434.out) | refine below_set ?_ GE431.out) | exact HB.out)); rintro e w8 ⟨v436, rfl, ho0, hi, hb, hk⟩; refine ⟨_, rfl, ?_⟩; have n0_ := Aside0.mk (KeepBut.blk hk (g' := gb431) (o := .cells #[.int .i64 0, .slice none 0 0, .int .i64 0] 87 (0, 0)) (by (with_reducible repeat (first | refine blk_drewN ?_ _ | refine blk_drew ?_ | refine blk_alloc ?_ _)); exact BK431.out) NB431_434.out (by simp)); have n1_ := Aside0.mk (Kd.S_lower (Kd.S_newB ho0 (g := gb431) (o := .cells #[.int .i64 0, .slice none 0 0, .int .i64 0] 87 (0, 0)) (by (with_reducible repeat (first | refine blk_drewN ?_ _ | refine blk_drew ?_ | refine blk_alloc ?_ _)); exact BK431.out)) (below_size (by repeat (first | (with_reducible first | exact HB.out | apply below_alloc | apply pw_below_drewN | apply below_drew1 | refine below_set ?_ (IsS148.ge HI434.out) | refine below_set ?_ GE431.out) | exact HB.out)))); have n2_ := Aside0.mk (hb); have n3_ := Aside0.mk (hi); clear BK431; clear HB; clear HI434; have BK431 := n0_; have HO437 := n1_; have HB := n2_; have HI434 := n3_; clear n0_ n1_ n2_ n3_; (try clear hb); (try clear hb2); (try clear hk); (try clear hi); (try clear ho0)) | ((with_reducible refine gate_callee (f := 119) rfl ?_); refine goesL_ (some 13) rfl rfl Try.func119 (by kernel_rfl) rfl #[.pointer (some ⟨g434, 0, none⟩)] rfl (by (try simp only [List.map_toArray, List.map_cons, List.map_nil]); first | done | rfl | (simp only [List.length_drop, List.length_take]; rfl)) ?_; (with_reducible refine (spec_l91Trace.calls k g434 t432 t438 t439 t440 t443 t444 w _ ?side1 ?side2 A4.out).mono ?_); (case side1 => repeat (first | (with_reducible first | exact HI434.out | apply IsS148.alloc | apply IsS148.drewN | apply IsS148.drew | apply IsS148.set_1 | refine IsS148.far ?_ NB434_431.out _) | exact HI434.out)); (case side2 => repeat (first | (with_reducible first | exact HB.out | apply below_alloc | apply pw_below_drewN | apply below_drew1 | refine below_set ?_ (IsS148.ge HI434.out) | refine below_set ?_ GE431.out) | exact HB.out)); rintro e w9 ⟨v441, rfl, ho0, hi, hb, hk⟩; refine ⟨_, rfl, ?_⟩; have n0_ := Aside0.mk (KeepBut.blk hk (g' := gb431) (o := .cells #[.int .i64 0, .slice none 0 0, .int .i64 0] 87 (0, 0)) (by (with_reducible repeat (first | refine blk_drewN ?_ _ | refine blk_drew ?_ | refine blk_alloc ?_ _)); exact BK431.out) NB431_434.out (by simp)); have n1_ := Aside0.mk (Kd.S_mono (Kd.S_told (Kd.S_oldK (IsS148.apartS (show IsS148 w _ g434 t432 t438 from by repeat (first | (with_reducible first | exact HI434.out | apply IsS148.alloc | apply IsS148.drewN | apply IsS148.drew | apply IsS148.set_1 | refine IsS148.far ?_ NB434_431.out _) | exact HI434.out)) (by (with_reducible repeat (first | apply Kd.S_alloc | apply Kd.S_drewN | apply Kd.S_drew)); exact HO437.out) (by decide)) hk) (Kd.R_base ho0)) (fun _ h_ => h_.1)); have n2_ := Aside0.mk (Kd.R_lower ho0 (below_size (by repeat (first | (with_reducible first | exact HB.out | apply below_alloc | apply pw_below_drewN | apply below_drew1 | refine below_set ?_ (IsS148.ge HI434.out) | refine below_set ?_ GE431.out) | exact HB.out)))); have n3_ := Aside0.mk (hb); have n4_ := Aside0.mk (hi); clear BK431; clear HO437; clear HB; clear HI434; have BK431 := n0_; have HO437 := n1_; have HO442 := n2_; have HB := n3_; have HI434 := n4_; clear n0_ n1_ n2_ n3_ n4_; (try clear hb); (try clear hb2); (try clear hk); (try clear hi); (try clear ho0)) | ((with_reducible refine gate_dst (N := 6) rfl ?_); refine box_event ?hg (N := 6) ?hd (cs := #[.int .i64 0, .slice none 0 0, .int .i64 0]) (t := 87) ?hr ?_; (case hd => rfl); (case hg => rfl); (case hr => first | (go_simp; done) | (go_simp; rfl)); intro gb445 hg w10 hbox hb; have n0_ := Aside0.mk (Kd.S_below (Kd.S_elderB (by (with_reducible repeat (first | apply Kd.S_alloc | apply Kd.S_drewN | apply Kd.S_drew)); exact HO437.out) gb445 (Nat.le_of_eq hg.symm)) hb); have n1_ := Aside0.mk (Kd.R_below (by (with_reducible repeat (first | apply Kd.R_alloc | apply Kd.R_drewN | apply Kd.R_drew)); exact HO442.out) hb); have n2_ := Aside0.mk (blk_below (g := gb431) (o := .cells #[.int .i64 0, .slice none 0 0, .int .i64 0] 87 (0, 0)) (by (with_reducible repeat (first | refine blk_drewN ?_ _ | refine blk_drew ?_ | refine blk_alloc ?_ _)); exact BK431.out) hb); have n3_ := Aside0.mk (IsS148.below (by repeat (first | (with_reducible first | exact HI434.out | apply IsS148.alloc | apply IsS148.drewN | apply IsS148.drew | apply IsS148.set_1 | refine IsS148.far ?_ NB434_431.out _) | exact HI434.out)) hb); have n4_ := Aside0.mk (below_step (by repeat (first | (with_reducible first | exact HB.out | apply below_alloc | apply pw_below_drewN | apply below_drew1 | refine below_set ?_ (IsS148.ge HI434.out) | refine below_set ?_ GE431.out) | exact HB.out)) hb); have n5_ := Aside0.mk (hbox); have n6_ := Aside0.mk ((by rw [hg]; exact (below_size (by repeat (first | (with_reducible first | exact HB.out | apply below_alloc | apply pw_below_drewN | apply below_drew1 | refine below_set ?_ (IsS148.ge HI434.out) | refine below_set ?_ GE431.out) | exact HB.out))) : w.heap.size ≤ gb445)); have n7_ := Aside0.mk ((by rw [hg]; exact (below_size (by repeat (first | (with_reducible first | exact HB.out | apply below_alloc | apply pw_below_drewN | apply below_drew1 | refine below_set ?_ (IsS148.ge HI434.out) | refine below_set ?_ GE431.out) | exact HB.out))) : w.heap.size ≤ gb445)); have n8_ := Aside0.mk ((by rw [hg]; exact Nat.ne_of_lt (blk_lt (g := gb431) (o := .cells #[.int .i64 0, .slice none 0 0, .int .i64 0] 87 (0, 0)) (by (with_reducible repeat (first | refine blk_drewN ?_ _ | refine blk_drew ?_ | refine blk_alloc ?_ _)); exact BK431.out)) : gb431 ≠ gb445)); have n9_ := Aside0.mk ((by rw [hg]; exact Nat.ne_of_gt (blk_lt (g := gb431) (o := .cells #[.int .i64 0, .slice none 0 0, .int .i64 0] 87 (0, 0)) (by (with_reducible repeat (first | refine blk_drewN ?_ _ | refine blk_drew ?_ | refine blk_alloc ?_ _)); exact BK431.out)) : gb445 ≠ gb431)); have n10_ := Aside0.mk ((by rw [hg]; exact Nat.ne_of_lt (IsS148.lt (show IsS148 w _ g434 t432 t444 from by repeat (first | (with_reducible first | exact HI434.out | apply IsS148.alloc | apply IsS148.drewN | apply IsS148.drew | apply IsS148.set_1 | refine IsS148.far ?_ NB434_431.out _) | exact HI434.out))) : g434 ≠ gb445)); have n11_ := Aside0.mk ((by rw [hg]; exact Nat.ne_of_gt (IsS148.lt (show IsS148 w _ g434 t432 t444 from by repeat (first | (with_reducible first | exact HI434.out | apply IsS148.alloc | apply IsS148.drewN | apply IsS148.drew | apply IsS148.set_1 | refine IsS148.far ?_ NB434_431.out _) | exact HI434.out))) : gb445 ≠ g434)); clear HO437; clear HO442; clear BK431; clear HI434; clear HB; have HO437 := n0_; have HO442 := n1_; have BK431 := n2_; have HI434 := n3_; have HB := n4_; have BK445 := n5_; have GW445 := n6_; have GE445 := n7_; have NB431_445 := n8_; have NB445_431 := n9_; have NB434_445 := n10_; have NB445_434 := n11_; clear n0_ n1_ n2_ n3_ n4_ n5_ n6_ n7_ n8_ n9_ n10_ n11_; clear hb hbox hg; have hnb11 := NB445_431.out; have hnc11 := NB431_445.out; have hnb12 := NB445_434.out; have hnc12 := NB434_445.out; have hcz13_0 : w10.cell? ⟨gb445, 0, none⟩ = some (.int .i64 0) := (blk_cell BK445.out 0).trans rfl; have hcz13_1 : w10.cell? ⟨gb445, 1, none⟩ = some (.slice none 0 0) := (blk_cell BK445.out 1).trans rfl; have hcz13_2 : w10.cell? ⟨gb445, 2, none⟩ = some (.int .i64 0) := (blk_cell BK445.out 2).trans rfl; have hfz13_0 := blk_frozen BK445.out 0; have hfz13_1 := blk_frozen BK445.out 1; have hfz13_2 := blk_frozen BK445.out 2; obtain ⟨Ao14, co14, eo14⟩ := Kd.R_slice HO442.out; subst eo14))
  (try simp only [Act.put, List.setIfInBounds_toArray, List.set_cons_zero, List.set_cons_succ])
  go_cut [21] (fun v21 wc => ∃ (kq : Nat) (x21_4 : Bool) (x435001_4 : Int), v21 = .bool x21_4 ∧ Aside0 (spec_DrawTracesPut.j0 kq t435 x21_4 t432 x435001_4 t439 t440 t443 = some (r1, r2, r3, r4)) ∧ Aside0 (kq ≤ k) ∧ Aside0 (Kd.S k87 87 wc w.heap.size (fun k_ => some k_ ≠ ((.slice Ao14 t440.length co14) : Value).ownBlock ∧ k_ ≠ gb431 ∧ k_ ≠ gb445) v436 t435) ∧ Aside0 (Kd.R k117 117 wc w.heap.size (fun _ => True) (.slice Ao14 t440.length co14) t440) ∧ Aside0 (wc.heap[gb431]? = some (.cells #[.int .i64 0, (.slice none 0 0), .int .i64 0] 87 (0, 0))) ∧ Aside0 (wc.heap[gb445]? = some (.cells #[.int .i64 t439, (.slice Ao14 t440.length co14), .int .i64 t443] 87 (0, 0))) ∧ Aside0 (IsS148 w wc g434 t432 x435001_4) ∧ Aside0 (Below w.heap.size w wc))
  case first =>
    have H := HC5.out
    clear HC5
    by_cases c15 : (t435.length : Int) > 0
    · rw [if_pos c15] at H
      have c15b0 : decide (0 < (t435.length : Int)) = true := decide_eq_true c15
      have c15b1 : decide (0 < t435.length) = true := decide_eq_true (by omega)
      clear c15
      (first | rw [c15b0] | (simp only [i64_w, i32_w]; rw [c15b0]) | skip)
      replace H := Option.bind_eq_some_iff.mp H
      obtain ⟨⟨t446, t447⟩, A160, H⟩ := H
      replace H : (spec_DrawTracesPut.j0 k t435 (t446 == 0) t432 t447 t439 t440 t443) = some (r1, r2, r3, r4) := H
      have A16 := Aside0.mk A160
      clear A160
      have H' := Aside0.mk H
      clear H
      obtain ⟨Ao17, co17, eo17⟩ := Kd.S_slice HO437.out
      subst eo17
      go_wp2_with (first | (go_at_call 103; (with_reducible refine (spec_l6Rd_pick.calls k g434 t432 t444 3 t446 t447 w _ ?side1 ?side2 A16.out).mono ?_); (case side1 => repeat (first | (with_reducible first | exact HI434.out | apply IsS148.alloc | apply IsS148.drewN | apply IsS148.drew | apply IsS148.set_1 | refine IsS148.far ?_ NB434_431.out _ | refine IsS148.far ?_ NB434_445.out _) | exact HI434.out)); (case side2 => repeat (first | (with_reducible first | exact HB.out | apply below_alloc | apply pw_below_drewN | apply below_drew1 | refine below_set ?_ (IsS148.ge HI434.out) | refine below_set ?_ GE431.out | refine below_set ?_ GE445.out) | exact HB.out)); rintro e w18 ⟨rfl, hi, hb, hk⟩; have n0_ := Aside0.mk (KeepBut.blk hk (g' := gb431) (o := .cells #[.int .i64 0, .slice none 0 0, .int .i64 0] 87 (0, 0)) (by (with_reducible repeat (first | refine blk_drewN ?_ _ | refine blk_drew ?_ | refine blk_alloc ?_ _)); refine blk_far ?_ NB431_445.out _; (with_reducible repeat (first | refine blk_drewN ?_ _ | refine blk_drew ?_ | refine blk_alloc ?_ _)); refine blk_far ?_ NB431_445.out _; (with_reducible repeat (first | refine blk_drewN ?_ _ | refine blk_drew ?_ | refine blk_alloc ?_ _)); refine blk_far ?_ NB431_445.out _; (with_reducible repeat (first | refine blk_drewN ?_ _ | refine blk_drew ?_ | refine blk_alloc ?_ _)); exact BK431.out) NB431_434.out (by simp)); have n1_ := Aside0.mk (Kd.S_mono (Kd.S_keep (IsS148.apartS (show IsS148 w _ g434 t432 t444 from by repeat (first | (with_reducible first | exact HI434.out | apply IsS148.alloc | apply IsS148.drewN | apply IsS148.drew | apply IsS148.set_1 | refine IsS148.far ?_ NB434_431.out _ | refine IsS148.far ?_ NB434_445.out _) | exact HI434.out)) (by (with_reducible repeat (first | apply Kd.S_alloc | apply Kd.S_drewN | apply Kd.S_drew)); exact (Kd.S_mono (Kd.S_far (p := ⟨gb445, 2, none⟩) (Kd.S_far (p := ⟨gb445, 1, none⟩) (Kd.S_far (p := ⟨gb445, 0, none⟩) (Kd.S_mono HO437.out (fun k_ hk => (⟨hk, hk.2⟩ : _ ∧ k_ ≠ gb445))) (fun _ hk => hk.2) (.int .i64 t439)) (fun _ hk => hk.2) (.slice Ao14 t440.length co14)) (fun _ hk => hk.2) (.int .i64 t443)) (fun _ h_ => h_.1))) (by decide)) hk (fun _ h => h.2)) (fun _ h => h.1)); have n2_ := Aside0.mk (Kd.R_mono (Kd.R_keep (IsS148.apart (show IsS148 w _ g434 t432 t444 from by repeat (first | (with_reducible first | exact HI434.out | apply IsS148.alloc | apply IsS148.drewN | apply IsS148.drew | apply IsS148.set_1 | refine IsS148.far ?_ NB434_431.out _ | refine IsS148.far ?_ NB434_445.out _) | exact HI434.out)) (by (with_reducible repeat (first | apply Kd.R_alloc | apply Kd.R_drewN | apply Kd.R_drew)); exact (Kd.R_mono (Kd.R_far (p := ⟨gb445, 2, none⟩) (Kd.R_far (p := ⟨gb445, 1, none⟩) (Kd.R_far (p := ⟨gb445, 0, none⟩) (Kd.R_types HO442.out BK445.out (by decide)) (fun _ hk => hk.2) (.int .i64 t439)) (fun _ hk => hk.2) (.slice Ao14 t440.length co14)) (fun _ hk => hk.2) (.int .i64 t443)) (fun _ h_ => h_.1))) (by decide)) hk (fun _ h => h.2)) (fun _ h => h.1)); have n3_ := Aside0.mk (KeepBut.blk hk (g' := gb445) (o := .cells #[.int .i64 t439, .slice Ao14 t440.length co14, .int .i64 t443] 87 (0, 0)) (by (with_reducible repeat (first | refine blk_drewN ?_ _ | refine blk_drew ?_ | refine blk_alloc ?_ _)); refine blk_put (cs := #[.int .i64 t439, .slice Ao14 t440.length co14, .int .i64 0]) ?_ 2 _ rfl; (with_reducible repeat (first | refine blk_drewN ?_ _ | refine blk_drew ?_ | refine blk_alloc ?_ _)); refine blk_put (cs := #[.int .i64 t439, .slice none 0 0, .int .i64 0]) ?_ 1 _ rfl; (with_reducible repeat (first | refine blk_drewN ?_ _ | refine blk_drew ?_ | refine blk_alloc ?_ _)); refine blk_put (cs := #[.int .i64 0, .slice none 0 0, .int .i64 0]) ?_ 0 _ rfl; (with_reducible repeat (first | refine blk_drewN ?_ _ | refine blk_drew ?_ | refine blk_alloc ?_ _)); exact BK445.out) NB445_434.out (by simp)); have n4_ := Aside0.mk (hb); have n5_ := Aside0.mk (hi); clear BK431; clear HO437; clear HO442; clear BK445; clear HB; clear HI434; have BK431 := n0_; have HO437 := n1_; have HO442 := n2_; have BK445 := n3_; have HB := n4_; have HI434 := n5_; clear n0_ n1_ n2_ n3_ n4_ n5_; (try clear hb); (try clear hb2); (try clear hk); (try clear hi)))
      go_meet
      case rel => exact ⟨_, ((t446 == 0)), (t447), (by first | rfl | (simp; done) | (simp [*]; done)), H', ⟨by first | omega | exact Nat.le_refl _⟩, ⟨by (with_reducible repeat (first | apply Kd.S_alloc | apply Kd.S_drewN | apply Kd.S_drew)); exact Kd.S_mono HO437.out (fun _ hk => ⟨hk.1.2, ⟨hk.1.1.2, hk.2⟩⟩)⟩, ⟨by (with_reducible repeat (first | apply Kd.R_alloc | apply Kd.R_drewN | apply Kd.R_drew)); exact HO442.out⟩, ⟨by (with_reducible repeat (first | refine blk_drewN ?_ _ | refine blk_drew ?_ | refine blk_alloc ?_ _)); exact BK431.out⟩, ⟨by (with_reducible repeat (first | refine blk_drewN ?_ _ | refine blk_drew ?_ | refine blk_alloc ?_ _)); exact BK445.out⟩, ⟨by repeat (first | (with_reducible first | exact HI434.out | apply IsS148.alloc | apply IsS148.drewN | apply IsS148.drew | apply IsS148.set_1 | refine IsS148.far ?_ NB434_431.out _ | refine IsS148.far ?_ NB434_445.out _) | exact HI434.out)⟩, ⟨by repeat (first | (with_reducible first | exact HB.out | apply below_alloc | apply pw_below_drewN | apply below_drew1 | refine below_set ?_ (IsS148.ge HI434.out) | refine below_set ?_ GE431.out | refine below_set ?_ GE445.out) | exact HB.out)⟩⟩
    · rw [if_neg c15] at H
      have c15b0 : decide (0 < (t435.length : Int)) = false := decide_eq_false c15
      have c15b1 : decide (0 < t435.length) = false := decide_eq_false (by omega)
      clear c15
      (first | rw [c15b0] | (simp only [i64_w, i32_w]; rw [c15b0]) | skip)
      have H' := Aside0.mk H
      clear H
      obtain ⟨Ao19, co19, eo19⟩ := Kd.S_slice HO437.out
      subst eo19
      go_wp2
      go_meet
      case rel => exact ⟨_, (false), (t444), (by first | rfl | (simp; done) | (simp [*]; done)), H', ⟨by first | omega | exact Nat.le_refl _⟩, ⟨by (with_reducible repeat (first | apply Kd.S_alloc | apply Kd.S_drewN | apply Kd.S_drew)); exact Kd.S_mono (Kd.S_far (p := ⟨gb445, 2, none⟩) (Kd.S_far (p := ⟨gb445, 1, none⟩) (Kd.S_far (p := ⟨gb445, 0, none⟩) (Kd.S_mono HO437.out (fun k_ hk => (⟨hk, hk.2⟩ : _ ∧ k_ ≠ gb445))) (fun _ hk => hk.2) (.int .i64 t439)) (fun _ hk => hk.2) (.slice Ao14 t440.length co14)) (fun _ hk => hk.2) (.int .i64 t443)) (fun _ hk => ⟨hk.1.1.2, ⟨hk.1.1.1.2, hk.1.2⟩⟩)⟩, ⟨by (with_reducible repeat (first | apply Kd.R_alloc | apply Kd.R_drewN | apply Kd.R_drew)); exact Kd.R_mono (Kd.R_far (p := ⟨gb445, 2, none⟩) (Kd.R_far (p := ⟨gb445, 1, none⟩) (Kd.R_far (p := ⟨gb445, 0, none⟩) (Kd.R_types HO442.out BK445.out (by decide)) (fun _ hk => hk.2) (.int .i64 t439)) (fun _ hk => hk.2) (.slice Ao14 t440.length co14)) (fun _ hk => hk.2) (.int .i64 t443)) (fun _ hk => trivial)⟩, ⟨by (with_reducible repeat (first | refine blk_drewN ?_ _ | refine blk_drew ?_ | refine blk_alloc ?_ _)); refine blk_far ?_ NB431_445.out _; (with_reducible repeat (first | refine blk_drewN ?_ _ | refine blk_drew ?_ | refine blk_alloc ?_ _)); refine blk_far ?_ NB431_445.out _; (with_reducible repeat (first | refine blk_drewN ?_ _ | refine blk_drew ?_ | refine blk_alloc ?_ _)); refine blk_far ?_ NB431_445.out _; (with_reducible repeat (first | refine blk_drewN ?_ _ | refine blk_drew ?_ | refine blk_alloc ?_ _)); exact BK431.out⟩, ⟨by (with_reducible repeat (first | refine blk_drewN ?_ _ | refine blk_drew ?_ | refine blk_alloc ?_ _)); refine blk_put (cs := #[.int .i64 t439, .slice Ao14 t440.length co14, .int .i64 0]) ?_ 2 _ rfl; (with_reducible repeat (first | refine blk_drewN ?_ _ | refine blk_drew ?_ | refine blk_alloc ?_ _)); refine blk_put (cs := #[.int .i64 t439, .slice none 0 0, .int .i64 0]) ?_ 1 _ rfl; (with_reducible repeat (first | refine blk_drewN ?_ _ | refine blk_drew ?_ | refine blk_alloc ?_ _)); refine blk_put (cs := #[.int .i64 0, .slice none 0 0, .int .i64 0]) ?_ 0 _ rfl; (with_reducible repeat (first | refine blk_drewN ?_ _ | refine blk_drew ?_ | refine blk_alloc ?_ _)); exact BK445.out⟩, ⟨by repeat (first | (with_reducible first | exact HI434.out | apply IsS148.alloc | apply IsS148.drewN | apply IsS148.drew | apply IsS148.set_1 | refine IsS148.far ?_ NB434_431.out _ | refine IsS148.far ?_ NB434_445.out _) | exact HI434.out)⟩, ⟨by repeat (first | (with_reducible first | exact HB.out | apply below_alloc | apply pw_below_drewN | apply below_drew1 | refine below_set ?_ (IsS148.ge HI434.out) | refine below_set ?_ GE431.out | refine below_set ?_ GE445.out) | exact HB.out)⟩⟩
  case rest =>
    clear HC5
    try clear c1
    try clear p2
    try clear c6
    try clear c7
    try clear c11
    try clear c12
    try clear c15
    try clear c15b0
    try clear c15b1
    try clear hcz13_0
    try clear hcz13_1
    try clear hcz13_2
    try clear hfz13_0
    try clear hfz13_1
    try clear hfz13_2
    obtain ⟨kq, x21_4, x435001_4, rfl, HA, HJ4, HO_5, HO_446001, BK431, BK445, HI434, HB⟩ := hcut
    cases kq with
    | zero => exact absurd HA.out (by simp [spec_DrawTracesPut.j0])
    | succ kj4 =>
      have H := HA.out
      clear HA
      simp only [spec_DrawTracesPut.j0] at H
      have HC20 := Aside0.mk H
      clear H
      go_upto_if 21 with (fail)
      go_cut [] (fun wc => ∃ (kq : Nat) (x435001_19 : Int) (x446000_19 : Int) (x446001_19 : List (S117)) (x446002_19 : Int) (u446001 : Value), Aside0 (spec_DrawTracesPut.j1 kq t435 t432 x435001_19 x446000_19 x446001_19 x446002_19 = some (r1, r2, r3, r4)) ∧ Aside0 (kq ≤ kj4) ∧ Aside0 (Kd.S k87 87 wc w.heap.size (fun k_ => True ∧ k_ ≠ gb431 ∧ k_ ≠ gb445) v436 t435) ∧ Aside0 (Kd.R k117 117 wc w.heap.size (fun _ => True) u446001 x446001_19) ∧ Aside0 (wc.heap[gb431]? = some (.cells #[.int .i64 0, (.slice none 0 0), .int .i64 0] 87 (0, 0))) ∧ Aside0 (wc.heap[gb445]? = some (.cells #[.int .i64 x446000_19, u446001, .int .i64 x446002_19] 87 (0, 0))) ∧ Aside0 (IsS148 w wc g434 t432 x435001_19) ∧ Aside0 (Below w.heap.size w wc))
      case first =>
        have H := HC20.out
        clear HC20
        by_cases c21 : x21_4 = true
        · subst c21
          have H1 : ((spec_l6Rd_pick.f kj4 t432 x435001_4 (t435.length : Int)).bind fun bq_ => (if 0 ≤ bq_.1 then (if bq_.1 < (t435.length : Int) then (spec_DrawTracesPut.j1 kj4 t435 t432 bq_.2 ((rd_T87 t435 bq_.1).f0) ((rd_T87 t435 bq_.1).f1) ((rd_T87 t435 bq_.1).f2)) else (none)) else (none))) = some (r1, r2, r3, r4) := by rw [if_pos rfl] at H; exact H
          clear H
          have H := H1
          clear H1
          replace H := Option.bind_eq_some_iff.mp H
          obtain ⟨⟨t448, t449⟩, A220, H⟩ := H
          replace H : (if 0 ≤ t448 then (if t448 < (t435.length : Int) then (spec_DrawTracesPut.j1 kj4 t435 t432 t449 ((rd_T87 t435 t448).f0) ((rd_T87 t435 t448).f1) ((rd_T87 t435 t448).f2)) else (none)) else (none)) = some (r1, r2, r3, r4) := H
          have A22 := Aside0.mk A220
          clear A220
          by_cases cI0 : 0 ≤ t448
          · by_cases cI1 : t448 < (t435.length : Int)
            · rw [if_pos cI0, if_pos cI1] at H
              have H' := Aside0.mk H
              have CI := Aside0.mk (And.intro cI0 cI1)
              clear H cI0 cI1
              obtain ⟨Ao24, co24, eo24⟩ := Kd.S_slice HO_5.out
              subst eo24
              go_wp2_with (first | ((with_reducible refine gate_callee (f := 103) rfl ?_); refine goesL_ (some 26) rfl rfl Try.func103 (by kernel_rfl) rfl #[.pointer (some ⟨g434, 0, none⟩), .int .i64 (t435.length : Int)] rfl (by (try simp only [List.map_toArray, List.map_cons, List.map_nil]); first | done | rfl | (simp only [List.length_drop, List.length_take]; rfl)) ?_; (with_reducible refine (spec_l6Rd_pick.calls kj4 g434 t432 x435001_4 (t435.length : Int) t448 t449 w _ ?side1 ?side2 A22.out).mono ?_); (case side1 => repeat (first | (with_reducible first | exact HI434.out | apply IsS148.alloc | apply IsS148.drewN | apply IsS148.drew | apply IsS148.set_1 | refine IsS148.far ?_ NB434_431.out _ | refine IsS148.far ?_ NB434_445.out _) | exact HI434.out)); (case side2 => repeat (first | (with_reducible first | exact HB.out | apply below_alloc | apply pw_below_drewN | apply below_drew1 | refine below_set ?_ (IsS148.ge HI434.out) | refine below_set ?_ GE431.out | refine below_set ?_ GE445.out) | exact HB.out)); rintro e w25 ⟨rfl, hi, hb, hk⟩; refine ⟨_, rfl, ?_⟩; have n0_ := Aside0.mk (Kd.S_mono (Kd.S_keep (IsS148.apartS (show IsS148 w _ g434 t432 x435001_4 from by repeat (first | (with_reducible first | exact HI434.out | apply IsS148.alloc | apply IsS148.drewN | apply IsS148.drew | apply IsS148.set_1 | refine IsS148.far ?_ NB434_431.out _ | refine IsS148.far ?_ NB434_445.out _) | exact HI434.out)) (by (with_reducible repeat (first | apply Kd.S_alloc | apply Kd.S_drewN | apply Kd.S_drew)); exact HO_5.out) (by decide)) hk (fun _ h => h.2)) (fun _ h => h.1)); have n1_ := Aside0.mk (Kd.R_mono (Kd.R_keep (IsS148.apart (show IsS148 w _ g434 t432 x435001_4 from by repeat (first | (with_reducible first | exact HI434.out | apply IsS148.alloc | apply IsS148.drewN | apply IsS148.drew | apply IsS148.set_1 | refine IsS148.far ?_ NB434_431.out _ | refine IsS148.far ?_ NB434_445.out _) | exact HI434.out)) (by (with_reducible repeat (first | apply Kd.R_alloc | apply Kd.R_drewN | apply Kd.R_drew)); exact HO_446001.out) (by decide)) hk (fun _ h => h.2)) (fun _ h => h.1)); have n2_ := Aside0.mk (KeepBut.blk hk (g' := gb431) (o := .cells #[.int .i64 0, .slice none 0 0, .int .i64 0] 87 (0, 0)) (by (with_reducible repeat (first | refine blk_drewN ?_ _ | refine blk_drew ?_ | refine blk_alloc ?_ _)); exact BK431.out) NB431_434.out (by simp)); have n3_ := Aside0.mk (KeepBut.blk hk (g' := gb445) (o := .cells #[.int .i64 t439, .slice Ao14 t440.length co14, .int .i64 t443] 87 (0, 0)) (by (with_reducible repeat (first | refine blk_drewN ?_ _ | refine blk_drew ?_ | refine blk_alloc ?_ _)); exact BK445.out) NB445_434.out (by simp)); have n4_ := Aside0.mk (hb); have n5_ := Aside0.mk (hi); clear HO_5; clear HO_446001; clear BK431; clear BK445; clear HB; clear HI434; have HO_5 := n0_; have HO_446001 := n1_; have BK431 := n2_; have BK445 := n3_; have HB := n4_; have HI434 := n5_; clear n0_ n1_ n2_ n3_ n4_ n5_; (try clear hb); (try clear hb2); (try clear hk); (try clear hi); have pI := CI.out.1; have qI := CI.out.2; obtain ⟨adI, AI, cI_, eI, hxI_0, hxI_1, hxI_2, hlI, hiI⟩ := at_T87 (Kd.S_reads' HO_5.out).2.2 t448 pI qI; cases eI; obtain ⟨ceI, hceI, hMeI, hccI⟩ := Kd.S_get HO_5.out z87 t448 pI qI; obtain ⟨veI, rfl, geI⟩ := k87_openM hMeI; have hvI := hccI 1 _ rfl; rw [add_field _ _ 1 (by omega)] at hvI; replace hvI := Option.some.inj (hvI.symm.trans hxI_1); rw [hvI] at geI; have HLI := Aside0.mk (show Kd.R k117 117 _ _ _ _ ((rd_T87 t435 t448).f1) from geI); clear hvI geI hccI hceI hiI hlI; replace pI := eq_true pI; replace qI := eq_true qI; have hnb27 := NB445_431.out; have hnc27 := NB431_445.out; have hnb28 := NB445_434.out; have hnc28 := NB434_445.out; have hcz29_0 : w25.cell? ⟨gb445, 0, none⟩ = some (.int .i64 t439) := (blk_cell BK445.out 0).trans rfl; have hcz29_1 : w25.cell? ⟨gb445, 1, none⟩ = some (.slice Ao14 t440.length co14) := (blk_cell BK445.out 1).trans rfl; have hcz29_2 : w25.cell? ⟨gb445, 2, none⟩ = some (.int .i64 t443) := (blk_cell BK445.out 2).trans rfl; have hfz29_0 := blk_frozen BK445.out 0; have hfz29_1 := blk_frozen BK445.out 1; have hfz29_2 := blk_frozen BK445.out 2))
              go_meet
              case rel => exact ⟨_, (t449), ((rd_T87 t435 t448).f0), ((rd_T87 t435 t448).f1), ((rd_T87 t435 t448).f2), (.slice AI ((rd_T87 t435 t448).f1).length cI_), H', ⟨by have := HJ4.out; first | omega | exact Nat.le_refl _⟩, ⟨by (with_reducible repeat (first | apply Kd.S_alloc | apply Kd.S_drewN | apply Kd.S_drew)); exact Kd.S_mono (Kd.S_far (p := ⟨gb445, 2, none⟩) (Kd.S_far (p := ⟨gb445, 1, none⟩) (Kd.S_far (p := ⟨gb445, 0, none⟩) (Kd.S_mono HO_5.out (fun k_ hk => (⟨hk, hk.2.2⟩ : _ ∧ k_ ≠ gb445))) (fun _ hk => hk.2) (.int .i64 ((rd_T87 t435 t448).f0))) (fun _ hk => hk.2) (.slice AI ((rd_T87 t435 t448).f1).length cI_)) (fun _ hk => hk.2) (.int .i64 ((rd_T87 t435 t448).f2))) (fun _ hk => ⟨trivial, ⟨hk.1.2.1, hk.1.2.2⟩⟩)⟩, ⟨by (with_reducible repeat (first | apply Kd.R_alloc | apply Kd.R_drewN | apply Kd.R_drew)); exact Kd.R_mono (Kd.R_far (p := ⟨gb445, 2, none⟩) (Kd.R_far (p := ⟨gb445, 1, none⟩) (Kd.R_far (p := ⟨gb445, 0, none⟩) (Kd.R_types HLI.out BK445.out (by decide)) (fun _ hk => hk.2) (.int .i64 ((rd_T87 t435 t448).f0))) (fun _ hk => hk.2) (.slice AI ((rd_T87 t435 t448).f1).length cI_)) (fun _ hk => hk.2) (.int .i64 ((rd_T87 t435 t448).f2))) (fun _ hk => trivial)⟩, ⟨by (with_reducible repeat (first | refine blk_drewN ?_ _ | refine blk_drew ?_ | refine blk_alloc ?_ _)); refine blk_far ?_ NB431_445.out _; (with_reducible repeat (first | refine blk_drewN ?_ _ | refine blk_drew ?_ | refine blk_alloc ?_ _)); refine blk_far ?_ NB431_445.out _; (with_reducible repeat (first | refine blk_drewN ?_ _ | refine blk_drew ?_ | refine blk_alloc ?_ _)); refine blk_far ?_ NB431_445.out _; (with_reducible repeat (first | refine blk_drewN ?_ _ | refine blk_drew ?_ | refine blk_alloc ?_ _)); exact BK431.out⟩, ⟨by (with_reducible repeat (first | refine blk_drewN ?_ _ | refine blk_drew ?_ | refine blk_alloc ?_ _)); refine blk_put (cs := #[.int .i64 ((rd_T87 t435 t448).f0), .slice AI ((rd_T87 t435 t448).f1).length cI_, .int .i64 t443]) ?_ 2 _ rfl; (with_reducible repeat (first | refine blk_drewN ?_ _ | refine blk_drew ?_ | refine blk_alloc ?_ _)); refine blk_put (cs := #[.int .i64 ((rd_T87 t435 t448).f0), .slice Ao14 t440.length co14, .int .i64 t443]) ?_ 1 _ rfl; (with_reducible repeat (first | refine blk_drewN ?_ _ | refine blk_drew ?_ | refine blk_alloc ?_ _)); refine blk_put (cs := #[.int .i64 t439, .slice Ao14 t440.length co14, .int .i64 t443]) ?_ 0 _ rfl; (with_reducible repeat (first | refine blk_drewN ?_ _ | refine blk_drew ?_ | refine blk_alloc ?_ _)); exact BK445.out⟩, ⟨by repeat (first | (with_reducible first | exact HI434.out | apply IsS148.alloc | apply IsS148.drewN | apply IsS148.drew | apply IsS148.set_1 | refine IsS148.far ?_ NB434_431.out _ | refine IsS148.far ?_ NB434_445.out _) | exact HI434.out)⟩, ⟨by repeat (first | (with_reducible first | exact HB.out | apply below_alloc | apply pw_below_drewN | apply below_drew1 | refine below_set ?_ (IsS148.ge HI434.out) | refine below_set ?_ GE431.out | refine below_set ?_ GE445.out) | exact HB.out)⟩⟩
            · rw [if_pos cI0, if_neg cI1] at H; cases H
          · rw [if_neg cI0] at H; cases H
        · replace c21 := Bool.eq_false_iff.mpr c21
          subst c21
          have H1 : (spec_DrawTracesPut.j1 kj4 t435 t432 x435001_4 t439 t440 t443) = some (r1, r2, r3, r4) := by rw [if_neg (show ¬ (false = true) by decide)] at H; exact H
          clear H
          have H := H1
          clear H1
          have H' := Aside0.mk H
          clear H
          go_wp2
          go_meet
          case rel => exact ⟨_, (x435001_4), (t439), (t440), (t443), (.slice Ao14 t440.length co14), H', ⟨by have := HJ4.out; first | omega | exact Nat.le_refl _⟩, ⟨by (with_reducible repeat (first | apply Kd.S_alloc | apply Kd.S_drewN | apply Kd.S_drew)); exact Kd.S_mono HO_5.out (fun _ hk => ⟨trivial, hk.2⟩)⟩, ⟨by (with_reducible repeat (first | apply Kd.R_alloc | apply Kd.R_drewN | apply Kd.R_drew)); exact HO_446001.out⟩, ⟨by (with_reducible repeat (first | refine blk_drewN ?_ _ | refine blk_drew ?_ | refine blk_alloc ?_ _)); exact BK431.out⟩, ⟨by (with_reducible repeat (first | refine blk_drewN ?_ _ | refine blk_drew ?_ | refine blk_alloc ?_ _)); exact BK445.out⟩, ⟨by repeat (first | (with_reducible first | exact HI434.out | apply IsS148.alloc | apply IsS148.drewN | apply IsS148.drew | apply IsS148.set_1 | refine IsS148.far ?_ NB434_431.out _ | refine IsS148.far ?_ NB434_445.out _) | exact HI434.out)⟩, ⟨by repeat (first | (with_reducible first | exact HB.out | apply below_alloc | apply pw_below_drewN | apply below_drew1 | refine below_set ?_ (IsS148.ge HI434.out) | refine below_set ?_ GE431.out | refine below_set ?_ GE445.out) | exact HB.out)⟩⟩
      case rest =>
        clear HC20
        try clear c1
        try clear c2
        try clear p2
        try clear c6
        try clear c7
        try clear c10
        try clear c11
        try clear c12
        try clear c15
        try clear c15b0
        try clear c15b1
        try clear c21
        try clear c27
        try clear c28
        try clear hcz13_0
        try clear hcz13_1
        try clear hcz13_2
        try clear hcz29_0
        try clear hcz29_1
        try clear hcz29_2
        try clear hfz13_0
        try clear hfz13_1
        try clear hfz13_2
        try clear hfz29_0
        try clear hfz29_1
        try clear hfz29_2
        try clear p2
        obtain ⟨kq, x435001_19, x446000_19, x446001_19, x446002_19, u446001, HA, HJ19, HO_5, HO_446001, BK431, BK445, HI434, HB⟩ := hcut
        cases kq with
        | zero => exact absurd HA.out (by simp [spec_DrawTracesPut.j1])
        | succ kj19 =>
          have H := HA.out
          clear HA
          simp only [spec_DrawTracesPut.j1] at H
          have H' := Aside0.mk H
          clear H
          go_wp2
          go_loopg [5, 7] kj19 (fun kq v5 v7 w' => ∃ (x5_3 : List (S87)) (x7_3 : Int) (x435001_3 : Int), v7 = .int .i64 x7_3 ∧ Aside0 (spec_DrawTracesPut.l0 kq x5_3 x7_3 t432 x435001_3 x446000_19 x446001_19 x446002_19 = some (r1, r2, r3, r4)) ∧ Aside0 (kq ≤ kj19) ∧ Aside0 (Kd.S k87 87 w' w.heap.size (fun k_ => True ∧ k_ ≠ gb431 ∧ k_ ≠ gb445) v5 x5_3) ∧ Aside0 (Kd.R k117 117 w' w.heap.size (fun _ => True) u446001 x446001_19) ∧ Aside0 (w'.heap[gb431]? = some (.cells #[.int .i64 0, (.slice none 0 0), .int .i64 0] 87 (0, 0))) ∧ Aside0 (w'.heap[gb445]? = some (.cells #[.int .i64 x446000_19, u446001, .int .i64 x446002_19] 87 (0, 0))) ∧ Aside0 (IsS148 w w' g434 t432 x435001_3) ∧ Aside0 (Below w.heap.size w w'))
          case atStart => exact ⟨(t435), (0), (x435001_19), (by first | rfl | (simp; done) | (simp [*]; done)), H', ⟨Nat.le_refl _⟩, ⟨by (with_reducible repeat (first | apply Kd.S_alloc | apply Kd.S_drewN | apply Kd.S_drew)); exact HO_5.out⟩, ⟨by (with_reducible repeat (first | apply Kd.R_alloc | apply Kd.R_drewN | apply Kd.R_drew)); exact HO_446001.out⟩, ⟨by (with_reducible repeat (first | refine blk_drewN ?_ _ | refine blk_drew ?_ | refine blk_alloc ?_ _)); exact BK431.out⟩, ⟨by (with_reducible repeat (first | refine blk_drewN ?_ _ | refine blk_drew ?_ | refine blk_alloc ?_ _)); exact BK445.out⟩, ⟨by repeat (first | (with_reducible first | exact HI434.out | apply IsS148.alloc | apply IsS148.drewN | apply IsS148.drew | apply IsS148.set_1 | refine IsS148.far ?_ NB434_431.out _ | refine IsS148.far ?_ NB434_445.out _) | exact HI434.out)⟩, ⟨by repeat (first | (with_reducible first | exact HB.out | apply below_alloc | apply pw_below_drewN | apply below_drew1 | refine below_set ?_ (IsS148.ge HI434.out) | refine below_set ?_ GE431.out | refine below_set ?_ GE445.out) | exact HB.out)⟩⟩
          case round =>
            clear H'
            try clear c1
            try clear c2
            try clear p2
            try clear c6
            try clear c7
            try clear c10
            try clear c11
            try clear c12
            try clear c15
            try clear c15b0
            try clear c15b1
            try clear c21
            try clear c27
            try clear c28
            try clear hcz13_0
            try clear hcz13_1
            try clear hcz13_2
            try clear hcz29_0
            try clear hcz29_1
            try clear hcz29_2
            try clear hfz13_0
            try clear hfz13_1
            try clear hfz13_2
            try clear hfz29_0
            try clear hfz29_1
            try clear hfz29_2
            try clear p2
            obtain ⟨x5_3, x7_3, x435001_3, rfl, HA, HK3, HO_5, HO_446001, BK431, BK445, HI434, HB⟩ := hrel
            cases gk with
            | zero => exact absurd HA.out (by simp [spec_DrawTracesPut.l0])
            | succ k3 =>
              have H := HA.out
              clear HA
              simp only [spec_DrawTracesPut.l0] at H
              by_cases c31 : x7_3 < 60
              · rw [if_pos c31] at H
                have c31b0 : decide (x7_3 < 60) = true := decide_eq_true c31
                clear c31
                replace H := Option.bind_eq_some_iff.mp H
                obtain ⟨⟨t456, t457⟩, A320, H⟩ := H
                replace H : (if t456 = 0 then (if x5_3.length < 3518437208883 then (spec_DrawTracesPut.l0 k3 (x5_3 ++ [(⟨Int.tmod x7_3 10, ([] : List (S117)), x7_3⟩ : S87)]) (wrap64 (x7_3 + 1)) t432 t457 x446000_19 x446001_19 x446002_19) else (none)) else (some (x5_3, x446000_19, x446001_19, x446002_19))) = some (r1, r2, r3, r4) := H
                have A32 := Aside0.mk A320
                clear A320
                by_cases c33 : t456 = 0
                · rw [if_pos c33] at H
                  have c33b0 : (t456 == 0) = true := beq_iff_eq.mpr c33
                  have c33b1 : (t456 != 0) = false := bne_eq_false_iff_eq.mpr c33
                  clear c33
                  by_cases c34 : x5_3.length < 3518437208883
                  · rw [if_pos c34] at H
                    have LMc34 := Aside0.mk c34
                    clear c34
                    obtain ⟨y458, hy458⟩ : ∃ y_ : List (S87), y_ = (x5_3 ++ [(⟨Int.tmod x7_3 10, ([] : List (S117)), x7_3⟩ : S87)]) := ⟨_, rfl⟩
                    replace H : (spec_DrawTracesPut.l0 k3 y458 (wrap64 (x7_3 + 1)) t432 t457 x446000_19 x446001_19 x446002_19) = some (r1, r2, r3, r4) := by first | (rw [hy458]; with_reducible exact H) | (have H2_ := (Option.bind_some _ _).symm.trans H; rw [hy458]; with_reducible exact H2_) | (have H2_ := (Option.bind_some _ _).symm.trans H; with_reducible exact H2_) | with_reducible exact H | (rw [hy458]; exact H) | exact H
                    have Ny458 := Aside0.mk hy458
                    clear hy458
                    have H' := Aside0.mk H
                    clear H
                    go_wp2_with (first | (go_at_call 103; (with_reducible refine (spec_l6Rd_pick.calls k3 g434 t432 x435001_3 400 t456 t457 w _ ?side1 ?side2 A32.out).mono ?_); (case side1 => repeat (first | (with_reducible first | exact HI434.out | apply IsS148.alloc | apply IsS148.drewN | apply IsS148.drew | apply IsS148.set_1 | refine IsS148.far ?_ NB434_431.out _ | refine IsS148.far ?_ NB434_445.out _) | exact HI434.out)); (case side2 => repeat (first | (with_reducible first | exact HB.out | apply below_alloc | apply pw_below_drewN | apply below_drew1 | refine below_set ?_ (IsS148.ge HI434.out) | refine below_set ?_ GE431.out | refine below_set ?_ GE445.out) | exact HB.out)); rintro e w35 ⟨rfl, hi, hb, hk⟩; have n0_ := Aside0.mk (Kd.S_mono (Kd.S_keep (IsS148.apartS (show IsS148 w _ g434 t432 x435001_3 from by repeat (first | (with_reducible first | exact HI434.out | apply IsS148.alloc | apply IsS148.drewN | apply IsS148.drew | apply IsS148.set_1 | refine IsS148.far ?_ NB434_431.out _ | refine IsS148.far ?_ NB434_445.out _) | exact HI434.out)) (by (with_reducible repeat (first | apply Kd.S_alloc | apply Kd.S_drewN | apply Kd.S_drew)); exact HO_5.out) (by decide)) hk (fun _ h => h.2)) (fun _ h => h.1)); have n1_ := Aside0.mk (Kd.R_mono (Kd.R_keep (IsS148.apart (show IsS148 w _ g434 t432 x435001_3 from by repeat (first | (with_reducible first | exact HI434.out | apply IsS148.alloc | apply IsS148.drewN | apply IsS148.drew | apply IsS148.set_1 | refine IsS148.far ?_ NB434_431.out _ | refine IsS148.far ?_ NB434_445.out _) | exact HI434.out)) (by (with_reducible repeat (first | apply Kd.R_alloc | apply Kd.R_drewN | apply Kd.R_drew)); exact HO_446001.out) (by decide)) hk (fun _ h => h.2)) (fun _ h => h.1)); have n2_ := Aside0.mk (KeepBut.blk hk (g' := gb431) (o := .cells #[.int .i64 0, .slice none 0 0, .int .i64 0] 87 (0, 0)) (by (with_reducible repeat (first | refine blk_drewN ?_ _ | refine blk_drew ?_ | refine blk_alloc ?_ _)); exact BK431.out) NB431_434.out (by simp)); have n3_ := Aside0.mk (KeepBut.blk hk (g' := gb445) (o := .cells #[.int .i64 x446000_19, u446001, .int .i64 x446002_19] 87 (0, 0)) (by (with_reducible repeat (first | refine blk_drewN ?_ _ | refine blk_drew ?_ | refine blk_alloc ?_ _)); exact BK445.out) NB445_434.out (by simp)); have n4_ := Aside0.mk (hb); have n5_ := Aside0.mk (hi); clear HO_5; clear HO_446001; clear BK431; clear BK445; clear HB; clear HI434; have HO_5 := n0_; have HO_446001 := n1_; have BK431 := n2_; have BK445 := n3_; have HB := n4_; have HI434 := n5_; clear n0_ n1_ n2_ n3_ n4_ n5_; (try clear hb); (try clear hb2); (try clear hk); (try clear hi)) | ((with_reducible refine gate_builtin (b := .append) (xs := #[.tmp 38, .tmp 43]) rfl ?_); at_builtin; refine Kd.S_append k87 (w0 := w) w.heap.size rfl (.tmp 38) (.tmp 43) 58 87 (.agg #[(.int .i64 0), (.slice none 0 0), (.int .i64 0)]) 40 rfl Try.underlying58 info87 rfl (by decide) (by omega) u5 x5_3 (⟨Int.tmod x7_3 10, ([] : List (S117)), x7_3⟩ : S87) [.int .i64 (Int.tmod x7_3 10), .slice none 0 0, .int .i64 x7_3] (fun k_ => True ∧ k_ ≠ gb431 ∧ k_ ≠ gb445) (fun _ => False) rfl rfl ?aP (fun k_ hk_ => hk_.elim) ?aF ?aO ?aB ?aS ?aL ?_; (case aP => exact k87_mkM _ _ _ (⟨Int.tmod x7_3 10, ([] : List (S117)), x7_3⟩ : S87) (Kd.R_nil _ _ _ _ _)); (case aB => exact (by repeat (first | (with_reducible first | exact HB.out | apply below_alloc | apply pw_below_drewN | apply below_drew1 | refine below_set ?_ (IsS148.ge HI434.out) | refine below_set ?_ GE431.out | refine below_set ?_ GE445.out) | exact HB.out))); (case aF => exact (fun k_ hk => ⟨trivial, Kd.freshB (g := gb431) (o := .cells #[.int .i64 0, .slice none 0 0, .int .i64 0] 87 (0, 0)) (by (with_reducible repeat (first | refine blk_drewN ?_ _ | refine blk_drew ?_ | refine blk_alloc ?_ _)); exact BK431.out) k_ hk, Kd.freshB (g := gb445) (o := .cells #[.int .i64 x446000_19, u446001, .int .i64 x446002_19] 87 (0, 0)) (by (with_reducible repeat (first | refine blk_drewN ?_ _ | refine blk_drew ?_ | refine blk_alloc ?_ _)); exact BK445.out) k_ hk⟩)); (case aO => exact (by (with_reducible repeat (first | apply Kd.S_alloc | apply Kd.S_drewN | apply Kd.S_drew)); exact Kd.S_mono HO_5.out (fun k_ hk => ⟨⟨hk.1, ⟨hk.2.1, hk.2.2⟩⟩, fun e_ => e_⟩))); (case aS => exact (below_size (by repeat (first | (with_reducible first | exact HB.out | apply below_alloc | apply pw_below_drewN | apply below_drew1 | refine below_set ?_ (IsS148.ge HI434.out) | refine below_set ?_ GE431.out | refine below_set ?_ GE445.out) | exact HB.out)))); (case aL => have := LMc34.out; omega); intro v459 w36 ho hb hg hat; rw [← Ny458.out] at ho; have n0_ := Aside0.mk (Kd.R_over' (by (with_reducible repeat (first | apply Kd.R_alloc | apply Kd.R_drewN | apply Kd.R_drew)); exact HO_446001.out) (Kd.S_typed (by (with_reducible repeat (first | apply Kd.S_alloc | apply Kd.S_drewN | apply Kd.S_drew)); exact HO_5.out)) (by decide) hg); have n1_ := Aside0.mk (blk_grown (g := gb431) (o := .cells #[.int .i64 0, .slice none 0 0, .int .i64 0] 87 (0, 0)) (by (with_reducible repeat (first | refine blk_drewN ?_ _ | refine blk_drew ?_ | refine blk_alloc ?_ _)); exact BK431.out) hg (Kd.S_away HO_5.out (fun _ hk => hk.2.1))); have n2_ := Aside0.mk (blk_grown (g := gb445) (o := .cells #[.int .i64 x446000_19, u446001, .int .i64 x446002_19] 87 (0, 0)) (by (with_reducible repeat (first | refine blk_drewN ?_ _ | refine blk_drew ?_ | refine blk_alloc ?_ _)); exact BK445.out) hg (Kd.S_away HO_5.out (fun _ hk => hk.2.2))); have n3_ := Aside0.mk (IsS148.grown (by repeat (first | (with_reducible first | exact HI434.out | apply IsS148.alloc | apply IsS148.drewN | apply IsS148.drew | apply IsS148.set_1 | refine IsS148.far ?_ NB434_431.out _ | refine IsS148.far ?_ NB434_445.out _) | exact HI434.out)) hg (IsS148.own_neS HI434.out HO_5.out (by decide))); have n4_ := Aside0.mk (hb); have n5_ := Aside0.mk (ho); clear HO_446001; clear BK431; clear BK445; clear HI434; clear HB; clear HO_5; have HO_446001 := n0_; have BK431 := n1_; have BK445 := n2_; have HI434 := n3_; have HB := n4_; have HO460 := n5_; clear n0_ n1_ n2_ n3_ n4_ n5_; clear ho hb hg hat))
                    go_roundg k3
                    case measure => have := HJ4.out; have := HJ19.out; have := HK3.out; omega
                    case rel => exact ⟨(y458), (wrap64 (x7_3 + 1)), (t457), (by first | rfl | (simp; done) | (simp [*]; done)), H', ⟨by have := HJ4.out; have := HJ19.out; have := HK3.out; omega⟩, ⟨by (with_reducible repeat (first | apply Kd.S_alloc | apply Kd.S_drewN | apply Kd.S_drew)); exact HO460.out⟩, ⟨by (with_reducible repeat (first | apply Kd.R_alloc | apply Kd.R_drewN | apply Kd.R_drew)); exact HO_446001.out⟩, ⟨by (with_reducible repeat (first | refine blk_drewN ?_ _ | refine blk_drew ?_ | refine blk_alloc ?_ _)); exact BK431.out⟩, ⟨by (with_reducible repeat (first | refine blk_drewN ?_ _ | refine blk_drew ?_ | refine blk_alloc ?_ _)); exact BK445.out⟩, ⟨by repeat (first | (with_reducible first | exact HI434.out | apply IsS148.alloc | apply IsS148.drewN | apply IsS148.drew | apply IsS148.set_1 | refine IsS148.far ?_ NB434_431.out _ | refine IsS148.far ?_ NB434_445.out _) | exact HI434.out)⟩, ⟨by repeat (first | (with_reducible first | exact HB.out | apply below_alloc | apply pw_below_drewN | apply below_drew1 | refine below_set ?_ (IsS148.ge HI434.out) | refine below_set ?_ GE431.out | refine below_set ?_ GE445.out) | exact HB.out)⟩⟩
                  · rw [if_neg c34] at H
                    exact absurd H (by simp)
                · rw [if_neg c33] at H
                  have c33b0 : (t456 == 0) = false := beq_eq_false_iff_ne.mpr c33
                  have c33b1 : (t456 != 0) = true := bne_iff_ne.mpr c33
                  simp only [Option.some.injEq, Prod.mk.injEq] at H
                  obtain ⟨rfl, rfl, rfl, rfl⟩ := H
                  try go_wp2_with (first | (go_at_call 103; (with_reducible refine (spec_l6Rd_pick.calls k3 g434 t432 x435001_3 400 t456 t457 w _ ?side1 ?side2 A32.out).mono ?_); (case side1 => repeat (first | (with_reducible first | exact HI434.out | apply IsS148.alloc | apply IsS148.drewN | apply IsS148.drew | apply IsS148.set_1 | refine IsS148.far ?_ NB434_431.out _ | refine IsS148.far ?_ NB434_445.out _) | exact HI434.out)); (case side2 => repeat (first | (with_reducible first | exact HB.out | apply below_alloc | apply pw_below_drewN | apply below_drew1 | refine below_set ?_ (IsS148.ge HI434.out) | refine below_set ?_ GE431.out | refine below_set ?_ GE445.out) | exact HB.out)); rintro e w37 ⟨rfl, hi, hb, hk⟩; have n0_ := Aside0.mk (Kd.S_mono (Kd.S_keep (IsS148.apartS (show IsS148 w _ g434 t432 x435001_3 from by repeat (first | (with_reducible first | exact HI434.out | apply IsS148.alloc | apply IsS148.drewN | apply IsS148.drew | apply IsS148.set_1 | refine IsS148.far ?_ NB434_431.out _ | refine IsS148.far ?_ NB434_445.out _) | exact HI434.out)) (by (with_reducible repeat (first | apply Kd.S_alloc | apply Kd.S_drewN | apply Kd.S_drew)); exact HO_5.out) (by decide)) hk (fun _ h => h.2)) (fun _ h => h.1)); have n1_ := Aside0.mk (Kd.R_mono (Kd.R_keep (IsS148.apart (show IsS148 w _ g434 t432 x435001_3 from by repeat (first | (with_reducible first | exact HI434.out | apply IsS148.alloc | apply IsS148.drewN | apply IsS148.drew | apply IsS148.set_1 | refine IsS148.far ?_ NB434_431.out _ | refine IsS148.far ?_ NB434_445.out _) | exact HI434.out)) (by (with_reducible repeat (first | apply Kd.R_alloc | apply Kd.R_drewN | apply Kd.R_drew)); exact HO_446001.out) (by decide)) hk (fun _ h => h.2)) (fun _ h => h.1)); have n2_ := Aside0.mk (KeepBut.blk hk (g' := gb431) (o := .cells #[.int .i64 0, .slice none 0 0, .int .i64 0] 87 (0, 0)) (by (with_reducible repeat (first | refine blk_drewN ?_ _ | refine blk_drew ?_ | refine blk_alloc ?_ _)); exact BK431.out) NB431_434.out (by simp)); have n3_ := Aside0.mk (KeepBut.blk hk (g' := gb445) (o := .cells #[.int .i64 x446000_19, u446001, .int .i64 x446002_19] 87 (0, 0)) (by (with_reducible repeat (first | refine blk_drewN ?_ _ | refine blk_drew ?_ | refine blk_alloc ?_ _)); exact BK445.out) NB445_434.out (by simp)); have n4_ := Aside0.mk (hb); have n5_ := Aside0.mk (hi); clear HO_5; clear HO_446001; clear BK431; clear BK445; clear HB; clear HI434; have HO_5 := n0_; have HO_446001 := n1_; have BK431 := n2_; have BK445 := n3_; have HB := n4_; have HI434 := n5_; clear n0_ n1_ n2_ n3_ n4_ n5_; (try clear hb); (try clear hb2); (try clear hk); (try clear hi)))
                  have n0_ := Aside0.mk (Kd.S_drew HO_5.out)
                  have n1_ := Aside0.mk (Kd.R_drew HO_446001.out)
                  have n2_ := Aside0.mk (blk_drew BK431.out)
                  have n3_ := Aside0.mk (blk_drew BK445.out)
                  have n4_ := Aside0.mk (IsS148.drew HI434.out)
                  have n5_ := Aside0.mk (below_drew1 HB.out)
                  clear HO_5
                  clear HO_446001
                  clear BK431
                  clear BK445
                  clear HI434
                  clear HB
                  have HO_5 := n0_
                  have HO_446001 := n1_
                  have BK431 := n2_
                  have BK445 := n3_
                  have HI434 := n4_
                  have HB := n5_
                  clear n0_ n1_ n2_ n3_ n4_ n5_
                  obtain ⟨Ao40, co40, eo40⟩ := Kd.R_slice HO_446001.out
                  (first | subst eo40 | (injection eo40 with f1_ f2_ f3_; have f4_ := f1_.symm; have f5_ := f3_.symm; clear f1_ f2_ f3_; subst f4_; subst f5_))
                  refine start_ (n := 4) (S := fun w' => w'.cell? ⟨gb445, 0, none⟩ = some (.int .i64 x446000_19) ∧ w'.cell? ⟨gb445, 1, none⟩ = some (.slice Ao40 x446001_19.length co40) ∧ w'.cell? ⟨gb445, 2, none⟩ = some (.int .i64 x446002_19)) (ds := []) #[false, false, false, false] (by kernel_rfl) rfl rfl ⟨(blk_cell BK445.out 0).trans rfl, (blk_cell BK445.out 1).trans rfl, (blk_cell BK445.out 2).trans rfl⟩ (fun hHeld => ?_)
                  generalize w37.drew = w38 at HO_5 HO_446001 BK431 BK445 HI434 HB hHeld ⊢
                  refine pure_ (i := 0) (N := some 45) (v := ?_) (a' := ?_) #[true, false, false, false] rfl rfl (by kernel_rfl) (fun _ _ _ h => h) (Or.inl ⟨by rfl, ?_⟩) ?_ ?_
                  rotate_left
                  · intro w'
                    go_simp
                    with_reducible rfl
                  rotate_left
                  · simp only [Act.put, List.setIfInBounds_toArray, List.set_cons_zero, List.set_cons_succ, i64_w, i32_w]
                    rfl
                  refine pure_ (i := 2) (N := some 2) (v := ?_) (a' := ?_) #[true, false, true, false] rfl rfl (by kernel_rfl) (fun _ _ _ h => h) (Or.inl ⟨by rfl, ?_⟩) ?_ ?_
                  rotate_left
                  · intro w'
                    go_simp
                    with_reducible rfl
                  rotate_left
                  · simp only [Act.put, List.setIfInBounds_toArray, List.set_cons_zero, List.set_cons_succ, i64_w, i32_w]
                    rfl
                  refine take_ (i := 1) (N := some 46) (v := ?_) (a' := ?_) #[true, true, true, false] rfl rfl (by kernel_rfl) (fun _ _ _ h => h) (Or.inl ⟨by rfl, ?_⟩) hHeld ?_ ?_
                  rotate_left
                  · rintro w' ⟨s0, s1, s2⟩
                    go_simp
                    with_reducible rfl
                  rotate_left
                  · simp only [Act.put, List.setIfInBounds_toArray, List.set_cons_zero, List.set_cons_succ, i64_w, i32_w]
                    rfl
                  refine one_ (i := 3) (N := none) #[true, true, true, true] rfl rfl (by kernel_rfl) (by decide) (fun K hK => ?_)
                  have hs39 : w38.cell? ⟨gb431, 0, none⟩ = some (.int .i64 0) := (blk_cell BK431.out 0).trans rfl
                  have hfs39 := blk_frozen BK431.out 0
                  have hns39_1 := NB445_431.out
                  have hms39_1 := NB431_445.out
                  have hs41 : w38.cell? ⟨gb431, 1, none⟩ = some (.slice none 0 0) := (blk_cell BK431.out 1).trans rfl
                  have hfs41 := blk_frozen BK431.out 1
                  have hns41_1 := NB445_431.out
                  have hms41_1 := NB431_445.out
                  have hs42 : w38.cell? ⟨gb431, 2, none⟩ = some (.int .i64 0) := (blk_cell BK431.out 2).trans rfl
                  have hfs42 := blk_frozen BK431.out 2
                  have hns42_1 := NB445_431.out
                  have hms42_1 := NB431_445.out
                  refine skip_ (w1 := ?_) (by rfl) rfl ?_ ?_
                  rotate_left
                  · go_simp
                    rfl
                  refine hK.out _ _ ⟨((cell_far (p := ⟨gb431, _, none⟩) NB445_431.out _).trans (((cell_far (p := ⟨gb431, _, none⟩) NB445_431.out _).trans (((cell_far (p := ⟨gb431, _, none⟩) NB445_431.out _).trans (hHeld.1)))))), ((cell_far (p := ⟨gb431, _, none⟩) NB445_431.out _).trans (((cell_far (p := ⟨gb431, _, none⟩) NB445_431.out _).trans (((cell_far (p := ⟨gb431, _, none⟩) NB445_431.out _).trans (hHeld.2.1)))))), ((cell_far (p := ⟨gb431, _, none⟩) NB445_431.out _).trans (((cell_far (p := ⟨gb431, _, none⟩) NB445_431.out _).trans (((cell_far (p := ⟨gb431, _, none⟩) NB445_431.out _).trans (hHeld.2.2))))))⟩ (fun hHeld => ?_)
                  clear hK K
                  refine done_ (by kernel_rfl) ?_
                  try go_wp2
                  refine bodyPost_ret (results_tc rfl _ _ gb431 87 #[.int .i64 x446000_19, .slice Ao40 x446001_19.length co40, .int .i64 x446002_19] (0, 0) _ rfl (by (with_reducible repeat (first | refine blk_drewN ?_ _ | refine blk_drew ?_ | refine blk_alloc ?_ _)); refine blk_put (cs := #[.int .i64 x446000_19, .slice Ao40 x446001_19.length co40, .int .i64 0]) ?_ 2 _ rfl; (with_reducible repeat (first | refine blk_drewN ?_ _ | refine blk_drew ?_ | refine blk_alloc ?_ _)); refine blk_put (cs := #[.int .i64 x446000_19, .slice none 0 0, .int .i64 0]) ?_ 1 _ rfl; (with_reducible repeat (first | refine blk_drewN ?_ _ | refine blk_drew ?_ | refine blk_alloc ?_ _)); refine blk_put (cs := #[.int .i64 0, .slice none 0 0, .int .i64 0]) ?_ 0 _ rfl; (with_reducible repeat (first | refine blk_drewN ?_ _ | refine blk_drew ?_ | refine blk_alloc ?_ _)); exact BK431.out) Try.underlying87 rfl (by kernel_rfl)) rfl ?_
                  exact ⟨_, _, by first | rfl | (simp [errW_none, errW_some] <;> rfl) | (simp [*, errW_none, errW_some] <;> rfl), by (with_reducible repeat (first | apply Kd.S_alloc | apply Kd.S_drewN | apply Kd.S_drew)); exact Kd.S_mono (Kd.S_far (p := ⟨gb431, 2, none⟩) (Kd.S_far (p := ⟨gb431, 1, none⟩) (Kd.S_far (p := ⟨gb431, 0, none⟩) (Kd.S_mono HO_5.out (fun k_ hk => (⟨hk, hk.2.1⟩ : _ ∧ k_ ≠ gb431))) (fun _ hk => hk.2) (.int .i64 x446000_19)) (fun _ hk => hk.2) (.slice Ao40 x446001_19.length co40)) (fun _ hk => hk.2) (.int .i64 x446002_19)) (fun _ hk => hk.1.1), by (with_reducible repeat (first | apply Kd.R_alloc | apply Kd.R_drewN | apply Kd.R_drew)); exact Kd.R_mono (Kd.R_far (p := ⟨gb431, 2, none⟩) (Kd.R_far (p := ⟨gb431, 1, none⟩) (Kd.R_far (p := ⟨gb431, 0, none⟩) (Kd.R_types HO_446001.out BK431.out (by decide)) (fun _ hk => hk.2) (.int .i64 x446000_19)) (fun _ hk => hk.2) (.slice Ao40 x446001_19.length co40)) (fun _ hk => hk.2) (.int .i64 x446002_19)) (fun _ hk => trivial), by repeat (first | (with_reducible first | exact HB.out | apply below_alloc | apply pw_below_drewN | apply below_drew1 | refine below_set ?_ (IsS148.ge HI434.out) | refine below_set ?_ GE431.out | refine below_set ?_ GE445.out) | exact HB.out)⟩
              · rw [if_neg c31] at H
                have c31b0 : decide (x7_3 < 60) = false := decide_eq_false c31
                clear c31
                simp only [Option.some.injEq, Prod.mk.injEq] at H
                obtain ⟨rfl, rfl, rfl, rfl⟩ := H
                try go_wp2
                have n0_ := Aside0.mk (Kd.S_drew HO_5.out)
                have n1_ := Aside0.mk (Kd.R_drew HO_446001.out)
                have n2_ := Aside0.mk (blk_drew BK431.out)
                have n3_ := Aside0.mk (blk_drew BK445.out)
                have n4_ := Aside0.mk (IsS148.drew HI434.out)
                have n5_ := Aside0.mk (below_drew1 HB.out)
                clear HO_5
                clear HO_446001
                clear BK431
                clear BK445
                clear HI434
                clear HB
                have HO_5 := n0_
                have HO_446001 := n1_
                have BK431 := n2_
                have BK445 := n3_
                have HI434 := n4_
                have HB := n5_
                clear n0_ n1_ n2_ n3_ n4_ n5_
                obtain ⟨Ao45, co45, eo45⟩ := Kd.R_slice HO_446001.out
                (first | subst eo45 | (injection eo45 with f1_ f2_ f3_; have f4_ := f1_.symm; have f5_ := f3_.symm; clear f1_ f2_ f3_; subst f4_; subst f5_))
                refine start_ (n := 4) (S := fun w' => w'.cell? ⟨gb445, 0, none⟩ = some (.int .i64 x446000_19) ∧ w'.cell? ⟨gb445, 1, none⟩ = some (.slice Ao45 x446001_19.length co45) ∧ w'.cell? ⟨gb445, 2, none⟩ = some (.int .i64 x446002_19)) (ds := []) #[false, false, false, false] (by kernel_rfl) rfl rfl ⟨(blk_cell BK445.out 0).trans rfl, (blk_cell BK445.out 1).trans rfl, (blk_cell BK445.out 2).trans rfl⟩ (fun hHeld => ?_)
                generalize wr.drew = w43 at HO_5 HO_446001 BK431 BK445 HI434 HB hHeld ⊢
                refine pure_ (i := 0) (N := some 45) (v := ?_) (a' := ?_) #[true, false, false, false] rfl rfl (by kernel_rfl) (fun _ _ _ h => h) (Or.inl ⟨by rfl, ?_⟩) ?_ ?_
                rotate_left
                · intro w'
                  go_simp
                  with_reducible rfl
                rotate_left
                · simp only [Act.put, List.setIfInBounds_toArray, List.set_cons_zero, List.set_cons_succ, i64_w, i32_w]
                  rfl
                refine pure_ (i := 2) (N := some 2) (v := ?_) (a' := ?_) #[true, false, true, false] rfl rfl (by kernel_rfl) (fun _ _ _ h => h) (Or.inl ⟨by rfl, ?_⟩) ?_ ?_
                rotate_left
                · intro w'
                  go_simp
                  with_reducible rfl
                rotate_left
                · simp only [Act.put, List.setIfInBounds_toArray, List.set_cons_zero, List.set_cons_succ, i64_w, i32_w]
                  rfl
                refine take_ (i := 1) (N := some 46) (v := ?_) (a' := ?_) #[true, true, true, false] rfl rfl (by kernel_rfl) (fun _ _ _ h => h) (Or.inl ⟨by rfl, ?_⟩) hHeld ?_ ?_
                rotate_left
                · rintro w' ⟨s0, s1, s2⟩
                  go_simp
                  with_reducible rfl
                rotate_left
                · simp only [Act.put, List.setIfInBounds_toArray, List.set_cons_zero, List.set_cons_succ, i64_w, i32_w]
                  rfl
                refine one_ (i := 3) (N := none) #[true, true, true, true] rfl rfl (by kernel_rfl) (by decide) (fun K hK => ?_)
                have hs44 : w43.cell? ⟨gb431, 0, none⟩ = some (.int .i64 0) := (blk_cell BK431.out 0).trans rfl
                have hfs44 := blk_frozen BK431.out 0
                have hns44_1 := NB445_431.out
                have hms44_1 := NB431_445.out
                have hs46 : w43.cell? ⟨gb431, 1, none⟩ = some (.slice none 0 0) := (blk_cell BK431.out 1).trans rfl
                have hfs46 := blk_frozen BK431.out 1
                have hns46_1 := NB445_431.out
                have hms46_1 := NB431_445.out
                have hs47 : w43.cell? ⟨gb431, 2, none⟩ = some (.int .i64 0) := (blk_cell BK431.out 2).trans rfl
                have hfs47 := blk_frozen BK431.out 2
                have hns47_1 := NB445_431.out
                have hms47_1 := NB431_445.out
                refine skip_ (w1 := ?_) (by rfl) rfl ?_ ?_
                rotate_left
                · go_simp
                  rfl
                refine hK.out _ _ ⟨((cell_far (p := ⟨gb431, _, none⟩) NB445_431.out _).trans (((cell_far (p := ⟨gb431, _, none⟩) NB445_431.out _).trans (((cell_far (p := ⟨gb431, _, none⟩) NB445_431.out _).trans (hHeld.1)))))), ((cell_far (p := ⟨gb431, _, none⟩) NB445_431.out _).trans (((cell_far (p := ⟨gb431, _, none⟩) NB445_431.out _).trans (((cell_far (p := ⟨gb431, _, none⟩) NB445_431.out _).trans (hHeld.2.1)))))), ((cell_far (p := ⟨gb431, _, none⟩) NB445_431.out _).trans (((cell_far (p := ⟨gb431, _, none⟩) NB445_431.out _).trans (((cell_far (p := ⟨gb431, _, none⟩) NB445_431.out _).trans (hHeld.2.2))))))⟩ (fun hHeld => ?_)
                clear hK K
                refine done_ (by kernel_rfl) ?_
                try go_wp2
                refine bodyPost_ret (results_tc rfl _ _ gb431 87 #[.int .i64 x446000_19, .slice Ao45 x446001_19.length co45, .int .i64 x446002_19] (0, 0) _ rfl (by (with_reducible repeat (first | refine blk_drewN ?_ _ | refine blk_drew ?_ | refine blk_alloc ?_ _)); refine blk_put (cs := #[.int .i64 x446000_19, .slice Ao45 x446001_19.length co45, .int .i64 0]) ?_ 2 _ rfl; (with_reducible repeat (first | refine blk_drewN ?_ _ | refine blk_drew ?_ | refine blk_alloc ?_ _)); refine blk_put (cs := #[.int .i64 x446000_19, .slice none 0 0, .int .i64 0]) ?_ 1 _ rfl; (with_reducible repeat (first | refine blk_drewN ?_ _ | refine blk_drew ?_ | refine blk_alloc ?_ _)); refine blk_put (cs := #[.int .i64 0, .slice none 0 0, .int .i64 0]) ?_ 0 _ rfl; (with_reducible repeat (first | refine blk_drewN ?_ _ | refine blk_drew ?_ | refine blk_alloc ?_ _)); exact BK431.out) Try.underlying87 rfl (by kernel_rfl)) rfl ?_
                exact ⟨_, _, by first | rfl | (simp [errW_none, errW_some] <;> rfl) | (simp [*, errW_none, errW_some] <;> rfl), by (with_reducible repeat (first | apply Kd.S_alloc | apply Kd.S_drewN | apply Kd.S_drew)); exact Kd.S_mono (Kd.S_far (p := ⟨gb431, 2, none⟩) (Kd.S_far (p := ⟨gb431, 1, none⟩) (Kd.S_far (p := ⟨gb431, 0, none⟩) (Kd.S_mono HO_5.out (fun k_ hk => (⟨hk, hk.2.1⟩ : _ ∧ k_ ≠ gb431))) (fun _ hk => hk.2) (.int .i64 x446000_19)) (fun _ hk => hk.2) (.slice Ao45 x446001_19.length co45)) (fun _ hk => hk.2) (.int .i64 x446002_19)) (fun _ hk => hk.1.1), by (with_reducible repeat (first | apply Kd.R_alloc | apply Kd.R_drewN | apply Kd.R_drew)); exact Kd.R_mono (Kd.R_far (p := ⟨gb431, 2, none⟩) (Kd.R_far (p := ⟨gb431, 1, none⟩) (Kd.R_far (p := ⟨gb431, 0, none⟩) (Kd.R_types HO_446001.out BK431.out (by decide)) (fun _ hk => hk.2) (.int .i64 x446000_19)) (fun _ hk => hk.2) (.slice Ao45 x446001_19.length co45)) (fun _ hk => hk.2) (.int .i64 x446002_19)) (fun _ hk => trivial), by repeat (first | (with_reducible first | exact HB.out | apply below_alloc | apply pw_below_drewN | apply below_drew1 | refine below_set ?_ (IsS148.ge HI434.out) | refine below_set ?_ GE431.out | refine below_set ?_ GE445.out) | exact HB.out)⟩
end Go.Proofs.Ytgbjbpjmbghlbaa.G
end
section
namespace Go.Proofs.Ytgbjbpjmbghlbaa.G
open Go.RowKit Go.Proofs.YtgbjbpjmbghlbaaW.PrintWords Go.Proofs.YtgbjbpjmbghlbaaW.PrintLast Go.Proofs.YtgbjbpjmbghlbaaW.PrintMore
attribute [local go_sem] max2_int min2_int max_two min_two max_three min_three max_four min_four
set_option linter.unusedVariables false
set_option linter.unusedSimpArgs false
mutual
def spec_l5One.j0 : Nat → Bool → Int → List (S117) → Int → Option (Bool)
  | 0, _, _, _, _ => none
  | k + 1, x19, x504000, x504001, x504002 => if x19 = true then (some false) else (spec_l5One.l0 k 0 x504000 x504001 x504002)
def spec_l5One.l0 : Nat → Int → Int → List (S117) → Int → Option (Bool)
  | 0, _, _, _, _ => none
  | k + 1, x3, x504000, x504001, x504002 => if x3 < (x504001.length : Int) then (if 0 ≤ x3 then ((spec_l6In.f ((rd_T117 x504001 x3).f0) 0 9).bind fun t510 => (if t510 = true then ((spec_l6In.f ((rd_T117 x504001 x3).f1) 0 96).bind fun t512 => (if t512 = true then (spec_l5One.l0 k (wrap64 (x3 + 1)) x504000 x504001 x504002) else (some false))) else (some false))) else (none)) else ((spec_l5Once.f k x504001).bind fun t506 => (some ((t506.length : Int) == (x504001.length : Int))))
end
def spec_l5One.f (k : Nat) (a0_0 : Int) (l0_1 : List (S117)) (a0_2 : Int) : Option (Bool) := if (l0_1.length : Int) > 10 then (spec_l5One.j0 k true a0_0 l0_1 a0_2) else ((spec_l6In.f a0_0 0 9).bind fun t504 => (if t504 = true then ((spec_l6In.f a0_2 0 96).bind fun t505 => (spec_l5One.j0 k (!t505) a0_0 l0_1 a0_2)) else (spec_l5One.j0 k true a0_0 l0_1 a0_2)))
def spec_l5One.T8 : Bool × List (List Nat × List Nat) := (true, [([], []), ([0], [0]), ([1], [1]), ([2], [2]), ([], []), ([4], [4]), ([5], [5]), ([3, 6], [3, 6]), ([7, 2, 0, 1, 2, 3, 4, 5, 6, 7], [7])])
def spec_l5One.B8 : List Nat := [0, 1, 3, 7, 0, 16, 48, 127, 255]
theorem spec_l5One.tab8 : rtab .any (opsOf Try.f108 8) = spec_l5One.T8 := by kernel_rfl
theorem spec_l5One.bits8 : waitsOk spec_l5One.T8.2 spec_l5One.B8 = true := by kernel_rfl
set_option maxHeartbeats 8000000 in
set_option maxRecDepth 100000 in
theorem spec_l5One.calls (k : Nat) (a0_0 : Int) (A0_1 : Option Addr) (c0_1 : Nat) (l0_1 : List (S117)) (a0_2 : Int) (r : Bool) (w : World) (hr0_1 : Kd.C k117 w A0_1 l0_1.length l0_1) (hc0_1 : l0_1.length ≤ c0_1) (h : spec_l5One.f k a0_0 l0_1 a0_2 = some r) :
    Calls Try.prog 108 #[.agg #[.int .i64 a0_0, .slice A0_1 l0_1.length c0_1, .int .i64 a0_2]] w fun e w' => e = .returned (.bool r) ∧ Below w.heap.size w w' := by
  have hu87 := Try.underlying87
  have HR0_1 := Aside0.mk hr0_1
  have HC0_1 := Aside0.mk hc0_1
  clear hr0_1 hc0_1
  have HB := Aside0.mk (Below.refl w.heap.size w)
  have H : (if (l0_1.length : Int) > 10 then (spec_l5One.j0 k true a0_0 l0_1 a0_2) else ((spec_l6In.f a0_0 0 9).bind fun t504 => (if t504 = true then ((spec_l6In.f a0_2 0 96).bind fun t505 => (spec_l5One.j0 k (!t505) a0_0 l0_1 a0_2)) else (spec_l5One.j0 k true a0_0 l0_1 a0_2)))) = some r := h
  clear h
  have HC2 := Aside0.mk H
  clear H
  go_enter Try.func108, Try.ntmps108
  go_upto_region 1 with (first | ((with_reducible refine gate_dst (N := 1) rfl ?_); refine box_event ?hg (N := 1) ?hd (cs := #[.int .i64 a0_0, .slice A0_1 l0_1.length c0_1, .int .i64 a0_2]) (t := 87) ?hr ?_; (case hd => rfl); (case hg => rfl); (case hr => first | (go_simp; done) | (go_simp; rfl)); intro gb503 hg w3 hbox hb; have n0_ := Aside0.mk (below_step (by repeat (first | (with_reducible first | exact HB.out | apply below_alloc | apply pw_below_drewN | apply below_drew1) | exact HB.out)) hb); have n1_ := Aside0.mk (hbox); have n2_ := Aside0.mk ((by rw [hg]; exact (below_size (by repeat (first | (with_reducible first | exact HB.out | apply below_alloc | apply pw_below_drewN | apply below_drew1) | exact HB.out))) : w.heap.size ≤ gb503)); have n3_ := Aside0.mk ((by rw [hg]; exact (below_size (by repeat (first | (with_reducible first | exact HB.out | apply below_alloc | apply pw_below_drewN | apply below_drew1) | exact HB.out))) : w.heap.size ≤ gb503)); clear HB; have HB := n0_; have BK503 := n1_; have GW503 := n2_; have GE503 := n3_; clear n0_ n1_ n2_ n3_; clear hb hbox hg))
  (try simp only [Act.put, List.setIfInBounds_toArray, List.set_cons_zero, List.set_cons_succ])
  go_cut [19] (fun v19 wc => ∃ (kq : Nat) (x19_1 : Bool), v19 = .bool x19_1 ∧ Aside0 (spec_l5One.j0 kq x19_1 a0_0 l0_1 a0_2 = some r) ∧ Aside0 (kq ≤ k) ∧ Aside0 (wc.heap[gb503]? = some (.cells #[.int .i64 a0_0, (.slice A0_1 l0_1.length c0_1), .int .i64 a0_2] 87 (0, 0))) ∧ Aside0 (Below w.heap.size w wc))
  case first =>
    have H := HC2.out
    clear HC2
    by_cases c4 : (l0_1.length : Int) > 10
    · rw [if_pos c4] at H
      have c4b0 : decide (10 < (l0_1.length : Int)) = true := decide_eq_true c4
      have c4b1 : decide (10 < l0_1.length) = true := decide_eq_true (by omega)
      clear c4
      (first | rw [c4b0] | (simp only [i64_w, i32_w]; rw [c4b0]) | skip)
      have H' := Aside0.mk H
      clear H
      have hcz5_0 : w3.cell? ⟨gb503, 0, none⟩ = some (.int .i64 a0_0) := (blk_cell BK503.out 0).trans rfl
      have hcz5_1 : w3.cell? ⟨gb503, 1, none⟩ = some (.slice A0_1 l0_1.length c0_1) := (blk_cell BK503.out 1).trans rfl
      have hcz5_2 : w3.cell? ⟨gb503, 2, none⟩ = some (.int .i64 a0_2) := (blk_cell BK503.out 2).trans rfl
      have hfz5_0 := blk_frozen BK503.out 0
      have hfz5_1 := blk_frozen BK503.out 1
      have hfz5_2 := blk_frozen BK503.out 2
      go_wp2
      go_meet
      case rel => exact ⟨_, (true), (by first | rfl | (simp; done) | (simp [*]; done)), H', ⟨by first | omega | exact Nat.le_refl _⟩, ⟨by (with_reducible repeat (first | refine blk_drewN ?_ _ | refine blk_drew ?_ | refine blk_alloc ?_ _)); exact BK503.out⟩, ⟨by repeat (first | (with_reducible first | exact HB.out | apply below_alloc | apply pw_below_drewN | apply below_drew1 | refine below_set ?_ GE503.out) | exact HB.out)⟩⟩
    · rw [if_neg c4] at H
      have c4b0 : decide (10 < (l0_1.length : Int)) = false := decide_eq_false c4
      have c4b1 : decide (10 < l0_1.length) = false := decide_eq_false (by omega)
      clear c4
      (first | rw [c4b0] | (simp only [i64_w, i32_w]; rw [c4b0]) | skip)
      replace H := Option.bind_eq_some_iff.mp H
      obtain ⟨t504, A60, H⟩ := H
      replace H : (if t504 = true then ((spec_l6In.f a0_2 0 96).bind fun t505 => (spec_l5One.j0 k (!t505) a0_0 l0_1 a0_2)) else (spec_l5One.j0 k true a0_0 l0_1 a0_2)) = some r := H
      have A6 := Aside0.mk A60
      clear A60
      by_cases c7 : t504 = true
      · subst c7
        have H1 : ((spec_l6In.f a0_2 0 96).bind fun t505 => (spec_l5One.j0 k (!t505) a0_0 l0_1 a0_2)) = some r := by rw [if_pos rfl] at H; exact H
        clear H
        have H := H1
        clear H1
        replace H := Option.bind_eq_some_iff.mp H
        obtain ⟨t505, A80, H⟩ := H
        replace H : (spec_l5One.j0 k (!t505) a0_0 l0_1 a0_2) = some r := H
        have A8 := Aside0.mk A80
        clear A80
        have H' := Aside0.mk H
        clear H
        have hcz9_0 : w3.cell? ⟨gb503, 0, none⟩ = some (.int .i64 a0_0) := (blk_cell BK503.out 0).trans rfl
        have hcz9_1 : w3.cell? ⟨gb503, 1, none⟩ = some (.slice A0_1 l0_1.length c0_1) := (blk_cell BK503.out 1).trans rfl
        have hcz9_2 : w3.cell? ⟨gb503, 2, none⟩ = some (.int .i64 a0_2) := (blk_cell BK503.out 2).trans rfl
        have hfz9_0 := blk_frozen BK503.out 0
        have hfz9_1 := blk_frozen BK503.out 1
        have hfz9_2 := blk_frozen BK503.out 2
        go_wp2_with (first | (go_at_call 122; (with_reducible refine (spec_l6In.calls a0_0 0 9 true _ A6.out).mono ?_); rintro e w' ⟨rfl, ⟨nd, rfl⟩⟩) | (go_at_call 122; (with_reducible refine (spec_l6In.calls a0_2 0 96 t505 _ A8.out).mono ?_); rintro e w' ⟨rfl, ⟨nd, rfl⟩⟩))
        go_meet
        case rel => exact ⟨_, (!t505), (by first | rfl | (simp; done) | (simp [*]; done)), H', ⟨by first | omega | exact Nat.le_refl _⟩, ⟨by (with_reducible repeat (first | refine blk_drewN ?_ _ | refine blk_drew ?_ | refine blk_alloc ?_ _)); exact BK503.out⟩, ⟨by repeat (first | (with_reducible first | exact HB.out | apply below_alloc | apply pw_below_drewN | apply below_drew1 | refine below_set ?_ GE503.out) | exact HB.out)⟩⟩
      · replace c7 := Bool.eq_false_iff.mpr c7
        subst c7
        have H1 : (spec_l5One.j0 k true a0_0 l0_1 a0_2) = some r := by rw [if_neg (show ¬ (false = true) by decide)] at H; exact H
        clear H
        have H := H1
        clear H1
        have H' := Aside0.mk H
        clear H
        have hcz10_0 : w3.cell? ⟨gb503, 0, none⟩ = some (.int .i64 a0_0) := (blk_cell BK503.out 0).trans rfl
        have hcz10_1 : w3.cell? ⟨gb503, 1, none⟩ = some (.slice A0_1 l0_1.length c0_1) := (blk_cell BK503.out 1).trans rfl
        have hcz10_2 : w3.cell? ⟨gb503, 2, none⟩ = some (.int .i64 a0_2) := (blk_cell BK503.out 2).trans rfl
        have hfz10_0 := blk_frozen BK503.out 0
        have hfz10_1 := blk_frozen BK503.out 1
        have hfz10_2 := blk_frozen BK503.out 2
        go_wp2_with (first | (go_at_call 122; (with_reducible refine (spec_l6In.calls a0_0 0 9 false _ A6.out).mono ?_); rintro e w' ⟨rfl, ⟨nd, rfl⟩⟩))
        go_meet
        case rel => exact ⟨_, (true), (by first | rfl | (simp; done) | (simp [*]; done)), H', ⟨by first | omega | exact Nat.le_refl _⟩, ⟨by (with_reducible repeat (first | refine blk_drewN ?_ _ | refine blk_drew ?_ | refine blk_alloc ?_ _)); exact BK503.out⟩, ⟨by repeat (first | (with_reducible first | exact HB.out | apply below_alloc | apply pw_below_drewN | apply below_drew1 | refine below_set ?_ GE503.out) | exact HB.out)⟩⟩
  case rest =>
    clear HC2
    try clear c1
    try clear p2
    try clear c4
    try clear c4b0
    try clear c4b1
    try clear c7
    try clear c10
    try clear hcz10_0
    try clear hcz10_1
    try clear hcz10_2
    try clear hcz5_0
    try clear hcz5_1
    try clear hcz5_2
    try clear hcz9_0
    try clear hcz9_1
    try clear hcz9_2
    try clear hfz10_0
    try clear hfz10_1
    try clear hfz10_2
    try clear hfz5_0
    try clear hfz5_1
    try clear hfz5_2
    try clear hfz9_0
    try clear hfz9_1
    try clear hfz9_2
    obtain ⟨kq, x19_1, rfl, HA, HJ1, BK503, HB⟩ := hcut
    cases kq with
    | zero => exact absurd HA.out (by simp [spec_l5One.j0])
    | succ kj1 =>
      have H := HA.out
      clear HA
      simp only [spec_l5One.j0] at H
      by_cases c11 : x19_1 = true
      · subst c11
        have H1 : (some false) = some r := by rw [if_pos rfl] at H; exact H
        clear H
        have H := H1
        clear H1
        obtain rfl := Option.some.inj H
        go_wp2
        go_ret
        exact ⟨by first | rfl | (simp [errW_none, errW_some] <;> rfl) | (simp [*, errW_none, errW_some] <;> rfl), by repeat (first | (with_reducible first | exact HB.out | apply below_alloc | apply pw_below_drewN | apply below_drew1 | refine below_set ?_ GE503.out) | exact HB.out)⟩
      · replace c11 := Bool.eq_false_iff.mpr c11
        subst c11
        have H1 : (spec_l5One.l0 kj1 0 a0_0 l0_1 a0_2) = some r := by rw [if_neg (show ¬ (false = true) by decide)] at H; exact H
        clear H
        have H := H1
        clear H1
        have H' := Aside0.mk H
        clear H
        go_wp2
        go_loopg [3] kj1 (fun kq v3 w' => ∃ (x3_2 : Int), v3 = .int .i64 x3_2 ∧ Aside0 (spec_l5One.l0 kq x3_2 a0_0 l0_1 a0_2 = some r) ∧ Aside0 (kq ≤ kj1) ∧ Aside0 (w'.heap[gb503]? = some (.cells #[.int .i64 a0_0, (.slice A0_1 l0_1.length c0_1), .int .i64 a0_2] 87 (0, 0))) ∧ Aside0 (Below w.heap.size w w'))
        case atStart => exact ⟨(0), (by first | rfl | (simp; done) | (simp [*]; done)), H', ⟨Nat.le_refl _⟩, ⟨by (with_reducible repeat (first | refine blk_drewN ?_ _ | refine blk_drew ?_ | refine blk_alloc ?_ _)); exact BK503.out⟩, ⟨by repeat (first | (with_reducible first | exact HB.out | apply below_alloc | apply pw_below_drewN | apply below_drew1 | refine below_set ?_ GE503.out) | exact HB.out)⟩⟩
        case round =>
          clear H'
          try clear c1
          try clear p2
          try clear c4
          try clear c4b0
          try clear c4b1
          try clear c7
          try clear c10
          try clear c11
          try clear hcz10_0
          try clear hcz10_1
          try clear hcz10_2
          try clear hcz5_0
          try clear hcz5_1
          try clear hcz5_2
          try clear hcz9_0
          try clear hcz9_1
          try clear hcz9_2
          try clear hfz10_0
          try clear hfz10_1
          try clear hfz10_2
          try clear hfz5_0
          try clear hfz5_1
          try clear hfz5_2
          try clear hfz9_0
          try clear hfz9_1
          try clear hfz9_2
          try clear p2
          obtain ⟨x3_2, rfl, HA, HK2, BK503, HB⟩ := hrel
          cases gk with
          | zero => exact absurd HA.out (by simp [spec_l5One.l0])
          | succ k2 =>
            have H := HA.out
            clear HA
            simp only [spec_l5One.l0] at H
            by_cases c12 : x3_2 < (l0_1.length : Int)
            · rw [if_pos c12] at H
              have c12b0 : decide (x3_2 < (l0_1.length : Int)) = true := decide_eq_true c12
              clear c12
              by_cases c13 : 0 ≤ x3_2
              · rw [if_pos c13] at H
                have c13b0 : decide (0 ≤ x3_2) = true := decide_eq_true c13
                clear c13
                replace H := Option.bind_eq_some_iff.mp H
                obtain ⟨t510, A140, H⟩ := H
                replace H : (if t510 = true then ((spec_l6In.f ((rd_T117 l0_1 x3_2).f1) 0 96).bind fun t512 => (if t512 = true then (spec_l5One.l0 k2 (wrap64 (x3_2 + 1)) a0_0 l0_1 a0_2) else (some false))) else (some false)) = some r := H
                have A14 := Aside0.mk A140
                clear A140
                by_cases c15 : t510 = true
                · subst c15
                  have H1 : ((spec_l6In.f ((rd_T117 l0_1 x3_2).f1) 0 96).bind fun t512 => (if t512 = true then (spec_l5One.l0 k2 (wrap64 (x3_2 + 1)) a0_0 l0_1 a0_2) else (some false))) = some r := by rw [if_pos rfl] at H; exact H
                  clear H
                  have H := H1
                  clear H1
                  replace H := Option.bind_eq_some_iff.mp H
                  obtain ⟨t512, A160, H⟩ := H
                  replace H : (if t512 = true then (spec_l5One.l0 k2 (wrap64 (x3_2 + 1)) a0_0 l0_1 a0_2) else (some false)) = some r := H
                  have A16 := Aside0.mk A160
                  clear A160
                  by_cases c17 : t512 = true
                  · subst c17
                    have H1 : (spec_l5One.l0 k2 (wrap64 (x3_2 + 1)) a0_0 l0_1 a0_2) = some r := by rw [if_pos rfl] at H; exact H
                    clear H
                    have H := H1
                    clear H1
                    have H' := Aside0.mk H
                    clear H
                    have hcz18_0 : wr.cell? ⟨gb503, 0, none⟩ = some (.int .i64 a0_0) := (blk_cell BK503.out 0).trans rfl
                    have hcz18_1 : wr.cell? ⟨gb503, 1, none⟩ = some (.slice A0_1 l0_1.length c0_1) := (blk_cell BK503.out 1).trans rfl
                    have hcz18_2 : wr.cell? ⟨gb503, 2, none⟩ = some (.int .i64 a0_2) := (blk_cell BK503.out 2).trans rfl
                    have hfz18_0 := blk_frozen BK503.out 0
                    have hfz18_1 := blk_frozen BK503.out 1
                    have hfz18_2 := blk_frozen BK503.out 2
                    have p509 : 0 ≤ (x3_2 : Int) := of_decide_eq_true (by first | (with_reducible assumption) | assumption)
                    have q509 : x3_2 < (l0_1.length : Int) := of_decide_eq_true (by first | (with_reducible assumption) | assumption)
                    obtain ⟨ad509, e509, hx509_0, hx509_1⟩ := at_T117 HR0_1.out x3_2 p509 q509
                    cases e509
                    replace hx509_0 := (HB.out.cell (World.block_lt_of_cell? w _ hx509_0)).trans hx509_0
                    replace hx509_1 := (HB.out.cell (World.block_lt_of_cell? w _ hx509_1)).trans hx509_1
                    replace p509 := eq_true p509
                    replace q509 := eq_true q509
                    go_wp2_with (first | ((with_reducible refine gate_callee (f := 122) rfl ?_); refine goesL_ (some 33) rfl rfl Try.func122 (by kernel_rfl) rfl #[.int .i64 ((rd_T117 l0_1 x3_2).f0), .int .i64 0, .int .i64 9] rfl (by (try simp only [List.map_toArray, List.map_cons, List.map_nil]); first | done | rfl | (simp only [List.length_drop, List.length_take]; rfl)) ?_; (with_reducible refine (spec_l6In.calls ((rd_T117 l0_1 x3_2).f0) 0 9 true _ A14.out).mono ?_); rintro e w' ⟨rfl, ⟨nd, rfl⟩⟩; refine ⟨_, rfl, ?_⟩; have p511 : 0 ≤ (x3_2 : Int) := of_decide_eq_true (by first | (with_reducible assumption) | assumption); have q511 : x3_2 < (l0_1.length : Int) := of_decide_eq_true (by first | (with_reducible assumption) | assumption); obtain ⟨ad511, e511, hx511_0, hx511_1⟩ := at_T117 HR0_1.out x3_2 p511 q511; obtain rfl : ad509 = ad511 := (by injection e511); replace hx511_0 := (HB.out.cell (World.block_lt_of_cell? w _ hx511_0)).trans hx511_0; replace hx511_1 := (HB.out.cell (World.block_lt_of_cell? w _ hx511_1)).trans hx511_1; replace p511 := eq_true p511; replace q511 := eq_true q511) | (go_at_call 122; (with_reducible refine (spec_l6In.calls ((rd_T117 l0_1 x3_2).f1) 0 96 true _ A16.out).mono ?_); rintro e w' ⟨rfl, ⟨nd, rfl⟩⟩))
                    go_roundg k2
                    case measure => have := HJ1.out; have := HK2.out; omega
                    case rel => exact ⟨(wrap64 (x3_2 + 1)), (by first | rfl | (simp; done) | (simp [*]; done)), H', ⟨by have := HJ1.out; have := HK2.out; omega⟩, ⟨by (with_reducible repeat (first | refine blk_drewN ?_ _ | refine blk_drew ?_ | refine blk_alloc ?_ _)); exact BK503.out⟩, ⟨by repeat (first | (with_reducible first | exact HB.out | apply below_alloc | apply pw_below_drewN | apply below_drew1 | refine below_set ?_ GE503.out) | exact HB.out)⟩⟩
                  · replace c17 := Bool.eq_false_iff.mpr c17
                    subst c17
                    have H1 : (some false) = some r := by rw [if_neg (show ¬ (false = true) by decide)] at H; exact H
                    clear H
                    have H := H1
                    clear H1
                    obtain rfl := Option.some.inj H
                    have hcz19_0 : wr.cell? ⟨gb503, 0, none⟩ = some (.int .i64 a0_0) := (blk_cell BK503.out 0).trans rfl
                    have hcz19_1 : wr.cell? ⟨gb503, 1, none⟩ = some (.slice A0_1 l0_1.length c0_1) := (blk_cell BK503.out 1).trans rfl
                    have hcz19_2 : wr.cell? ⟨gb503, 2, none⟩ = some (.int .i64 a0_2) := (blk_cell BK503.out 2).trans rfl
                    have hfz19_0 := blk_frozen BK503.out 0
                    have hfz19_1 := blk_frozen BK503.out 1
                    have hfz19_2 := blk_frozen BK503.out 2
                    have p509 : 0 ≤ (x3_2 : Int) := of_decide_eq_true (by first | (with_reducible assumption) | assumption)
                    have q509 : x3_2 < (l0_1.length : Int) := of_decide_eq_true (by first | (with_reducible assumption) | assumption)
                    obtain ⟨ad509, e509, hx509_0, hx509_1⟩ := at_T117 HR0_1.out x3_2 p509 q509
                    cases e509
                    replace hx509_0 := (HB.out.cell (World.block_lt_of_cell? w _ hx509_0)).trans hx509_0
                    replace hx509_1 := (HB.out.cell (World.block_lt_of_cell? w _ hx509_1)).trans hx509_1
                    replace p509 := eq_true p509
                    replace q509 := eq_true q509
                    go_wp2_with (first | ((with_reducible refine gate_callee (f := 122) rfl ?_); refine goesL_ (some 33) rfl rfl Try.func122 (by kernel_rfl) rfl #[.int .i64 ((rd_T117 l0_1 x3_2).f0), .int .i64 0, .int .i64 9] rfl (by (try simp only [List.map_toArray, List.map_cons, List.map_nil]); first | done | rfl | (simp only [List.length_drop, List.length_take]; rfl)) ?_; (with_reducible refine (spec_l6In.calls ((rd_T117 l0_1 x3_2).f0) 0 9 true _ A14.out).mono ?_); rintro e w' ⟨rfl, ⟨nd, rfl⟩⟩; refine ⟨_, rfl, ?_⟩; have p511 : 0 ≤ (x3_2 : Int) := of_decide_eq_true (by first | (with_reducible assumption) | assumption); have q511 : x3_2 < (l0_1.length : Int) := of_decide_eq_true (by first | (with_reducible assumption) | assumption); obtain ⟨ad511, e511, hx511_0, hx511_1⟩ := at_T117 HR0_1.out x3_2 p511 q511; obtain rfl : ad509 = ad511 := (by injection e511); replace hx511_0 := (HB.out.cell (World.block_lt_of_cell? w _ hx511_0)).trans hx511_0; replace hx511_1 := (HB.out.cell (World.block_lt_of_cell? w _ hx511_1)).trans hx511_1; replace p511 := eq_true p511; replace q511 := eq_true q511) | (go_at_call 122; (with_reducible refine (spec_l6In.calls ((rd_T117 l0_1 x3_2).f1) 0 96 false _ A16.out).mono ?_); rintro e w' ⟨rfl, ⟨nd, rfl⟩⟩))
                    go_ret
                    exact ⟨by first | rfl | (simp [errW_none, errW_some] <;> rfl) | (simp [*, errW_none, errW_some] <;> rfl), by repeat (first | (with_reducible first | exact HB.out | apply below_alloc | apply pw_below_drewN | apply below_drew1 | refine below_set ?_ GE503.out) | exact HB.out)⟩
                · replace c15 := Bool.eq_false_iff.mpr c15
                  subst c15
                  have H1 : (some false) = some r := by rw [if_neg (show ¬ (false = true) by decide)] at H; exact H
                  clear H
                  have H := H1
                  clear H1
                  obtain rfl := Option.some.inj H
                  have hcz20_0 : wr.cell? ⟨gb503, 0, none⟩ = some (.int .i64 a0_0) := (blk_cell BK503.out 0).trans rfl
                  have hcz20_1 : wr.cell? ⟨gb503, 1, none⟩ = some (.slice A0_1 l0_1.length c0_1) := (blk_cell BK503.out 1).trans rfl
                  have hcz20_2 : wr.cell? ⟨gb503, 2, none⟩ = some (.int .i64 a0_2) := (blk_cell BK503.out 2).trans rfl
                  have hfz20_0 := blk_frozen BK503.out 0
                  have hfz20_1 := blk_frozen BK503.out 1
                  have hfz20_2 := blk_frozen BK503.out 2
                  have p509 : 0 ≤ (x3_2 : Int) := of_decide_eq_true (by first | (with_reducible assumption) | assumption)
                  have q509 : x3_2 < (l0_1.length : Int) := of_decide_eq_true (by first | (with_reducible assumption) | assumption)
                  obtain ⟨ad509, e509, hx509_0, hx509_1⟩ := at_T117 HR0_1.out x3_2 p509 q509
                  cases e509
                  replace hx509_0 := (HB.out.cell (World.block_lt_of_cell? w _ hx509_0)).trans hx509_0
                  replace hx509_1 := (HB.out.cell (World.block_lt_of_cell? w _ hx509_1)).trans hx509_1
                  replace p509 := eq_true p509
                  replace q509 := eq_true q509
                  go_wp2_with (first | ((with_reducible refine gate_callee (f := 122) rfl ?_); refine goesL_ (some 33) rfl rfl Try.func122 (by kernel_rfl) rfl #[.int .i64 ((rd_T117 l0_1 x3_2).f0), .int .i64 0, .int .i64 9] rfl (by (try simp only [List.map_toArray, List.map_cons, List.map_nil]); first | done | rfl | (simp only [List.length_drop, List.length_take]; rfl)) ?_; (with_reducible refine (spec_l6In.calls ((rd_T117 l0_1 x3_2).f0) 0 9 false _ A14.out).mono ?_); rintro e w' ⟨rfl, ⟨nd, rfl⟩⟩; refine ⟨_, rfl, ?_⟩))
                  go_ret
                  exact ⟨by first | rfl | (simp [errW_none, errW_some] <;> rfl) | (simp [*, errW_none, errW_some] <;> rfl), by repeat (first | (with_reducible first | exact HB.out | apply below_alloc | apply pw_below_drewN | apply below_drew1 | refine below_set ?_ GE503.out) | exact HB.out)⟩
              · rw [if_neg c13] at H
                exact absurd H (by simp)
            · rw [if_neg c12] at H
              have c12b0 : decide (x3_2 < (l0_1.length : Int)) = false := decide_eq_false c12
              clear c12
              replace H := Option.bind_eq_some_iff.mp H
              obtain ⟨t506, A210, H⟩ := H
              replace H : (some ((t506.length : Int) == (l0_1.length : Int))) = some r := H
              have A21 := Aside0.mk A210
              clear A210
              obtain rfl := Option.some.inj H
              have hcz22_0 : wr.cell? ⟨gb503, 0, none⟩ = some (.int .i64 a0_0) := (blk_cell BK503.out 0).trans rfl
              have hcz22_1 : wr.cell? ⟨gb503, 1, none⟩ = some (.slice A0_1 l0_1.length c0_1) := (blk_cell BK503.out 1).trans rfl
              have hcz22_2 : wr.cell? ⟨gb503, 2, none⟩ = some (.int .i64 a0_2) := (blk_cell BK503.out 2).trans rfl
              have hfz22_0 := blk_frozen BK503.out 0
              have hfz22_1 := blk_frozen BK503.out 1
              have hfz22_2 := blk_frozen BK503.out 2
              try go_wp2
              have n0_ := Aside0.mk (blk_drew BK503.out)
              have n1_ := Aside0.mk (below_drew1 HB.out)
              clear BK503
              clear HB
              have BK503 := n0_
              have HB := n1_
              clear n0_ n1_
              refine start_ (n := 9) (S := fun w' => w'.cell? ⟨gb503, 0, none⟩ = some (.int .i64 a0_0) ∧ w'.cell? ⟨gb503, 1, none⟩ = some (.slice A0_1 l0_1.length c0_1) ∧ w'.cell? ⟨gb503, 2, none⟩ = some (.int .i64 a0_2)) (ds := []) #[false, false, false, false, false, false, false, false, false] (by kernel_rfl) rfl rfl ⟨(blk_cell BK503.out 0).trans rfl, (blk_cell BK503.out 1).trans rfl, (blk_cell BK503.out 2).trans rfl⟩ (fun hHeld => ?_); refine with_tabW spec_l5One.tab8 spec_l5One.bits8 (fun HT_ HW_ => ?_)
              generalize wr.drew = w23 at BK503 HB hHeld ⊢
              refine pure_ (i := 0) (N := some 45) (v := ?_) (a' := ?_) #[true, false, false, false, false, false, false, false, false] rfl rfl (any_of HT_.out (by kernel_rfl)) (fun _ _ _ h => h) (Or.inl ⟨by rfl, ?_⟩) ?_ ?_
              rotate_left
              · intro w'
                go_simp
                with_reducible rfl
              rotate_left
              · simp only [Act.put, List.setIfInBounds_toArray, List.set_cons_zero, List.set_cons_succ, i64_w, i32_w]
                rfl
              refine pure_ (i := 4) (N := some 49) (v := ?_) (a' := ?_) #[true, false, false, false, true, false, false, false, false] rfl rfl (any_of HT_.out (by kernel_rfl)) (fun _ _ _ h => h) (Or.inl ⟨by rfl, ?_⟩) ?_ ?_
              rotate_left
              · intro w'
                go_simp
                with_reducible rfl
              rotate_left
              · simp only [Act.put, List.setIfInBounds_toArray, List.set_cons_zero, List.set_cons_succ, i64_w, i32_w]
                rfl
              refine take_ (i := 1) (N := some 46) (v := ?_) (a' := ?_) #[true, true, false, false, true, false, false, false, false] rfl rfl (take_ofW HT_.out HW_.out (by kernel_rfl)) (fun _ _ _ h => h) (Or.inl ⟨by rfl, ?_⟩) hHeld ?_ ?_
              rotate_left
              · rintro w' ⟨s0, s1, s2⟩
                go_simp
                with_reducible rfl
              rotate_left
              · simp only [Act.put, List.setIfInBounds_toArray, List.set_cons_zero, List.set_cons_succ, i64_w, i32_w]
                rfl
              refine take_ (i := 5) (N := some 50) (v := ?_) (a' := ?_) #[true, true, false, false, true, true, false, false, false] rfl rfl (take_ofW HT_.out HW_.out (by kernel_rfl)) (fun _ _ _ h => h) (Or.inl ⟨by rfl, ?_⟩) hHeld ?_ ?_
              rotate_left
              · rintro w' ⟨s0, s1, s2⟩
                go_simp
                with_reducible rfl
              rotate_left
              · simp only [Act.put, List.setIfInBounds_toArray, List.set_cons_zero, List.set_cons_succ, i64_w, i32_w]
                rfl
              refine pure_ (i := 6) (N := some 51) (v := ?_) (a' := ?_) #[true, true, false, false, true, true, true, false, false] rfl rfl (any_of HT_.out (by kernel_rfl)) (fun _ _ _ h => h) (Or.inl ⟨by rfl, ?_⟩) ?_ ?_
              rotate_left
              · intro w'
                go_simp
                with_reducible rfl
              rotate_left
              · simp only [Act.put, List.setIfInBounds_toArray, List.set_cons_zero, List.set_cons_succ, i64_w, i32_w]
                rfl
              refine one_ (i := 2) (N := some 47) #[true, true, true, false, true, true, true, false, false] rfl rfl (one_of HT_.out (by kernel_rfl)) (by decide) (fun K hK => ?_)
              refine goes_ Try.func147 (by kernel_rfl) rfl #[.slice A0_1 l0_1.length c0_1] (by rfl) rfl rfl (by (try simp only [List.map_toArray, List.map_cons, List.map_nil]); first | done | rfl | (simp only [List.length_drop, List.length_take]; rfl)) ?_
              with_reducible refine (spec_l5Once.calls k2 _ _ l0_1 t506 _ ?side1 ?side2 A21.out).mono ?_
              (case side1 => repeat (first | exact (Kd.C_below HR0_1.out HB.out) | (with_reducible refine Kd.C_alloc ?_ _) | (with_reducible refine Kd.C_drewN ?_ _) | (with_reducible refine Kd.C_drew ?_)))
              (case side2 => exact HC0_1.out)
              rintro e w24 ⟨v507, rfl, ho0, hb⟩
              refine ⟨_, rfl, ?_⟩
              have n0_ := Aside0.mk (Kd.R_lower ho0 (below_size (by repeat (first | (with_reducible first | exact HB.out | apply below_alloc | apply pw_below_drewN | apply below_drew1 | refine below_set ?_ GE503.out) | exact HB.out))))
              have n1_ := Aside0.mk (blk_below (g := gb503) (o := .cells #[.int .i64 a0_0, .slice A0_1 l0_1.length c0_1, .int .i64 a0_2] 87 (0, 0)) (by (with_reducible repeat (first | refine blk_drewN ?_ _ | refine blk_drew ?_ | refine blk_alloc ?_ _)); exact BK503.out) hb)
              have n2_ := Aside0.mk (below_step (by repeat (first | (with_reducible first | exact HB.out | apply below_alloc | apply pw_below_drewN | apply below_drew1 | refine below_set ?_ GE503.out) | exact HB.out)) hb)
              clear BK503
              clear HB
              have HO508 := n0_
              have BK503 := n1_
              have HB := n2_
              clear n0_ n1_ n2_
              (try clear hb)
              (try clear hb2)
              (try clear hk)
              (try clear hi)
              (try clear ho0)
              obtain ⟨Ao25, co25, eo25⟩ := Kd.R_slice HO508.out
              (first | subst eo25 | (injection eo25 with f1_ f2_ f3_; have f4_ := f1_.symm; have f5_ := f3_.symm; clear f1_ f2_ f3_; subst f4_; subst f5_))
              refine hK.out _ _ ⟨(blk_cell BK503.out 0).trans rfl, (blk_cell BK503.out 1).trans rfl, (blk_cell BK503.out 2).trans rfl⟩ (fun hHeld => ?_)
              clear hK K
              refine norm_ (a' := ?_) ?_ ?_
              rotate_left
              · show Act.put _ (some 47) _ = _
                simp only [Act.put, List.setIfInBounds_toArray, List.set_cons_zero, List.set_cons_succ, i64_w, i32_w]
                rfl
              refine pure_ (i := 3) (N := some 48) (v := ?_) (a' := ?_) #[true, true, true, true, true, true, true, false, false] rfl rfl (any_of HT_.out (by kernel_rfl)) (fun _ _ _ h => h) (Or.inl ⟨by rfl, ?_⟩) ?_ ?_
              rotate_left
              · intro w'
                go_simp
                with_reducible rfl
              rotate_left
              · simp only [Act.put, List.setIfInBounds_toArray, List.set_cons_zero, List.set_cons_succ, i64_w, i32_w]
                rfl
              refine pure_ (i := 7) (N := some 52) (v := ?_) (a' := ?_) #[true, true, true, true, true, true, true, true, false] rfl rfl (any_of HT_.out (by kernel_rfl)) (fun _ _ _ h => h) (Or.inl ⟨by rfl, ?_⟩) ?_ ?_
              rotate_left
              · intro w'
                go_simp
                with_reducible rfl
              rotate_left
              · simp only [Act.put, List.setIfInBounds_toArray, List.set_cons_zero, List.set_cons_succ, i64_w, i32_w]
                rfl
              refine pure_ (i := 8) (N := some 2) (v := ?_) (a' := ?_) #[true, true, true, true, true, true, true, true, true] rfl rfl (any_of HT_.out (by kernel_rfl)) (fun _ _ _ h => h) (Or.inl ⟨by rfl, ?_⟩) ?_ ?_
              rotate_left
              · intro w'
                go_simp
                with_reducible rfl
              rotate_left
              · simp only [Act.put, List.setIfInBounds_toArray, List.set_cons_zero, List.set_cons_succ, i64_w, i32_w]
                rfl
              refine done_ (done_of HT_.out (by kernel_rfl)) ?_
              try go_wp2
              go_ret
              exact ⟨by first | rfl | (simp [errW_none, errW_some] <;> rfl) | (simp [*, errW_none, errW_some] <;> rfl), by repeat (first | (with_reducible first | exact HB.out | apply below_alloc | apply pw_below_drewN | apply below_drew1 | refine below_set ?_ GE503.out) | exact HB.out)⟩
def spec_TracesOk.l0 : Nat → List (S87) → Int → Option (Bool)
  | 0, _, _ => none
  | k + 1, x0, x3 => if x3 < (x0.length : Int) then (if 0 ≤ x3 then ((spec_l5One.f k ((rd_T87 x0 x3).f0) ((rd_T87 x0 x3).f1) ((rd_T87 x0 x3).f2)).bind fun t514 => (if t514 = true then (spec_TracesOk.l0 k x0 (wrap64 (x3 + 1))) else (some false))) else (none)) else (some true)
def spec_TracesOk.f (k : Nat) (l0 : List (S87)) : Option (Bool) := if (l0.length : Int) > 60 then (some false) else (spec_TracesOk.l0 k l0 0)
set_option maxHeartbeats 8000000 in
set_option maxRecDepth 100000 in
theorem spec_TracesOk.calls (k : Nat) (A0 : Option Addr) (c0 : Nat) (l0 : List (S87)) (r : Bool) (w : World) (hr0 : Kd.C k87 w A0 l0.length l0) (hc0 : l0.length ≤ c0) (h : spec_TracesOk.f k l0 = some r) :
    Calls Try.prog 87 #[.slice A0 l0.length c0] w fun e w' => e = .returned (.bool r) ∧ Below w.heap.size w w' := by
  have hu87 := Try.underlying87
  have HR0 := Aside0.mk hr0
  have HC0 := Aside0.mk hc0
  clear hr0 hc0
  have HB := Aside0.mk (Below.refl w.heap.size w)
  have H : (if (l0.length : Int) > 60 then (some false) else (spec_TracesOk.l0 k l0 0)) = some r := h
  clear h
  by_cases c2 : (l0.length : Int) > 60
  · rw [if_pos c2] at H
    have c2b0 : decide (60 < (l0.length : Int)) = true := decide_eq_true c2
    have c2b1 : decide (60 < l0.length) = true := decide_eq_true (by omega)
    clear c2
    obtain rfl := Option.some.inj H
    go_enter Try.func87, Try.ntmps87
    go_wp2
    go_ret
    exact ⟨by first | rfl | (simp [errW_none, errW_some] <;> rfl) | (simp [*, errW_none, errW_some] <;> rfl), by repeat (first | (with_reducible first | exact HB.out | apply below_alloc | apply pw_below_drewN | apply below_drew1) | exact HB.out)⟩
  · rw [if_neg c2] at H
    have c2b0 : decide (60 < (l0.length : Int)) = false := decide_eq_false c2
    have c2b1 : decide (60 < l0.length) = false := decide_eq_false (by omega)
    clear c2
    have H' := Aside0.mk H
    clear H
    go_enter Try.func87, Try.ntmps87
    go_wp2
    go_loopg [3] k (fun kq v3 w' => ∃ (x3_1 : Int), v3 = .int .i64 x3_1 ∧ Aside0 (spec_TracesOk.l0 kq l0 x3_1 = some r) ∧ Aside0 (kq ≤ k) ∧ Aside0 (Below w.heap.size w w'))
    case atStart => exact ⟨(0), (by first | rfl | (simp; done) | (simp [*]; done)), H', ⟨Nat.le_refl _⟩, ⟨by repeat (first | (with_reducible first | exact HB.out | apply below_alloc | apply pw_below_drewN | apply below_drew1) | exact HB.out)⟩⟩
    case round =>
      clear H'
      try clear c2
      try clear c2b0
      try clear c2b1
      try clear p2
      obtain ⟨x3_1, rfl, HA, HK1, HB⟩ := hrel
      cases gk with
      | zero => exact absurd HA.out (by simp [spec_TracesOk.l0])
      | succ k1 =>
        have H := HA.out
        clear HA
        simp only [spec_TracesOk.l0] at H
        by_cases c3 : x3_1 < (l0.length : Int)
        · rw [if_pos c3] at H
          have c3b0 : decide (x3_1 < (l0.length : Int)) = true := decide_eq_true c3
          clear c3
          by_cases c4 : 0 ≤ x3_1
          · rw [if_pos c4] at H
            have c4b0 : decide (0 ≤ x3_1) = true := decide_eq_true c4
            clear c4
            replace H := Option.bind_eq_some_iff.mp H
            obtain ⟨t514, A50, H⟩ := H
            replace H : (if t514 = true then (spec_TracesOk.l0 k1 l0 (wrap64 (x3_1 + 1))) else (some false)) = some r := H
            have A5 := Aside0.mk A50
            clear A50
            by_cases c6 : t514 = true
            · subst c6
              have H1 : (spec_TracesOk.l0 k1 l0 (wrap64 (x3_1 + 1))) = some r := by rw [if_pos rfl] at H; exact H
              clear H
              have H := H1
              clear H1
              have H' := Aside0.mk H
              clear H
              have p513 : 0 ≤ (x3_1 : Int) := of_decide_eq_true (by first | (with_reducible assumption) | assumption)
              have q513 : x3_1 < (l0.length : Int) := of_decide_eq_true (by first | (with_reducible assumption) | assumption)
              obtain ⟨ad513, A513_1, c513_1, e513, hx513_0, hx513_1, hx513_2, hl513_1, hi513_1⟩ := at_T87 HR0.out x3_1 p513 q513
              cases e513
              replace hx513_0 := (HB.out.cell (World.block_lt_of_cell? w _ hx513_0)).trans hx513_0
              replace hx513_1 := (HB.out.cell (World.block_lt_of_cell? w _ hx513_1)).trans hx513_1
              replace hx513_2 := (HB.out.cell (World.block_lt_of_cell? w _ hx513_2)).trans hx513_2
              have HR513_1 := Aside0.mk hi513_1
              have HC513_1 := Aside0.mk hl513_1
              clear hi513_1 hl513_1
              replace p513 := eq_true p513
              replace q513 := eq_true q513
              go_wp2_with (first | ((with_reducible refine gate_callee (f := 108) rfl ?_); refine goesL_ (some 17) rfl rfl Try.func108 (by kernel_rfl) rfl #[.agg #[.int .i64 ((rd_T87 l0 x3_1).f0), .slice A513_1 ((rd_T87 l0 x3_1).f1).length c513_1, .int .i64 ((rd_T87 l0 x3_1).f2)]] rfl (by (try simp only [List.map_toArray, List.map_cons, List.map_nil]); first | done | rfl | (simp only [List.length_drop, List.length_take]; rfl)) ?_; (with_reducible refine (spec_l5One.calls k1 ((rd_T87 l0 x3_1).f0) _ _ ((rd_T87 l0 x3_1).f1) ((rd_T87 l0 x3_1).f2) true _ ?side1 ?side2 A5.out).mono ?_); (case side1 => repeat (first | exact (Kd.C_below HR513_1.out HB.out) | (with_reducible refine Kd.C_alloc ?_ _) | (with_reducible refine Kd.C_drewN ?_ _) | (with_reducible refine Kd.C_drew ?_))); (case side2 => exact HC513_1.out); rintro e w7 ⟨rfl, hb⟩; refine ⟨_, rfl, ?_⟩; have n0_ := Aside0.mk (below_step (by repeat (first | (with_reducible first | exact HB.out | apply below_alloc | apply pw_below_drewN | apply below_drew1) | exact HB.out)) hb); clear HB; have HB := n0_; clear n0_; (try clear hb); (try clear hb2); (try clear hk); (try clear hi)))
              go_roundg k1
              case measure => have := HK1.out; omega
              case rel => exact ⟨(wrap64 (x3_1 + 1)), (by first | rfl | (simp; done) | (simp [*]; done)), H', ⟨by have := HK1.out; omega⟩, ⟨by repeat (first | (with_reducible first | exact HB.out | apply below_alloc | apply pw_below_drewN | apply below_drew1) | exact HB.out)⟩⟩
            · replace c6 := Bool.eq_false_iff.mpr c6
              subst c6
              have H1 : (some false) = some r := by rw [if_neg (show ¬ (false = true) by decide)] at H; exact H
              clear H
              have H := H1
              clear H1
              obtain rfl := Option.some.inj H
              have p513 : 0 ≤ (x3_1 : Int) := of_decide_eq_true (by first | (with_reducible assumption) | assumption)
              have q513 : x3_1 < (l0.length : Int) := of_decide_eq_true (by first | (with_reducible assumption) | assumption)
              obtain ⟨ad513, A513_1, c513_1, e513, hx513_0, hx513_1, hx513_2, hl513_1, hi513_1⟩ := at_T87 HR0.out x3_1 p513 q513
              cases e513
              replace hx513_0 := (HB.out.cell (World.block_lt_of_cell? w _ hx513_0)).trans hx513_0
              replace hx513_1 := (HB.out.cell (World.block_lt_of_cell? w _ hx513_1)).trans hx513_1
              replace hx513_2 := (HB.out.cell (World.block_lt_of_cell? w _ hx513_2)).trans hx513_2
              have HR513_1 := Aside0.mk hi513_1
              have HC513_1 := Aside0.mk hl513_1
              clear hi513_1 hl513_1
              replace p513 := eq_true p513
              replace q513 := eq_true q513
              go_wp2_with (first | ((with_reducible refine gate_callee (f := 108) rfl ?_); refine goesL_ (some 17) rfl rfl Try.func108 (by kernel_rfl) rfl #[.agg #[.int .i64 ((rd_T87 l0 x3_1).f0), .slice A513_1 ((rd_T87 l0 x3_1).f1).length c513_1, .int .i64 ((rd_T87 l0 x3_1).f2)]] rfl (by (try simp only [List.map_toArray, List.map_cons, List.map_nil]); first | done | rfl | (simp only [List.length_drop, List.length_take]; rfl)) ?_; (with_reducible refine (spec_l5One.calls k1 ((rd_T87 l0 x3_1).f0) _ _ ((rd_T87 l0 x3_1).f1) ((rd_T87 l0 x3_1).f2) false _ ?side1 ?side2 A5.out).mono ?_); (case side1 => repeat (first | exact (Kd.C_below HR513_1.out HB.out) | (with_reducible refine Kd.C_alloc ?_ _) | (with_reducible refine Kd.C_drewN ?_ _) | (with_reducible refine Kd.C_drew ?_))); (case side2 => exact HC513_1.out); rintro e w8 ⟨rfl, hb⟩; refine ⟨_, rfl, ?_⟩; have n0_ := Aside0.mk (below_step (by repeat (first | (with_reducible first | exact HB.out | apply below_alloc | apply pw_below_drewN | apply below_drew1) | exact HB.out)) hb); clear HB; have HB := n0_; clear n0_; (try clear hb); (try clear hb2); (try clear hk); (try clear hi)))
              go_ret
              exact ⟨by first | rfl | (simp [errW_none, errW_some] <;> rfl) | (simp [*, errW_none, errW_some] <;> rfl), by repeat (first | (with_reducible first | exact HB.out | apply below_alloc | apply pw_below_drewN | apply below_drew1) | exact HB.out)⟩
          · rw [if_neg c4] at H
            exact absurd H (by simp)
        · rw [if_neg c3] at H
          have c3b0 : decide (x3_1 < (l0.length : Int)) = false := decide_eq_false c3
          clear c3
          obtain rfl := Option.some.inj H
          go_wp2
          go_ret
          exact ⟨by first | rfl | (simp [errW_none, errW_some] <;> rfl) | (simp [*, errW_none, errW_some] <;> rfl), by repeat (first | (with_reducible first | exact HB.out | apply below_alloc | apply pw_below_drewN | apply below_drew1) | exact HB.out)⟩
end Go.Proofs.Ytgbjbpjmbghlbaa.G
end
