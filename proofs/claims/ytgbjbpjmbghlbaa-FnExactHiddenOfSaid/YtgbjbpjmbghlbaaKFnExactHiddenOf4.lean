-- Written by pack.py (ours): the claim's texts, cut down to what its theorem reaches.
import Derived.Test.YtgbjbpjmbghlbaaKFnExactHiddenOf3
section
namespace Go.Proofs.Ytgbjbpjmbghlbaa.G
open Go.RowKit Go.Proofs.YtgbjbpjmbghlbaaW.PrintWords Go.Proofs.YtgbjbpjmbghlbaaW.PrintLast Go.Proofs.YtgbjbpjmbghlbaaW.PrintMore
set_option linter.unusedVariables false
set_option linter.unusedSimpArgs false
def onceF (out : List Fk) (f : Fk) : List Fk := if (out.any fun g => g.f0 == f.f0) = true then out else out ++ [f]
def onceL (l : List Fk) : List Fk := l.foldl onceF []
def impl_once.f (l0 : List Fk) : Option (List Fk) := if l0.length < 8796093022208 then some (onceL l0) else none
theorem onceF_length (out : List Fk) (f : Fk) : (onceF out f).length ≤ out.length + 1 := by
  unfold onceF
  split
  · omega
  · simp
theorem onceL_take (l : List Fk) (i : Nat) (h : i < l.length) : (l.take (i + 1)).foldl onceF [] = onceF ((l.take i).foldl onceF []) l[i] := by
  rw [List.take_succ_eq_append_getElem h, List.foldl_append]
  rfl
theorem onceL_len (l : List Fk) : ∀ i, i ≤ l.length → ((l.take i).foldl onceF []).length ≤ i := by
  intro i
  induction i with
  | zero => intro _; simp
  | succ i ih =>
    intro h
    rw [onceL_take l i (by omega)]
    have := onceF_length ((l.take i).foldl onceF []) l[i]
    have := ih (by omega)
    omega
theorem infoF : (Try.prog.info? 117).map (fun i => (i.zero, i.size, i.bytes)) = some (some (.agg #[(.int .i64 0), (.int .i64 0)]), 2, 16) := by kernel_rfl
set_option maxHeartbeats 8000000 in
set_option maxRecDepth 100000 in
theorem impl_once_1.calls (g : Fk) (B : Nat) (x : Int) (w : World) (hc : w.cell? ⟨B, 0, none⟩ = some (.int .i64 x)) :
    Calls Try.prog 140 #[.agg #[.int .i64 g.f0, .int .i64 g.f1], .pointer (some ⟨B, 0, none⟩)] w fun e w' => e = .returned (.bool (g.f0 == x)) ∧ Below w.heap.size w w' := by
  have hu := Try.underlying117
  have hc' : (w.alloc (.cells #[.int .i64 g.f0, .int .i64 g.f1] 117)).cell? ⟨B, 0, none⟩ = some (.int .i64 x) := (((Below.refl w.heap.size w).alloc (Nat.le_refl _) _).cell (World.block_lt_of_cell? w _ hc)).trans hc
  go_enter Try.func140, Try.ntmps140
  go_wp2
  go_ret
  exact ⟨rfl, (Below.refl _ _).alloc (Nat.le_refl _) _⟩
set_option maxHeartbeats 8000000 in
set_option maxRecDepth 100000 in
theorem impl_once.calls (A0 : Option Addr) (c0 : Nat) (l0 : List Fk) (r : List Fk) (w : World) (hr0 : Kd.C k117 w A0 l0.length l0) (hc0 : l0.length ≤ c0) (h : impl_once.f l0 = some r) :
    Calls Try.prog 80 #[.slice A0 l0.length c0] w fun e w' => ∃ v0_ : Value, e = .returned (v0_) ∧ Kd.R k117 117 w' w.heap.size (fun _ => True) v0_ r ∧ Below w.heap.size w w' := by
  have hu := Try.underlying117
  have HR := Aside0.mk hr0
  clear hr0 hc0
  unfold impl_once.f at h
  by_cases hl : l0.length < 8796093022208
  · rw [if_pos hl] at h
    obtain rfl := Option.some.inj h
    have HL := Aside0.mk hl
    clear h hl
    have HE : Aside0 (∀ (args : Array Value) (W : World), (callFunc 140 args).run Try.prog W = .ok (.enter 140 args) W) := ⟨enters_fn Try.func140 (by kernel_rfl) rfl⟩
    have hmf : ∀ (fn : Fn) (first cap : Array Value) (W : World), (Instr.makeFunc fn first cap).run Try.prog W = .ok (.func fn first cap) W := fun _ _ _ _ => rfl
    go_enter Try.func80, Try.ntmps80
    go_wp2
    go_loopg [3, 8] l0.length (fun kq v3 v8 w' => ∃ i : Nat, v8 = .int .i64 (i : Int) ∧ Aside0 (i + kq = l0.length) ∧ Aside0 (Kd.R k117 117 w' w.heap.size (fun _ => True) v3 ((l0.take i).foldl onceF [])) ∧ Aside0 (Below w.heap.size w w'))
    case atStart => exact ⟨0, by simp, ⟨by omega⟩, ⟨Kd.R_nil _ _ _ _ _⟩, ⟨Below.refl _ _⟩⟩
    case round =>
      obtain ⟨i, rfl, HI, HO, HB⟩ := hrel
      cases gk with
      | zero =>
        have hi : i = l0.length := by have := HI.out; omega
        subst hi
        have hb : decide ((l0.length : Int) < (l0.length : Int)) = false := decide_eq_false (by omega)
        go_wp2
        go_ret
        exact ⟨_, rfl, by have := HO.out; rwa [List.take_length] at this, HB.out⟩
      | succ gk =>
        have hlt : i < l0.length := by have := HI.out; omega
        have hb : decide ((i : Int) < (l0.length : Int)) = true := decide_eq_true (by omega)
        obtain ⟨ad, e, hx0, hx1⟩ := at_T117 HR.out (i : Int) (by omega) (by omega)
        cases e
        have hmax : (i : Int) + 1 ≤ 9223372036854775807 := by have := HL.out; omega
        have hc0 : wr.cell? (ad.add (i * 2)) = some (.int .i64 (rd_T117 l0 (i : Int)).f0) := by
          have h1 := (HB.out.cell (World.block_lt_of_cell? w _ hx0)).trans hx0
          simpa only [Int.toNat_natCast] using h1
        have hc1 : wr.cell? ⟨(ad.add (i * 2)).block, (ad.add (i * 2)).off + 1, none⟩ = some (.int .i64 (rd_T117 l0 (i : Int)).f1) := by
          have h1 := (HB.out.cell (World.block_lt_of_cell? w _ hx1)).trans hx1
          simpa only [Int.toNat_natCast] using h1
        have hrd := rd_atFetch l0 i hlt
        have HRD := Aside0.mk hrd
        clear hx0 hx1 hrd
        have p0 : (0 ≤ (i : Int)) = True := eq_true (by omega)
        have q0 : ((i : Int) < (l0.length : Int)) = True := eq_true (by omega)
        have hout := onceL_take l0 i hlt
        have hol := onceL_len l0 i (by omega)
        have HOUT := Aside0.mk hout
        have HOL := Aside0.mk hol
        clear hout hol
        generalize (l0.take i).foldl onceF [] = out at HO HOUT HOL
        obtain ⟨Ao, co, eo⟩ := Kd.R_slice HO.out
        subst eo
        go_wp2_with fail
        have hz0 : (wr.alloc (.cells #[.int .i64 (rd_T117 l0 (i : Int)).f0, .int .i64 (rd_T117 l0 (i : Int)).f1] 117)).cell? ⟨wr.heap.size, 0, none⟩ = some (.int .i64 (rd_T117 l0 (i : Int)).f0) := by go_simp
        have hz1 : (wr.alloc (.cells #[.int .i64 (rd_T117 l0 (i : Int)).f0, .int .i64 (rd_T117 l0 (i : Int)).f1] 117)).cell? ⟨wr.heap.size, 1, none⟩ = some (.int .i64 (rd_T117 l0 (i : Int)).f1) := by go_simp
        have HZ0 := Aside0.mk hz0
        have HZ1 := Aside0.mk hz1
        clear hz0 hz1
        refine (containsFuncFetch 140 #[.pointer (some ⟨wr.heap.size, 0, none⟩)] (fun g => g.f0 == (rd_T117 l0 (i : Int)).f0) Ao co out _ (Kd.R_reads' (Kd.R_alloc HO.out _)).2.2 HE.out (fun x _ cs W hb hK => by
          obtain rfl := k117_open hK
          exact impl_once_1.calls x wr.heap.size _ W ((hb.cell (p := ⟨wr.heap.size, 0, none⟩) (by simp)).trans HZ0.out))).mono ?_
        rintro e w1 ⟨rfl, hb1⟩
        have HB0 := Aside0.mk (Below.trans (HB.out.alloc HB.out.size (.cells #[.int .i64 (rd_T117 l0 (i : Int)).f0, .int .i64 (rd_T117 l0 (i : Int)).f1] 117)) (hb1.mono (by have := HB.out.size; simp; omega)))
        have hy0 : w1.cell? ⟨wr.heap.size, 0, none⟩ = some (.int .i64 (rd_T117 l0 (i : Int)).f0) := (hb1.cell (p := ⟨wr.heap.size, 0, none⟩) (by simp)).trans HZ0.out
        have hy1 : w1.cell? ⟨wr.heap.size, 1, none⟩ = some (.int .i64 (rd_T117 l0 (i : Int)).f1) := (hb1.cell (p := ⟨wr.heap.size, 1, none⟩) (by simp)).trans HZ1.out
        have HO1 := Aside0.mk (Kd.R_below (Kd.R_alloc HO.out (.cells #[.int .i64 (rd_T117 l0 (i : Int)).f0, .int .i64 (rd_T117 l0 (i : Int)).f1] 117)) hb1)
        clear hb1 HB HO HZ0 HZ1 hc0 hc1
        rw [← HRD.out] at HOUT
        by_cases hany : (out.any fun g => g.f0 == (rd_T117 l0 (i : Int)).f0) = true
        · have HN : Aside0 (out = (l0.take (i + 1)).foldl onceF []) := ⟨by rw [HOUT.out, onceF, if_pos hany]⟩
          rw [hany]
          clear hany
          go_wp2
          go_roundg gk
          case measure => omega
          case rel => exact ⟨i + 1, by go_num, ⟨by have := HI.out; omega⟩, ⟨by rw [← HN.out]; exact HO1.out⟩, HB0⟩
        · have HN : Aside0 (out ++ [rd_T117 l0 (i : Int)] = (l0.take (i + 1)).foldl onceF []) := ⟨by rw [HOUT.out, onceF, if_neg hany]⟩
          rw [Bool.eq_false_iff.mpr hany]
          clear hany
          go_wp2_with (first | (at_builtin; refine Kd.R_append k117 (w0 := w) w.heap.size rfl (.tmp 16) (.tmp 18) 85 117 (.agg #[(.int .i64 0), (.int .i64 0)]) 16 rfl Try.underlying85 infoF rfl (by decide) (by omega) (.slice Ao out.length co) out (rd_T117 l0 (i : Int)) [.int .i64 (rd_T117 l0 (i : Int)).f0, .int .i64 (rd_T117 l0 (i : Int)).f1] (fun _ => True) (fun _ => False) rfl rfl ?aP (fun _ hk => hk.elim) ?aF ?aO ?aB ?aS ?aL ?_; (case aP => exact k117_mkM _ _ _ _); (case aB => exact HB0.out); (case aF => exact (fun _ _ => trivial)); (case aO => exact HO1.out); (case aS => exact HB0.out.size); (case aL => have := HOL.out; have := HL.out; omega); intro v2 w2 ho hb hg hat; have HO2 := Aside0.mk ho; have HB2 := Aside0.mk hb; clear ho hb hg hat))
          go_roundg gk
          case measure => omega
          case rel => exact ⟨i + 1, by go_num, ⟨by have := HI.out; omega⟩, ⟨by rw [← HN.out]; exact HO2.out⟩, HB2⟩
  · rw [if_neg hl] at h
    cases h
end Go.Proofs.Ytgbjbpjmbghlbaa.G
end
section
namespace Go.Proofs.Ytgbjbpjmbghlbaa.G
open Go.RowKit Go.Proofs.YtgbjbpjmbghlbaaW.PrintWords Go.Proofs.YtgbjbpjmbghlbaaW.PrintLast Go.Proofs.YtgbjbpjmbghlbaaW.PrintMore
attribute [local go_sem] max2_int min2_int max_two min_two max_three min_three max_four min_four
set_option linter.unusedVariables false
set_option linter.unusedSimpArgs false
def impl_Task_count.l0 : Nat → Int → List (S30) → Int → Int → Option (Int)
  | 0, _, _, _, _ => none
  | k + 1, x3, x10, x11, x12 => if x12 < x11 then (if 0 ≤ x12 then (if x12 < (x10.length : Int) then (if x3 > 15 then (some x3) else ((impl_Task_countTo.f k ((rd_T30 x10 x12).f0) ((rd_T30 x10 x12).f1) ((rd_T30 x10 x12).f2) (wrap64 (15 - x3))).bind fun t152 => (impl_Task_count.l0 k (wrap64 (x3 + t152)) x10 x11 (wrap64 (x12 + 1))))) else (none)) else (none)) else (some x3)
def impl_Task_count.f (k : Nat) (a0_0 : Int) (a0_1 : Int) (l0_2 : List (S30)) : Option (Int) := (impl_Task_fits.f k a0_0 a0_1 l0_2).bind fun t149 => (if t149 = true then (impl_Task_count.l0 k 1 l0_2 (l0_2.length : Int) 0) else (some 16))
set_option maxHeartbeats 8000000 in
set_option maxRecDepth 100000 in
theorem impl_Task_count.calls (k : Nat) (a0_0 : Int) (a0_1 : Int) (A0_2 : Option Addr) (c0_2 : Nat) (l0_2 : List (S30)) (r : Int) (w : World) (hr0_2 : Kd.C k30 w A0_2 l0_2.length l0_2) (hc0_2 : l0_2.length ≤ c0_2) (h : impl_Task_count.f k a0_0 a0_1 l0_2 = some r) :
    Calls Try.prog 77 #[.agg #[.int .i64 a0_0, .int .i64 a0_1, .slice A0_2 l0_2.length c0_2]] w fun e w' => e = .returned (.int .i64 r) ∧ Below w.heap.size w w' := by
  have hu30 := Try.underlying30
  have HR0_2 := Aside0.mk hr0_2
  have HC0_2 := Aside0.mk hc0_2
  clear hr0_2 hc0_2
  have HB := Aside0.mk (Below.refl w.heap.size w)
  have H : ((impl_Task_fits.f k a0_0 a0_1 l0_2).bind fun t149 => (if t149 = true then (impl_Task_count.l0 k 1 l0_2 (l0_2.length : Int) 0) else (some 16))) = some r := h
  clear h
  replace H := Option.bind_eq_some_iff.mp H
  obtain ⟨t149, A20, H⟩ := H
  replace H : (if t149 = true then (impl_Task_count.l0 k 1 l0_2 (l0_2.length : Int) 0) else (some 16)) = some r := H
  have A2 := Aside0.mk A20
  clear A20
  by_cases c3 : t149 = true
  · subst c3
    have H1 : (impl_Task_count.l0 k 1 l0_2 (l0_2.length : Int) 0) = some r := by rw [if_pos rfl] at H; exact H
    clear H
    have H := H1
    clear H1
    have H' := Aside0.mk H
    clear H
    go_enter Try.func77, Try.ntmps77
    go_wp2_with (first | ((with_reducible refine gate_dst (N := 1) rfl ?_); refine box_event ?hg (N := 1) ?hd (cs := #[.int .i64 a0_0, .int .i64 a0_1, .slice A0_2 l0_2.length c0_2]) (t := 30) ?hr ?_; (case hd => rfl); (case hg => rfl); (case hr => first | (go_simp; done) | (go_simp; rfl)); intro gb148 hg w4 hbox hb; have n0_ := Aside0.mk (below_step (by repeat (first | (with_reducible first | exact HB.out | apply below_alloc | apply pw_below_drewN | apply below_drew1) | exact HB.out)) hb); have n1_ := Aside0.mk (hbox); have n2_ := Aside0.mk ((by rw [hg]; exact (below_size (by repeat (first | (with_reducible first | exact HB.out | apply below_alloc | apply pw_below_drewN | apply below_drew1) | exact HB.out))) : w.heap.size ≤ gb148)); have n3_ := Aside0.mk ((by rw [hg]; exact (below_size (by repeat (first | (with_reducible first | exact HB.out | apply below_alloc | apply pw_below_drewN | apply below_drew1) | exact HB.out))) : w.heap.size ≤ gb148)); clear HB; have HB := n0_; have BK148 := n1_; have GW148 := n2_; have GE148 := n3_; clear n0_ n1_ n2_ n3_; clear hb hbox hg; have hcz5_0 : w4.cell? ⟨gb148, 0, none⟩ = some (.int .i64 a0_0) := (blk_cell BK148.out 0).trans rfl; have hcz5_1 : w4.cell? ⟨gb148, 1, none⟩ = some (.int .i64 a0_1) := (blk_cell BK148.out 1).trans rfl; have hcz5_2 : w4.cell? ⟨gb148, 2, none⟩ = some (.slice A0_2 l0_2.length c0_2) := (blk_cell BK148.out 2).trans rfl; have hfz5_0 := blk_frozen BK148.out 0; have hfz5_1 := blk_frozen BK148.out 1; have hfz5_2 := blk_frozen BK148.out 2) | ((with_reducible refine gate_callee (f := 135) rfl ?_); refine goesL_ (some 7) rfl rfl Try.func135 (by kernel_rfl) rfl #[.agg #[.int .i64 a0_0, .int .i64 a0_1, .slice A0_2 l0_2.length c0_2]] rfl (by (try simp only [List.map_toArray, List.map_cons, List.map_nil]); first | done | rfl | (simp only [List.length_drop, List.length_take]; rfl)) ?_; (with_reducible refine (impl_Task_fits.calls k a0_0 a0_1 _ _ l0_2 true _ ?side1 ?side2 A2.out).mono ?_); (case side1 => repeat (first | exact (Kd.C_below HR0_2.out HB.out) | (with_reducible refine Kd.C_alloc ?_ _) | (with_reducible refine Kd.C_drewN ?_ _) | (with_reducible refine Kd.C_drew ?_))); (case side2 => exact HC0_2.out); rintro e w6 ⟨rfl, hb⟩; refine ⟨_, rfl, ?_⟩; have n0_ := Aside0.mk (blk_below (g := gb148) (o := .cells #[.int .i64 a0_0, .int .i64 a0_1, .slice A0_2 l0_2.length c0_2] 30 (0, 0)) (by (with_reducible repeat (first | refine blk_drewN ?_ _ | refine blk_drew ?_ | refine blk_alloc ?_ _)); exact BK148.out) hb); have n1_ := Aside0.mk (below_step (by repeat (first | (with_reducible first | exact HB.out | apply below_alloc | apply pw_below_drewN | apply below_drew1 | refine below_set ?_ GE148.out) | exact HB.out)) hb); clear BK148; clear HB; have BK148 := n0_; have HB := n1_; clear n0_ n1_; (try clear hb); (try clear hb2); (try clear hk); (try clear hi); have hcz7_0 : w6.cell? ⟨gb148, 0, none⟩ = some (.int .i64 a0_0) := (blk_cell BK148.out 0).trans rfl; have hcz7_1 : w6.cell? ⟨gb148, 1, none⟩ = some (.int .i64 a0_1) := (blk_cell BK148.out 1).trans rfl; have hcz7_2 : w6.cell? ⟨gb148, 2, none⟩ = some (.slice A0_2 l0_2.length c0_2) := (blk_cell BK148.out 2).trans rfl; have hfz7_0 := blk_frozen BK148.out 0; have hfz7_1 := blk_frozen BK148.out 1; have hfz7_2 := blk_frozen BK148.out 2))
    go_loopg [3, 12] k (fun kq v3 v12 w' => ∃ (x3_1 : Int) (x12_1 : Int), v3 = .int .i64 x3_1 ∧ v12 = .int .i64 x12_1 ∧ Aside0 (impl_Task_count.l0 kq x3_1 l0_2 (l0_2.length : Int) x12_1 = some r) ∧ Aside0 (kq ≤ k) ∧ Aside0 (w'.heap[gb148]? = some (.cells #[.int .i64 a0_0, .int .i64 a0_1, (.slice A0_2 l0_2.length c0_2)] 30 (0, 0))) ∧ Aside0 (Below w.heap.size w w'))
    case atStart => exact ⟨(1), (0), (by first | rfl | (simp; done) | (simp [*]; done)), (by first | rfl | (simp; done) | (simp [*]; done)), H', ⟨Nat.le_refl _⟩, ⟨by (with_reducible repeat (first | refine blk_drewN ?_ _ | refine blk_drew ?_ | refine blk_alloc ?_ _)); exact BK148.out⟩, ⟨by repeat (first | (with_reducible first | exact HB.out | apply below_alloc | apply pw_below_drewN | apply below_drew1 | refine below_set ?_ GE148.out) | exact HB.out)⟩⟩
    case round =>
      clear H'
      try clear c1
      try clear p2
      try clear c3
      try clear c7
      try clear hcz5_0
      try clear hcz5_1
      try clear hcz5_2
      try clear hcz7_0
      try clear hcz7_1
      try clear hcz7_2
      try clear hfz5_0
      try clear hfz5_1
      try clear hfz5_2
      try clear hfz7_0
      try clear hfz7_1
      try clear hfz7_2
      obtain ⟨x3_1, x12_1, rfl, rfl, HA, HK1, BK148, HB⟩ := hrel
      cases gk with
      | zero => exact absurd HA.out (by simp [impl_Task_count.l0])
      | succ k1 =>
        have H := HA.out
        clear HA
        simp only [impl_Task_count.l0] at H
        by_cases c8 : x12_1 < (l0_2.length : Int)
        · rw [if_pos c8] at H
          have c8b0 : decide (x12_1 < (l0_2.length : Int)) = true := decide_eq_true c8
          clear c8
          by_cases c9 : 0 ≤ x12_1
          · rw [if_pos c9] at H
            have c9b0 : decide (0 ≤ x12_1) = true := decide_eq_true c9
            clear c9
            by_cases c10 : x12_1 < (l0_2.length : Int)
            · rw [if_pos c10] at H
              have c10b0 : decide (x12_1 < (l0_2.length : Int)) = true := decide_eq_true c10
              clear c10
              by_cases c11 : x3_1 > 15
              · rw [if_pos c11] at H
                have c11b0 : decide (15 < x3_1) = true := decide_eq_true c11
                clear c11
                obtain rfl := Option.some.inj H
                have p150 : 0 ≤ (x12_1 : Int) := of_decide_eq_true (by first | (with_reducible assumption) | assumption)
                have q150 : x12_1 < (l0_2.length : Int) := of_decide_eq_true (by first | (with_reducible assumption) | assumption)
                obtain ⟨ad150, A150_2, c150_2, e150, hx150_0, hx150_1, hx150_2, hl150_2, hi150_2⟩ := at_T30 HR0_2.out x12_1 p150 q150
                cases e150
                replace hx150_0 := (HB.out.cell (World.block_lt_of_cell? w _ hx150_0)).trans hx150_0
                replace hx150_1 := (HB.out.cell (World.block_lt_of_cell? w _ hx150_1)).trans hx150_1
                replace hx150_2 := (HB.out.cell (World.block_lt_of_cell? w _ hx150_2)).trans hx150_2
                have HR150_2 := Aside0.mk hi150_2
                have HC150_2 := Aside0.mk hl150_2
                clear hi150_2 hl150_2
                replace p150 := eq_true p150
                replace q150 := eq_true q150
                go_wp2_with (first | ((with_reducible refine gate_dst (N := 5) rfl ?_); refine box_event ?hg (N := 5) ?hd (cs := #[.int .i64 0, .int .i64 0, .slice none 0 0]) (t := 30) ?hr ?_; (case hd => rfl); (case hg => rfl); (case hr => first | (go_simp; done) | (go_simp; rfl)); intro gb151 hg w12 hbox hb; have n0_ := Aside0.mk (blk_below (g := gb148) (o := .cells #[.int .i64 a0_0, .int .i64 a0_1, .slice (some ad150) l0_2.length c0_2] 30 (0, 0)) (by (with_reducible repeat (first | refine blk_drewN ?_ _ | refine blk_drew ?_ | refine blk_alloc ?_ _)); exact BK148.out) hb); have n1_ := Aside0.mk (below_step (by repeat (first | (with_reducible first | exact HB.out | apply below_alloc | apply pw_below_drewN | apply below_drew1 | refine below_set ?_ GE148.out) | exact HB.out)) hb); have n2_ := Aside0.mk (hbox); have n3_ := Aside0.mk ((by rw [hg]; exact (below_size (by repeat (first | (with_reducible first | exact HB.out | apply below_alloc | apply pw_below_drewN | apply below_drew1 | refine below_set ?_ GE148.out) | exact HB.out))) : w.heap.size ≤ gb151)); have n4_ := Aside0.mk ((by rw [hg]; exact (below_size (by repeat (first | (with_reducible first | exact HB.out | apply below_alloc | apply pw_below_drewN | apply below_drew1 | refine below_set ?_ GE148.out) | exact HB.out))) : w.heap.size ≤ gb151)); have n5_ := Aside0.mk ((by rw [hg]; exact Nat.ne_of_lt (blk_lt (g := gb148) (o := .cells #[.int .i64 a0_0, .int .i64 a0_1, .slice (some ad150) l0_2.length c0_2] 30 (0, 0)) (by (with_reducible repeat (first | refine blk_drewN ?_ _ | refine blk_drew ?_ | refine blk_alloc ?_ _)); exact BK148.out)) : gb148 ≠ gb151)); have n6_ := Aside0.mk ((by rw [hg]; exact Nat.ne_of_gt (blk_lt (g := gb148) (o := .cells #[.int .i64 a0_0, .int .i64 a0_1, .slice (some ad150) l0_2.length c0_2] 30 (0, 0)) (by (with_reducible repeat (first | refine blk_drewN ?_ _ | refine blk_drew ?_ | refine blk_alloc ?_ _)); exact BK148.out)) : gb151 ≠ gb148)); clear BK148; clear HB; have BK148 := n0_; have HB := n1_; have BK151 := n2_; have GW151 := n3_; have GE151 := n4_; have NB148_151 := n5_; have NB151_148 := n6_; clear n0_ n1_ n2_ n3_ n4_ n5_ n6_; clear hb hbox hg; have hnb13 := NB151_148.out; have hnc13 := NB148_151.out; have hcz14_0 : w12.cell? ⟨gb151, 0, none⟩ = some (.int .i64 0) := (blk_cell BK151.out 0).trans rfl; have hcz14_1 : w12.cell? ⟨gb151, 1, none⟩ = some (.int .i64 0) := (blk_cell BK151.out 1).trans rfl; have hcz14_2 : w12.cell? ⟨gb151, 2, none⟩ = some (.slice none 0 0) := (blk_cell BK151.out 2).trans rfl; have hfz14_0 := blk_frozen BK151.out 0; have hfz14_1 := blk_frozen BK151.out 1; have hfz14_2 := blk_frozen BK151.out 2))
                go_ret
                exact ⟨by first | rfl | (simp [errW_none, errW_some] <;> rfl) | (simp [*, errW_none, errW_some] <;> rfl), by repeat (first | (with_reducible first | exact HB.out | apply below_alloc | apply pw_below_drewN | apply below_drew1 | refine below_set ?_ GE148.out | refine below_set ?_ GE151.out) | exact HB.out)⟩
              · rw [if_neg c11] at H
                have c11b0 : decide (15 < x3_1) = false := decide_eq_false c11
                clear c11
                replace H := Option.bind_eq_some_iff.mp H
                obtain ⟨t152, A150, H⟩ := H
                replace H : (impl_Task_count.l0 k1 (wrap64 (x3_1 + t152)) l0_2 (l0_2.length : Int) (wrap64 (x12_1 + 1))) = some r := H
                have A15 := Aside0.mk A150
                clear A150
                have H' := Aside0.mk H
                clear H
                have p150 : 0 ≤ (x12_1 : Int) := of_decide_eq_true (by first | (with_reducible assumption) | assumption)
                have q150 : x12_1 < (l0_2.length : Int) := of_decide_eq_true (by first | (with_reducible assumption) | assumption)
                obtain ⟨ad150, A150_2, c150_2, e150, hx150_0, hx150_1, hx150_2, hl150_2, hi150_2⟩ := at_T30 HR0_2.out x12_1 p150 q150
                cases e150
                replace hx150_0 := (HB.out.cell (World.block_lt_of_cell? w _ hx150_0)).trans hx150_0
                replace hx150_1 := (HB.out.cell (World.block_lt_of_cell? w _ hx150_1)).trans hx150_1
                replace hx150_2 := (HB.out.cell (World.block_lt_of_cell? w _ hx150_2)).trans hx150_2
                have HR150_2 := Aside0.mk hi150_2
                have HC150_2 := Aside0.mk hl150_2
                clear hi150_2 hl150_2
                replace p150 := eq_true p150
                replace q150 := eq_true q150
                go_wp2_with (first | ((with_reducible refine gate_dst (N := 5) rfl ?_); refine box_event ?hg (N := 5) ?hd (cs := #[.int .i64 0, .int .i64 0, .slice none 0 0]) (t := 30) ?hr ?_; (case hd => rfl); (case hg => rfl); (case hr => first | (go_simp; done) | (go_simp; rfl)); intro gb151 hg w16 hbox hb; have n0_ := Aside0.mk (blk_below (g := gb148) (o := .cells #[.int .i64 a0_0, .int .i64 a0_1, .slice (some ad150) l0_2.length c0_2] 30 (0, 0)) (by (with_reducible repeat (first | refine blk_drewN ?_ _ | refine blk_drew ?_ | refine blk_alloc ?_ _)); exact BK148.out) hb); have n1_ := Aside0.mk (below_step (by repeat (first | (with_reducible first | exact HB.out | apply below_alloc | apply pw_below_drewN | apply below_drew1 | refine below_set ?_ GE148.out) | exact HB.out)) hb); have n2_ := Aside0.mk (hbox); have n3_ := Aside0.mk ((by rw [hg]; exact (below_size (by repeat (first | (with_reducible first | exact HB.out | apply below_alloc | apply pw_below_drewN | apply below_drew1 | refine below_set ?_ GE148.out) | exact HB.out))) : w.heap.size ≤ gb151)); have n4_ := Aside0.mk ((by rw [hg]; exact (below_size (by repeat (first | (with_reducible first | exact HB.out | apply below_alloc | apply pw_below_drewN | apply below_drew1 | refine below_set ?_ GE148.out) | exact HB.out))) : w.heap.size ≤ gb151)); have n5_ := Aside0.mk ((by rw [hg]; exact Nat.ne_of_lt (blk_lt (g := gb148) (o := .cells #[.int .i64 a0_0, .int .i64 a0_1, .slice (some ad150) l0_2.length c0_2] 30 (0, 0)) (by (with_reducible repeat (first | refine blk_drewN ?_ _ | refine blk_drew ?_ | refine blk_alloc ?_ _)); exact BK148.out)) : gb148 ≠ gb151)); have n6_ := Aside0.mk ((by rw [hg]; exact Nat.ne_of_gt (blk_lt (g := gb148) (o := .cells #[.int .i64 a0_0, .int .i64 a0_1, .slice (some ad150) l0_2.length c0_2] 30 (0, 0)) (by (with_reducible repeat (first | refine blk_drewN ?_ _ | refine blk_drew ?_ | refine blk_alloc ?_ _)); exact BK148.out)) : gb151 ≠ gb148)); clear BK148; clear HB; have BK148 := n0_; have HB := n1_; have BK151 := n2_; have GW151 := n3_; have GE151 := n4_; have NB148_151 := n5_; have NB151_148 := n6_; clear n0_ n1_ n2_ n3_ n4_ n5_ n6_; clear hb hbox hg; have hnb17 := NB151_148.out; have hnc17 := NB148_151.out; have hcz18_0 : w16.cell? ⟨gb151, 0, none⟩ = some (.int .i64 0) := (blk_cell BK151.out 0).trans rfl; have hcz18_1 : w16.cell? ⟨gb151, 1, none⟩ = some (.int .i64 0) := (blk_cell BK151.out 1).trans rfl; have hcz18_2 : w16.cell? ⟨gb151, 2, none⟩ = some (.slice none 0 0) := (blk_cell BK151.out 2).trans rfl; have hfz18_0 := blk_frozen BK151.out 0; have hfz18_1 := blk_frozen BK151.out 1; have hfz18_2 := blk_frozen BK151.out 2) | ((with_reducible refine gate_callee (f := 136) rfl ?_); refine goesL_ (some 23) rfl rfl Try.func136 (by kernel_rfl) rfl #[.agg #[.int .i64 ((rd_T30 l0_2 x12_1).f0), .int .i64 ((rd_T30 l0_2 x12_1).f1), .slice A150_2 ((rd_T30 l0_2 x12_1).f2).length c150_2], .int .i64 (wrap64 (15 - x3_1))] rfl (by (try simp only [List.map_toArray, List.map_cons, List.map_nil]); first | done | rfl | (simp only [List.length_drop, List.length_take]; rfl)) ?_; (with_reducible refine (impl_Task_countTo.calls k1 ((rd_T30 l0_2 x12_1).f0) ((rd_T30 l0_2 x12_1).f1) _ _ ((rd_T30 l0_2 x12_1).f2) (wrap64 (15 - x3_1)) t152 _ ?side1 ?side2 A15.out).mono ?_); (case side1 => exact Kd.C_below HR150_2.out (by repeat (first | (with_reducible first | exact HB.out | apply below_alloc | apply pw_below_drewN | apply below_drew1 | refine below_set ?_ GE148.out | refine below_set ?_ GE151.out) | exact HB.out))); (case side2 => exact HC150_2.out); rintro e w19 ⟨rfl, hb⟩; refine ⟨_, rfl, ?_⟩; have n0_ := Aside0.mk (blk_below (g := gb148) (o := .cells #[.int .i64 a0_0, .int .i64 a0_1, .slice (some ad150) l0_2.length c0_2] 30 (0, 0)) (by (with_reducible repeat (first | refine blk_drewN ?_ _ | refine blk_drew ?_ | refine blk_alloc ?_ _)); refine blk_far ?_ NB148_151.out _; (with_reducible repeat (first | refine blk_drewN ?_ _ | refine blk_drew ?_ | refine blk_alloc ?_ _)); refine blk_far ?_ NB148_151.out _; (with_reducible repeat (first | refine blk_drewN ?_ _ | refine blk_drew ?_ | refine blk_alloc ?_ _)); refine blk_far ?_ NB148_151.out _; (with_reducible repeat (first | refine blk_drewN ?_ _ | refine blk_drew ?_ | refine blk_alloc ?_ _)); exact BK148.out) hb); have n1_ := Aside0.mk (blk_below (g := gb151) (o := .cells #[.int .i64 ((rd_T30 l0_2 x12_1).f0), .int .i64 ((rd_T30 l0_2 x12_1).f1), .slice A150_2 ((rd_T30 l0_2 x12_1).f2).length c150_2] 30 (0, 0)) (by (with_reducible repeat (first | refine blk_drewN ?_ _ | refine blk_drew ?_ | refine blk_alloc ?_ _)); refine blk_put (cs := #[.int .i64 ((rd_T30 l0_2 x12_1).f0), .int .i64 ((rd_T30 l0_2 x12_1).f1), .slice none 0 0]) ?_ 2 _ rfl; (with_reducible repeat (first | refine blk_drewN ?_ _ | refine blk_drew ?_ | refine blk_alloc ?_ _)); refine blk_put (cs := #[.int .i64 ((rd_T30 l0_2 x12_1).f0), .int .i64 0, .slice none 0 0]) ?_ 1 _ rfl; (with_reducible repeat (first | refine blk_drewN ?_ _ | refine blk_drew ?_ | refine blk_alloc ?_ _)); refine blk_put (cs := #[.int .i64 0, .int .i64 0, .slice none 0 0]) ?_ 0 _ rfl; (with_reducible repeat (first | refine blk_drewN ?_ _ | refine blk_drew ?_ | refine blk_alloc ?_ _)); exact BK151.out) hb); have n2_ := Aside0.mk (below_step (by repeat (first | (with_reducible first | exact HB.out | apply below_alloc | apply pw_below_drewN | apply below_drew1 | refine below_set ?_ GE148.out | refine below_set ?_ GE151.out) | exact HB.out)) hb); clear BK148; clear BK151; clear HB; have BK148 := n0_; have BK151 := n1_; have HB := n2_; clear n0_ n1_ n2_; (try clear hb); (try clear hb2); (try clear hk); (try clear hi)))
                go_roundg k1
                case measure => have := HK1.out; omega
                case rel => exact ⟨(wrap64 (x3_1 + t152)), (wrap64 (x12_1 + 1)), (by first | rfl | (simp; done) | (simp [*]; done)), (by first | rfl | (simp; done) | (simp [*]; done)), H', ⟨by have := HK1.out; omega⟩, ⟨by (with_reducible repeat (first | refine blk_drewN ?_ _ | refine blk_drew ?_ | refine blk_alloc ?_ _)); exact BK148.out⟩, ⟨by repeat (first | (with_reducible first | exact HB.out | apply below_alloc | apply pw_below_drewN | apply below_drew1 | refine below_set ?_ GE148.out | refine below_set ?_ GE151.out) | exact HB.out)⟩⟩
            · rw [if_neg c10] at H
              exact absurd H (by simp)
          · rw [if_neg c9] at H
            exact absurd H (by simp)
        · rw [if_neg c8] at H
          have c8b0 : decide (x12_1 < (l0_2.length : Int)) = false := decide_eq_false c8
          clear c8
          obtain rfl := Option.some.inj H
          go_wp2
          go_ret
          exact ⟨by first | rfl | (simp [errW_none, errW_some] <;> rfl) | (simp [*, errW_none, errW_some] <;> rfl), by repeat (first | (with_reducible first | exact HB.out | apply below_alloc | apply pw_below_drewN | apply below_drew1 | refine below_set ?_ GE148.out) | exact HB.out)⟩
  · replace c3 := Bool.eq_false_iff.mpr c3
    subst c3
    have H1 : (some 16) = some r := by rw [if_neg (show ¬ (false = true) by decide)] at H; exact H
    clear H
    have H := H1
    clear H1
    obtain rfl := Option.some.inj H
    go_enter Try.func77, Try.ntmps77
    go_wp2_with (first | ((with_reducible refine gate_dst (N := 1) rfl ?_); refine box_event ?hg (N := 1) ?hd (cs := #[.int .i64 a0_0, .int .i64 a0_1, .slice A0_2 l0_2.length c0_2]) (t := 30) ?hr ?_; (case hd => rfl); (case hg => rfl); (case hr => first | (go_simp; done) | (go_simp; rfl)); intro gb148 hg w20 hbox hb; have n0_ := Aside0.mk (below_step (by repeat (first | (with_reducible first | exact HB.out | apply below_alloc | apply pw_below_drewN | apply below_drew1) | exact HB.out)) hb); have n1_ := Aside0.mk (hbox); have n2_ := Aside0.mk ((by rw [hg]; exact (below_size (by repeat (first | (with_reducible first | exact HB.out | apply below_alloc | apply pw_below_drewN | apply below_drew1) | exact HB.out))) : w.heap.size ≤ gb148)); have n3_ := Aside0.mk ((by rw [hg]; exact (below_size (by repeat (first | (with_reducible first | exact HB.out | apply below_alloc | apply pw_below_drewN | apply below_drew1) | exact HB.out))) : w.heap.size ≤ gb148)); clear HB; have HB := n0_; have BK148 := n1_; have GW148 := n2_; have GE148 := n3_; clear n0_ n1_ n2_ n3_; clear hb hbox hg; have hcz21_0 : w20.cell? ⟨gb148, 0, none⟩ = some (.int .i64 a0_0) := (blk_cell BK148.out 0).trans rfl; have hcz21_1 : w20.cell? ⟨gb148, 1, none⟩ = some (.int .i64 a0_1) := (blk_cell BK148.out 1).trans rfl; have hcz21_2 : w20.cell? ⟨gb148, 2, none⟩ = some (.slice A0_2 l0_2.length c0_2) := (blk_cell BK148.out 2).trans rfl; have hfz21_0 := blk_frozen BK148.out 0; have hfz21_1 := blk_frozen BK148.out 1; have hfz21_2 := blk_frozen BK148.out 2) | ((with_reducible refine gate_callee (f := 135) rfl ?_); refine goesL_ (some 7) rfl rfl Try.func135 (by kernel_rfl) rfl #[.agg #[.int .i64 a0_0, .int .i64 a0_1, .slice A0_2 l0_2.length c0_2]] rfl (by (try simp only [List.map_toArray, List.map_cons, List.map_nil]); first | done | rfl | (simp only [List.length_drop, List.length_take]; rfl)) ?_; (with_reducible refine (impl_Task_fits.calls k a0_0 a0_1 _ _ l0_2 false _ ?side1 ?side2 A2.out).mono ?_); (case side1 => repeat (first | exact (Kd.C_below HR0_2.out HB.out) | (with_reducible refine Kd.C_alloc ?_ _) | (with_reducible refine Kd.C_drewN ?_ _) | (with_reducible refine Kd.C_drew ?_))); (case side2 => exact HC0_2.out); rintro e w22 ⟨rfl, hb⟩; refine ⟨_, rfl, ?_⟩; have n0_ := Aside0.mk (blk_below (g := gb148) (o := .cells #[.int .i64 a0_0, .int .i64 a0_1, .slice A0_2 l0_2.length c0_2] 30 (0, 0)) (by (with_reducible repeat (first | refine blk_drewN ?_ _ | refine blk_drew ?_ | refine blk_alloc ?_ _)); exact BK148.out) hb); have n1_ := Aside0.mk (below_step (by repeat (first | (with_reducible first | exact HB.out | apply below_alloc | apply pw_below_drewN | apply below_drew1 | refine below_set ?_ GE148.out) | exact HB.out)) hb); clear BK148; clear HB; have BK148 := n0_; have HB := n1_; clear n0_ n1_; (try clear hb); (try clear hb2); (try clear hk); (try clear hi)))
    go_ret
    exact ⟨by first | rfl | (simp [errW_none, errW_some] <;> rfl) | (simp [*, errW_none, errW_some] <;> rfl), by repeat (first | (with_reducible first | exact HB.out | apply below_alloc | apply pw_below_drewN | apply below_drew1 | refine below_set ?_ GE148.out) | exact HB.out)⟩
def impl_TaskOk.f (k : Nat) (a0_0 : Int) (a0_1 : Int) (l0_2 : List (S30)) : Option (Bool) := (impl_Task_count.f k a0_0 a0_1 l0_2).bind fun t154 => (some (decide (t154 ≤ 15)))
set_option maxHeartbeats 8000000 in
set_option maxRecDepth 100000 in
theorem impl_TaskOk.calls (k : Nat) (a0_0 : Int) (a0_1 : Int) (A0_2 : Option Addr) (c0_2 : Nat) (l0_2 : List (S30)) (r : Bool) (w : World) (hr0_2 : Kd.C k30 w A0_2 l0_2.length l0_2) (hc0_2 : l0_2.length ≤ c0_2) (h : impl_TaskOk.f k a0_0 a0_1 l0_2 = some r) :
    Calls Try.prog 26 #[.agg #[.int .i64 a0_0, .int .i64 a0_1, .slice A0_2 l0_2.length c0_2]] w fun e w' => e = .returned (.bool r) ∧ Below w.heap.size w w' := by
  have hu30 := Try.underlying30
  have HR0_2 := Aside0.mk hr0_2
  have HC0_2 := Aside0.mk hc0_2
  clear hr0_2 hc0_2
  have HB := Aside0.mk (Below.refl w.heap.size w)
  have H : ((impl_Task_count.f k a0_0 a0_1 l0_2).bind fun t154 => (some (decide (t154 ≤ 15)))) = some r := h
  clear h
  replace H := Option.bind_eq_some_iff.mp H
  obtain ⟨t154, A20, H⟩ := H
  replace H : (some (decide (t154 ≤ 15))) = some r := H
  have A2 := Aside0.mk A20
  clear A20
  obtain rfl := Option.some.inj H
  go_enter Try.func26, Try.ntmps26
  go_wp2_with (first | ((with_reducible refine gate_dst (N := 1) rfl ?_); refine box_event ?hg (N := 1) ?hd (cs := #[.int .i64 a0_0, .int .i64 a0_1, .slice A0_2 l0_2.length c0_2]) (t := 30) ?hr ?_; (case hd => rfl); (case hg => rfl); (case hr => first | (go_simp; done) | (go_simp; rfl)); intro gb153 hg w3 hbox hb; have n0_ := Aside0.mk (below_step (by repeat (first | (with_reducible first | exact HB.out | apply below_alloc | apply pw_below_drewN | apply below_drew1) | exact HB.out)) hb); have n1_ := Aside0.mk (hbox); have n2_ := Aside0.mk ((by rw [hg]; exact (below_size (by repeat (first | (with_reducible first | exact HB.out | apply below_alloc | apply pw_below_drewN | apply below_drew1) | exact HB.out))) : w.heap.size ≤ gb153)); have n3_ := Aside0.mk ((by rw [hg]; exact (below_size (by repeat (first | (with_reducible first | exact HB.out | apply below_alloc | apply pw_below_drewN | apply below_drew1) | exact HB.out))) : w.heap.size ≤ gb153)); clear HB; have HB := n0_; have BK153 := n1_; have GW153 := n2_; have GE153 := n3_; clear n0_ n1_ n2_ n3_; clear hb hbox hg; have hcz4_0 : w3.cell? ⟨gb153, 0, none⟩ = some (.int .i64 a0_0) := (blk_cell BK153.out 0).trans rfl; have hcz4_1 : w3.cell? ⟨gb153, 1, none⟩ = some (.int .i64 a0_1) := (blk_cell BK153.out 1).trans rfl; have hcz4_2 : w3.cell? ⟨gb153, 2, none⟩ = some (.slice A0_2 l0_2.length c0_2) := (blk_cell BK153.out 2).trans rfl; have hfz4_0 := blk_frozen BK153.out 0; have hfz4_1 := blk_frozen BK153.out 1; have hfz4_2 := blk_frozen BK153.out 2) | ((with_reducible refine gate_callee (f := 77) rfl ?_); refine goesL_ (some 4) rfl rfl Try.func77 (by kernel_rfl) rfl #[.agg #[.int .i64 a0_0, .int .i64 a0_1, .slice A0_2 l0_2.length c0_2]] rfl (by (try simp only [List.map_toArray, List.map_cons, List.map_nil]); first | done | rfl | (simp only [List.length_drop, List.length_take]; rfl)) ?_; (with_reducible refine (impl_Task_count.calls k a0_0 a0_1 _ _ l0_2 t154 _ ?side1 ?side2 A2.out).mono ?_); (case side1 => repeat (first | exact (Kd.C_below HR0_2.out HB.out) | (with_reducible refine Kd.C_alloc ?_ _) | (with_reducible refine Kd.C_drewN ?_ _) | (with_reducible refine Kd.C_drew ?_))); (case side2 => exact HC0_2.out); rintro e w5 ⟨rfl, hb⟩; refine ⟨_, rfl, ?_⟩; have n0_ := Aside0.mk (blk_below (g := gb153) (o := .cells #[.int .i64 a0_0, .int .i64 a0_1, .slice A0_2 l0_2.length c0_2] 30 (0, 0)) (by (with_reducible repeat (first | refine blk_drewN ?_ _ | refine blk_drew ?_ | refine blk_alloc ?_ _)); exact BK153.out) hb); have n1_ := Aside0.mk (below_step (by repeat (first | (with_reducible first | exact HB.out | apply below_alloc | apply pw_below_drewN | apply below_drew1 | refine below_set ?_ GE153.out) | exact HB.out)) hb); clear BK153; clear HB; have BK153 := n0_; have HB := n1_; clear n0_ n1_; (try clear hb); (try clear hb2); (try clear hk); (try clear hi)))
  go_ret
  exact ⟨by first | rfl | (simp [errW_none, errW_some] <;> rfl) | (simp [*, errW_none, errW_some] <;> rfl), by repeat (first | (with_reducible first | exact HB.out | apply below_alloc | apply pw_below_drewN | apply below_drew1 | refine below_set ?_ GE153.out) | exact HB.out)⟩
end Go.Proofs.Ytgbjbpjmbghlbaa.G
end
section
namespace Go.Proofs.Ytgbjbpjmbghlbaa.G
open Go.RowKit Go.Proofs.YtgbjbpjmbghlbaaW.PrintWords Go.Proofs.YtgbjbpjmbghlbaaW.PrintLast Go.Proofs.YtgbjbpjmbghlbaaW.PrintMore
set_option linter.unusedVariables false
set_option linter.unusedSimpArgs false
theorem isVal_f (n : Int) : impl_isValue.f n = some (isVal n) := by
  unfold impl_isValue.f isVal
  by_cases h : n ≥ 0
  · rw [if_pos h]; simp only [ge_iff_le] at h; simp [h]
  · rw [if_neg h]; simp only [ge_iff_le] at h; simp [h]
def impl_areValues.f (l0 : List Int) : Option Bool := some (l0.all isVal)
theorem areValues1_calls (n : Int) (w : World) : Calls Try.prog 144 #[.int .i64 n] w fun e w' => e = .returned (.bool (!isVal n)) ∧ Below w.heap.size w w' := by
  have H := Aside0.mk (isVal_f n)
  go_enter Try.func144, Try.ntmps144
  go_wp2_with (go_at_call 145; refine (impl_isValue.calls n _ _ H.out).mono ?_; rintro e w' ⟨rfl, ⟨m, rfl⟩⟩)
  go_ret
  exact ⟨rfl, pw_below_drewN (Below.refl _ _) m⟩
theorem impl_areValues.calls (A0 : Option Addr) (c0 : Nat) (l0 : List Int) (r : Bool) (w : World) (hr0 : Kd.C (Kd.int .i64) w A0 l0.length l0) (hc0 : l0.length ≤ c0) (h : impl_areValues.f l0 = some r) :
    Calls Try.prog 91 #[.slice A0 l0.length c0] w fun e w' => e = .returned (.bool r) ∧ Below w.heap.size w w' := by
  have HR := Aside0.mk hr0
  clear hr0 hc0
  have hx : (!(l0.any fun n => !isVal n)) = r := by
    unfold impl_areValues.f at h
    injection h with h
    rw [← h, List.all_eq_not_any_not]
  clear h
  have HT : Aside0 (Tells 144 #[] (Value.int .i64) (fun n => !isVal n) w l0) := ⟨fun x _ W _ => areValues1_calls x W⟩
  have HE : Aside0 (∀ (args : Array Value) (W : World), (callFunc 144 args).run Try.prog W = .ok (.enter 144 args) W) := ⟨enters_fn Try.func144 (by kernel_rfl) rfl⟩
  generalize hb : (l0.any fun n => !isVal n) = b at hx
  have HB := Aside0.mk hb
  have HX := Aside0.mk hx
  clear hb hx
  go_enter Try.func91, Try.ntmps91
  go_wp2_with (go_at_call 143; refine (containsFunc_int 144 #[] (fun n => !isVal n) A0 c0 l0 _ HR.out HE.out HT.out).mono ?_; rintro e w1 ⟨rfl, hb1⟩; rw [HB.out])
  go_ret
  exact ⟨by rw [← HX.out]; rfl, hb1⟩
end Go.Proofs.Ytgbjbpjmbghlbaa.G
end
section
namespace Go.Proofs.Ytgbjbpjmbghlbaa.G
open Go.RowKit Go.Proofs.YtgbjbpjmbghlbaaW.PrintWords Go.Proofs.YtgbjbpjmbghlbaaW.PrintLast Go.Proofs.YtgbjbpjmbghlbaaW.PrintMore
attribute [local go_sem] max2_int min2_int max_two min_two max_three min_three max_four min_four
set_option linter.unusedVariables false
set_option linter.unusedSimpArgs false
def impl_valuesOk.f (l0 : List Int) : Option (Bool) := if (l0.length : Int) ≤ 10 then ((impl_areValues.f l0).bind fun t369 => (some t369)) else (some false)
set_option maxHeartbeats 8000000 in
set_option maxRecDepth 100000 in
theorem impl_valuesOk.calls (A0 : Option Addr) (c0 : Nat) (l0 : List Int) (r : Bool) (w : World) (hr0 : Kd.C (Kd.int .i64) w A0 l0.length l0) (hc0 : l0.length ≤ c0) (h : impl_valuesOk.f l0 = some r) :
    Calls Try.prog 137 #[.slice A0 l0.length c0] w fun e w' => e = .returned (.bool r) ∧ Below w.heap.size w w' := by
  have HR0 := Aside0.mk hr0
  have HC0 := Aside0.mk hc0
  clear hr0 hc0
  have HB := Aside0.mk (Below.refl w.heap.size w)
  have H : (if (l0.length : Int) ≤ 10 then ((impl_areValues.f l0).bind fun t369 => (some t369)) else (some false)) = some r := h
  clear h
  by_cases c2 : (l0.length : Int) ≤ 10
  · rw [if_pos c2] at H
    have c2b0 : decide ((l0.length : Int) ≤ 10) = true := decide_eq_true c2
    have c2b1 : decide (l0.length ≤ 10) = true := decide_eq_true (by omega)
    clear c2
    replace H := Option.bind_eq_some_iff.mp H
    obtain ⟨t369, A30, H⟩ := H
    replace H : (some t369) = some r := H
    have A3 := Aside0.mk A30
    clear A30
    obtain rfl := Option.some.inj H
    go_enter Try.func137, Try.ntmps137
    go_wp2_with (first | (go_at_call 91; (with_reducible refine (impl_areValues.calls _ _ l0 t369 _ ?side1 ?side2 A3.out).mono ?_); (case side1 => repeat (first | exact HR0.out | (with_reducible refine Kd.C_alloc ?_ _) | (with_reducible refine Kd.C_drewN ?_ _) | (with_reducible refine Kd.C_drew ?_))); (case side2 => exact HC0.out); rintro e w4 ⟨rfl, hb⟩; have n0_ := Aside0.mk (below_step (by repeat (first | (with_reducible first | exact HB.out | apply below_alloc | apply pw_below_drewN | apply below_drew1) | exact HB.out)) hb); clear HB; have HB := n0_; clear n0_; (try clear hb); (try clear hb2); (try clear hk); (try clear hi)))
    go_ret
    exact ⟨by first | rfl | (simp [errW_none, errW_some] <;> rfl) | (simp [*, errW_none, errW_some] <;> rfl), by repeat (first | (with_reducible first | exact HB.out | apply below_alloc | apply pw_below_drewN | apply below_drew1) | exact HB.out)⟩
  · rw [if_neg c2] at H
    have c2b0 : decide ((l0.length : Int) ≤ 10) = false := decide_eq_false c2
    have c2b1 : decide (l0.length ≤ 10) = false := decide_eq_false (by omega)
    clear c2
    obtain rfl := Option.some.inj H
    go_enter Try.func137, Try.ntmps137
    go_wp2
    go_ret
    exact ⟨by first | rfl | (simp [errW_none, errW_some] <;> rfl) | (simp [*, errW_none, errW_some] <;> rfl), by repeat (first | (with_reducible first | exact HB.out | apply below_alloc | apply pw_below_drewN | apply below_drew1) | exact HB.out)⟩
def impl_at.f (l0 : List Int) (a1 : Int) : Option (Int) := if a1 < 0 then (some 0) else (if a1 ≥ (l0.length : Int) then (some 0) else (if 0 ≤ a1 then (if a1 < (l0.length : Int) then (some (rd l0 a1)) else (none)) else (none)))
set_option maxHeartbeats 8000000 in
set_option maxRecDepth 100000 in
theorem impl_at.calls (A0 : Option Addr) (c0 : Nat) (l0 : List Int) (a1 : Int) (r : Int) (w : World) (hr0 : Kd.C (Kd.int .i64) w A0 l0.length l0) (hc0 : l0.length ≤ c0) (h : impl_at.f l0 a1 = some r) :
    Calls Try.prog 166 #[.slice A0 l0.length c0, .int .i64 a1] w fun e w' => e = .returned (.int .i64 r) ∧ Drawn0 w w' := by
  have HR0 := Aside0.mk hr0
  have HC0 := Aside0.mk hc0
  clear hr0 hc0
  have H : (if a1 < 0 then (some 0) else (if a1 ≥ (l0.length : Int) then (some 0) else (if 0 ≤ a1 then (if a1 < (l0.length : Int) then (some (rd l0 a1)) else (none)) else (none)))) = some r := h
  clear h
  by_cases c3 : a1 < 0
  · rw [if_pos c3] at H
    have c3b0 : decide (a1 < 0) = true := decide_eq_true c3
    clear c3
    obtain rfl := Option.some.inj H
    go_enter Try.func166, Try.ntmps166
    go_wp2
    go_ret
    exact ⟨by first | rfl | (simp; done) | (simp [*]; done), by repeat (first | exact Drawn0.refl _ | apply Drawn0.step)⟩
  · rw [if_neg c3] at H
    have c3b0 : decide (a1 < 0) = false := decide_eq_false c3
    clear c3
    by_cases c4 : a1 ≥ (l0.length : Int)
    · rw [if_pos c4] at H
      have c4b0 : decide ((l0.length : Int) ≤ a1) = true := decide_eq_true c4
      clear c4
      obtain rfl := Option.some.inj H
      go_enter Try.func166, Try.ntmps166
      go_wp2
      go_ret
      exact ⟨by first | rfl | (simp; done) | (simp [*]; done), by repeat (first | exact Drawn0.refl _ | apply Drawn0.step)⟩
    · rw [if_neg c4] at H
      have c4b0 : decide ((l0.length : Int) ≤ a1) = false := decide_eq_false c4
      clear c4
      by_cases c5 : 0 ≤ a1
      · rw [if_pos c5] at H
        have c5b0 : decide (0 ≤ a1) = true := decide_eq_true c5
        clear c5
        by_cases c6 : a1 < (l0.length : Int)
        · rw [if_pos c6] at H
          have c6b0 : decide (a1 < (l0.length : Int)) = true := decide_eq_true c6
          clear c6
          obtain rfl := Option.some.inj H
          have p370 : 0 ≤ (a1 : Int) := of_decide_eq_true (by first | (with_reducible assumption) | assumption)
          have q370 : a1 < (l0.length : Int) := of_decide_eq_true (by first | (with_reducible assumption) | assumption)
          obtain ⟨ad370, e370, hx370_0⟩ := Kd.at_int HR0.out a1 p370 q370
          cases e370
          replace p370 := eq_true p370
          replace q370 := eq_true q370
          go_enter Try.func166, Try.ntmps166
          go_wp2
          go_ret
          exact ⟨by first | rfl | (simp; done) | (simp [*]; done), by repeat (first | exact Drawn0.refl _ | apply Drawn0.step)⟩
        · rw [if_neg c6] at H
          exact absurd H (by simp)
      · rw [if_neg c5] at H
        exact absurd H (by simp)
end Go.Proofs.Ytgbjbpjmbghlbaa.G
end
section
namespace Go.Proofs.Ytgbjbpjmbghlbaa.G
open Go.RowKit Go.Proofs.YtgbjbpjmbghlbaaW.PrintWords Go.Proofs.YtgbjbpjmbghlbaaW.PrintLast Go.Proofs.YtgbjbpjmbghlbaaW.PrintMore
set_option linter.unusedVariables false
set_option linter.unusedSimpArgs false
theorem at_f (l : List Int) (k : Int) : impl_at.f l k = some (atV l k) := by
  unfold impl_at.f atV
  by_cases h1 : k < 0
  · rw [if_pos h1, if_neg (by omega)]
  · rw [if_neg h1]
    by_cases h2 : k ≥ (l.length : Int)
    · rw [if_pos h2, if_neg (by omega)]
    · rw [if_neg h2, if_pos (by omega), if_pos (by omega), if_pos (by omega)]
end Go.Proofs.Ytgbjbpjmbghlbaa.G
end
section
namespace Go.Proofs.Ytgbjbpjmbghlbaa.G
open Go.RowKit Go.Proofs.YtgbjbpjmbghlbaaW.PrintWords Go.Proofs.YtgbjbpjmbghlbaaW.PrintLast Go.Proofs.YtgbjbpjmbghlbaaW.PrintMore
set_option linter.unusedVariables false
set_option linter.unusedSimpArgs false
structure RunAt (w0 : World) (B V : Nat) (A : Option Addr) (c : Nat) (vs : List Int) (S : Nat → Prop) (out : List Fk) (W : World) : Prop where
  below : Below w0.heap.size w0 W
  hv : W.heap[V]? = some (.cells #[.slice A vs.length c] 26 (0, 0))
  hr : Kd.C (Kd.int .i64) w0 A vs.length vs
  hc : vs.length ≤ c
  ho : ∃ v, W.heap[B]? = some (.cells #[v] 85 (0, 0)) ∧ Kd.R k117 117 W w0.heap.size (fun k => ¬ S k) v out
  hS : ∀ k, S k → k < W.heap.size
  sB : S B
  ne : V ≠ B
  bB : w0.heap.size ≤ B
theorem RunAt.alloc {w0 W : World} {B V : Nat} {A : Option Addr} {c : Nat} {vs : List Int} {S : Nat → Prop} {out : List Fk} (h : RunAt w0 B V A c vs S out W) (o : Obj) : RunAt w0 B V A c vs (fun k => S k ∨ k = W.heap.size) out (W.alloc o) where
  below := h.below.alloc h.below.size o
  hv := blk_alloc h.hv o
  hr := h.hr
  hc := h.hc
  ho := by
    obtain ⟨v, h1, h2⟩ := h.ho
    exact ⟨v, blk_alloc h1 o, Kd.R_alloc (Kd.R_mono (Kd.R_bound h2) (fun k hk hs => hs.elim hk.1 (fun e => by have := hk.2.2.1; omega))) o⟩
  hS := by
    intro k hk
    have e : (W.alloc o).heap.size = W.heap.size + 1 := by simp
    rw [e]
    rcases hk with hk | hk
    · have := h.hS k hk; omega
    · omega
  sB := .inl h.sB
  ne := h.ne
  bB := h.bB
theorem RunAt.drewN {w0 W : World} {B V : Nat} {A : Option Addr} {c : Nat} {vs : List Int} {S : Nat → Prop} {out : List Fk} (h : RunAt w0 B V A c vs S out W) (m : Nat) : RunAt w0 B V A c vs S out (W.drewN m) where
  below := pw_below_drewN h.below m
  hv := blk_drewN h.hv m
  hr := h.hr
  hc := h.hc
  ho := by
    obtain ⟨v, h1, h2⟩ := h.ho
    exact ⟨v, blk_drewN h1 m, Kd.R_drewN h2 m⟩
  hS := h.hS
  sB := h.sB
  ne := h.ne
  bB := h.bB
theorem RunAt.less {w0 W : World} {B V : Nat} {A : Option Addr} {c : Nat} {vs : List Int} {S S' : Nat → Prop} {out : List Fk} (h : RunAt w0 B V A c vs S out W) (hs : ∀ k, S' k → S k) (hB : S' B) : RunAt w0 B V A c vs S' out W where
  below := h.below
  hv := h.hv
  hr := h.hr
  hc := h.hc
  ho := by
    obtain ⟨v, h1, h2⟩ := h.ho
    exact ⟨v, h1, Kd.R_mono h2 (fun k hk hs' => hk (hs k hs'))⟩
  hS := fun k hk => h.hS k (hs k hk)
  sB := hB
  ne := h.ne
  bB := h.bB
def Stays (S : Nat → Prop) (B : Nat) (W W' : World) : Prop := W.heap.size ≤ W'.heap.size ∧ ∀ k, S k → k ≠ B → W'.heap[k]? = W.heap[k]?
theorem Stays.trans {S : Nat → Prop} {B : Nat} {W W1 W2 : World} (h : Stays S B W W1) (h' : Stays S B W1 W2) : Stays S B W W2 := ⟨Nat.le_trans h.1 h'.1, fun k hk hb => (h'.2 k hk hb).trans (h.2 k hk hb)⟩
theorem Stays.less {S S' : Nat → Prop} {B : Nat} {W W1 : World} (h : Stays S B W W1) (hs : ∀ k, S' k → S k) : Stays S' B W W1 := ⟨h.1, fun k hk hb => h.2 k (hs k hk) hb⟩
def fetch1.T1 : Bool × List (List Nat × List Nat) := (true, [([], []), ([], []), ([], []), ([], []), ([2, 3], [2, 3]), ([1, 4], [1, 4]), ([5], [5]), ([0, 6, 4], [0, 6]), ([7, 7, 0, 1, 2, 3, 4, 5, 6, 7], [7])])
def fetch1.B1 : List Nat := [0, 0, 0, 0, 12, 30, 62, 127, 255]
theorem fetch1.tab1 : rtab .any (opsOf Try.f165 1) = fetch1.T1 := by kernel_rfl
theorem fetch1.bits1 : waitsOk fetch1.T1.2 fetch1.B1 = true := by kernel_rfl
theorem infoFk : (Try.prog.info? 117).map (fun i => (i.zero, i.size, i.bytes)) = some (some (.agg #[(.int .i64 0), (.int .i64 0)]), 2, 16) := by kernel_rfl
set_option maxHeartbeats 8000000 in
set_option maxRecDepth 100000 in
theorem fetched1_calls {w0 : World} {B V : Nat} {A : Option Addr} {c : Nat} {vs : List Int} {S : Nat → Prop} {out : List Fk} (key : Int) (W : World) (h : RunAt w0 B V A c vs S out W) (sV : S V) (hlen : out.length < 8796093022207) :
    Calls Try.prog 165 #[.int .i64 key, .pointer (some ⟨B, 0, none⟩), .pointer (some ⟨V, 0, none⟩)] W fun e W' =>
      e = .returned (.tuple #[.int .i64 (atV vs key), .bool true]) ∧ RunAt w0 B V A c vs S (out ++ [⟨key, atV vs key⟩]) W' ∧ Stays S B W W' := by
  have HH := Aside0.mk h
  have HA := Aside0.mk (at_f vs key)
  have HL := Aside0.mk hlen
  have SV := Aside0.mk sV
  have hu := Try.underlying117
  obtain ⟨v, hB0, hO0⟩ := h.ho
  have HB0 := Aside0.mk hB0
  have HO := Aside0.mk hO0
  have HV := Aside0.mk h.hv
  have HR := Aside0.mk (Kd.C_below h.hr h.below)
  have HC := Aside0.mk h.hc
  have HW := Aside0.mk h.below
  clear h hlen hB0 hO0 sV
  go_enter Try.func165, Try.ntmps165
  go_wp2_with fail
  refine start_ (n := 9) (S := fun w' => w'.cell? ⟨B, 0, none⟩ = some v ∧ w'.cell? ⟨V, 0, none⟩ = some (.slice A vs.length c)) (ds := [8]) #[false, false, false, false, false, false, false, false, false] (by kernel_rfl) rfl rfl ⟨(blk_cell (blk_drew HB0.out) 0).trans rfl, (blk_cell (blk_drew HV.out) 0).trans rfl⟩ (fun hHeld => ?_); refine with_tabW fetch1.tab1 fetch1.bits1 (fun HT_ HW_ => ?_)
  refine pure_ (i := 1) (N := some 7) (v := ?_) (a' := ?_) #[false, true, false, false, false, false, false, false, false] rfl rfl (any_of HT_.out (by kernel_rfl)) (fun _ _ _ h => h) (Or.inl ⟨by rfl, ?_⟩) ?_ ?_
  rotate_left
  · intro w'
    go_simp
    with_reducible rfl
  rotate_left
  · simp only [Act.put, List.setIfInBounds_toArray, List.set_cons_zero, List.set_cons_succ, i64_w, i32_w]
    rfl
  refine pure_ (i := 3) (N := some 9) (v := ?_) (a' := ?_) #[false, true, false, true, false, false, false, false, false] rfl rfl (any_of HT_.out (by kernel_rfl)) (fun _ _ _ h => h) (Or.inl ⟨by rfl, ?_⟩) ?_ ?_
  rotate_left
  · intro w'
    go_simp
    with_reducible rfl
  rotate_left
  · simp only [Act.put, List.setIfInBounds_toArray, List.set_cons_zero, List.set_cons_succ, i64_w, i32_w]
    rfl
  refine take_ (i := 0) (N := some 6) (v := ?_) (a' := ?_) #[true, true, false, true, false, false, false, false, false] rfl rfl (take_ofW HT_.out HW_.out (by kernel_rfl)) (fun _ _ _ h => h) (Or.inl ⟨by rfl, ?_⟩) hHeld ?_ ?_
  rotate_left
  · rintro w' ⟨s0, s1⟩
    go_simp
    with_reducible rfl
  rotate_left
  · simp only [Act.put, List.setIfInBounds_toArray, List.set_cons_zero, List.set_cons_succ, i64_w, i32_w]
    rfl
  refine take_ (i := 2) (N := some 8) (v := ?_) (a' := ?_) #[true, true, true, true, false, false, false, false, false] rfl rfl (take_ofW HT_.out HW_.out (by kernel_rfl)) (fun _ _ _ h => h) (Or.inl ⟨by rfl, ?_⟩) hHeld ?_ ?_
  rotate_left
  · rintro w' ⟨s0, s1⟩
    go_simp
    with_reducible rfl
  rotate_left
  · simp only [Act.put, List.setIfInBounds_toArray, List.set_cons_zero, List.set_cons_succ, i64_w, i32_w]
    rfl
  refine one_ (i := 4) (N := some 10) #[true, true, true, true, true, false, false, false, false] rfl rfl (one_of HT_.out (by kernel_rfl)) (by decide) (fun K hK => ?_)
  refine goes_ Try.func166 (by kernel_rfl) rfl #[.slice A vs.length c, .int .i64 key] (by rfl) rfl rfl (by (try simp only [List.map_toArray, List.map_cons, List.map_nil]); first | done | rfl) ?_
  refine (impl_at.calls _ _ _ _ _ _ (Kd.C_drew HR.out) HC.out HA.out).mono ?_
  rintro e w1 ⟨rfl, ⟨m, rfl⟩⟩
  refine ⟨_, rfl, ?_⟩
  refine hK.out _ _ ⟨(blk_cell (blk_drewN (blk_drew HB0.out) m) 0).trans rfl, (blk_cell (blk_drewN (blk_drew HV.out) m) 0).trans rfl⟩ (fun hHeld => ?_)
  clear hK K
  refine norm_ (a' := ?_) ?_ ?_
  rotate_left
  · show Act.put _ (some 10) _ = _
    simp only [Act.put, List.setIfInBounds_toArray, List.set_cons_zero, List.set_cons_succ, i64_w, i32_w]
    rfl
  have HB1 := Aside0.mk (blk_drewN (blk_drew HB0.out) m)
  have HV1 := Aside0.mk (blk_drewN (blk_drew HV.out) m)
  have HO1 := Aside0.mk (Kd.R_drewN (Kd.R_drew HO.out) m)
  have HH1 : Aside0 (RunAt w0 B V A c vs S out (W.drew.drewN m)) := ⟨(HH.out.drewN 1).drewN m⟩
  have HW1 := Aside0.mk (pw_below_drewN (below_drew HW.out) m)
  have HZ1 : Aside0 (W.heap.size = (W.drew.drewN m).heap.size) := ⟨rfl⟩
  have HQ1 : Aside0 (∀ k : Nat, (W.drew.drewN m).heap[k]? = W.heap[k]?) := ⟨fun _ => rfl⟩
  generalize W.drew.drewN m = W1 at *
  refine pure_ (i := 5) (N := some 11) (v := ?_) (a' := ?_) #[true, true, true, true, true, true, false, false, false] rfl rfl (any_of HT_.out (by kernel_rfl)) (fun _ _ _ h => h) (Or.inl ⟨by rfl, ?_⟩) ?_ ?_
  rotate_left
  · intro w'
    go_simp
    with_reducible rfl
  rotate_left
  · simp only [Act.put, List.setIfInBounds_toArray, List.set_cons_zero, List.set_cons_succ, i64_w, i32_w]
    rfl
  refine one_ (i := 6) (N := some 12) #[true, true, true, true, true, true, true, false, false] rfl rfl (one_of HT_.out (by kernel_rfl)) (by decide) (fun K hK => ?_)
  refine value_ (w1 := ?_) (v := ?_) (by rfl) rfl ?_ ?_
  rotate_left 2
  · go_simp
    constructor
    · rfl
    · rfl
  refine hK.out _ _ ⟨(blk_cell (blk_alloc HB1.out _) 0).trans rfl, (blk_cell (blk_alloc HV1.out _) 0).trans rfl⟩ (fun hHeld => ?_)
  clear hK K
  refine norm_ (a' := ?_) ?_ ?_
  rotate_left
  · show Act.put _ (some 12) _ = _
    simp only [Act.put, List.setIfInBounds_toArray, List.set_cons_zero, List.set_cons_succ, i64_w, i32_w]
    rfl
  refine one_ (i := 7) (N := some 13) #[true, true, true, true, true, true, true, true, false] rfl rfl (one_of HT_.out (by kernel_rfl)) (by decide) (fun K hK => ?_)
  obtain ⟨Ao, co, eo⟩ := Kd.R_slice HO1.out
  subst eo
  refine Kd.R_append_step k117 (w0 := w0) w0.heap.size (by rfl) (.tmp 6) (.tmp 12) 85 117 (.agg #[(.int .i64 0), (.int .i64 0)]) 16 rfl Try.underlying85 infoFk rfl (by decide) (by omega) (.slice Ao out.length co) out (⟨key, atV vs key⟩ : Fk) [.int .i64 key, .int .i64 (atV vs key)] (fun k => ¬ S k) (fun _ => False) rfl rfl (k117_mkM _ _ _ _) (fun _ hk => hk.elim) (fun k hk hs => by have := HH1.out.hS k hs; omega) HO1.out HW1.out HW1.out.size (by have := HL.out; omega) ?_
  intro v2 w2 ho hb hg hat
  have hs1 : w2.cell? ⟨B, 0, none⟩ = some (.slice Ao out.length co) := (blk_cell (blk_grown HB1.out hg (Kd.R_away HO1.out (fun k hk e => hk (e ▸ HH1.out.sB)))) 0).trans rfl
  have hf1 := blk_frozen (blk_grown HB1.out hg (Kd.R_away HO1.out (fun k hk e => hk (e ▸ HH1.out.sB)))) 0
  have HB2 := Aside0.mk (blk_grown HB1.out hg (Kd.R_away HO1.out (fun k hk e => hk (e ▸ HH1.out.sB))))
  have HV2 := Aside0.mk (blk_grown HV1.out hg (Kd.R_away HO1.out (fun k hk e => hk (e ▸ SV.out))))
  have HO2 := Aside0.mk ho
  have HW2 := Aside0.mk hb
  have HST : Aside0 (∀ k, S k → w2.heap[k]? = W1.heap[k]?) := ⟨fun k hk => hg.block k (HH1.out.hS k hk) (Kd.R_away HO1.out (fun k' hk' e => hk' (e ▸ hk)))⟩
  have HSZ : Aside0 (W1.heap.size ≤ w2.heap.size) := ⟨hg.size⟩
  clear ho hb hg hat
  obtain ⟨A2, c2, e2⟩ := Kd.R_slice HO2.out
  subst e2
  refine hK.out _ _ ⟨hs1, (blk_cell HV2.out 0).trans rfl⟩ (fun hHeld => ?_)
  clear hK K
  refine norm_ (a' := ?_) ?_ ?_
  rotate_left
  · show Act.put _ (some 13) _ = _
    simp only [Act.put, List.setIfInBounds_toArray, List.set_cons_zero, List.set_cons_succ, i64_w, i32_w]
    rfl
  refine last_ (i := 8) (N := none) #[true, true, true, true, true, true, true, true, true] rfl rfl (one_of HT_.out (by kernel_rfl)) (by decide) (fun K hK => ?_)
  refine skip_ (w1 := ?_) (by rfl) rfl ?_ ?_
  rotate_left
  · go_simp
    rfl
  refine hK.out _ _ ?_
  clear hK K
  refine done_ (done_of HT_.out (by kernel_rfl)) ?_
  have eL : (out ++ [(⟨key, atV vs key⟩ : Fk)]).length = out.length + 1 := by simp
  have hR2 := HO2.out
  rw [eL] at hR2
  have H3 : Aside0 (RunAt w0 B V A c vs S (out ++ [(⟨key, atV vs key⟩ : Fk)]) (w2.setCell ⟨B, 0, none⟩ (.slice A2 (out.length + 1) c2))) := ⟨{
    below := HW2.out.setCell HH1.out.bB _
    hv := blk_far HV2.out (p := ⟨B, 0, none⟩) HH1.out.ne _
    hr := HH1.out.hr
    hc := HH1.out.hc
    ho := ⟨.slice A2 (out.length + 1) c2, blk_put HB2.out 0 _ rfl, Kd.R_far (p := ⟨B, 0, none⟩) hR2 (fun k hk e => hk (e ▸ HH1.out.sB)) _⟩
    hS := fun k hk => by
      have h1 := HH1.out.hS k hk
      have h2 := HSZ.out
      have h3 : (w2.setCell ⟨B, 0, none⟩ (.slice A2 (out.length + 1) c2)).heap.size = w2.heap.size := by simp
      rw [h3]; omega
    sB := HH1.out.sB
    ne := HH1.out.ne
    bB := HH1.out.bB }⟩
  have HS3 : Aside0 (Stays S B W (w2.setCell ⟨B, 0, none⟩ (.slice A2 (out.length + 1) c2))) := ⟨by
    refine ⟨?_, fun k hk hne => ?_⟩
    · have h2 := HSZ.out
      have h3 : (w2.setCell ⟨B, 0, none⟩ (.slice A2 (out.length + 1) c2)).heap.size = w2.heap.size := by simp
      have h4 := HZ1.out
      rw [h3]; omega
    · rw [Below.heap_setCell w2 ⟨B, 0, none⟩ _ k hne, HST.out k hk]
      exact HQ1.out k⟩
  clear HB2 HV2 HO2 HW2 HST HSZ hR2 hHeld
  generalize w2.setCell ⟨B, 0, none⟩ (.slice A2 (out.length + 1) c2) = w3 at *
  have hv3 : w3.cell? ⟨V, 0, none⟩ = some (.slice A vs.length c) := (blk_cell H3.out.hv 0).trans rfl
  have HR3 := Aside0.mk (Kd.C_below H3.out.hr H3.out.below)
  go_wp2_with (go_at_call 166; refine (impl_at.calls _ _ _ _ _ _ HR3.out HC.out HA.out).mono ?_; rintro e w' ⟨rfl, ⟨m3, rfl⟩⟩)
  go_ret2
  exact ⟨rfl, H3.out.drewN m3, HS3.out.1, HS3.out.2⟩
end Go.Proofs.Ytgbjbpjmbghlbaa.G
end
section
namespace Go.Proofs.Ytgbjbpjmbghlbaa.G
open Go.RowKit Go.Proofs.YtgbjbpjmbghlbaaW.PrintWords
set_option linter.unusedVariables false
set_option linter.unusedSimpArgs false
abbrev Tk := S30
theorem tk_size (t p : Tk) (hp : p ∈ t.f2) : SizeOf.sizeOf p < SizeOf.sizeOf t := by
  have h := List.sizeOf_lt_of_mem hp
  cases t with
  | mk a b c => simp only [S30.mk.sizeOf_spec] at *; omega
theorem tk_ind {P : Tk → Prop} (h : ∀ t : Tk, (∀ p ∈ t.f2, P p) → P t) : ∀ t, P t := by
  intro t
  induction hn : SizeOf.sizeOf t using Nat.strongRecOn generalizing t with
  | _ n ih => exact h t (fun p hp => ih (SizeOf.sizeOf p) (by rw [← hn]; exact tk_size t p hp) p rfl)
def shapeB (k n : Int) (len : Nat) : Bool :=
  if k = 0 then decide (0 ≤ n ∧ n ≤ 96) && decide (len = 0)
  else if k = 1 then decide (0 ≤ n ∧ n < 10) && decide (len = 0)
  else if k = 2 then decide (n = 0) && decide (len = 2)
  else if k = 3 then decide (n = 0) && decide (len = 2)
  else if k = 4 then decide (n = 0) && decide (len = 3)
  else if k = 5 then decide (0 ≤ n ∧ n < 10) && decide (len = 1)
  else false
mutual
def fitT : Tk → Bool
  | ⟨k, n, ps⟩ => shapeB k n ps.length && fitL ps
def fitL : List Tk → Bool
  | [] => true
  | p :: ps => fitT p && fitL ps
end
mutual
def nodT : Tk → Nat
  | ⟨_, _, ps⟩ => 1 + nodL ps
def nodL : List Tk → Nat
  | [] => 0
  | p :: ps => nodT p + nodL ps
end
def okT (t : Tk) : Bool := fitT t && decide (nodT t ≤ 15)
theorem fitT_eq (t : Tk) : fitT t = (shapeB t.f0 t.f1 t.f2.length && fitL t.f2) := by cases t; simp [fitT]
theorem nodT_eq (t : Tk) : nodT t = 1 + nodL t.f2 := by cases t; simp [nodT]
theorem nodT_pos (t : Tk) : 1 ≤ nodT t := by rw [nodT_eq]; omega
theorem fitL_mem {ps : List Tk} (h : fitL ps = true) : ∀ p ∈ ps, fitT p = true := by
  induction ps with
  | nil => intro p hp; cases hp
  | cons q ps ih =>
    simp only [fitL, Bool.and_eq_true] at h
    intro p hp
    rcases List.mem_cons.1 hp with rfl | hp
    · exact h.1
    · exact ih h.2 p hp
theorem nodL_mem {ps : List Tk} : ∀ p ∈ ps, nodT p ≤ nodL ps := by
  induction ps with
  | nil => intro p hp; cases hp
  | cons q ps ih =>
    intro p hp
    simp only [nodL]
    rcases List.mem_cons.1 hp with rfl | hp
    · omega
    · have := ih p hp; omega
theorem nodL_len (ps : List Tk) : ps.length ≤ nodL ps := by
  induction ps with
  | nil => simp
  | cons q ps ih => simp only [nodL, List.length_cons]; have := nodT_pos q; omega
theorem shapeB_len {k n : Int} {len : Nat} (h : shapeB k n len = true) : len ≤ 3 := by
  unfold shapeB at h
  repeat' split at h
  all_goals first | (simp at h; done) | (simp only [Bool.and_eq_true, decide_eq_true_eq] at h; omega)
theorem okT_fit {t : Tk} (h : okT t = true) : fitT t = true := by simp only [okT, Bool.and_eq_true] at h; exact h.1
theorem okT_nod {t : Tk} (h : okT t = true) : nodT t ≤ 15 := by simp only [okT, Bool.and_eq_true, decide_eq_true_eq] at h; exact h.2
theorem rd_tk (ps : List Tk) (i : Nat) (h : i < ps.length) : rd_T30 ps (i : Int) = ps[i] := by
  simp only [rd_T30, Int.toNat_natCast, List.getD_eq_getElem?_getD, List.getElem?_eq_getElem h, Option.getD_some]
theorem drop_tk {α : Type} (ps : List α) (i : Nat) (h : i < ps.length) : ps.drop i = ps[i] :: ps.drop (i + 1) := List.drop_eq_getElem_cons h
theorem wrap_nat (i : Nat) (h : i + 1 ≤ 9223372036854775807) : wrap64 ((i : Int) + 1) = ((i + 1 : Nat) : Int) := by unfold wrap64; omega
theorem wrap_id (x : Int) (h1 : -9223372036854775808 ≤ x) (h2 : x ≤ 9223372036854775807) : wrap64 x = x := by unfold wrap64; omega
end Go.Proofs.Ytgbjbpjmbghlbaa.G
end
section
namespace Go.Proofs.Ytgbjbpjmbghlbaa.G
open Go.RowKit Go.Proofs.YtgbjbpjmbghlbaaW.PrintWords
set_option linter.unusedVariables false
set_option linter.unusedSimpArgs false
def comb (vs : List Int) (k n : Int) (rs : List (Int × List Fk)) : Int × List Fk :=
  if k = 0 then (n, [])
  else if k = 1 then (atV vs n, [⟨n, atV vs n⟩])
  else if k = 5 then (atV vs (((n + (rs.getD 0 (0, [])).1) % 10)), (rs.getD 0 (0, [])).2 ++ [⟨((n + (rs.getD 0 (0, [])).1) % 10), atV vs (((n + (rs.getD 0 (0, [])).1) % 10))⟩])
  else if k = 4 then (if (rs.getD 0 (0, [])).1 = 0 then ((rs.getD 2 (0, [])).1, (rs.getD 0 (0, [])).2 ++ (rs.getD 2 (0, [])).2) else ((rs.getD 1 (0, [])).1, (rs.getD 0 (0, [])).2 ++ (rs.getD 1 (0, [])).2))
  else if k = 3 then (((rs.getD 0 (0, [])).1 * (rs.getD 1 (0, [])).1) % 97, (rs.getD 0 (0, [])).2 ++ (rs.getD 1 (0, [])).2)
  else (((rs.getD 0 (0, [])).1 + (rs.getD 1 (0, [])).1) % 97, (rs.getD 0 (0, [])).2 ++ (rs.getD 1 (0, [])).2)
mutual
def runT (vs : List Int) : Tk → Int × List Fk
  | ⟨k, n, ps⟩ => comb vs k n (runL vs ps)
def runL (vs : List Int) : List Tk → List (Int × List Fk)
  | [] => []
  | p :: ps => runT vs p :: runL vs ps
end
theorem atV_val {vs : List Int} (h : vs.all isVal = true) (k : Int) : 0 ≤ atV vs k ∧ atV vs k ≤ 96 := by
  unfold atV
  split
  · rename_i hk
    have hi : k.toNat < vs.length := by omega
    have h1 := List.all_eq_true.1 h _ (List.getElem_mem hi)
    simp only [isVal, decide_eq_true_eq] at h1
    simp only [rd, List.getD_eq_getElem?_getD, List.getElem?_eq_getElem hi, Option.getD_some]
    exact h1
  · omega
inductive Fits : Tk → Prop
  | num (n : Int) (h0 : 0 ≤ n) (h1 : n ≤ 96) : Fits ⟨0, n, []⟩
  | get (n : Int) (h0 : 0 ≤ n) (h1 : n ≤ 9) : Fits ⟨1, n, []⟩
  | add (a b : Tk) (ha : Fits a) (hb : Fits b) : Fits ⟨2, 0, [a, b]⟩
  | mul (a b : Tk) (ha : Fits a) (hb : Fits b) : Fits ⟨3, 0, [a, b]⟩
  | iff (a b d : Tk) (ha : Fits a) (hb : Fits b) (hd : Fits d) : Fits ⟨4, 0, [a, b, d]⟩
  | at (n : Int) (h0 : 0 ≤ n) (h1 : n ≤ 9) (a : Tk) (ha : Fits a) : Fits ⟨5, n, [a]⟩
theorem fits_of : ∀ t : Tk, fitT t = true → Fits t := by
  refine tk_ind fun t ih h => ?_
  rw [fitT_eq, Bool.and_eq_true] at h
  obtain ⟨h1, h2⟩ := h
  have hp : ∀ p ∈ t.f2, Fits p := fun p hp => ih p hp (fitL_mem h2 p hp)
  obtain ⟨k, n, ps⟩ := t
  simp only at h1 hp
  clear ih h2
  unfold shapeB at h1
  by_cases k0 : k = 0
  · rw [if_pos k0] at h1
    simp only [Bool.and_eq_true, decide_eq_true_eq, List.length_eq_zero_iff] at h1
    obtain ⟨⟨h2, h3⟩, rfl⟩ := h1
    subst k0
    exact .num n h2 h3
  rw [if_neg k0] at h1
  by_cases k1 : k = 1
  · rw [if_pos k1] at h1
    simp only [Bool.and_eq_true, decide_eq_true_eq, List.length_eq_zero_iff] at h1
    obtain ⟨⟨h2, h3⟩, rfl⟩ := h1
    subst k1
    exact .get n h2 (by omega)
  rw [if_neg k1] at h1
  by_cases k2 : k = 2
  · rw [if_pos k2] at h1
    simp only [Bool.and_eq_true, decide_eq_true_eq] at h1
    obtain ⟨rfl, h3⟩ := h1
    subst k2
    match ps, h3 with
    | [a, b], _ => exact .add a b (hp a (by simp)) (hp b (by simp))
  rw [if_neg k2] at h1
  by_cases k3 : k = 3
  · rw [if_pos k3] at h1
    simp only [Bool.and_eq_true, decide_eq_true_eq] at h1
    obtain ⟨rfl, h3⟩ := h1
    subst k3
    match ps, h3 with
    | [a, b], _ => exact .mul a b (hp a (by simp)) (hp b (by simp))
  rw [if_neg k3] at h1
  by_cases k4 : k = 4
  · rw [if_pos k4] at h1
    simp only [Bool.and_eq_true, decide_eq_true_eq] at h1
    obtain ⟨rfl, h3⟩ := h1
    subst k4
    match ps, h3 with
    | [a, b, d], _ => exact .iff a b d (hp a (by simp)) (hp b (by simp)) (hp d (by simp))
  rw [if_neg k4] at h1
  by_cases k5 : k = 5
  · rw [if_pos k5] at h1
    simp only [Bool.and_eq_true, decide_eq_true_eq] at h1
    obtain ⟨⟨h2, h3⟩, h4⟩ := h1
    subst k5
    match ps, h4 with
    | [a], _ => exact .at n h2 (by omega) a (hp a (by simp))
  rw [if_neg k5] at h1
  cases h1
theorem runT_num (vs : List Int) (n : Int) : runT vs ⟨0, n, []⟩ = (n, []) := by simp [runT, comb]
theorem runT_get (vs : List Int) (n : Int) : runT vs ⟨1, n, []⟩ = (atV vs n, [⟨n, atV vs n⟩]) := by simp [runT, comb]
theorem runT_add (vs : List Int) (a b : Tk) : runT vs ⟨2, 0, [a, b]⟩ = (((runT vs a).1 + (runT vs b).1) % 97, (runT vs a).2 ++ (runT vs b).2) := by simp [runT, runL, comb]
theorem runT_mul (vs : List Int) (a b : Tk) : runT vs ⟨3, 0, [a, b]⟩ = (((runT vs a).1 * (runT vs b).1) % 97, (runT vs a).2 ++ (runT vs b).2) := by simp [runT, runL, comb]
theorem runT_if0 (vs : List Int) (a b d : Tk) (h : (runT vs a).1 = 0) : runT vs ⟨4, 0, [a, b, d]⟩ = ((runT vs d).1, (runT vs a).2 ++ (runT vs d).2) := by simp [runT, runL, comb, h]
theorem runT_if1 (vs : List Int) (a b d : Tk) (h : ¬ (runT vs a).1 = 0) : runT vs ⟨4, 0, [a, b, d]⟩ = ((runT vs b).1, (runT vs a).2 ++ (runT vs b).2) := by simp [runT, runL, comb, h]
theorem runT_at (vs : List Int) (n : Int) (a : Tk) : runT vs ⟨5, n, [a]⟩ = (atV vs (((n + (runT vs a).1) % 10)), (runT vs a).2 ++ [⟨((n + (runT vs a).1) % 10), atV vs (((n + (runT vs a).1) % 10))⟩]) := by simp [runT, runL, comb]
theorem runT_len (vs : List Int) {t : Tk} (h : Fits t) : (runT vs t).2.length ≤ nodT t := by
  induction h with
  | num n => rw [runT_num]; simp
  | get n => rw [runT_get]; simp [nodT]
  | add a b _ _ iha ihb => rw [runT_add]; simp only [nodT, nodL, List.length_append]; omega
  | mul a b _ _ iha ihb => rw [runT_mul]; simp only [nodT, nodL, List.length_append]; omega
  | iff a b d _ _ _ iha ihb ihd =>
    by_cases h0 : (runT vs a).1 = 0
    · rw [runT_if0 vs a b d h0]; simp only [nodT, nodL, List.length_append]; omega
    · rw [runT_if1 vs a b d h0]; simp only [nodT, nodL, List.length_append]; omega
  | «at» n _ _ a _ iha => rw [runT_at]; simp only [nodT, nodL, List.length_append, List.length_singleton]; omega
theorem runT_val {vs : List Int} (hv : vs.all isVal = true) {t : Tk} (h : Fits t) : 0 ≤ (runT vs t).1 ∧ (runT vs t).1 ≤ 96 := by
  induction h with
  | num n h0 h1 => rw [runT_num]; exact ⟨h0, h1⟩
  | get n => rw [runT_get]; exact atV_val hv n
  | add a b _ _ iha ihb =>
    rw [runT_add]
    simp only; omega
  | mul a b _ _ iha ihb =>
    rw [runT_mul]
    simp only; have := Int.mul_nonneg iha.1 ihb.1; omega
  | iff a b d _ _ _ iha ihb ihd =>
    by_cases h0 : (runT vs a).1 = 0
    · rw [runT_if0 vs a b d h0]; exact ihd
    · rw [runT_if1 vs a b d h0]; exact ihb
  | «at» n _ _ a _ iha => rw [runT_at]; exact atV_val hv _
end Go.Proofs.Ytgbjbpjmbghlbaa.G
end
section
namespace Go.Proofs.Ytgbjbpjmbghlbaa.G
open Go.RowKit Go.Proofs.YtgbjbpjmbghlbaaW.PrintWords Go.Proofs.YtgbjbpjmbghlbaaW.PrintLast Go.Proofs.YtgbjbpjmbghlbaaW.PrintMore
set_option linter.unusedVariables false
set_option linter.unusedSimpArgs false
def Runs (w0 : World) (B V : Nat) (A : Option Addr) (c : Nat) (vs : List Int) (t : Tk) : Prop :=
  ∀ (S : Nat → Prop) (out : List Fk) (W : World) (A1 : Option Addr) (c1 : Nat), RunAt w0 B V A c vs S out W → S V → Kd.C k30 w0 A1 t.f2.length t.f2 → t.f2.length ≤ c1 → out.length + nodT t < 8796093022207 →
    Calls Try.prog 164 #[.agg #[.int .i64 t.f0, .int .i64 t.f1, .slice A1 t.f2.length c1], .func (.func 165) #[] #[.pointer (some ⟨B, 0, none⟩), .pointer (some ⟨V, 0, none⟩)]] W fun e W' =>
      e = .returned (.tuple #[.int .i64 (runT vs t).1, .bool true]) ∧ RunAt w0 B V A c vs S (out ++ (runT vs t).2) W' ∧ Stays S B W W'
set_option maxHeartbeats 8000000 in
set_option maxRecDepth 100000 in
theorem runs_num {w0 : World} {B V : Nat} {A : Option Addr} {c : Nat} {vs : List Int} (n : Int) : Runs w0 B V A c vs ⟨0, n, []⟩ := by
  intro S out W A1 c1 h sV hr hc hl
  have HH := Aside0.mk h
  have H1 := Aside0.mk (h.alloc (.cells #[.int .i64 0, .int .i64 n, .slice A1 0 c1] 30 (0, 0)))
  clear h hr hc hl
  have hu := Try.underlying30
  show Calls Try.prog 164 #[.agg #[.int .i64 0, .int .i64 n, .slice A1 0 c1], _] W _
  rw [runT_num]
  go_enter Try.func164, Try.ntmps164
  go_wp2
  go_ret2
  exact ⟨rfl, by rw [List.append_nil]; exact H1.out.less (fun k hk => .inl hk) HH.out.sB, by simp, fun k hk _ => Below.heap_alloc W _ k (HH.out.hS k hk)⟩
set_option maxHeartbeats 8000000 in
set_option maxRecDepth 100000 in
theorem runs_get {w0 : World} {B V : Nat} {A : Option Addr} {c : Nat} {vs : List Int} (n : Int) : Runs w0 B V A c vs ⟨1, n, []⟩ := by
  intro S out W A1 c1 h sV hr hc hl
  have HH := Aside0.mk h
  have H1 := Aside0.mk (h.alloc (.cells #[.int .i64 1, .int .i64 n, .slice A1 0 c1] 30 (0, 0)))
  have HL := Aside0.mk hl
  have SV := Aside0.mk sV
  clear h hr hc hl sV
  have hu := Try.underlying30
  show Calls Try.prog 164 #[.agg #[.int .i64 1, .int .i64 n, .slice A1 0 c1], _] W _
  rw [runT_get]
  go_enter Try.func164, Try.ntmps164
  go_wp2_with (go_at_call 165; refine (fetched1_calls n _ H1.out (.inl SV.out) (by have := HL.out; omega)).mono ?_; rintro e w' ⟨rfl, h2, s2⟩)
  go_ret2
  exact ⟨rfl, h2.less (fun k hk => .inl hk) HH.out.sB, Nat.le_trans (by simp) s2.1, fun k hk hb => (s2.2 k (.inl hk) hb).trans (Below.heap_alloc W _ k (HH.out.hS k hk))⟩
theorem part_at {w0 : World} {A1 : Option Addr} {ps : List Tk} (h : Kd.C k30 w0 A1 ps.length ps) (i : Nat) (p : Tk) (hp : ps[i]? = some p) :
    ∃ ad A2 c2, A1 = some ad ∧ p.f2.length ≤ c2 ∧ Kd.C k30 w0 A2 p.f2.length p.f2 ∧ ∀ W, Below w0.heap.size w0 W → W.cell? (ad.add (i * 3)) = some (.int .i64 p.f0) ∧ W.cell? ⟨(ad.add (i * 3)).block, (ad.add (i * 3)).off + 1, none⟩ = some (.int .i64 p.f1) ∧ W.cell? ⟨(ad.add (i * 3)).block, (ad.add (i * 3)).off + 2, none⟩ = some (.slice A2 p.f2.length c2) := by
  obtain ⟨hi, e⟩ := List.getElem?_eq_some_iff.1 hp
  obtain ⟨ad, A2, c2, e1, hx0, hx1, hx2, hl, hC⟩ := at_T30 h (i : Int) (by omega) (by omega)
  rw [rd_tk ps i hi, e] at hx0 hx1 hx2 hl hC
  rw [Int.toNat_natCast] at hx0 hx1 hx2
  exact ⟨ad, A2, c2, e1, hl, hC, fun W hb => ⟨(hb.cell (World.block_lt_of_cell? w0 _ hx0)).trans hx0, (hb.cell (World.block_lt_of_cell? w0 _ hx1)).trans hx1, (hb.cell (World.block_lt_of_cell? w0 _ hx2)).trans hx2⟩⟩
theorem closing {w0 W W' : World} {B V : Nat} {A : Option Addr} {c : Nat} {vs : List Int} {S : Nat → Prop} {out out' : List Fk} {o : Obj} (HH : RunAt w0 B V A c vs S out W) (h : RunAt w0 B V A c vs (fun k => S k ∨ k = W.heap.size) out' W') (s : Stays (fun k => S k ∨ k = W.heap.size) B (W.alloc o) W') :
    RunAt w0 B V A c vs S out' W' ∧ Stays S B W W' :=
  ⟨h.less (fun k hk => .inl hk) HH.sB, Nat.le_trans (by simp) s.1, fun k hk hb => (s.2 k (.inl hk) hb).trans (Below.heap_alloc W _ k (HH.hS k hk))⟩
end Go.Proofs.Ytgbjbpjmbghlbaa.G
end
section
namespace Go.Proofs.Ytgbjbpjmbghlbaa.G
open Go.RowKit Go.Proofs.YtgbjbpjmbghlbaaW.PrintWords Go.Proofs.YtgbjbpjmbghlbaaW.PrintLast Go.Proofs.YtgbjbpjmbghlbaaW.PrintMore
set_option linter.unusedVariables false
set_option linter.unusedSimpArgs false
set_option maxHeartbeats 8000000 in
set_option maxRecDepth 100000 in
theorem runs_at {w0 : World} {B V : Nat} {A : Option Addr} {c : Nat} {vs : List Int} (hv : vs.all isVal = true) (n : Int) (h0 : 0 ≤ n) (h1 : n ≤ 9) (a : Tk) (ha : Fits a) (iha : Runs w0 B V A c vs a) : Runs w0 B V A c vs ⟨5, n, [a]⟩ := by
  intro S out W A1 c1 h sV hr hc hl
  have HH := Aside0.mk h
  have hnB : W.heap.size ≠ B := fun e => by have := h.hS B h.sB; omega
  have H1 := Aside0.mk (h.alloc (.cells #[.int .i64 5, .int .i64 n, .slice A1 1 c1] 30 (0, 0)))
  have HL := Aside0.mk hl
  have SV := Aside0.mk sV
  have HNB := Aside0.mk hnB
  obtain ⟨ad, Aa, ca, rfl, hla, hCa, hxa⟩ := part_at hr 0 a rfl
  have HXa := Aside0.mk hxa
  have HCa := Aside0.mk hCa
  have HLa := Aside0.mk hla
  have hvala := runT_val hv ha
  have hlena := runT_len vs ha
  have HENa := Aside0.mk hlena
  clear hxa hCa hla hlena
  obtain ⟨hx0, hx1, hx2⟩ := HXa.out _ H1.out.below
  clear h hr hc hl sV hnB
  simp [go_sem] at hx0 hx1 hx2
  have CA := Aside0.mk (iha _ _ _ _ _ H1.out (.inl SV.out) HCa.out HLa.out (by have := HL.out; simp only [nodT, nodL] at this; omega))
  have hu := Try.underlying30
  show Calls Try.prog 164 #[.agg #[.int .i64 5, .int .i64 n, .slice (some ad) 1 c1], _] W _
  rw [runT_at]
  go_enter Try.func164, Try.ntmps164
  go_wp2_with (first | (go_at_call 164; (with_reducible refine CA.out.mono ?_); rintro e w2 ⟨rfl, h2, s2⟩; have hb2 := (s2.2 W.heap.size (.inr rfl) HNB.out).trans (blk_new W _); have hq0 := (blk_cell hb2 0).trans rfl; have hq1 := (blk_cell hb2 1).trans rfl; have hq2 := (blk_cell hb2 2).trans rfl; have H2 := Aside0.mk h2; have S2 := Aside0.mk s2; clear h2 s2 hx0 hx1 hx2 CA; have HB2 := Aside0.mk hb2; clear hb2) | (go_at_call 165; refine (fetched1_calls _ _ H2.out (.inl SV.out) (by have := HL.out; have := HENa.out; simp only [nodT, nodL, List.length_append] at *; omega)).mono ?_; rintro e w3 ⟨rfl, h3, s3⟩; have H3 := Aside0.mk h3; have S3 := Aside0.mk s3; clear h3 s3))
  go_ret2
  have hc := closing HH.out H3.out (S2.out.trans S3.out)
  rw [List.append_assoc] at hc
  exact ⟨rfl, hc⟩
end Go.Proofs.Ytgbjbpjmbghlbaa.G
end
section
namespace Go.Proofs.Ytgbjbpjmbghlbaa.G
open Go.RowKit Go.Proofs.YtgbjbpjmbghlbaaW.PrintWords Go.Proofs.YtgbjbpjmbghlbaaW.PrintLast Go.Proofs.YtgbjbpjmbghlbaaW.PrintMore
set_option linter.unusedVariables false
set_option linter.unusedSimpArgs false
set_option maxHeartbeats 8000000 in
set_option maxRecDepth 100000 in
theorem runs_add {w0 : World} {B V : Nat} {A : Option Addr} {c : Nat} {vs : List Int} (hv : vs.all isVal = true) (a b : Tk) (ha : Fits a) (hb : Fits b) (iha : Runs w0 B V A c vs a) (ihb : Runs w0 B V A c vs b) : Runs w0 B V A c vs ⟨2, 0, [a, b]⟩ := by
  intro S out W A1 c1 h sV hr hc hl
  have HH := Aside0.mk h
  have hnB : W.heap.size ≠ B := fun e => by have := h.hS B h.sB; omega
  have H1 := Aside0.mk (h.alloc (.cells #[.int .i64 2, .int .i64 0, .slice A1 2 c1] 30 (0, 0)))
  have HL := Aside0.mk hl
  have SV := Aside0.mk sV
  have HNB := Aside0.mk hnB
  obtain ⟨ad, Aa, ca, rfl, hla, hCa, hxa⟩ := part_at hr 0 a rfl
  have HXa := Aside0.mk hxa
  have HCa := Aside0.mk hCa
  have HLa := Aside0.mk hla
  have hvala := runT_val hv ha
  have hlena := runT_len vs ha
  have HENa := Aside0.mk hlena
  clear hxa hCa hla hlena
  obtain ⟨ad', Ab, cb, eb, hlb, hCb, hxb⟩ := part_at hr 1 b rfl
  obtain rfl : ad = ad' := Option.some.inj eb
  clear eb
  have HXb := Aside0.mk hxb
  have HCb := Aside0.mk hCb
  have HLb := Aside0.mk hlb
  have hvalb := runT_val hv hb
  have hlenb := runT_len vs hb
  have HENb := Aside0.mk hlenb
  clear hxb hCb hlb hlenb
  obtain ⟨hx0, hx1, hx2⟩ := HXa.out _ H1.out.below
  clear h hr hc hl sV hnB
  simp [go_sem] at hx0 hx1 hx2
  have CA := Aside0.mk (iha _ _ _ _ _ H1.out (.inl SV.out) HCa.out HLa.out (by have := HL.out; simp only [nodT, nodL] at this; omega))
  have hu := Try.underlying30
  show Calls Try.prog 164 #[.agg #[.int .i64 2, .int .i64 0, .slice (some ad) 2 c1], _] W _
  rw [runT_add]
  go_enter Try.func164, Try.ntmps164
  go_wp2_with (first | (go_at_call 164; (with_reducible refine CA.out.mono ?_); rintro e w2 ⟨rfl, h2, s2⟩; have hb2 := (s2.2 W.heap.size (.inr rfl) HNB.out).trans (blk_new W _); have hq0 := (blk_cell hb2 0).trans rfl; have hq1 := (blk_cell hb2 1).trans rfl; have hq2 := (blk_cell hb2 2).trans rfl; have H2 := Aside0.mk h2; have S2 := Aside0.mk s2; clear h2 s2 hx0 hx1 hx2 CA; have HB2 := Aside0.mk hb2; clear hb2; obtain ⟨hx0, hx1, hx2⟩ := HXb.out w2 H2.out.below; simp [go_sem] at hx0 hx1 hx2; have CB := Aside0.mk (ihb _ _ _ _ _ H2.out (.inl SV.out) HCb.out HLb.out (by have := HL.out; have := HENa.out; simp only [nodT, nodL, List.length_append] at *; omega))) | (go_at_call 164; (with_reducible refine CB.out.mono ?_); rintro e w3 ⟨rfl, h3, s3⟩; have hb3 := (s3.2 W.heap.size (.inr rfl) HNB.out).trans HB2.out; have hr0 := (blk_cell hb3 0).trans rfl; have hr1 := (blk_cell hb3 1).trans rfl; have hr2 := (blk_cell hb3 2).trans rfl; have H3 := Aside0.mk h3; have S3 := Aside0.mk s3; clear h3 s3 hb3 CB hx0 hx1 hx2 hq0 hq1 hq2))
  go_ret2
  have hc := closing HH.out H3.out (S2.out.trans S3.out)
  rw [List.append_assoc] at hc
  exact ⟨rfl, hc⟩
end Go.Proofs.Ytgbjbpjmbghlbaa.G
end
section
namespace Go.Proofs.Ytgbjbpjmbghlbaa.G
open Go.RowKit Go.Proofs.YtgbjbpjmbghlbaaW.PrintWords Go.Proofs.YtgbjbpjmbghlbaaW.PrintLast Go.Proofs.YtgbjbpjmbghlbaaW.PrintMore
set_option linter.unusedVariables false
set_option linter.unusedSimpArgs false
set_option maxHeartbeats 8000000 in
set_option maxRecDepth 100000 in
theorem runs_mul {w0 : World} {B V : Nat} {A : Option Addr} {c : Nat} {vs : List Int} (hv : vs.all isVal = true) (a b : Tk) (ha : Fits a) (hb : Fits b) (iha : Runs w0 B V A c vs a) (ihb : Runs w0 B V A c vs b) : Runs w0 B V A c vs ⟨3, 0, [a, b]⟩ := by
  intro S out W A1 c1 h sV hr hc hl
  have HH := Aside0.mk h
  have hnB : W.heap.size ≠ B := fun e => by have := h.hS B h.sB; omega
  have H1 := Aside0.mk (h.alloc (.cells #[.int .i64 3, .int .i64 0, .slice A1 2 c1] 30 (0, 0)))
  have HL := Aside0.mk hl
  have SV := Aside0.mk sV
  have HNB := Aside0.mk hnB
  obtain ⟨ad, Aa, ca, rfl, hla, hCa, hxa⟩ := part_at hr 0 a rfl
  have HXa := Aside0.mk hxa
  have HCa := Aside0.mk hCa
  have HLa := Aside0.mk hla
  have hvala := runT_val hv ha
  have hlena := runT_len vs ha
  have HENa := Aside0.mk hlena
  clear hxa hCa hla hlena
  obtain ⟨ad', Ab, cb, eb, hlb, hCb, hxb⟩ := part_at hr 1 b rfl
  obtain rfl : ad = ad' := Option.some.inj eb
  clear eb
  have HXb := Aside0.mk hxb
  have HCb := Aside0.mk hCb
  have HLb := Aside0.mk hlb
  have hvalb := runT_val hv hb
  have hlenb := runT_len vs hb
  have HENb := Aside0.mk hlenb
  clear hxb hCb hlb hlenb
  obtain ⟨hx0, hx1, hx2⟩ := HXa.out _ H1.out.below
  clear h hr hc hl sV hnB
  simp [go_sem] at hx0 hx1 hx2
  have CA := Aside0.mk (iha _ _ _ _ _ H1.out (.inl SV.out) HCa.out HLa.out (by have := HL.out; simp only [nodT, nodL] at this; omega))
  have hu := Try.underlying30
  show Calls Try.prog 164 #[.agg #[.int .i64 3, .int .i64 0, .slice (some ad) 2 c1], _] W _
  have hm0 : 0 ≤ (runT vs a).1 * (runT vs b).1 := Int.mul_nonneg hvala.1 hvalb.1
  have hm1 : (runT vs a).1 * (runT vs b).1 ≤ 9216 := by
    have h1 := Int.mul_le_mul hvala.2 hvalb.2 hvalb.1 (by omega : (0 : Int) ≤ 96)
    omega
  rw [runT_mul]
  go_enter Try.func164, Try.ntmps164
  go_wp2_with (first | (go_at_call 164; (with_reducible refine CA.out.mono ?_); rintro e w2 ⟨rfl, h2, s2⟩; have hb2 := (s2.2 W.heap.size (.inr rfl) HNB.out).trans (blk_new W _); have hq0 := (blk_cell hb2 0).trans rfl; have hq1 := (blk_cell hb2 1).trans rfl; have hq2 := (blk_cell hb2 2).trans rfl; have H2 := Aside0.mk h2; have S2 := Aside0.mk s2; clear h2 s2 hx0 hx1 hx2 CA; have HB2 := Aside0.mk hb2; clear hb2; obtain ⟨hx0, hx1, hx2⟩ := HXb.out w2 H2.out.below; simp [go_sem] at hx0 hx1 hx2; have CB := Aside0.mk (ihb _ _ _ _ _ H2.out (.inl SV.out) HCb.out HLb.out (by have := HL.out; have := HENa.out; simp only [nodT, nodL, List.length_append] at *; omega))) | (go_at_call 164; (with_reducible refine CB.out.mono ?_); rintro e w3 ⟨rfl, h3, s3⟩; have hb3 := (s3.2 W.heap.size (.inr rfl) HNB.out).trans HB2.out; have hr0 := (blk_cell hb3 0).trans rfl; have hr1 := (blk_cell hb3 1).trans rfl; have hr2 := (blk_cell hb3 2).trans rfl; have H3 := Aside0.mk h3; have S3 := Aside0.mk s3; clear h3 s3 hb3 CB hx0 hx1 hx2 hq0 hq1 hq2))
  go_ret2
  have hc := closing HH.out H3.out (S2.out.trans S3.out)
  rw [List.append_assoc] at hc
  exact ⟨rfl, hc⟩
end Go.Proofs.Ytgbjbpjmbghlbaa.G
end
section
namespace Go.Proofs.Ytgbjbpjmbghlbaa.G
open Go.RowKit Go.Proofs.YtgbjbpjmbghlbaaW.PrintWords Go.Proofs.YtgbjbpjmbghlbaaW.PrintLast Go.Proofs.YtgbjbpjmbghlbaaW.PrintMore
set_option linter.unusedVariables false
set_option linter.unusedSimpArgs false
set_option maxHeartbeats 8000000 in
set_option maxRecDepth 100000 in
theorem runs_if0 {w0 : World} {B V : Nat} {A : Option Addr} {c : Nat} {vs : List Int} (hv : vs.all isVal = true) (a b d : Tk) (ha : Fits a) (hb : Fits b) (hd : Fits d) (iha : Runs w0 B V A c vs a) (ihb : Runs w0 B V A c vs b) (ihd : Runs w0 B V A c vs d) (hz : (runT vs a).1 = 0) : Runs w0 B V A c vs ⟨4, 0, [a, b, d]⟩ := by
  intro S out W A1 c1 h sV hr hc hl
  have HH := Aside0.mk h
  have hnB : W.heap.size ≠ B := fun e => by have := h.hS B h.sB; omega
  have H1 := Aside0.mk (h.alloc (.cells #[.int .i64 4, .int .i64 0, .slice A1 3 c1] 30 (0, 0)))
  have HL := Aside0.mk hl
  have SV := Aside0.mk sV
  have HNB := Aside0.mk hnB
  obtain ⟨ad, Aa, ca, rfl, hla, hCa, hxa⟩ := part_at hr 0 a rfl
  have HXa := Aside0.mk hxa
  have HCa := Aside0.mk hCa
  have HLa := Aside0.mk hla
  have hvala := runT_val hv ha
  have hlena := runT_len vs ha
  have HENa := Aside0.mk hlena
  clear hxa hCa hla hlena
  obtain ⟨ad', Ab, cb, eb, hlb, hCb, hxb⟩ := part_at hr 1 b rfl
  obtain rfl : ad = ad' := Option.some.inj eb
  clear eb
  have HXb := Aside0.mk hxb
  have HCb := Aside0.mk hCb
  have HLb := Aside0.mk hlb
  have hvalb := runT_val hv hb
  have hlenb := runT_len vs hb
  have HENb := Aside0.mk hlenb
  clear hxb hCb hlb hlenb
  obtain ⟨ad', Ad, cd, ed, hld, hCd, hxd⟩ := part_at hr 2 d rfl
  obtain rfl : ad = ad' := Option.some.inj ed
  clear ed
  have HXd := Aside0.mk hxd
  have HCd := Aside0.mk hCd
  have HLd := Aside0.mk hld
  have hvald := runT_val hv hd
  have hlend := runT_len vs hd
  have HENd := Aside0.mk hlend
  clear hxd hCd hld hlend
  obtain ⟨hx0, hx1, hx2⟩ := HXa.out _ H1.out.below
  clear h hr hc hl sV hnB
  simp [go_sem] at hx0 hx1 hx2
  have CA := Aside0.mk (iha _ _ _ _ _ H1.out (.inl SV.out) HCa.out HLa.out (by have := HL.out; simp only [nodT, nodL] at this; omega))
  have hu := Try.underlying30
  show Calls Try.prog 164 #[.agg #[.int .i64 4, .int .i64 0, .slice (some ad) 3 c1], _] W _
  rw [runT_if0 vs a b d hz]
  have hzb : ((runT vs a).1 != 0) = false := by rw [hz]; rfl
  go_enter Try.func164, Try.ntmps164
  go_wp2_with (first | (go_at_call 164; (with_reducible refine CA.out.mono ?_); rintro e w2 ⟨rfl, h2, s2⟩; have hb2 := (s2.2 W.heap.size (.inr rfl) HNB.out).trans (blk_new W _); have hq0 := (blk_cell hb2 0).trans rfl; have hq1 := (blk_cell hb2 1).trans rfl; have hq2 := (blk_cell hb2 2).trans rfl; have H2 := Aside0.mk h2; have S2 := Aside0.mk s2; clear h2 s2 hx0 hx1 hx2 CA; have HB2 := Aside0.mk hb2; clear hb2; obtain ⟨hx0, hx1, hx2⟩ := HXd.out w2 H2.out.below; simp [go_sem] at hx0 hx1 hx2; have CB := Aside0.mk (ihd _ _ _ _ _ H2.out (.inl SV.out) HCd.out HLd.out (by have := HL.out; have := HENa.out; simp only [nodT, nodL, List.length_append] at *; omega))) | (go_at_call 164; (with_reducible refine CB.out.mono ?_); rintro e w3 ⟨rfl, h3, s3⟩; have hb3 := (s3.2 W.heap.size (.inr rfl) HNB.out).trans HB2.out; have hr0 := (blk_cell hb3 0).trans rfl; have hr1 := (blk_cell hb3 1).trans rfl; have hr2 := (blk_cell hb3 2).trans rfl; have H3 := Aside0.mk h3; have S3 := Aside0.mk s3; clear h3 s3 hb3 CB hx0 hx1 hx2 hq0 hq1 hq2))
  go_ret2
  have hc := closing HH.out H3.out (S2.out.trans S3.out)
  rw [List.append_assoc] at hc
  exact ⟨rfl, hc⟩
end Go.Proofs.Ytgbjbpjmbghlbaa.G
end
section
namespace Go.Proofs.Ytgbjbpjmbghlbaa.G
open Go.RowKit Go.Proofs.YtgbjbpjmbghlbaaW.PrintWords Go.Proofs.YtgbjbpjmbghlbaaW.PrintLast Go.Proofs.YtgbjbpjmbghlbaaW.PrintMore
set_option linter.unusedVariables false
set_option linter.unusedSimpArgs false
set_option maxHeartbeats 8000000 in
set_option maxRecDepth 100000 in
theorem runs_if1 {w0 : World} {B V : Nat} {A : Option Addr} {c : Nat} {vs : List Int} (hv : vs.all isVal = true) (a b d : Tk) (ha : Fits a) (hb : Fits b) (hd : Fits d) (iha : Runs w0 B V A c vs a) (ihb : Runs w0 B V A c vs b) (ihd : Runs w0 B V A c vs d) (hz : ¬ (runT vs a).1 = 0) : Runs w0 B V A c vs ⟨4, 0, [a, b, d]⟩ := by
  intro S out W A1 c1 h sV hr hc hl
  have HH := Aside0.mk h
  have hnB : W.heap.size ≠ B := fun e => by have := h.hS B h.sB; omega
  have H1 := Aside0.mk (h.alloc (.cells #[.int .i64 4, .int .i64 0, .slice A1 3 c1] 30 (0, 0)))
  have HL := Aside0.mk hl
  have SV := Aside0.mk sV
  have HNB := Aside0.mk hnB
  obtain ⟨ad, Aa, ca, rfl, hla, hCa, hxa⟩ := part_at hr 0 a rfl
  have HXa := Aside0.mk hxa
  have HCa := Aside0.mk hCa
  have HLa := Aside0.mk hla
  have hvala := runT_val hv ha
  have hlena := runT_len vs ha
  have HENa := Aside0.mk hlena
  clear hxa hCa hla hlena
  obtain ⟨ad', Ab, cb, eb, hlb, hCb, hxb⟩ := part_at hr 1 b rfl
  obtain rfl : ad = ad' := Option.some.inj eb
  clear eb
  have HXb := Aside0.mk hxb
  have HCb := Aside0.mk hCb
  have HLb := Aside0.mk hlb
  have hvalb := runT_val hv hb
  have hlenb := runT_len vs hb
  have HENb := Aside0.mk hlenb
  clear hxb hCb hlb hlenb
  obtain ⟨ad', Ad, cd, ed, hld, hCd, hxd⟩ := part_at hr 2 d rfl
  obtain rfl : ad = ad' := Option.some.inj ed
  clear ed
  have HXd := Aside0.mk hxd
  have HCd := Aside0.mk hCd
  have HLd := Aside0.mk hld
  have hvald := runT_val hv hd
  have hlend := runT_len vs hd
  have HENd := Aside0.mk hlend
  clear hxd hCd hld hlend
  obtain ⟨hx0, hx1, hx2⟩ := HXa.out _ H1.out.below
  clear h hr hc hl sV hnB
  simp [go_sem] at hx0 hx1 hx2
  have CA := Aside0.mk (iha _ _ _ _ _ H1.out (.inl SV.out) HCa.out HLa.out (by have := HL.out; simp only [nodT, nodL] at this; omega))
  have hu := Try.underlying30
  show Calls Try.prog 164 #[.agg #[.int .i64 4, .int .i64 0, .slice (some ad) 3 c1], _] W _
  rw [runT_if1 vs a b d hz]
  have hzb : ((runT vs a).1 != 0) = true := bne_iff_ne.mpr hz
  go_enter Try.func164, Try.ntmps164
  go_wp2_with (first | (go_at_call 164; (with_reducible refine CA.out.mono ?_); rintro e w2 ⟨rfl, h2, s2⟩; have hb2 := (s2.2 W.heap.size (.inr rfl) HNB.out).trans (blk_new W _); have hq0 := (blk_cell hb2 0).trans rfl; have hq1 := (blk_cell hb2 1).trans rfl; have hq2 := (blk_cell hb2 2).trans rfl; have H2 := Aside0.mk h2; have S2 := Aside0.mk s2; clear h2 s2 hx0 hx1 hx2 CA; have HB2 := Aside0.mk hb2; clear hb2; obtain ⟨hx0, hx1, hx2⟩ := HXb.out w2 H2.out.below; simp [go_sem] at hx0 hx1 hx2; have CB := Aside0.mk (ihb _ _ _ _ _ H2.out (.inl SV.out) HCb.out HLb.out (by have := HL.out; have := HENa.out; simp only [nodT, nodL, List.length_append] at *; omega))) | (go_at_call 164; (with_reducible refine CB.out.mono ?_); rintro e w3 ⟨rfl, h3, s3⟩; have hb3 := (s3.2 W.heap.size (.inr rfl) HNB.out).trans HB2.out; have hr0 := (blk_cell hb3 0).trans rfl; have hr1 := (blk_cell hb3 1).trans rfl; have hr2 := (blk_cell hb3 2).trans rfl; have H3 := Aside0.mk h3; have S3 := Aside0.mk s3; clear h3 s3 hb3 CB hx0 hx1 hx2 hq0 hq1 hq2))
  go_ret2
  have hc := closing HH.out H3.out (S2.out.trans S3.out)
  rw [List.append_assoc] at hc
  exact ⟨rfl, hc⟩
end Go.Proofs.Ytgbjbpjmbghlbaa.G
end
section
namespace Go.Proofs.Ytgbjbpjmbghlbaa.G
open Go.RowKit Go.Proofs.YtgbjbpjmbghlbaaW.PrintWords Go.Proofs.YtgbjbpjmbghlbaaW.PrintLast Go.Proofs.YtgbjbpjmbghlbaaW.PrintMore
set_option linter.unusedVariables false
set_option linter.unusedSimpArgs false
theorem runs {w0 : World} {B V : Nat} {A : Option Addr} {c : Nat} {vs : List Int} (hv : vs.all isVal = true) {t : Tk} (h : Fits t) : Runs w0 B V A c vs t := by
  induction h with
  | num n h0 h1 => exact runs_num n
  | get n h0 h1 => exact runs_get n
  | add a b ha hb iha ihb => exact runs_add hv a b ha hb iha ihb
  | mul a b ha hb iha ihb => exact runs_mul hv a b ha hb iha ihb
  | iff a b d ha hb hd iha ihb ihd =>
    by_cases hz : (runT vs a).1 = 0
    · exact runs_if0 hv a b d ha hb hd iha ihb ihd hz
    · exact runs_if1 hv a b d ha hb hd iha ihb ihd hz
  | «at» n h0 h1 a ha iha => exact runs_at hv n h0 h1 a ha iha
end Go.Proofs.Ytgbjbpjmbghlbaa.G
end
section
namespace Go.Proofs.Ytgbjbpjmbghlbaa.G
open Go.RowKit Go.Proofs.YtgbjbpjmbghlbaaW.PrintWords Go.Proofs.YtgbjbpjmbghlbaaW.PrintLast Go.Proofs.YtgbjbpjmbghlbaaW.PrintMore
set_option linter.unusedVariables false
set_option linter.unusedSimpArgs false
def impl_Task_fetched.f (a0_0 : Int) (a0_1 : Int) (l0_2 : List Tk) (l1 : List Int) : Option (Int × List Fk) :=
  if fitT ⟨a0_0, a0_1, l0_2⟩ = true ∧ l1.all isVal = true ∧ nodT ⟨a0_0, a0_1, l0_2⟩ < 8796093022207 then some (runT l1 ⟨a0_0, a0_1, l0_2⟩) else none
set_option maxHeartbeats 8000000 in
set_option maxRecDepth 100000 in
theorem impl_Task_fetched.calls (a0_0 : Int) (a0_1 : Int) (A0_2 : Option Addr) (c0_2 : Nat) (l0_2 : List Tk) (A1 : Option Addr) (c1 : Nat) (l1 : List Int) (r1 : Int) (r2 : List Fk) (w : World) (hr0_2 : Kd.C k30 w A0_2 l0_2.length l0_2) (hc0_2 : l0_2.length ≤ c0_2) (hr1 : Kd.C (Kd.int .i64) w A1 l1.length l1) (hc1 : l1.length ≤ c1) (h : impl_Task_fetched.f a0_0 a0_1 l0_2 l1 = some (r1, r2)) :
    Calls Try.prog 138 #[.agg #[.int .i64 a0_0, .int .i64 a0_1, .slice A0_2 l0_2.length c0_2], .slice A1 l1.length c1] w fun e w' => ∃ v1_ : Value, e = .returned (.tuple #[.int .i64 r1, v1_]) ∧ Kd.R k117 117 w' w.heap.size (fun _ => True) v1_ r2 ∧ Below w.heap.size w w' := by
  unfold impl_Task_fetched.f at h
  split at h
  case isFalse => cases h
  rename_i hg
  obtain ⟨hf, hv, hn⟩ := hg
  have hR := Option.some.inj h
  obtain rfl : (runT l1 ⟨a0_0, a0_1, l0_2⟩).1 = r1 := by rw [hR]
  obtain rfl : (runT l1 ⟨a0_0, a0_1, l0_2⟩).2 = r2 := by rw [hR]
  have HI : RunAt w (w.heap.size + 2) (w.heap.size + 1) A1 c1 l1 (fun k => k = w.heap.size ∨ k = w.heap.size + 1 ∨ k = w.heap.size + 2) [] (((w.alloc (.cells #[.int .i64 a0_0, .int .i64 a0_1, .slice A0_2 l0_2.length c0_2] 30 (0, 0))).alloc (.cells #[.slice A1 l1.length c1] 26 (0, 0))).alloc (.cells #[.slice none 0 0] 85 (0, 0))) := {
    below := (((Below.refl w.heap.size w).alloc (Nat.le_refl _) _).alloc (by simp) _).alloc (by simp; omega) _
    hv := blk_alloc (by have := blk_new (w.alloc (.cells #[.int .i64 a0_0, .int .i64 a0_1, .slice A0_2 l0_2.length c0_2] 30 (0, 0))) (.cells #[.slice A1 l1.length c1] 26 (0, 0)); simpa using this) _
    hr := hr1
    hc := hc1
    ho := ⟨.slice none 0 0, by have := blk_new ((w.alloc (.cells #[.int .i64 a0_0, .int .i64 a0_1, .slice A0_2 l0_2.length c0_2] 30 (0, 0))).alloc (.cells #[.slice A1 l1.length c1] 26 (0, 0))) (.cells #[.slice none 0 0] 85 (0, 0)); simpa using this, Kd.R_nil _ _ _ _ _⟩
    hS := fun k hk => by simp; omega
    sB := .inr (.inr rfl)
    ne := by omega
    bB := by omega }
  have HA := Aside0.mk (runs hv (fits_of _ hf) _ _ _ A0_2 c0_2 HI (.inr (.inl rfl)) hr0_2 hc0_2 (by simpa using hn))
  have hu := Try.underlying30
  clear h hR HI hf hv hn hr0_2 hc0_2 hr1 hc1
  have hmf : ∀ (fn : Fn) (first cap : Array Value) (W : World), (Instr.makeFunc fn first cap).run Try.prog W = .ok (.func fn first cap) W := fun _ _ _ _ => rfl
  go_enter Try.func138, Try.ntmps138
  go_wp2_with ((go_at_call 164; (with_reducible refine HA.out.mono ?_); rintro e w2 ⟨rfl, h2, s2⟩; obtain ⟨vo, hb2, ho2⟩ := h2.ho; obtain ⟨Ao, co, eo⟩ := Kd.R_slice ho2; subst eo; have hq0 : w2.cell? ⟨w.heap.size + 1 + 1, 0, none⟩ = _ := (blk_cell hb2 0).trans rfl; have H2 := Aside0.mk h2; have HO2 := Aside0.mk ho2; clear h2 s2 ho2 HA))
  go_quiet (fail)
  go_wp2
  go_ret2
  refine ⟨.slice Ao (runT l1 ⟨a0_0, a0_1, l0_2⟩).2.length co, rfl, ?_, pw_below_drewN H2.out.below nq⟩
  have h3 := Kd.R_drewN HO2.out nq
  simp only [List.nil_append] at h3
  exact Kd.R_mono h3 (fun _ _ => trivial)
end Go.Proofs.Ytgbjbpjmbghlbaa.G
end
section
namespace Go.Proofs.Ytgbjbpjmbghlbaa.G
open Go.RowKit Go.Proofs.YtgbjbpjmbghlbaaW.PrintWords Go.Proofs.YtgbjbpjmbghlbaaW.PrintLast Go.Proofs.YtgbjbpjmbghlbaaW.PrintMore
attribute [local go_sem] max2_int min2_int max_two min_two max_three min_three max_four min_four
set_option linter.unusedVariables false
set_option linter.unusedSimpArgs false
theorem eqA117 (d : Nat) (w : World) (x0 y0 : Int) (x1 y1 : Int) :
    (Op.equalIn (d + 2) 117 (.agg #[.int .i64 x0, .int .i64 x1]) (.agg #[.int .i64 y0, .int .i64 y1])).run Try.prog w = .ok (x0 == y0 && (x1 == y1)) w := by
  refine eqA_of Try.underlying117 (by kernel_rfl) ?_
  refine eqf_cons (by rfl) (by go_simp; rfl) (by go_simp; rfl) (by go_simp) ?_
  exact eqf_last (by rfl) (by go_simp; rfl) (by go_simp; rfl) (by go_simp)
end Go.Proofs.Ytgbjbpjmbghlbaa.G
end
section
namespace Go.Proofs.Ytgbjbpjmbghlbaa.G
open Go.RowKit Go.Proofs.YtgbjbpjmbghlbaaW.PrintWords Go.Proofs.YtgbjbpjmbghlbaaW.PrintLast Go.Proofs.YtgbjbpjmbghlbaaW.PrintMore
attribute [local go_sem] max2_int min2_int max_two min_two max_three min_three max_four min_four
set_option linter.unusedVariables false
set_option linter.unusedSimpArgs false
def impl_TaskFetches.f (k : Nat) (a0_0 : Int) (a0_1 : Int) (l0_2 : List (S30)) (l1 : List Int) : Option ((List (S117)) × Bool) := (impl_TaskOk.f k a0_0 a0_1 l0_2).bind fun t372 => (if t372 = true then ((impl_valuesOk.f l1).bind fun t373 => (if t373 = true then ((impl_Task_fetched.f a0_0 a0_1 l0_2 l1).bind fun bt374 => (some (bt374.2, true))) else (some (([] : List (S117)), false)))) else (some (([] : List (S117)), false)))
set_option maxHeartbeats 8000000 in
set_option maxRecDepth 100000 in
theorem impl_TaskFetches.calls (k : Nat) (a0_0 : Int) (a0_1 : Int) (A0_2 : Option Addr) (c0_2 : Nat) (l0_2 : List (S30)) (A1 : Option Addr) (c1 : Nat) (l1 : List Int) (r1 : List (S117)) (r2 : Bool) (w : World) (hr0_2 : Kd.C k30 w A0_2 l0_2.length l0_2) (hc0_2 : l0_2.length ≤ c0_2) (hr1 : Kd.C (Kd.int .i64) w A1 l1.length l1) (hc1 : l1.length ≤ c1) (h : impl_TaskFetches.f k a0_0 a0_1 l0_2 l1 = some (r1, r2)) :
    Calls Try.prog 79 #[.agg #[.int .i64 a0_0, .int .i64 a0_1, .slice A0_2 l0_2.length c0_2], .slice A1 l1.length c1] w fun e w' => ∃ v0_ : Value, e = .returned (.tuple #[v0_, .bool r2]) ∧ Kd.R k117 117 w' w.heap.size (fun _ => True) v0_ r1 ∧ Below w.heap.size w w' := by
  have hu30 := Try.underlying30
  have HR0_2 := Aside0.mk hr0_2
  have HC0_2 := Aside0.mk hc0_2
  clear hr0_2 hc0_2
  have HR1 := Aside0.mk hr1
  have HC1 := Aside0.mk hc1
  clear hr1 hc1
  have HB := Aside0.mk (Below.refl w.heap.size w)
  have H : ((impl_TaskOk.f k a0_0 a0_1 l0_2).bind fun t372 => (if t372 = true then ((impl_valuesOk.f l1).bind fun t373 => (if t373 = true then ((impl_Task_fetched.f a0_0 a0_1 l0_2 l1).bind fun bt374 => (some (bt374.2, true))) else (some (([] : List (S117)), false)))) else (some (([] : List (S117)), false)))) = some (r1, r2) := h
  clear h
  replace H := Option.bind_eq_some_iff.mp H
  obtain ⟨t372, A30, H⟩ := H
  replace H : (if t372 = true then ((impl_valuesOk.f l1).bind fun t373 => (if t373 = true then ((impl_Task_fetched.f a0_0 a0_1 l0_2 l1).bind fun bt374 => (some (bt374.2, true))) else (some (([] : List (S117)), false)))) else (some (([] : List (S117)), false))) = some (r1, r2) := H
  have A3 := Aside0.mk A30
  clear A30
  by_cases c4 : t372 = true
  · subst c4
    have H1 : ((impl_valuesOk.f l1).bind fun t373 => (if t373 = true then ((impl_Task_fetched.f a0_0 a0_1 l0_2 l1).bind fun bt374 => (some (bt374.2, true))) else (some (([] : List (S117)), false)))) = some (r1, r2) := by rw [if_pos rfl] at H; exact H
    clear H
    have H := H1
    clear H1
    replace H := Option.bind_eq_some_iff.mp H
    obtain ⟨t373, A50, H⟩ := H
    replace H : (if t373 = true then ((impl_Task_fetched.f a0_0 a0_1 l0_2 l1).bind fun bt374 => (some (bt374.2, true))) else (some (([] : List (S117)), false))) = some (r1, r2) := H
    have A5 := Aside0.mk A50
    clear A50
    by_cases c6 : t373 = true
    · subst c6
      have H1 : ((impl_Task_fetched.f a0_0 a0_1 l0_2 l1).bind fun bt374 => (some (bt374.2, true))) = some (r1, r2) := by rw [if_pos rfl] at H; exact H
      clear H
      have H := H1
      clear H1
      replace H := Option.bind_eq_some_iff.mp H
      obtain ⟨⟨t374, t375⟩, A70, H⟩ := H
      replace H : (some (t375, true)) = some (r1, r2) := H
      have A7 := Aside0.mk A70
      clear A70
      simp only [Option.some.injEq, Prod.mk.injEq] at H
      obtain ⟨rfl, rfl⟩ := H
      go_enter Try.func79, Try.ntmps79
      go_wp2_with (first | ((with_reducible refine gate_dst (N := 2) rfl ?_); refine box_event ?hg (N := 2) ?hd (cs := #[.int .i64 a0_0, .int .i64 a0_1, .slice A0_2 l0_2.length c0_2]) (t := 30) ?hr ?_; (case hd => rfl); (case hg => rfl); (case hr => first | (go_simp; done) | (go_simp; rfl)); intro gb371 hg w8 hbox hb; have n0_ := Aside0.mk (below_step (by repeat (first | (with_reducible first | exact HB.out | apply below_alloc | apply pw_below_drewN | apply below_drew1) | exact HB.out)) hb); have n1_ := Aside0.mk (hbox); have n2_ := Aside0.mk ((by rw [hg]; exact (below_size (by repeat (first | (with_reducible first | exact HB.out | apply below_alloc | apply pw_below_drewN | apply below_drew1) | exact HB.out))) : w.heap.size ≤ gb371)); have n3_ := Aside0.mk ((by rw [hg]; exact (below_size (by repeat (first | (with_reducible first | exact HB.out | apply below_alloc | apply pw_below_drewN | apply below_drew1) | exact HB.out))) : w.heap.size ≤ gb371)); clear HB; have HB := n0_; have BK371 := n1_; have GW371 := n2_; have GE371 := n3_; clear n0_ n1_ n2_ n3_; clear hb hbox hg; have hcz9_0 : w8.cell? ⟨gb371, 0, none⟩ = some (.int .i64 a0_0) := (blk_cell BK371.out 0).trans rfl; have hcz9_1 : w8.cell? ⟨gb371, 1, none⟩ = some (.int .i64 a0_1) := (blk_cell BK371.out 1).trans rfl; have hcz9_2 : w8.cell? ⟨gb371, 2, none⟩ = some (.slice A0_2 l0_2.length c0_2) := (blk_cell BK371.out 2).trans rfl; have hfz9_0 := blk_frozen BK371.out 0; have hfz9_1 := blk_frozen BK371.out 1; have hfz9_2 := blk_frozen BK371.out 2) | ((with_reducible refine gate_callee (f := 26) rfl ?_); refine goesL_ (some 9) rfl rfl Try.func26 (by kernel_rfl) rfl #[.agg #[.int .i64 a0_0, .int .i64 a0_1, .slice A0_2 l0_2.length c0_2]] rfl (by (try simp only [List.map_toArray, List.map_cons, List.map_nil]); first | done | rfl | (simp only [List.length_drop, List.length_take]; rfl)) ?_; (with_reducible refine (impl_TaskOk.calls k a0_0 a0_1 _ _ l0_2 true _ ?side1 ?side2 A3.out).mono ?_); (case side1 => repeat (first | exact (Kd.C_below HR0_2.out HB.out) | (with_reducible refine Kd.C_alloc ?_ _) | (with_reducible refine Kd.C_drewN ?_ _) | (with_reducible refine Kd.C_drew ?_))); (case side2 => exact HC0_2.out); rintro e w10 ⟨rfl, hb⟩; refine ⟨_, rfl, ?_⟩; have n0_ := Aside0.mk (blk_below (g := gb371) (o := .cells #[.int .i64 a0_0, .int .i64 a0_1, .slice A0_2 l0_2.length c0_2] 30 (0, 0)) (by (with_reducible repeat (first | refine blk_drewN ?_ _ | refine blk_drew ?_ | refine blk_alloc ?_ _)); exact BK371.out) hb); have n1_ := Aside0.mk (below_step (by repeat (first | (with_reducible first | exact HB.out | apply below_alloc | apply pw_below_drewN | apply below_drew1 | refine below_set ?_ GE371.out) | exact HB.out)) hb); clear BK371; clear HB; have BK371 := n0_; have HB := n1_; clear n0_ n1_; (try clear hb); (try clear hb2); (try clear hk); (try clear hi)) | (go_at_call 137; (with_reducible refine (impl_valuesOk.calls _ _ l1 true _ ?side1 ?side2 A5.out).mono ?_); (case side1 => repeat (first | exact (Kd.C_below HR1.out HB.out) | (with_reducible refine Kd.C_alloc ?_ _) | (with_reducible refine Kd.C_drewN ?_ _) | (with_reducible refine Kd.C_drew ?_))); (case side2 => exact HC1.out); rintro e w11 ⟨rfl, hb⟩; have n0_ := Aside0.mk (blk_below (g := gb371) (o := .cells #[.int .i64 a0_0, .int .i64 a0_1, .slice A0_2 l0_2.length c0_2] 30 (0, 0)) (by (with_reducible repeat (first | refine blk_drewN ?_ _ | refine blk_drew ?_ | refine blk_alloc ?_ _)); exact BK371.out) hb); have n1_ := Aside0.mk (below_step (by repeat (first | (with_reducible first | exact HB.out | apply below_alloc | apply pw_below_drewN | apply below_drew1 | refine below_set ?_ GE371.out) | exact HB.out)) hb); clear BK371; clear HB; have BK371 := n0_; have HB := n1_; clear n0_ n1_; (try clear hb); (try clear hb2); (try clear hk); (try clear hi); have hcz12_0 : w11.cell? ⟨gb371, 0, none⟩ = some (.int .i64 a0_0) := (blk_cell BK371.out 0).trans rfl; have hcz12_1 : w11.cell? ⟨gb371, 1, none⟩ = some (.int .i64 a0_1) := (blk_cell BK371.out 1).trans rfl; have hcz12_2 : w11.cell? ⟨gb371, 2, none⟩ = some (.slice A0_2 l0_2.length c0_2) := (blk_cell BK371.out 2).trans rfl; have hfz12_0 := blk_frozen BK371.out 0; have hfz12_1 := blk_frozen BK371.out 1; have hfz12_2 := blk_frozen BK371.out 2) | ((with_reducible refine gate_callee (f := 138) rfl ?_); refine goesL_ (some 19) rfl rfl Try.func138 (by kernel_rfl) rfl #[.agg #[.int .i64 a0_0, .int .i64 a0_1, .slice A0_2 l0_2.length c0_2], .slice A1 l1.length c1] rfl (by (try simp only [List.map_toArray, List.map_cons, List.map_nil]); first | done | rfl | (simp only [List.length_drop, List.length_take]; rfl)) ?_; (with_reducible refine (impl_Task_fetched.calls a0_0 a0_1 _ _ l0_2 _ _ l1 t374 t375 _ ?side1 ?side2 ?side3 ?side4 A7.out).mono ?_); (case side1 => repeat (first | exact (Kd.C_below HR0_2.out HB.out) | (with_reducible refine Kd.C_alloc ?_ _) | (with_reducible refine Kd.C_drewN ?_ _) | (with_reducible refine Kd.C_drew ?_))); (case side2 => exact HC0_2.out); (case side3 => repeat (first | exact (Kd.C_below HR1.out HB.out) | (with_reducible refine Kd.C_alloc ?_ _) | (with_reducible refine Kd.C_drewN ?_ _) | (with_reducible refine Kd.C_drew ?_))); (case side4 => exact HC1.out); rintro e w13 ⟨v376, rfl, ho0, hb⟩; refine ⟨_, rfl, ?_⟩; have n0_ := Aside0.mk (Kd.R_lower ho0 (below_size (by repeat (first | (with_reducible first | exact HB.out | apply below_alloc | apply pw_below_drewN | apply below_drew1 | refine below_set ?_ GE371.out) | exact HB.out)))); have n1_ := Aside0.mk (blk_below (g := gb371) (o := .cells #[.int .i64 a0_0, .int .i64 a0_1, .slice A0_2 l0_2.length c0_2] 30 (0, 0)) (by (with_reducible repeat (first | refine blk_drewN ?_ _ | refine blk_drew ?_ | refine blk_alloc ?_ _)); exact BK371.out) hb); have n2_ := Aside0.mk (below_step (by repeat (first | (with_reducible first | exact HB.out | apply below_alloc | apply pw_below_drewN | apply below_drew1 | refine below_set ?_ GE371.out) | exact HB.out)) hb); clear BK371; clear HB; have HO377 := n0_; have BK371 := n1_; have HB := n2_; clear n0_ n1_ n2_; (try clear hb); (try clear hb2); (try clear hk); (try clear hi); (try clear ho0)))
      go_ret2
      exact ⟨_, by first | rfl | (simp [errW_none, errW_some] <;> rfl) | (simp [*, errW_none, errW_some] <;> rfl), by (with_reducible repeat (first | apply Kd.R_alloc | apply Kd.R_drewN | apply Kd.R_drew)); exact HO377.out, by repeat (first | (with_reducible first | exact HB.out | apply below_alloc | apply pw_below_drewN | apply below_drew1 | refine below_set ?_ GE371.out) | exact HB.out)⟩
    · replace c6 := Bool.eq_false_iff.mpr c6
      subst c6
      have H1 : (some (([] : List (S117)), false)) = some (r1, r2) := by rw [if_neg (show ¬ (false = true) by decide)] at H; exact H
      clear H
      have H := H1
      clear H1
      simp only [Option.some.injEq, Prod.mk.injEq] at H
      obtain ⟨rfl, rfl⟩ := H
      go_enter Try.func79, Try.ntmps79
      go_wp2_with (first | ((with_reducible refine gate_dst (N := 2) rfl ?_); refine box_event ?hg (N := 2) ?hd (cs := #[.int .i64 a0_0, .int .i64 a0_1, .slice A0_2 l0_2.length c0_2]) (t := 30) ?hr ?_; (case hd => rfl); (case hg => rfl); (case hr => first | (go_simp; done) | (go_simp; rfl)); intro gb371 hg w14 hbox hb; have n0_ := Aside0.mk (below_step (by repeat (first | (with_reducible first | exact HB.out | apply below_alloc | apply pw_below_drewN | apply below_drew1) | exact HB.out)) hb); have n1_ := Aside0.mk (hbox); have n2_ := Aside0.mk ((by rw [hg]; exact (below_size (by repeat (first | (with_reducible first | exact HB.out | apply below_alloc | apply pw_below_drewN | apply below_drew1) | exact HB.out))) : w.heap.size ≤ gb371)); have n3_ := Aside0.mk ((by rw [hg]; exact (below_size (by repeat (first | (with_reducible first | exact HB.out | apply below_alloc | apply pw_below_drewN | apply below_drew1) | exact HB.out))) : w.heap.size ≤ gb371)); clear HB; have HB := n0_; have BK371 := n1_; have GW371 := n2_; have GE371 := n3_; clear n0_ n1_ n2_ n3_; clear hb hbox hg; have hcz15_0 : w14.cell? ⟨gb371, 0, none⟩ = some (.int .i64 a0_0) := (blk_cell BK371.out 0).trans rfl; have hcz15_1 : w14.cell? ⟨gb371, 1, none⟩ = some (.int .i64 a0_1) := (blk_cell BK371.out 1).trans rfl; have hcz15_2 : w14.cell? ⟨gb371, 2, none⟩ = some (.slice A0_2 l0_2.length c0_2) := (blk_cell BK371.out 2).trans rfl; have hfz15_0 := blk_frozen BK371.out 0; have hfz15_1 := blk_frozen BK371.out 1; have hfz15_2 := blk_frozen BK371.out 2) | ((with_reducible refine gate_callee (f := 26) rfl ?_); refine goesL_ (some 9) rfl rfl Try.func26 (by kernel_rfl) rfl #[.agg #[.int .i64 a0_0, .int .i64 a0_1, .slice A0_2 l0_2.length c0_2]] rfl (by (try simp only [List.map_toArray, List.map_cons, List.map_nil]); first | done | rfl | (simp only [List.length_drop, List.length_take]; rfl)) ?_; (with_reducible refine (impl_TaskOk.calls k a0_0 a0_1 _ _ l0_2 true _ ?side1 ?side2 A3.out).mono ?_); (case side1 => repeat (first | exact (Kd.C_below HR0_2.out HB.out) | (with_reducible refine Kd.C_alloc ?_ _) | (with_reducible refine Kd.C_drewN ?_ _) | (with_reducible refine Kd.C_drew ?_))); (case side2 => exact HC0_2.out); rintro e w16 ⟨rfl, hb⟩; refine ⟨_, rfl, ?_⟩; have n0_ := Aside0.mk (blk_below (g := gb371) (o := .cells #[.int .i64 a0_0, .int .i64 a0_1, .slice A0_2 l0_2.length c0_2] 30 (0, 0)) (by (with_reducible repeat (first | refine blk_drewN ?_ _ | refine blk_drew ?_ | refine blk_alloc ?_ _)); exact BK371.out) hb); have n1_ := Aside0.mk (below_step (by repeat (first | (with_reducible first | exact HB.out | apply below_alloc | apply pw_below_drewN | apply below_drew1 | refine below_set ?_ GE371.out) | exact HB.out)) hb); clear BK371; clear HB; have BK371 := n0_; have HB := n1_; clear n0_ n1_; (try clear hb); (try clear hb2); (try clear hk); (try clear hi)) | (go_at_call 137; (with_reducible refine (impl_valuesOk.calls _ _ l1 false _ ?side1 ?side2 A5.out).mono ?_); (case side1 => repeat (first | exact (Kd.C_below HR1.out HB.out) | (with_reducible refine Kd.C_alloc ?_ _) | (with_reducible refine Kd.C_drewN ?_ _) | (with_reducible refine Kd.C_drew ?_))); (case side2 => exact HC1.out); rintro e w17 ⟨rfl, hb⟩; have n0_ := Aside0.mk (blk_below (g := gb371) (o := .cells #[.int .i64 a0_0, .int .i64 a0_1, .slice A0_2 l0_2.length c0_2] 30 (0, 0)) (by (with_reducible repeat (first | refine blk_drewN ?_ _ | refine blk_drew ?_ | refine blk_alloc ?_ _)); exact BK371.out) hb); have n1_ := Aside0.mk (below_step (by repeat (first | (with_reducible first | exact HB.out | apply below_alloc | apply pw_below_drewN | apply below_drew1 | refine below_set ?_ GE371.out) | exact HB.out)) hb); clear BK371; clear HB; have BK371 := n0_; have HB := n1_; clear n0_ n1_; (try clear hb); (try clear hb2); (try clear hk); (try clear hi)))
      go_ret2
      exact ⟨_, by first | rfl | (simp [errW_none, errW_some] <;> rfl) | (simp [*, errW_none, errW_some] <;> rfl), by first | exact Kd.R_nil _ _ _ _ _ | exact Kd.N_nil _ _ _ _ _ | exact Kd.V_nil _ _ _ _ _ | exact Kd.Q_nil _ _ _ _ _ | exact Kd.S_nil _ _ _ _ _, by repeat (first | (with_reducible first | exact HB.out | apply below_alloc | apply pw_below_drewN | apply below_drew1 | refine below_set ?_ GE371.out) | exact HB.out)⟩
  · replace c4 := Bool.eq_false_iff.mpr c4
    subst c4
    have H1 : (some (([] : List (S117)), false)) = some (r1, r2) := by rw [if_neg (show ¬ (false = true) by decide)] at H; exact H
    clear H
    have H := H1
    clear H1
    simp only [Option.some.injEq, Prod.mk.injEq] at H
    obtain ⟨rfl, rfl⟩ := H
    go_enter Try.func79, Try.ntmps79
    go_wp2_with (first | ((with_reducible refine gate_dst (N := 2) rfl ?_); refine box_event ?hg (N := 2) ?hd (cs := #[.int .i64 a0_0, .int .i64 a0_1, .slice A0_2 l0_2.length c0_2]) (t := 30) ?hr ?_; (case hd => rfl); (case hg => rfl); (case hr => first | (go_simp; done) | (go_simp; rfl)); intro gb371 hg w18 hbox hb; have n0_ := Aside0.mk (below_step (by repeat (first | (with_reducible first | exact HB.out | apply below_alloc | apply pw_below_drewN | apply below_drew1) | exact HB.out)) hb); have n1_ := Aside0.mk (hbox); have n2_ := Aside0.mk ((by rw [hg]; exact (below_size (by repeat (first | (with_reducible first | exact HB.out | apply below_alloc | apply pw_below_drewN | apply below_drew1) | exact HB.out))) : w.heap.size ≤ gb371)); have n3_ := Aside0.mk ((by rw [hg]; exact (below_size (by repeat (first | (with_reducible first | exact HB.out | apply below_alloc | apply pw_below_drewN | apply below_drew1) | exact HB.out))) : w.heap.size ≤ gb371)); clear HB; have HB := n0_; have BK371 := n1_; have GW371 := n2_; have GE371 := n3_; clear n0_ n1_ n2_ n3_; clear hb hbox hg; have hcz19_0 : w18.cell? ⟨gb371, 0, none⟩ = some (.int .i64 a0_0) := (blk_cell BK371.out 0).trans rfl; have hcz19_1 : w18.cell? ⟨gb371, 1, none⟩ = some (.int .i64 a0_1) := (blk_cell BK371.out 1).trans rfl; have hcz19_2 : w18.cell? ⟨gb371, 2, none⟩ = some (.slice A0_2 l0_2.length c0_2) := (blk_cell BK371.out 2).trans rfl; have hfz19_0 := blk_frozen BK371.out 0; have hfz19_1 := blk_frozen BK371.out 1; have hfz19_2 := blk_frozen BK371.out 2) | ((with_reducible refine gate_callee (f := 26) rfl ?_); refine goesL_ (some 9) rfl rfl Try.func26 (by kernel_rfl) rfl #[.agg #[.int .i64 a0_0, .int .i64 a0_1, .slice A0_2 l0_2.length c0_2]] rfl (by (try simp only [List.map_toArray, List.map_cons, List.map_nil]); first | done | rfl | (simp only [List.length_drop, List.length_take]; rfl)) ?_; (with_reducible refine (impl_TaskOk.calls k a0_0 a0_1 _ _ l0_2 false _ ?side1 ?side2 A3.out).mono ?_); (case side1 => repeat (first | exact (Kd.C_below HR0_2.out HB.out) | (with_reducible refine Kd.C_alloc ?_ _) | (with_reducible refine Kd.C_drewN ?_ _) | (with_reducible refine Kd.C_drew ?_))); (case side2 => exact HC0_2.out); rintro e w20 ⟨rfl, hb⟩; refine ⟨_, rfl, ?_⟩; have n0_ := Aside0.mk (blk_below (g := gb371) (o := .cells #[.int .i64 a0_0, .int .i64 a0_1, .slice A0_2 l0_2.length c0_2] 30 (0, 0)) (by (with_reducible repeat (first | refine blk_drewN ?_ _ | refine blk_drew ?_ | refine blk_alloc ?_ _)); exact BK371.out) hb); have n1_ := Aside0.mk (below_step (by repeat (first | (with_reducible first | exact HB.out | apply below_alloc | apply pw_below_drewN | apply below_drew1 | refine below_set ?_ GE371.out) | exact HB.out)) hb); clear BK371; clear HB; have BK371 := n0_; have HB := n1_; clear n0_ n1_; (try clear hb); (try clear hb2); (try clear hk); (try clear hi)))
    go_ret2
    exact ⟨_, by first | rfl | (simp [errW_none, errW_some] <;> rfl) | (simp [*, errW_none, errW_some] <;> rfl), by first | exact Kd.R_nil _ _ _ _ _ | exact Kd.N_nil _ _ _ _ _ | exact Kd.V_nil _ _ _ _ _ | exact Kd.Q_nil _ _ _ _ _ | exact Kd.S_nil _ _ _ _ _, by repeat (first | (with_reducible first | exact HB.out | apply below_alloc | apply pw_below_drewN | apply below_drew1 | refine below_set ?_ GE371.out) | exact HB.out)⟩
end Go.Proofs.Ytgbjbpjmbghlbaa.G
end
section
namespace Go.Proofs.Ytgbjbpjmbghlbaa.G
open Go.RowKit Go.Proofs.YtgbjbpjmbghlbaaW.PrintWords Go.Proofs.YtgbjbpjmbghlbaaW.PrintLast Go.Proofs.YtgbjbpjmbghlbaaW.PrintMore
attribute [local go_sem] max2_int min2_int max_two min_two max_three min_three max_four min_four
set_option linter.unusedVariables false
set_option linter.unusedSimpArgs false
def impl_TaskUses.l0 : Nat → Bool → List Int → List (S117) → Int → Int → Option (List Int × Bool)
  | 0, _, _, _, _, _ => none
  | k + 1, x7, x8, x18, x19, x20 => if x20 < x19 then (if 0 ≤ x20 then (if x20 < (x18.length : Int) then (if x8.length < 17592186044416 then (impl_TaskUses.l0 k x7 (x8 ++ [(rd_T117 x18 x20).f0]) x18 x19 (wrap64 (x20 + 1))) else (none)) else (none)) else (none)) else (some (x8, x7))
def impl_TaskUses.f (k : Nat) (a0_0 : Int) (a0_1 : Int) (l0_2 : List (S30)) (l1 : List Int) : Option (List Int × Bool) := (impl_TaskFetches.f k a0_0 a0_1 l0_2 l1).bind fun bt379 => ((impl_once.f bt379.1).bind fun t383 => (impl_TaskUses.l0 k bt379.2 ([] : List Int) t383 (t383.length : Int) 0))
set_option maxHeartbeats 8000000 in
set_option maxRecDepth 100000 in
theorem impl_TaskUses.calls (k : Nat) (a0_0 : Int) (a0_1 : Int) (A0_2 : Option Addr) (c0_2 : Nat) (l0_2 : List (S30)) (A1 : Option Addr) (c1 : Nat) (l1 : List Int) (r1 : List Int) (r2 : Bool) (w : World) (hr0_2 : Kd.C k30 w A0_2 l0_2.length l0_2) (hc0_2 : l0_2.length ≤ c0_2) (hr1 : Kd.C (Kd.int .i64) w A1 l1.length l1) (hc1 : l1.length ≤ c1) (h : impl_TaskUses.f k a0_0 a0_1 l0_2 l1 = some (r1, r2)) :
    Calls Try.prog 29 #[.agg #[.int .i64 a0_0, .int .i64 a0_1, .slice A0_2 l0_2.length c0_2], .slice A1 l1.length c1] w fun e w' => ∃ v0_ : Value, e = .returned (.tuple #[v0_, .bool r2]) ∧ Kd.R (Kd.int .i64) 3 w' w.heap.size (fun _ => True) v0_ r1 ∧ Below w.heap.size w w' := by
  have hu30 := Try.underlying30
  have hu117 := Try.underlying117
  have HR0_2 := Aside0.mk hr0_2
  have HC0_2 := Aside0.mk hc0_2
  clear hr0_2 hc0_2
  have HR1 := Aside0.mk hr1
  have HC1 := Aside0.mk hc1
  clear hr1 hc1
  have HB := Aside0.mk (Below.refl w.heap.size w)
  have H : ((impl_TaskFetches.f k a0_0 a0_1 l0_2 l1).bind fun bt379 => ((impl_once.f bt379.1).bind fun t383 => (impl_TaskUses.l0 k bt379.2 ([] : List Int) t383 (t383.length : Int) 0))) = some (r1, r2) := h
  clear h
  replace H := Option.bind_eq_some_iff.mp H
  obtain ⟨⟨t379, t382⟩, A30, H⟩ := H
  replace H : ((impl_once.f t379).bind fun t383 => (impl_TaskUses.l0 k t382 ([] : List Int) t383 (t383.length : Int) 0)) = some (r1, r2) := H
  have A3 := Aside0.mk A30
  clear A30
  replace H := Option.bind_eq_some_iff.mp H
  obtain ⟨t383, A40, H⟩ := H
  replace H : (impl_TaskUses.l0 k t382 ([] : List Int) t383 (t383.length : Int) 0) = some (r1, r2) := H
  have A4 := Aside0.mk A40
  clear A40
  have H' := Aside0.mk H
  clear H
  go_enter Try.func29, Try.ntmps29
  go_wp2_with (first | ((with_reducible refine gate_dst (N := 2) rfl ?_); refine box_event ?hg (N := 2) ?hd (cs := #[.int .i64 a0_0, .int .i64 a0_1, .slice A0_2 l0_2.length c0_2]) (t := 30) ?hr ?_; (case hd => rfl); (case hg => rfl); (case hr => first | (go_simp; done) | (go_simp; rfl)); intro gb378 hg w5 hbox hb; have n0_ := Aside0.mk (below_step (by repeat (first | (with_reducible first | exact HB.out | apply below_alloc | apply pw_below_drewN | apply below_drew1) | exact HB.out)) hb); have n1_ := Aside0.mk (hbox); have n2_ := Aside0.mk ((by rw [hg]; exact (below_size (by repeat (first | (with_reducible first | exact HB.out | apply below_alloc | apply pw_below_drewN | apply below_drew1) | exact HB.out))) : w.heap.size ≤ gb378)); have n3_ := Aside0.mk ((by rw [hg]; exact (below_size (by repeat (first | (with_reducible first | exact HB.out | apply below_alloc | apply pw_below_drewN | apply below_drew1) | exact HB.out))) : w.heap.size ≤ gb378)); clear HB; have HB := n0_; have BK378 := n1_; have GW378 := n2_; have GE378 := n3_; clear n0_ n1_ n2_ n3_; clear hb hbox hg; have hcz6_0 : w5.cell? ⟨gb378, 0, none⟩ = some (.int .i64 a0_0) := (blk_cell BK378.out 0).trans rfl; have hcz6_1 : w5.cell? ⟨gb378, 1, none⟩ = some (.int .i64 a0_1) := (blk_cell BK378.out 1).trans rfl; have hcz6_2 : w5.cell? ⟨gb378, 2, none⟩ = some (.slice A0_2 l0_2.length c0_2) := (blk_cell BK378.out 2).trans rfl; have hfz6_0 := blk_frozen BK378.out 0; have hfz6_1 := blk_frozen BK378.out 1; have hfz6_2 := blk_frozen BK378.out 2) | ((with_reducible refine gate_callee (f := 79) rfl ?_); refine goesL_ (some 14) rfl rfl Try.func79 (by kernel_rfl) rfl #[.agg #[.int .i64 a0_0, .int .i64 a0_1, .slice A0_2 l0_2.length c0_2], .slice A1 l1.length c1] rfl (by (try simp only [List.map_toArray, List.map_cons, List.map_nil]); first | done | rfl | (simp only [List.length_drop, List.length_take]; rfl)) ?_; (with_reducible refine (impl_TaskFetches.calls k a0_0 a0_1 _ _ l0_2 _ _ l1 t379 t382 _ ?side1 ?side2 ?side3 ?side4 A3.out).mono ?_); (case side1 => repeat (first | exact (Kd.C_below HR0_2.out HB.out) | (with_reducible refine Kd.C_alloc ?_ _) | (with_reducible refine Kd.C_drewN ?_ _) | (with_reducible refine Kd.C_drew ?_))); (case side2 => exact HC0_2.out); (case side3 => repeat (first | exact (Kd.C_below HR1.out HB.out) | (with_reducible refine Kd.C_alloc ?_ _) | (with_reducible refine Kd.C_drewN ?_ _) | (with_reducible refine Kd.C_drew ?_))); (case side4 => exact HC1.out); rintro e w7 ⟨v380, rfl, ho0, hb⟩; refine ⟨_, rfl, ?_⟩; have n0_ := Aside0.mk (Kd.R_lower ho0 (below_size (by repeat (first | (with_reducible first | exact HB.out | apply below_alloc | apply pw_below_drewN | apply below_drew1 | refine below_set ?_ GE378.out) | exact HB.out)))); have n1_ := Aside0.mk (blk_below (g := gb378) (o := .cells #[.int .i64 a0_0, .int .i64 a0_1, .slice A0_2 l0_2.length c0_2] 30 (0, 0)) (by (with_reducible repeat (first | refine blk_drewN ?_ _ | refine blk_drew ?_ | refine blk_alloc ?_ _)); exact BK378.out) hb); have n2_ := Aside0.mk (below_step (by repeat (first | (with_reducible first | exact HB.out | apply below_alloc | apply pw_below_drewN | apply below_drew1 | refine below_set ?_ GE378.out) | exact HB.out)) hb); clear BK378; clear HB; have HO381 := n0_; have BK378 := n1_; have HB := n2_; clear n0_ n1_ n2_; (try clear hb); (try clear hb2); (try clear hk); (try clear hi); (try clear ho0); obtain ⟨Ao8, co8, eo8⟩ := Kd.R_slice HO381.out; subst eo8) | ((with_reducible refine gate_callee (f := 80) rfl ?_); refine goesL_ (some 18) rfl rfl Try.func80 (by kernel_rfl) rfl #[.slice Ao8 t379.length co8] rfl (by (try simp only [List.map_toArray, List.map_cons, List.map_nil]); first | done | rfl | (simp only [List.length_drop, List.length_take]; rfl)) ?_; (with_reducible refine (impl_once.calls _ _ t379 t383 _ ?side1 ?side2 A4.out).mono ?_); (case side1 => repeat (first | exact (Kd.R_reads' HO381.out).2.2 | (with_reducible refine Kd.C_alloc ?_ _) | (with_reducible refine Kd.C_drewN ?_ _) | (with_reducible refine Kd.C_drew ?_))); (case side2 => exact (Kd.R_reads' HO381.out).2.1); rintro e w9 ⟨v384, rfl, ho0, hb⟩; refine ⟨_, rfl, ?_⟩; have n0_ := Aside0.mk (Kd.R_elder' (by (with_reducible repeat (first | apply Kd.R_alloc | apply Kd.R_drewN | apply Kd.R_drew)); exact HO381.out) (Kd.R_base ho0) hb); have n1_ := Aside0.mk (Kd.R_lower (Kd.R_new' ho0 (Kd.R_lt (by (with_reducible repeat (first | apply Kd.R_alloc | apply Kd.R_drewN | apply Kd.R_drew)); exact HO381.out))) (below_size (by repeat (first | (with_reducible first | exact HB.out | apply below_alloc | apply pw_below_drewN | apply below_drew1 | refine below_set ?_ GE378.out) | exact HB.out)))); have n2_ := Aside0.mk (blk_below (g := gb378) (o := .cells #[.int .i64 a0_0, .int .i64 a0_1, .slice A0_2 l0_2.length c0_2] 30 (0, 0)) (by (with_reducible repeat (first | refine blk_drewN ?_ _ | refine blk_drew ?_ | refine blk_alloc ?_ _)); exact BK378.out) hb); have n3_ := Aside0.mk (below_step (by repeat (first | (with_reducible first | exact HB.out | apply below_alloc | apply pw_below_drewN | apply below_drew1 | refine below_set ?_ GE378.out) | exact HB.out)) hb); clear HO381; clear BK378; clear HB; have HO381 := n0_; have HO385 := n1_; have BK378 := n2_; have HB := n3_; clear n0_ n1_ n2_ n3_; (try clear hb); (try clear hb2); (try clear hk); (try clear hi); (try clear ho0); obtain ⟨Ao10, co10, eo10⟩ := Kd.R_slice HO385.out; subst eo10))
  go_loopg [8, 20] k (fun kq v8 v20 w' => ∃ (x8_1 : List Int) (x20_1 : Int), v20 = .int .i64 x20_1 ∧ Aside0 (impl_TaskUses.l0 kq t382 x8_1 t383 (t383.length : Int) x20_1 = some (r1, r2)) ∧ Aside0 (kq ≤ k) ∧ Aside0 (Kd.R (Kd.int .i64) 3 w' w.heap.size (fun _ => True) v8 x8_1) ∧ Aside0 (Kd.R k117 117 w' w.heap.size (fun _ => True) (.slice Ao10 t383.length co10) t383) ∧ Aside0 (w'.heap[gb378]? = some (.cells #[.int .i64 a0_0, .int .i64 a0_1, (.slice A0_2 l0_2.length c0_2)] 30 (0, 0))) ∧ Aside0 (Below w.heap.size w w'))
  case atStart => exact ⟨(([] : List Int)), (0), (by first | rfl | (simp; done) | (simp [*]; done)), H', ⟨Nat.le_refl _⟩, ⟨by first | exact Kd.R_nil _ _ _ _ _ | exact Kd.N_nil _ _ _ _ _ | exact Kd.V_nil _ _ _ _ _ | exact Kd.Q_nil _ _ _ _ _ | exact Kd.S_nil _ _ _ _ _⟩, ⟨by (with_reducible repeat (first | apply Kd.R_alloc | apply Kd.R_drewN | apply Kd.R_drew)); exact Kd.R_mono HO385.out (fun _ hk => trivial)⟩, ⟨by (with_reducible repeat (first | refine blk_drewN ?_ _ | refine blk_drew ?_ | refine blk_alloc ?_ _)); exact BK378.out⟩, ⟨by repeat (first | (with_reducible first | exact HB.out | apply below_alloc | apply pw_below_drewN | apply below_drew1 | refine below_set ?_ GE378.out) | exact HB.out)⟩⟩
  case round =>
    clear H'
    try clear c1
    try clear c2
    try clear p2
    try clear c7
    try clear c8
    try clear hcz6_0
    try clear hcz6_1
    try clear hcz6_2
    try clear hfz6_0
    try clear hfz6_1
    try clear hfz6_2
    obtain ⟨x8_1, x20_1, rfl, HA, HK1, HO_8, HO_18, BK378, HB⟩ := hrel
    cases gk with
    | zero => exact absurd HA.out (by simp [impl_TaskUses.l0])
    | succ k1 =>
      have H := HA.out
      clear HA
      simp only [impl_TaskUses.l0] at H
      by_cases c11 : x20_1 < (t383.length : Int)
      · rw [if_pos c11] at H
        have c11b0 : decide (x20_1 < (t383.length : Int)) = true := decide_eq_true c11
        clear c11
        by_cases c12 : 0 ≤ x20_1
        · rw [if_pos c12] at H
          have c12b0 : decide (0 ≤ x20_1) = true := decide_eq_true c12
          clear c12
          by_cases c13 : x20_1 < (t383.length : Int)
          · rw [if_pos c13] at H
            have c13b0 : decide (x20_1 < (t383.length : Int)) = true := decide_eq_true c13
            clear c13
            by_cases c14 : x8_1.length < 17592186044416
            · rw [if_pos c14] at H
              have LMc14 := Aside0.mk c14
              clear c14
              obtain ⟨y388, hy388⟩ : ∃ y_ : List Int, y_ = (x8_1 ++ [(rd_T117 t383 x20_1).f0]) := ⟨_, rfl⟩
              replace H : (impl_TaskUses.l0 k1 t382 y388 t383 (t383.length : Int) (wrap64 (x20_1 + 1))) = some (r1, r2) := by first | (rw [hy388]; with_reducible exact H) | (have H2_ := (Option.bind_some _ _).symm.trans H; rw [hy388]; with_reducible exact H2_) | (have H2_ := (Option.bind_some _ _).symm.trans H; with_reducible exact H2_) | with_reducible exact H | (rw [hy388]; exact H) | exact H
              have Ny388 := Aside0.mk hy388
              clear hy388
              have H' := Aside0.mk H
              clear H
              have p386 : 0 ≤ (x20_1 : Int) := of_decide_eq_true (by first | (with_reducible assumption) | assumption)
              have q386 : x20_1 < (t383.length : Int) := of_decide_eq_true (by first | (with_reducible assumption) | assumption)
              obtain ⟨ad386, e386, hx386_0, hx386_1⟩ := at_T117 (Kd.R_reads' HO_18.out).2.2 x20_1 p386 q386
              cases e386
              replace p386 := eq_true p386
              replace q386 := eq_true q386
              go_wp2_with (first | ((with_reducible refine gate_dst (N := 10) rfl ?_); refine box_event ?hg (N := 10) ?hd (cs := #[.int .i64 0, .int .i64 0]) (t := 117) ?hr ?_; (case hd => rfl); (case hg => rfl); (case hr => first | (go_simp; done) | (go_simp; rfl)); intro gb387 hg w15 hbox hb; have n0_ := Aside0.mk (Kd.R_below (by (with_reducible repeat (first | apply Kd.R_alloc | apply Kd.R_drewN | apply Kd.R_drew)); exact HO_8.out) hb); have n1_ := Aside0.mk (Kd.R_below (Kd.R_elderB (by (with_reducible repeat (first | apply Kd.R_alloc | apply Kd.R_drewN | apply Kd.R_drew)); exact HO_18.out) gb387 (Nat.le_of_eq hg.symm)) hb); have n2_ := Aside0.mk (blk_below (g := gb378) (o := .cells #[.int .i64 a0_0, .int .i64 a0_1, .slice A0_2 l0_2.length c0_2] 30 (0, 0)) (by (with_reducible repeat (first | refine blk_drewN ?_ _ | refine blk_drew ?_ | refine blk_alloc ?_ _)); exact BK378.out) hb); have n3_ := Aside0.mk (below_step (by repeat (first | (with_reducible first | exact HB.out | apply below_alloc | apply pw_below_drewN | apply below_drew1 | refine below_set ?_ GE378.out) | exact HB.out)) hb); have n4_ := Aside0.mk (hbox); have n5_ := Aside0.mk ((by rw [hg]; exact (below_size (by repeat (first | (with_reducible first | exact HB.out | apply below_alloc | apply pw_below_drewN | apply below_drew1 | refine below_set ?_ GE378.out) | exact HB.out))) : w.heap.size ≤ gb387)); have n6_ := Aside0.mk ((by rw [hg]; exact (below_size (by repeat (first | (with_reducible first | exact HB.out | apply below_alloc | apply pw_below_drewN | apply below_drew1 | refine below_set ?_ GE378.out) | exact HB.out))) : w.heap.size ≤ gb387)); have n7_ := Aside0.mk ((by rw [hg]; exact Nat.ne_of_lt (blk_lt (g := gb378) (o := .cells #[.int .i64 a0_0, .int .i64 a0_1, .slice A0_2 l0_2.length c0_2] 30 (0, 0)) (by (with_reducible repeat (first | refine blk_drewN ?_ _ | refine blk_drew ?_ | refine blk_alloc ?_ _)); exact BK378.out)) : gb378 ≠ gb387)); have n8_ := Aside0.mk ((by rw [hg]; exact Nat.ne_of_gt (blk_lt (g := gb378) (o := .cells #[.int .i64 a0_0, .int .i64 a0_1, .slice A0_2 l0_2.length c0_2] 30 (0, 0)) (by (with_reducible repeat (first | refine blk_drewN ?_ _ | refine blk_drew ?_ | refine blk_alloc ?_ _)); exact BK378.out)) : gb387 ≠ gb378)); clear HO_8; clear HO_18; clear BK378; clear HB; have HO_8 := n0_; have HO_18 := n1_; have BK378 := n2_; have HB := n3_; have BK387 := n4_; have GW387 := n5_; have GE387 := n6_; have NB378_387 := n7_; have NB387_378 := n8_; clear n0_ n1_ n2_ n3_ n4_ n5_ n6_ n7_ n8_; clear hb hbox hg; have hnb16 := NB387_378.out; have hnc16 := NB378_387.out; have hcz17_0 : w15.cell? ⟨gb387, 0, none⟩ = some (.int .i64 0) := (blk_cell BK387.out 0).trans rfl; have hcz17_1 : w15.cell? ⟨gb387, 1, none⟩ = some (.int .i64 0) := (blk_cell BK387.out 1).trans rfl; have hfz17_0 := blk_frozen BK387.out 0; have hfz17_1 := blk_frozen BK387.out 1) | ((with_reducible refine gate_builtin (b := .append) (xs := #[.tmp 24, .tmp 27]) rfl ?_); at_builtin; refine Kd.R_append (Kd.int .i64) (w0 := w) w.heap.size rfl (.tmp 24) (.tmp 27) 26 3 (.int .i64 0) 8 rfl Try.underlying26 info3 rfl (by decide) (by omega) u8 x8_1 ((rd_T117 t383 x20_1).f0) [.int .i64 ((rd_T117 t383 x20_1).f0)] (fun _ => True) (fun _ => False) rfl (by first | (go_simp; done) | (go_simp; rfl)) ?aP (fun _ hk => hk.elim) ?aF ?aO ?aB ?aS ?aL ?_; (case aP => exact rfl); (case aB => exact (by repeat (first | (with_reducible first | exact HB.out | apply below_alloc | apply pw_below_drewN | apply below_drew1 | refine below_set ?_ GE378.out | refine below_set ?_ GE387.out) | exact HB.out))); (case aF => exact (fun _ _ => trivial)); (case aO => exact (by (with_reducible repeat (first | apply Kd.R_alloc | apply Kd.R_drewN | apply Kd.R_drew)); exact Kd.R_mono (Kd.R_far (p := ⟨gb387, 1, none⟩) (Kd.R_far (p := ⟨gb387, 0, none⟩) (Kd.R_types HO_8.out BK387.out (by decide)) (fun _ hk => hk.2) (.int .i64 ((rd_T117 t383 x20_1).f0))) (fun _ hk => hk.2) (.int .i64 ((rd_T117 t383 x20_1).f1))) (fun _ hk => trivial))); (case aS => exact (below_size (by repeat (first | (with_reducible first | exact HB.out | apply below_alloc | apply pw_below_drewN | apply below_drew1 | refine below_set ?_ GE378.out | refine below_set ?_ GE387.out) | exact HB.out)))); (case aL => have := LMc14.out; omega); intro v389 w18 ho hb hg hat; rw [← Ny388.out] at ho; have n0_ := Aside0.mk (Kd.R_over' (by (with_reducible repeat (first | apply Kd.R_alloc | apply Kd.R_drewN | apply Kd.R_drew)); exact (Kd.R_mono (Kd.R_far (p := ⟨gb387, 1, none⟩) (Kd.R_far (p := ⟨gb387, 0, none⟩) (Kd.R_mono HO_18.out (fun k_ hk => (⟨hk, hk.2⟩ : _ ∧ k_ ≠ gb387))) (fun _ hk => hk.2) (.int .i64 ((rd_T117 t383 x20_1).f0))) (fun _ hk => hk.2) (.int .i64 ((rd_T117 t383 x20_1).f1))) (fun _ h_ => h_.1))) (Kd.R_typed (by (with_reducible repeat (first | apply Kd.R_alloc | apply Kd.R_drewN | apply Kd.R_drew)); exact (Kd.R_mono (Kd.R_far (p := ⟨gb387, 1, none⟩) (Kd.R_far (p := ⟨gb387, 0, none⟩) (Kd.R_types HO_8.out BK387.out (by decide)) (fun _ hk => hk.2) (.int .i64 ((rd_T117 t383 x20_1).f0))) (fun _ hk => hk.2) (.int .i64 ((rd_T117 t383 x20_1).f1))) (fun _ h_ => h_.1)))) (by decide) hg); have n1_ := Aside0.mk (blk_grown (g := gb378) (o := .cells #[.int .i64 a0_0, .int .i64 a0_1, .slice A0_2 l0_2.length c0_2] 30 (0, 0)) (by (with_reducible repeat (first | refine blk_drewN ?_ _ | refine blk_drew ?_ | refine blk_alloc ?_ _)); refine blk_far ?_ NB378_387.out _; (with_reducible repeat (first | refine blk_drewN ?_ _ | refine blk_drew ?_ | refine blk_alloc ?_ _)); refine blk_far ?_ NB378_387.out _; (with_reducible repeat (first | refine blk_drewN ?_ _ | refine blk_drew ?_ | refine blk_alloc ?_ _)); exact BK378.out) hg (Kd.R_ne HO_8.out BK378.out (by decide))); have n2_ := Aside0.mk (blk_grown (g := gb387) (o := .cells #[.int .i64 ((rd_T117 t383 x20_1).f0), .int .i64 ((rd_T117 t383 x20_1).f1)] 117 (0, 0)) (by (with_reducible repeat (first | refine blk_drewN ?_ _ | refine blk_drew ?_ | refine blk_alloc ?_ _)); refine blk_put (cs := #[.int .i64 ((rd_T117 t383 x20_1).f0), .int .i64 0]) ?_ 1 _ rfl; (with_reducible repeat (first | refine blk_drewN ?_ _ | refine blk_drew ?_ | refine blk_alloc ?_ _)); refine blk_put (cs := #[.int .i64 0, .int .i64 0]) ?_ 0 _ rfl; (with_reducible repeat (first | refine blk_drewN ?_ _ | refine blk_drew ?_ | refine blk_alloc ?_ _)); exact BK387.out) hg (Kd.R_ne HO_8.out BK387.out (by decide))); have n3_ := Aside0.mk (hb); have n4_ := Aside0.mk (ho); clear HO_18; clear BK378; clear BK387; clear HB; clear HO_8; have HO_18 := n0_; have BK378 := n1_; have BK387 := n2_; have HB := n3_; have HO390 := n4_; clear n0_ n1_ n2_ n3_ n4_; clear ho hb hg hat))
              go_roundg k1
              case measure => have := HK1.out; omega
              case rel => exact ⟨(y388), (wrap64 (x20_1 + 1)), (by first | rfl | (simp; done) | (simp [*]; done)), H', ⟨by have := HK1.out; omega⟩, ⟨by (with_reducible repeat (first | apply Kd.R_alloc | apply Kd.R_drewN | apply Kd.R_drew)); exact HO390.out⟩, ⟨by (with_reducible repeat (first | apply Kd.R_alloc | apply Kd.R_drewN | apply Kd.R_drew)); exact Kd.R_mono HO_18.out (fun _ hk => trivial)⟩, ⟨by (with_reducible repeat (first | refine blk_drewN ?_ _ | refine blk_drew ?_ | refine blk_alloc ?_ _)); exact BK378.out⟩, ⟨by repeat (first | (with_reducible first | exact HB.out | apply below_alloc | apply pw_below_drewN | apply below_drew1 | refine below_set ?_ GE378.out | refine below_set ?_ GE387.out) | exact HB.out)⟩⟩
            · rw [if_neg c14] at H
              exact absurd H (by simp)
          · rw [if_neg c13] at H
            exact absurd H (by simp)
        · rw [if_neg c12] at H
          exact absurd H (by simp)
      · rw [if_neg c11] at H
        have c11b0 : decide (x20_1 < (t383.length : Int)) = false := decide_eq_false c11
        clear c11
        simp only [Option.some.injEq, Prod.mk.injEq] at H
        obtain ⟨rfl, rfl⟩ := H
        go_wp2
        go_ret2
        exact ⟨_, by first | rfl | (simp [errW_none, errW_some] <;> rfl) | (simp [*, errW_none, errW_some] <;> rfl), by (with_reducible repeat (first | apply Kd.R_alloc | apply Kd.R_drewN | apply Kd.R_drew)); exact HO_8.out, by repeat (first | (with_reducible first | exact HB.out | apply below_alloc | apply pw_below_drewN | apply below_drew1 | refine below_set ?_ GE378.out) | exact HB.out)⟩
def spec_l2Values.l0 : Nat → List Int → Int → Option (Bool)
  | 0, _, _ => none
  | k + 1, x0, x3 => if x3 < (x0.length : Int) then (if 0 ≤ x3 then ((spec_l6In.f (rd x0 x3) 0 96).bind fun t392 => (if t392 = true then (spec_l2Values.l0 k x0 (wrap64 (x3 + 1))) else (some false))) else (none)) else (some true)
def spec_l2Values.f (k : Nat) (l0 : List Int) : Option (Bool) := if (l0.length : Int) > 10 then (some false) else (spec_l2Values.l0 k l0 0)
set_option maxHeartbeats 8000000 in
set_option maxRecDepth 100000 in
theorem spec_l2Values.calls (k : Nat) (A0 : Option Addr) (c0 : Nat) (l0 : List Int) (r : Bool) (w : World) (hr0 : Kd.C (Kd.int .i64) w A0 l0.length l0) (hc0 : l0.length ≤ c0) (h : spec_l2Values.f k l0 = some r) :
    Calls Try.prog 86 #[.slice A0 l0.length c0] w fun e w' => e = .returned (.bool r) ∧ Drawn0 w w' := by
  have HR0 := Aside0.mk hr0
  have HC0 := Aside0.mk hc0
  clear hr0 hc0
  have H : (if (l0.length : Int) > 10 then (some false) else (spec_l2Values.l0 k l0 0)) = some r := h
  clear h
  by_cases c2 : (l0.length : Int) > 10
  · rw [if_pos c2] at H
    have c2b0 : decide (10 < (l0.length : Int)) = true := decide_eq_true c2
    have c2b1 : decide (10 < l0.length) = true := decide_eq_true (by omega)
    clear c2
    obtain rfl := Option.some.inj H
    go_enter Try.func86, Try.ntmps86
    go_wp2
    go_ret
    exact ⟨by first | rfl | (simp; done) | (simp [*]; done), by repeat (first | exact Drawn0.refl _ | apply Drawn0.step)⟩
  · rw [if_neg c2] at H
    have c2b0 : decide (10 < (l0.length : Int)) = false := decide_eq_false c2
    have c2b1 : decide (10 < l0.length) = false := decide_eq_false (by omega)
    clear c2
    have H' := Aside0.mk H
    clear H
    go_enter Try.func86, Try.ntmps86
    go_wp2
    go_loopg [3] k (fun kq v3 w' => ∃ (x3_1 : Int), v3 = .int .i64 x3_1 ∧ Aside0 (spec_l2Values.l0 kq l0 x3_1 = some r) ∧ Aside0 (kq ≤ k) ∧ Drawn0 w w')
    case atStart => exact ⟨(0), (by first | rfl | (simp; done) | (simp [*]; done)), H', ⟨Nat.le_refl _⟩, by repeat (first | exact Drawn0.refl _ | apply Drawn0.step)⟩
    case round =>
      clear H'
      try clear c2
      try clear c2b0
      try clear c2b1
      try clear p2
      obtain ⟨x3_1, rfl, HA, HK1, ⟨m1, rfl⟩⟩ := hrel
      cases gk with
      | zero => exact absurd HA.out (by simp [spec_l2Values.l0])
      | succ k1 =>
        have H := HA.out
        clear HA
        simp only [spec_l2Values.l0] at H
        by_cases c3 : x3_1 < (l0.length : Int)
        · rw [if_pos c3] at H
          have c3b0 : decide (x3_1 < (l0.length : Int)) = true := decide_eq_true c3
          clear c3
          by_cases c4 : 0 ≤ x3_1
          · rw [if_pos c4] at H
            have c4b0 : decide (0 ≤ x3_1) = true := decide_eq_true c4
            clear c4
            replace H := Option.bind_eq_some_iff.mp H
            obtain ⟨t392, A50, H⟩ := H
            replace H : (if t392 = true then (spec_l2Values.l0 k1 l0 (wrap64 (x3_1 + 1))) else (some false)) = some r := H
            have A5 := Aside0.mk A50
            clear A50
            by_cases c6 : t392 = true
            · subst c6
              have H1 : (spec_l2Values.l0 k1 l0 (wrap64 (x3_1 + 1))) = some r := by rw [if_pos rfl] at H; exact H
              clear H
              have H := H1
              clear H1
              have H' := Aside0.mk H
              clear H
              have p391 : 0 ≤ (x3_1 : Int) := of_decide_eq_true (by first | (with_reducible assumption) | assumption)
              have q391 : x3_1 < (l0.length : Int) := of_decide_eq_true (by first | (with_reducible assumption) | assumption)
              obtain ⟨ad391, e391, hx391_0⟩ := Kd.at_int HR0.out x3_1 p391 q391
              cases e391
              replace p391 := eq_true p391
              replace q391 := eq_true q391
              go_wp2_with (first | ((with_reducible refine gate_callee (f := 122) rfl ?_); refine goesL_ (some 17) rfl rfl Try.func122 (by kernel_rfl) rfl #[.int .i64 (rd l0 x3_1), .int .i64 0, .int .i64 96] rfl (by (try simp only [List.map_toArray, List.map_cons, List.map_nil]); first | done | rfl | (simp only [List.length_drop, List.length_take]; rfl)) ?_; (with_reducible refine (spec_l6In.calls (rd l0 x3_1) 0 96 true _ A5.out).mono ?_); rintro e w' ⟨rfl, ⟨nd, rfl⟩⟩; refine ⟨_, rfl, ?_⟩))
              go_roundg k1
              case measure => have := HK1.out; omega
              case rel => exact ⟨(wrap64 (x3_1 + 1)), (by first | rfl | (simp; done) | (simp [*]; done)), H', ⟨by have := HK1.out; omega⟩, by repeat (first | exact Drawn0.refl _ | apply Drawn0.step)⟩
            · replace c6 := Bool.eq_false_iff.mpr c6
              subst c6
              have H1 : (some false) = some r := by rw [if_neg (show ¬ (false = true) by decide)] at H; exact H
              clear H
              have H := H1
              clear H1
              obtain rfl := Option.some.inj H
              have p391 : 0 ≤ (x3_1 : Int) := of_decide_eq_true (by first | (with_reducible assumption) | assumption)
              have q391 : x3_1 < (l0.length : Int) := of_decide_eq_true (by first | (with_reducible assumption) | assumption)
              obtain ⟨ad391, e391, hx391_0⟩ := Kd.at_int HR0.out x3_1 p391 q391
              cases e391
              replace p391 := eq_true p391
              replace q391 := eq_true q391
              go_wp2_with (first | ((with_reducible refine gate_callee (f := 122) rfl ?_); refine goesL_ (some 17) rfl rfl Try.func122 (by kernel_rfl) rfl #[.int .i64 (rd l0 x3_1), .int .i64 0, .int .i64 96] rfl (by (try simp only [List.map_toArray, List.map_cons, List.map_nil]); first | done | rfl | (simp only [List.length_drop, List.length_take]; rfl)) ?_; (with_reducible refine (spec_l6In.calls (rd l0 x3_1) 0 96 false _ A5.out).mono ?_); rintro e w' ⟨rfl, ⟨nd, rfl⟩⟩; refine ⟨_, rfl, ?_⟩))
              go_ret
              exact ⟨by first | rfl | (simp; done) | (simp [*]; done), by repeat (first | exact Drawn0.refl _ | apply Drawn0.step)⟩
          · rw [if_neg c4] at H
            exact absurd H (by simp)
        · rw [if_neg c3] at H
          have c3b0 : decide (x3_1 < (l0.length : Int)) = false := decide_eq_false c3
          clear c3
          obtain rfl := Option.some.inj H
          go_wp2
          go_ret
          exact ⟨by first | rfl | (simp; done) | (simp [*]; done), by repeat (first | exact Drawn0.refl _ | apply Drawn0.step)⟩
def IsS179 (w0 W : World) (g : Nat) (f0 : List Int) (f1 : Int) (f2 : Int) : Prop := ∃ A0 c0, W.heap[g]? = some (.cells #[.slice A0 f0.length c0, .int .i64 f1, .int .i64 f2] 179 (0, 0)) ∧ w0.heap.size ≤ g ∧ Kd.C (Kd.int .i64) w0 A0 f0.length f0
theorem IsS179.grown {w0 W : World} {g : Nat} {f0 : List Int} {f1 : Int} {f2 : Int} {W1 : World} {row : Option Nat} (h : IsS179 w0 W g f0 f1 f2) (hw : W.grownBy W1 row) (hne : some g ≠ row) : IsS179 w0 W1 g f0 f1 f2 := by
  obtain ⟨A0, c0, hb, hg, hr0⟩ := h
  exact ⟨A0, c0, blk_grown hb hw hne, hg, hr0⟩
theorem IsS179.kept {w0 W : World} {g : Nat} {f0 : List Int} {f1 : Int} {f2 : Int} {W1 : World} {S : Nat → Prop} (h : IsS179 w0 W g f0 f1 f2) (hk : Kept W W1 S) (hne : ¬ S g) : IsS179 w0 W1 g f0 f1 f2 := by
  obtain ⟨A0, c0, hb, hg, hr0⟩ := h
  exact ⟨A0, c0, blk_kept hb hk hne, hg, hr0⟩
theorem IsS179.below {w0 W : World} {g : Nat} {f0 : List Int} {f1 : Int} {f2 : Int} {W1 : World} (h : IsS179 w0 W g f0 f1 f2) (hw : Below W.heap.size W W1) : IsS179 w0 W1 g f0 f1 f2 := h.grown (grown_of_below hw none) (by simp)
theorem IsS179.alloc {w0 W : World} {g : Nat} {f0 : List Int} {f1 : Int} {f2 : Int} (h : IsS179 w0 W g f0 f1 f2) (o : Obj) : IsS179 w0 (W.alloc o) g f0 f1 f2 := h.below (below_alloc (Below.refl _ _) o)
theorem IsS179.drewN {w0 W : World} {g : Nat} {f0 : List Int} {f1 : Int} {f2 : Int} (h : IsS179 w0 W g f0 f1 f2) (m : Nat) : IsS179 w0 (W.drewN m) g f0 f1 f2 := h
theorem IsS179.drew {w0 W : World} {g : Nat} {f0 : List Int} {f1 : Int} {f2 : Int} (h : IsS179 w0 W g f0 f1 f2) : IsS179 w0 W.drew g f0 f1 f2 := h
theorem IsS179.at_ {w0 W : World} {g : Nat} {f0 : List Int} {f1 : Int} {f2 : Int} {w' : World} {m : Nat} (hq : W.drewN m = w') (h : IsS179 w0 W g f0 f1 f2) : IsS179 w0 w' g f0 f1 f2 := by subst hq; exact IsS179.drewN h m
theorem IsS179.apart {w0 W : World} {g : Nat} {f0 : List Int} {f1 : Int} {f2 : Int} {α : Type} {d : Kd α} {e : Nat} {base : Nat} {ok : Nat → Prop} {v : Value} {xs : List α} (h : IsS179 w0 W g f0 f1 f2) (ho : d.R e W base ok v xs) (ht : ∀ q, q ∈ e :: d.E → q ≠ 179) : d.R e W base (fun k => ok k ∧ k ≠ g) v xs := by
  obtain ⟨A0, c0, hb, hg, hr0⟩ := h
  exact Kd.R_types ho hb ht
theorem IsS179.own_ne {w0 W : World} {g : Nat} {f0 : List Int} {f1 : Int} {f2 : Int} {α : Type} {d : Kd α} {e : Nat} {base : Nat} {ok : Nat → Prop} {v : Value} {xs : List α} (h : IsS179 w0 W g f0 f1 f2) (ho : d.R e W base ok v xs) (ht : e ≠ 179) : some g ≠ v.ownBlock := by
  obtain ⟨A0, c0, hb, hg, hr0⟩ := h
  exact Kd.R_ne ho hb ht
theorem IsS179.lt {w0 W : World} {g : Nat} {f0 : List Int} {f1 : Int} {f2 : Int} (h : IsS179 w0 W g f0 f1 f2) : g < W.heap.size := by
  obtain ⟨A0, c0, hb, hg, hr0⟩ := h
  exact blk_lt hb
theorem IsS179.ge {w0 W : World} {g : Nat} {f0 : List Int} {f1 : Int} {f2 : Int} (h : IsS179 w0 W g f0 f1 f2) : w0.heap.size ≤ g := by
  obtain ⟨A0, c0, hb, hg, hr0⟩ := h
  exact hg
theorem cellS179_0 {W : World} {g : Nat} {A0 : Option Addr} {c0 : Nat} {f0 : List Int} {f1 : Int} {f2 : Int} (h : W.heap[g]? = some (.cells #[.slice A0 f0.length c0, .int .i64 f1, .int .i64 f2] 179 (0, 0))) : W.cell? ⟨g, 0, none⟩ = some (.slice A0 f0.length c0) := (blk_cell h 0).trans rfl
theorem cellS179_1 {W : World} {g : Nat} {A0 : Option Addr} {c0 : Nat} {f0 : List Int} {f1 : Int} {f2 : Int} (h : W.heap[g]? = some (.cells #[.slice A0 f0.length c0, .int .i64 f1, .int .i64 f2] 179 (0, 0))) : W.cell? ⟨g, 1, none⟩ = some (.int .i64 f1) := (blk_cell h 1).trans rfl
theorem IsS179.set_1 {w0 W : World} {g : Nat} {f0 : List Int} {f1 : Int} {f2 : Int} (h : IsS179 w0 W g f0 f1 f2) (x : Int) : IsS179 w0 (W.setCell ⟨g, 1, none⟩ (.int .i64 x)) g f0 x f2 := by
  obtain ⟨A0, c0, hb, hg, hr0⟩ := h
  exact ⟨A0, c0, by simpa using blk_set hb 1 (.int .i64 x), hg, hr0⟩
theorem cellS179_2 {W : World} {g : Nat} {A0 : Option Addr} {c0 : Nat} {f0 : List Int} {f1 : Int} {f2 : Int} (h : W.heap[g]? = some (.cells #[.slice A0 f0.length c0, .int .i64 f1, .int .i64 f2] 179 (0, 0))) : W.cell? ⟨g, 2, none⟩ = some (.int .i64 f2) := (blk_cell h 2).trans rfl
theorem IsS179.set_2 {w0 W : World} {g : Nat} {f0 : List Int} {f1 : Int} {f2 : Int} (h : IsS179 w0 W g f0 f1 f2) (x : Int) : IsS179 w0 (W.setCell ⟨g, 2, none⟩ (.int .i64 x)) g f0 f1 x := by
  obtain ⟨A0, c0, hb, hg, hr0⟩ := h
  exact ⟨A0, c0, by simpa using blk_set hb 2 (.int .i64 x), hg, hr0⟩
theorem IsS179.new (w0 W : World) (A0 : Option Addr) (c0 : Nat) (f0 : List Int) (f1 : Int) (f2 : Int) (hB : Below w0.heap.size w0 W) (hr0 : Kd.C (Kd.int .i64) w0 A0 f0.length f0) : IsS179 w0 (W.alloc (.cells #[.slice A0 f0.length c0, .int .i64 f1, .int .i64 f2] 179)) W.heap.size f0 f1 f2 := ⟨A0, c0, by simpa using heap_alloc_new W _, hB.size, hr0⟩
def spec_l2Tape_get.f (s0_0 : List Int) (s0_1 : Int) (s0_2 : Int) (a1 : Int) : Option (Int × Bool × Int × Int) := if s0_1 = (s0_0.length : Int) then (some (0, false, s0_1, a1)) else (if 0 ≤ (wrap64 ((wrap64 (s0_1 + 1)) - 1)) then (if (wrap64 ((wrap64 (s0_1 + 1)) - 1)) < (s0_0.length : Int) then (some (rd s0_0 (wrap64 ((wrap64 (s0_1 + 1)) - 1)), true, wrap64 (s0_1 + 1), s0_2)) else (none)) else (none))
set_option maxHeartbeats 8000000 in
set_option maxRecDepth 100000 in
theorem spec_l2Tape_get.calls (g : Nat) (s0_0 : List Int) (s0_1 : Int) (s0_2 : Int) (a1 : Int) (r1 : Int) (r2 : Bool) (r3 : Int) (r4 : Int) (w0 w : World) (hI : IsS179 w0 w g s0_0 s0_1 s0_2) (hB : Below w0.heap.size w0 w) (h : spec_l2Tape_get.f s0_0 s0_1 s0_2 a1 = some (r1, r2, r3, r4)) :
    Calls Try.prog 179 #[.pointer (some ⟨g, 0, none⟩), .int .i64 a1] w fun e w' => e = .returned (.tuple #[.int .i64 r1, .bool r2]) ∧ IsS179 w0 w' g s0_0 r3 r4 ∧ Below w0.heap.size w0 w' ∧ KeepBut w w' g none := by
  have HI0 := Aside0.mk hI
  have HK := Aside0.mk (KeepBut.refl w g none)
  have HL := Aside0.mk hB.size
  clear hI
  have HW0 := Aside0.mk hB.size
  have HB := Aside0.mk hB
  clear hB
  have H : (if s0_1 = (s0_0.length : Int) then (some (0, false, s0_1, a1)) else (if 0 ≤ (wrap64 ((wrap64 (s0_1 + 1)) - 1)) then (if (wrap64 ((wrap64 (s0_1 + 1)) - 1)) < (s0_0.length : Int) then (some (rd s0_0 (wrap64 ((wrap64 (s0_1 + 1)) - 1)), true, wrap64 (s0_1 + 1), s0_2)) else (none)) else (none))) = some (r1, r2, r3, r4) := h
  clear h
  by_cases c3 : s0_1 = (s0_0.length : Int)
  · rw [if_pos c3] at H
    have c3b0 : (s0_1 == (s0_0.length : Int)) = true := beq_iff_eq.mpr c3
    have c3b1 : (s0_1 != (s0_0.length : Int)) = false := bne_eq_false_iff_eq.mpr c3
    clear c3
    simp only [Option.some.injEq, Prod.mk.injEq] at H
    obtain ⟨rfl, rfl, rfl, rfl⟩ := H
    obtain ⟨ASz4_0, cSz4_0, HGz4, hgz4, HSz4_0⟩ := HI0.out
    have hcz4_0 := cellS179_0 HGz4
    have hcz4_1 := cellS179_1 HGz4
    have hcz4_2 := cellS179_2 HGz4
    have hfz4_1 := blk_frozen HGz4 1
    have hfz4_2 := blk_frozen HGz4 2
    clear HGz4 hgz4
    go_enter Try.func179, Try.ntmps179
    go_wp2
    repeat (go_quiet (fail); try go_wp2)
    go_ret2
    exact ⟨by first | rfl | (simp [errW_none, errW_some] <;> rfl) | (simp [*, errW_none, errW_some] <;> rfl), by repeat (first | (with_reducible first | exact HI0.out | apply IsS179.alloc | apply IsS179.drewN | apply IsS179.drew | apply IsS179.set_1 | apply IsS179.set_2) | exact HI0.out), by repeat (first | (with_reducible first | exact HB.out | apply below_alloc | apply pw_below_drewN | apply below_drew1 | refine below_set ?_ (IsS179.ge HI0.out)) | exact HB.out), by repeat (first | (with_reducible first | exact HK.out | apply KeepBut.set_ | apply keep_drewN | apply keep_drew | apply keep_alloc) | exact HK.out)⟩
  · rw [if_neg c3] at H
    have c3b0 : (s0_1 == (s0_0.length : Int)) = false := beq_eq_false_iff_ne.mpr c3
    have c3b1 : (s0_1 != (s0_0.length : Int)) = true := bne_iff_ne.mpr c3
    obtain ⟨ji5, hji5⟩ : ∃ j_ : Int, (wrap64 ((wrap64 (s0_1 + 1)) - 1)) = j_ := ⟨_, rfl⟩
    replace H : (if 0 ≤ (ji5) then (if (ji5) < (s0_0.length : Int) then (some (rd s0_0 (ji5), true, wrap64 (s0_1 + 1), s0_2)) else (none)) else (none)) = some (r1, r2, r3, r4) := by first | (rw [hji5] at H; exact H) | (simp only [hji5] at H ⊢; exact H)
    have hji5w : (IntKind.i64.wrap ((wrap64 (s0_1 + 1)) - 1)) = ji5 := (i64_w _).trans hji5
    by_cases c6 : 0 ≤ (ji5)
    · rw [if_pos c6] at H
      have c6b0 : decide (0 ≤ (ji5)) = true := decide_eq_true c6
      clear c6
      by_cases c7 : (ji5) < (s0_0.length : Int)
      · rw [if_pos c7] at H
        have c7b0 : decide ((ji5) < (s0_0.length : Int)) = true := decide_eq_true c7
        clear c7
        simp only [Option.some.injEq, Prod.mk.injEq] at H
        obtain ⟨rfl, rfl, rfl, rfl⟩ := H
        obtain ⟨ASz8_0, cSz8_0, HGz8, hgz8, HSz8_0⟩ := HI0.out
        have hcz8_0 := cellS179_0 HGz8
        have hcz8_1 := cellS179_1 HGz8
        have hcz8_2 := cellS179_2 HGz8
        have hfz8_1 := blk_frozen HGz8 1
        have hfz8_2 := blk_frozen HGz8 2
        clear HGz8 hgz8
        have p393 : 0 ≤ ((ji5) : Int) := of_decide_eq_true (by first | (with_reducible assumption) | assumption)
        have q393 : (ji5) < (s0_0.length : Int) := of_decide_eq_true (by first | (with_reducible assumption) | assumption)
        obtain ⟨ad393, e393, hx393_0⟩ := Kd.at_int HSz8_0 (ji5) p393 q393
        cases e393
        have hn393_0 : ad393.block ≠ g := Nat.ne_of_lt (Nat.lt_of_lt_of_le (by have := World.block_lt_of_cell? _ _ hx393_0; first | rwa [add_block] at this | exact this) (IsS179.ge HI0.out))
        replace hx393_0 := pw_cell_below HB.out hx393_0
        replace hx393_0 := (cell_far (p := ⟨g, 1, none⟩) (by first | (rw [add_block]; exact hn393_0) | (show (Addr.add _ _).block ≠ _; rw [add_block]; exact hn393_0) | exact hn393_0) (.int .i64 (wrap64 (s0_1 + 1)))).trans hx393_0
        (try have hy393_0 := fun (n_ : Nat) => (show (((w.drewN n_).setCell ⟨g, 1, none⟩ (.int .i64 (wrap64 (s0_1 + 1))))).cell? _ = some _ from hx393_0))
        clear hn393_0
        replace p393 := eq_true p393
        replace q393 := eq_true q393
        go_enter Try.func179, Try.ntmps179
        go_wp2
        repeat (go_quiet (fail); try go_wp2)
        go_ret2
        exact ⟨by first | rfl | (simp [errW_none, errW_some] <;> rfl) | (simp only [← hji5]; first | rfl | (simp [errW_none, errW_some] <;> rfl)) | (simp [*, errW_none, errW_some] <;> rfl), by repeat (first | (with_reducible first | exact HI0.out | apply IsS179.alloc | apply IsS179.drewN | apply IsS179.drew | apply IsS179.set_1 | apply IsS179.set_2) | exact HI0.out), by repeat (first | (with_reducible first | exact HB.out | apply below_alloc | apply pw_below_drewN | apply below_drew1 | refine below_set ?_ (IsS179.ge HI0.out)) | exact HB.out), by repeat (first | (with_reducible first | exact HK.out | apply KeepBut.set_ | apply keep_drewN | apply keep_drew | apply keep_alloc) | exact HK.out)⟩
      · rw [if_neg c7] at H
        exact absurd H (by simp)
    · rw [if_neg c6] at H
      exact absurd H (by simp)
end Go.Proofs.Ytgbjbpjmbghlbaa.G
end
section
namespace Go.Proofs.Ytgbjbpjmbghlbaa.G
open Go.RowKit Go.Proofs.YtgbjbpjmbghlbaaW.PrintWords Go.Proofs.YtgbjbpjmbghlbaaW.PrintLast Go.Proofs.YtgbjbpjmbghlbaaW.PrintMore
set_option linter.unusedVariables false
set_option linter.unusedSimpArgs false
abbrev TR := Int × Bool × Int × Int
abbrev IsTape := @IsS179
def getT (got : List Int) (a lk n : Int) : TR := if a = (got.length : Int) then (0, false, a, n) else (rd got a, true, a + 1, lk)
theorem getT_f (got : List Int) (a lk n : Int) (h0 : 0 ≤ a) (h1 : a ≤ (got.length : Int)) (hl : got.length ≤ 1000000) : spec_l2Tape_get.f got a lk n = some (getT got a lk n) := by
  unfold spec_l2Tape_get.f getT
  by_cases h : a = (got.length : Int)
  · rw [if_pos h, if_pos h]
  · rw [if_neg h, if_neg h, wrap_id (a + 1) (by omega) (by omega), wrap_id (a + 1 - 1) (by omega) (by omega), show a + 1 - 1 = a by omega, if_pos h0, if_pos (by omega)]
def seqT (x : TR) (f : Int → Int → Int → TR) : TR := if x.2.1 = true then f x.1 x.2.2.1 x.2.2.2 else (0, false, x.2.2.1, x.2.2.2)
def noT : Int → Int → TR := fun a lk => (0, false, a, lk)
def combD (got : List Int) (k n : Int) (rs : List (Int → Int → TR)) (a lk : Int) : TR :=
  if k = 0 then (n, true, a, lk)
  else if k = 1 then getT got a lk n
  else seqT (rs.getD 0 noT a lk) fun v a lk =>
    if k = 5 then getT got a lk ((n + v) % 10)
    else if k = 4 then (if v = 0 then rs.getD 2 noT a lk else rs.getD 1 noT a lk)
    else seqT (rs.getD 1 noT a lk) fun u a lk => (if k = 3 then (v * u) % 97 else (v + u) % 97, true, a, lk)
mutual
def doT (got : List Int) : Tk → Int → Int → TR
  | ⟨k, n, ps⟩ => combD got k n (doL got ps)
def doL (got : List Int) : List Tk → List (Int → Int → TR)
  | [] => []
  | p :: ps => doT got p :: doL got ps
end
theorem doT_num (got : List Int) (n a lk : Int) : doT got ⟨0, n, []⟩ a lk = (n, true, a, lk) := by simp [doT, combD]
theorem doT_get (got : List Int) (n a lk : Int) : doT got ⟨1, n, []⟩ a lk = getT got a lk n := by simp [doT, combD]
theorem doT_add (got : List Int) (x y : Tk) (a lk : Int) : doT got ⟨2, 0, [x, y]⟩ a lk = seqT (doT got x a lk) fun v a lk => seqT (doT got y a lk) fun u a lk => ((v + u) % 97, true, a, lk) := by simp [doT, doL, combD]
theorem doT_mul (got : List Int) (x y : Tk) (a lk : Int) : doT got ⟨3, 0, [x, y]⟩ a lk = seqT (doT got x a lk) fun v a lk => seqT (doT got y a lk) fun u a lk => ((v * u) % 97, true, a, lk) := by simp [doT, doL, combD]
theorem doT_if (got : List Int) (x y z : Tk) (a lk : Int) : doT got ⟨4, 0, [x, y, z]⟩ a lk = seqT (doT got x a lk) fun v a lk => if v = 0 then doT got z a lk else doT got y a lk := by simp [doT, doL, combD]
theorem doT_at (got : List Int) (n : Int) (x : Tk) (a lk : Int) : doT got ⟨5, n, [x]⟩ a lk = seqT (doT got x a lk) fun v a lk => getT got a lk ((n + v) % 10) := by simp [doT, doL, combD]
def TapeOk (got : List Int) (a : Int) (r : TR) : Prop := 0 ≤ r.1 ∧ r.1 ≤ 96 ∧ a ≤ r.2.2.1 ∧ r.2.2.1 ≤ (got.length : Int)
theorem getT_ok {got : List Int} (hg : got.all isVal = true) (a lk n : Int) (h0 : 0 ≤ a) (h1 : a ≤ (got.length : Int)) : TapeOk got a (getT got a lk n) := by
  unfold getT TapeOk
  split
  · rename_i h; simp only; omega
  · rename_i h
    have hv := atV_val hg a
    unfold atV at hv
    rw [if_pos ⟨h0, by omega⟩] at hv
    simp only
    omega
theorem doT_ok {got : List Int} (hg : got.all isVal = true) {t : Tk} (h : Fits t) : ∀ a lk : Int, 0 ≤ a → a ≤ (got.length : Int) → TapeOk got a (doT got t a lk) := by
  induction h with
  | num n g0 g1 => intro a lk h0 h1; rw [doT_num]; exact ⟨g0, g1, Int.le_refl _, h1⟩
  | get n => intro a lk h0 h1; rw [doT_get]; exact getT_ok hg a lk n h0 h1
  | add x y _ _ ihx ihy =>
    intro a lk h0 h1
    rw [doT_add]
    have hx := ihx a lk h0 h1
    generalize doT got x a lk = rx at *
    obtain ⟨v, ok, a1, l1⟩ := rx
    unfold TapeOk at hx
    simp only at hx
    cases ok with
    | false => simp only [seqT, Bool.false_eq_true, if_false]; unfold TapeOk; simp only; omega
    | true =>
      have hy := ihy a1 l1 (by omega) (by omega)
      simp only [seqT, if_true]
      generalize doT got y a1 l1 = ry at *
      obtain ⟨u, ok2, a2, l2⟩ := ry
      unfold TapeOk at hy
      simp only at hy
      cases ok2 with
      | false => simp only [Bool.false_eq_true, if_false]; unfold TapeOk; simp only; omega
      | true => simp only [if_true]; unfold TapeOk; simp only; omega
  | mul x y _ _ ihx ihy =>
    intro a lk h0 h1
    rw [doT_mul]
    have hx := ihx a lk h0 h1
    generalize doT got x a lk = rx at *
    obtain ⟨v, ok, a1, l1⟩ := rx
    unfold TapeOk at hx
    simp only at hx
    cases ok with
    | false => simp only [seqT, Bool.false_eq_true, if_false]; unfold TapeOk; simp only; omega
    | true =>
      have hy := ihy a1 l1 (by omega) (by omega)
      simp only [seqT, if_true]
      generalize doT got y a1 l1 = ry at *
      obtain ⟨u, ok2, a2, l2⟩ := ry
      unfold TapeOk at hy
      simp only at hy
      cases ok2 with
      | false => simp only [Bool.false_eq_true, if_false]; unfold TapeOk; simp only; omega
      | true =>
        simp only [if_true]
        unfold TapeOk
        have hm := Int.mul_nonneg hx.1 hy.1
        simp only
        omega
  | iff x y z _ _ _ ihx ihy ihz =>
    intro a lk h0 h1
    rw [doT_if]
    have hx := ihx a lk h0 h1
    generalize doT got x a lk = rx at *
    obtain ⟨v, ok, a1, l1⟩ := rx
    unfold TapeOk at hx
    simp only at hx
    cases ok with
    | false => simp only [seqT, Bool.false_eq_true, if_false]; unfold TapeOk; simp only; omega
    | true =>
      simp only [seqT, if_true]
      by_cases hv : v = 0
      · rw [if_pos hv]
        have hz := ihz a1 l1 (by omega) (by omega)
        exact ⟨hz.1, hz.2.1, Int.le_trans hx.2.2.1 hz.2.2.1, hz.2.2.2⟩
      · rw [if_neg hv]
        have hy := ihy a1 l1 (by omega) (by omega)
        exact ⟨hy.1, hy.2.1, Int.le_trans hx.2.2.1 hy.2.2.1, hy.2.2.2⟩
  | «at» n _ _ x _ ihx =>
    intro a lk h0 h1
    rw [doT_at]
    have hx := ihx a lk h0 h1
    generalize doT got x a lk = rx at *
    obtain ⟨v, ok, a1, l1⟩ := rx
    unfold TapeOk at hx
    simp only at hx
    cases ok with
    | false => simp only [seqT, Bool.false_eq_true, if_false]; unfold TapeOk; simp only; omega
    | true =>
      simp only [seqT, if_true]
      have hy := getT_ok hg a1 l1 ((n + v) % 10) (by omega) (by omega)
      exact ⟨hy.1, hy.2.1, Int.le_trans hx.2.2.1 hy.2.2.1, hy.2.2.2⟩
def Does (w0 : World) (g : Nat) (got : List Int) (t : Tk) : Prop :=
  ∀ (w : World) (a lk : Int) (A1 : Option Addr) (c1 : Nat), IsTape w0 w g got a lk → Below w0.heap.size w0 w → (∀ W_, KeepBut w W_ g none → Kd.C k30 W_ A1 t.f2.length t.f2) → t.f2.length ≤ c1 → 0 ≤ a → a ≤ (got.length : Int) →
    Calls Try.prog 176 #[.agg #[.int .i64 t.f0, .int .i64 t.f1, .slice A1 t.f2.length c1], .pointer (some ⟨g, 0, none⟩)] w fun e w' =>
      e = .returned (.tuple #[.int .i64 (doT got t a lk).1, .bool (doT got t a lk).2.1]) ∧ IsTape w0 w' g got (doT got t a lk).2.2.1 (doT got t a lk).2.2.2 ∧ Below w0.heap.size w0 w' ∧ KeepBut w w' g none
theorem part_keep {w0 w : World} {g : Nat} {got : List Int} {a lk : Int} (hI : IsTape w0 w g got a lk) {A1 : Option Addr} {ps : List Tk} (h : ∀ W_, KeepBut w W_ g none → Kd.C k30 W_ A1 ps.length ps) (i : Nat) (p : Tk) (hp : ps[i]? = some p) :
    ∃ ad A2 c2, A1 = some ad ∧ p.f2.length ≤ c2 ∧ ∀ W, KeepBut w W g none → Kd.C k30 W A2 p.f2.length p.f2 ∧ W.cell? (ad.add (i * 3)) = some (.int .i64 p.f0) ∧ W.cell? ⟨(ad.add (i * 3)).block, (ad.add (i * 3)).off + 1, none⟩ = some (.int .i64 p.f1) ∧ W.cell? ⟨(ad.add (i * 3)).block, (ad.add (i * 3)).off + 2, none⟩ = some (.slice A2 p.f2.length c2) := by
  obtain ⟨hi, e⟩ := List.getElem?_eq_some_iff.1 hp
  have at_w : ∀ W, KeepBut w W g none → ∃ ad A2 c2, A1 = some ad ∧ p.f2.length ≤ c2 ∧ Kd.C k30 W A2 p.f2.length p.f2 ∧ W.cell? (ad.add (i * 3)) = some (.int .i64 p.f0) ∧ W.cell? ⟨(ad.add (i * 3)).block, (ad.add (i * 3)).off + 1, none⟩ = some (.int .i64 p.f1) ∧ W.cell? ⟨(ad.add (i * 3)).block, (ad.add (i * 3)).off + 2, none⟩ = some (.slice A2 p.f2.length c2) := by
    intro W hk
    obtain ⟨ad, A2, c2, e1, hx0, hx1, hx2, hl, hC⟩ := at_T30 (h W hk) (i : Int) (by omega) (by omega)
    rw [rd_tk ps i hi, e] at hx0 hx1 hx2 hl hC
    rw [Int.toNat_natCast] at hx0 hx1 hx2
    exact ⟨ad, A2, c2, e1, hl, hC, hx0, hx1, hx2⟩
  obtain ⟨ad, A2, c2, rfl, hl, _, _, _, hx2⟩ := at_w w (KeepBut.refl w g none)
  refine ⟨ad, A2, c2, rfl, hl, fun W hk => ?_⟩
  obtain ⟨ad', A2', c2', e1, hl', hC', hy0, hy1, hy2⟩ := at_w W hk
  obtain rfl : ad = ad' := Option.some.inj e1
  have hne : (ad.add (i * 3)).block ≠ g := by
    intro eg
    obtain ⟨A0, c0, hb, _, _⟩ := hI
    rw [eg] at hx2
    rw [blk_cell hb] at hx2
    generalize (ad.add (i * 3)).off = o at hx2
    match o, hx2 with
    | 0, h => simp at h
    | o + 1, h => simp at h
  have hk2 := keep_cell hk hx2 hne
  rw [hk2] at hy2
  have he := Option.some.inj hy2
  injection he with e2 _ e3
  subst e2
  subst e3
  exact ⟨hC', hy0, hy1, hk2⟩
end Go.Proofs.Ytgbjbpjmbghlbaa.G
end
section
namespace Go.Proofs.Ytgbjbpjmbghlbaa.G
open Go.RowKit Go.Proofs.YtgbjbpjmbghlbaaW.PrintWords Go.Proofs.YtgbjbpjmbghlbaaW.PrintLast Go.Proofs.YtgbjbpjmbghlbaaW.PrintMore
set_option linter.unusedVariables false
set_option linter.unusedSimpArgs false
set_option maxHeartbeats 8000000 in
set_option maxRecDepth 100000 in
theorem does_num {w0 : World} {g : Nat} {got : List Int} (hg : got.all isVal = true) (hgl : got.length ≤ 1000000) (n : Int) : Does w0 g got ⟨0, n, []⟩ := by
  intro w a lk A1 c1 hI hB hr hc h0 h1
  have HI := Aside0.mk hI
  have HB := Aside0.mk hB
  have hne : w.heap.size ≠ g := fun e => by have := hI.lt; omega
  have HNE := Aside0.mk hne
  have I1 := Aside0.mk (hI.alloc (.cells #[.int .i64 0, .int .i64 n, .slice A1 0 c1] 30 (0, 0)))
  have B1 := Aside0.mk (below_alloc hB (.cells #[.int .i64 0, .int .i64 n, .slice A1 0 c1] 30 (0, 0)))
  have K1 := Aside0.mk (keep_alloc (KeepBut.refl w g none) (.cells #[.int .i64 0, .int .i64 n, .slice A1 0 c1] 30 (0, 0)))
  have hu := Try.underlying30
  have H01 := Aside0.mk (And.intro h0 h1)
  have HGL := Aside0.mk hgl
  clear hI hB hr hc hne hgl
  show Calls Try.prog 176 #[.agg #[.int .i64 0, .int .i64 n, .slice A1 0 c1], _] w _
  rw [doT_num]
  go_enter Try.func176, Try.ntmps176
  go_wp2
  go_ret2
  exact ⟨rfl, I1.out, B1.out, K1.out⟩
end Go.Proofs.Ytgbjbpjmbghlbaa.G
end
section
namespace Go.Proofs.Ytgbjbpjmbghlbaa.G
open Go.RowKit Go.Proofs.YtgbjbpjmbghlbaaW.PrintWords Go.Proofs.YtgbjbpjmbghlbaaW.PrintLast Go.Proofs.YtgbjbpjmbghlbaaW.PrintMore
set_option linter.unusedVariables false
set_option linter.unusedSimpArgs false
set_option maxHeartbeats 8000000 in
set_option maxRecDepth 100000 in
theorem does_get {w0 : World} {g : Nat} {got : List Int} (hg : got.all isVal = true) (hgl : got.length ≤ 1000000) (n : Int) : Does w0 g got ⟨1, n, []⟩ := by
  intro w a lk A1 c1 hI hB hr hc h0 h1
  have HI := Aside0.mk hI
  have HB := Aside0.mk hB
  have hne : w.heap.size ≠ g := fun e => by have := hI.lt; omega
  have HNE := Aside0.mk hne
  have I1 := Aside0.mk (hI.alloc (.cells #[.int .i64 1, .int .i64 n, .slice A1 0 c1] 30 (0, 0)))
  have B1 := Aside0.mk (below_alloc hB (.cells #[.int .i64 1, .int .i64 n, .slice A1 0 c1] 30 (0, 0)))
  have K1 := Aside0.mk (keep_alloc (KeepBut.refl w g none) (.cells #[.int .i64 1, .int .i64 n, .slice A1 0 c1] 30 (0, 0)))
  have hu := Try.underlying30
  have H01 := Aside0.mk (And.intro h0 h1)
  have HGL := Aside0.mk hgl
  clear hI hB hr hc hne hgl
  show Calls Try.prog 176 #[.agg #[.int .i64 1, .int .i64 n, .slice A1 0 c1], _] w _
  rw [doT_get]
  go_enter Try.func176, Try.ntmps176
  go_wp2_with (go_at_call 179; refine (spec_l2Tape_get.calls _ _ _ _ _ _ _ _ _ _ _ I1.out B1.out (getT_f got a lk n H01.out.1 H01.out.2 HGL.out)).mono ?_; rintro e w4 ⟨rfl, i4, b4, k4⟩; have I4 := Aside0.mk i4; have B4 := Aside0.mk b4; have K4 := Aside0.mk (K1.out.trans k4 (.inl rfl)); clear i4 b4 k4)
  go_ret2
  exact ⟨rfl, I4.out, B4.out, K4.out⟩
end Go.Proofs.Ytgbjbpjmbghlbaa.G
end
section
namespace Go.Proofs.Ytgbjbpjmbghlbaa.G
open Go.RowKit Go.Proofs.YtgbjbpjmbghlbaaW.PrintWords Go.Proofs.YtgbjbpjmbghlbaaW.PrintLast Go.Proofs.YtgbjbpjmbghlbaaW.PrintMore
set_option linter.unusedVariables false
set_option linter.unusedSimpArgs false
set_option maxHeartbeats 8000000 in
set_option maxRecDepth 100000 in
theorem does_at {w0 : World} {g : Nat} {got : List Int} (hg : got.all isVal = true) (hgl : got.length ≤ 1000000) (n : Int) (hn0 : 0 ≤ n) (hn1 : n ≤ 9) (x : Tk) (hx : Fits x) (ihx : Does w0 g got x) : Does w0 g got ⟨5, n, [x]⟩ := by
  intro w a lk A1 c1 hI hB hr hc h0 h1
  have HI := Aside0.mk hI
  have HB := Aside0.mk hB
  have hne : w.heap.size ≠ g := fun e => by have := hI.lt; omega
  have HNE := Aside0.mk hne
  have I1 := Aside0.mk (hI.alloc (.cells #[.int .i64 5, .int .i64 n, .slice A1 1 c1] 30 (0, 0)))
  have B1 := Aside0.mk (below_alloc hB (.cells #[.int .i64 5, .int .i64 n, .slice A1 1 c1] 30 (0, 0)))
  have K1 := Aside0.mk (keep_alloc (KeepBut.refl w g none) (.cells #[.int .i64 5, .int .i64 n, .slice A1 1 c1] 30 (0, 0)))
  have hu := Try.underlying30
  have H01 := Aside0.mk (And.intro h0 h1)
  have HGL := Aside0.mk hgl
  obtain ⟨ad, Ax, cx, rfl, hlx, hxx⟩ := part_keep hI hr 0 x rfl
  have HXx := Aside0.mk hxx
  have HLx := Aside0.mk hlx
  clear hxx hlx
  obtain ⟨_, hx0, hx1, hx2⟩ := HXx.out _ K1.out
  simp [go_sem] at hx0 hx1 hx2
  have CA := Aside0.mk (ihx _ a lk _ _ I1.out B1.out (fun W_ hk => (HXx.out W_ (K1.out.trans hk (.inl rfl))).1) HLx.out h0 h1)
  have hval := doT_ok hg hx a lk h0 h1
  clear hI hB hr hc hne hgl
  clear h0 h1
  show Calls Try.prog 176 #[.agg #[.int .i64 5, .int .i64 n, .slice (some ad) 1 c1], _] w _
  rw [doT_at]
  generalize hra : doT got x a lk = ra at *
  obtain ⟨va, oka, aa, la⟩ := ra
  unfold TapeOk at hval
  simp only at hval CA
  have hav : 0 ≤ aa ∧ aa ≤ (got.length : Int) := by have := H01.out; omega
  cases oka with
  | false =>
    simp only [seqT, Bool.false_eq_true, if_false]
    go_enter Try.func176, Try.ntmps176
    go_wp2_with (go_at_call 176; (with_reducible refine CA.out.mono ?_); rintro e w2 ⟨rfl, i2, b2, k2⟩; have hb2 := k2.blk (blk_new w _) HNE.out (by simp); have hq0 := (blk_cell hb2 0).trans rfl; have hq1 := (blk_cell hb2 1).trans rfl; have hq2 := (blk_cell hb2 2).trans rfl; have HB2 := Aside0.mk hb2; have I2 := Aside0.mk i2; have B2 := Aside0.mk b2; have K2 := Aside0.mk (K1.out.trans k2 (.inl rfl)); clear hb2 i2 b2 k2 hx0 hx1 hx2 CA)
    go_ret2
    exact ⟨rfl, I2.out, B2.out, K2.out⟩
  | true =>
    simp only [seqT, if_true]
    go_enter Try.func176, Try.ntmps176
    go_wp2_with (first | (go_at_call 176; (with_reducible refine CA.out.mono ?_); rintro e w2 ⟨rfl, i2, b2, k2⟩; have hb2 := k2.blk (blk_new w _) HNE.out (by simp); have hq0 := (blk_cell hb2 0).trans rfl; have hq1 := (blk_cell hb2 1).trans rfl; have hq2 := (blk_cell hb2 2).trans rfl; have HB2 := Aside0.mk hb2; have I2 := Aside0.mk i2; have B2 := Aside0.mk b2; have K2 := Aside0.mk (K1.out.trans k2 (.inl rfl)); clear hb2 i2 b2 k2 hx0 hx1 hx2 CA) | (go_at_call 179; refine (spec_l2Tape_get.calls _ _ _ _ _ _ _ _ _ _ _ I2.out B2.out (getT_f got aa la _ hav.1 hav.2 HGL.out)).mono ?_; rintro e w4 ⟨rfl, i4, b4, k4⟩; have I4 := Aside0.mk i4; have B4 := Aside0.mk b4; have K4 := Aside0.mk (K2.out.trans k4 (.inl rfl)); clear i4 b4 k4))
    go_ret2
    exact ⟨rfl, I4.out, B4.out, K4.out⟩
end Go.Proofs.Ytgbjbpjmbghlbaa.G
end
section
namespace Go.Proofs.Ytgbjbpjmbghlbaa.G
open Go.RowKit Go.Proofs.YtgbjbpjmbghlbaaW.PrintWords Go.Proofs.YtgbjbpjmbghlbaaW.PrintLast Go.Proofs.YtgbjbpjmbghlbaaW.PrintMore
set_option linter.unusedVariables false
set_option linter.unusedSimpArgs false
set_option maxHeartbeats 8000000 in
set_option maxRecDepth 100000 in
theorem does_add {w0 : World} {g : Nat} {got : List Int} (hg : got.all isVal = true) (hgl : got.length ≤ 1000000) (x y : Tk) (hx : Fits x) (hy : Fits y) (ihx : Does w0 g got x) (ihy : Does w0 g got y) : Does w0 g got ⟨2, 0, [x, y]⟩ := by
  intro w a lk A1 c1 hI hB hr hc h0 h1
  have HI := Aside0.mk hI
  have HB := Aside0.mk hB
  have hne : w.heap.size ≠ g := fun e => by have := hI.lt; omega
  have HNE := Aside0.mk hne
  have I1 := Aside0.mk (hI.alloc (.cells #[.int .i64 2, .int .i64 0, .slice A1 2 c1] 30 (0, 0)))
  have B1 := Aside0.mk (below_alloc hB (.cells #[.int .i64 2, .int .i64 0, .slice A1 2 c1] 30 (0, 0)))
  have K1 := Aside0.mk (keep_alloc (KeepBut.refl w g none) (.cells #[.int .i64 2, .int .i64 0, .slice A1 2 c1] 30 (0, 0)))
  have hu := Try.underlying30
  have H01 := Aside0.mk (And.intro h0 h1)
  have HGL := Aside0.mk hgl
  obtain ⟨ad, Ax, cx, rfl, hlx, hxx⟩ := part_keep hI hr 0 x rfl
  have HXx := Aside0.mk hxx
  have HLx := Aside0.mk hlx
  clear hxx hlx
  obtain ⟨ad', Ay, cy, ey, hly, hxy⟩ := part_keep hI hr 1 y rfl
  obtain rfl : ad = ad' := Option.some.inj ey
  clear ey
  have HXy := Aside0.mk hxy
  have HLy := Aside0.mk hly
  clear hxy hly
  obtain ⟨_, hx0, hx1, hx2⟩ := HXx.out _ K1.out
  simp [go_sem] at hx0 hx1 hx2
  have CA := Aside0.mk (ihx _ a lk _ _ I1.out B1.out (fun W_ hk => (HXx.out W_ (K1.out.trans hk (.inl rfl))).1) HLx.out h0 h1)
  have hval := doT_ok hg hx a lk h0 h1
  clear hI hB hr hc hne hgl
  clear h0 h1
  show Calls Try.prog 176 #[.agg #[.int .i64 2, .int .i64 0, .slice (some ad) 2 c1], _] w _
  rw [doT_add]
  generalize hra : doT got x a lk = ra at *
  obtain ⟨va, oka, aa, la⟩ := ra
  unfold TapeOk at hval
  simp only at hval CA
  have hav : 0 ≤ aa ∧ aa ≤ (got.length : Int) := by have := H01.out; omega
  cases oka with
  | false =>
    simp only [seqT, Bool.false_eq_true, if_false]
    go_enter Try.func176, Try.ntmps176
    go_wp2_with (go_at_call 176; (with_reducible refine CA.out.mono ?_); rintro e w2 ⟨rfl, i2, b2, k2⟩; have hb2 := k2.blk (blk_new w _) HNE.out (by simp); have hq0 := (blk_cell hb2 0).trans rfl; have hq1 := (blk_cell hb2 1).trans rfl; have hq2 := (blk_cell hb2 2).trans rfl; have HB2 := Aside0.mk hb2; have I2 := Aside0.mk i2; have B2 := Aside0.mk b2; have K2 := Aside0.mk (K1.out.trans k2 (.inl rfl)); clear hb2 i2 b2 k2 hx0 hx1 hx2 CA)
    go_ret2
    exact ⟨rfl, I2.out, B2.out, K2.out⟩
  | true =>
    simp only [seqT, if_true]
    have hvb := doT_ok hg hy aa la hav.1 hav.2
    have CBB := Aside0.mk (fun w hI hB hC => ihy w aa la Ay cy hI hB hC HLy.out hav.1 hav.2)
    generalize hrb : doT got y aa la = rb at *
    obtain ⟨vb, okb, ab, lb⟩ := rb
    unfold TapeOk at hvb
    simp only at hvb CBB
    cases okb with
    | false =>
      simp only [Bool.false_eq_true, if_false]
      go_enter Try.func176, Try.ntmps176
      go_wp2_with (first | (go_at_call 176; (with_reducible refine CA.out.mono ?_); rintro e w2 ⟨rfl, i2, b2, k2⟩; have hb2 := k2.blk (blk_new w _) HNE.out (by simp); have hq0 := (blk_cell hb2 0).trans rfl; have hq1 := (blk_cell hb2 1).trans rfl; have hq2 := (blk_cell hb2 2).trans rfl; have HB2 := Aside0.mk hb2; have I2 := Aside0.mk i2; have B2 := Aside0.mk b2; have K2 := Aside0.mk (K1.out.trans k2 (.inl rfl)); clear hb2 i2 b2 k2 hx0 hx1 hx2 CA; obtain ⟨_, hx0, hx1, hx2⟩ := HXy.out w2 K2.out; simp [go_sem] at hx0 hx1 hx2; have CB := Aside0.mk (CBB.out _ I2.out B2.out (fun W_ hk => (HXy.out W_ (K2.out.trans hk (.inl rfl))).1))) | (go_at_call 176; (with_reducible refine CB.out.mono ?_); rintro e w3 ⟨rfl, i3, b3, k3⟩; have hb3 := k3.blk HB2.out HNE.out (by simp); have hr0 := (blk_cell hb3 0).trans rfl; have hr1 := (blk_cell hb3 1).trans rfl; have hr2 := (blk_cell hb3 2).trans rfl; have I3 := Aside0.mk i3; have B3 := Aside0.mk b3; have K3 := Aside0.mk (K2.out.trans k3 (.inl rfl)); clear hb3 i3 b3 k3 hx0 hx1 hx2 hq0 hq1 hq2 CB))
      go_ret2
      exact ⟨rfl, I3.out, B3.out, K3.out⟩
    | true =>
      simp only [if_true]
      go_enter Try.func176, Try.ntmps176
      go_wp2_with (first | (go_at_call 176; (with_reducible refine CA.out.mono ?_); rintro e w2 ⟨rfl, i2, b2, k2⟩; have hb2 := k2.blk (blk_new w _) HNE.out (by simp); have hq0 := (blk_cell hb2 0).trans rfl; have hq1 := (blk_cell hb2 1).trans rfl; have hq2 := (blk_cell hb2 2).trans rfl; have HB2 := Aside0.mk hb2; have I2 := Aside0.mk i2; have B2 := Aside0.mk b2; have K2 := Aside0.mk (K1.out.trans k2 (.inl rfl)); clear hb2 i2 b2 k2 hx0 hx1 hx2 CA; obtain ⟨_, hx0, hx1, hx2⟩ := HXy.out w2 K2.out; simp [go_sem] at hx0 hx1 hx2; have CB := Aside0.mk (CBB.out _ I2.out B2.out (fun W_ hk => (HXy.out W_ (K2.out.trans hk (.inl rfl))).1))) | (go_at_call 176; (with_reducible refine CB.out.mono ?_); rintro e w3 ⟨rfl, i3, b3, k3⟩; have hb3 := k3.blk HB2.out HNE.out (by simp); have hr0 := (blk_cell hb3 0).trans rfl; have hr1 := (blk_cell hb3 1).trans rfl; have hr2 := (blk_cell hb3 2).trans rfl; have I3 := Aside0.mk i3; have B3 := Aside0.mk b3; have K3 := Aside0.mk (K2.out.trans k3 (.inl rfl)); clear hb3 i3 b3 k3 hx0 hx1 hx2 hq0 hq1 hq2 CB))
      go_ret2
      exact ⟨rfl, I3.out, B3.out, K3.out⟩
end Go.Proofs.Ytgbjbpjmbghlbaa.G
end
section
namespace Go.Proofs.Ytgbjbpjmbghlbaa.G
open Go.RowKit Go.Proofs.YtgbjbpjmbghlbaaW.PrintWords Go.Proofs.YtgbjbpjmbghlbaaW.PrintLast Go.Proofs.YtgbjbpjmbghlbaaW.PrintMore
set_option linter.unusedVariables false
set_option linter.unusedSimpArgs false
set_option maxHeartbeats 8000000 in
set_option maxRecDepth 100000 in
theorem does_mul {w0 : World} {g : Nat} {got : List Int} (hg : got.all isVal = true) (hgl : got.length ≤ 1000000) (x y : Tk) (hx : Fits x) (hy : Fits y) (ihx : Does w0 g got x) (ihy : Does w0 g got y) : Does w0 g got ⟨3, 0, [x, y]⟩ := by
  intro w a lk A1 c1 hI hB hr hc h0 h1
  have HI := Aside0.mk hI
  have HB := Aside0.mk hB
  have hne : w.heap.size ≠ g := fun e => by have := hI.lt; omega
  have HNE := Aside0.mk hne
  have I1 := Aside0.mk (hI.alloc (.cells #[.int .i64 3, .int .i64 0, .slice A1 2 c1] 30 (0, 0)))
  have B1 := Aside0.mk (below_alloc hB (.cells #[.int .i64 3, .int .i64 0, .slice A1 2 c1] 30 (0, 0)))
  have K1 := Aside0.mk (keep_alloc (KeepBut.refl w g none) (.cells #[.int .i64 3, .int .i64 0, .slice A1 2 c1] 30 (0, 0)))
  have hu := Try.underlying30
  have H01 := Aside0.mk (And.intro h0 h1)
  have HGL := Aside0.mk hgl
  obtain ⟨ad, Ax, cx, rfl, hlx, hxx⟩ := part_keep hI hr 0 x rfl
  have HXx := Aside0.mk hxx
  have HLx := Aside0.mk hlx
  clear hxx hlx
  obtain ⟨ad', Ay, cy, ey, hly, hxy⟩ := part_keep hI hr 1 y rfl
  obtain rfl : ad = ad' := Option.some.inj ey
  clear ey
  have HXy := Aside0.mk hxy
  have HLy := Aside0.mk hly
  clear hxy hly
  obtain ⟨_, hx0, hx1, hx2⟩ := HXx.out _ K1.out
  simp [go_sem] at hx0 hx1 hx2
  have CA := Aside0.mk (ihx _ a lk _ _ I1.out B1.out (fun W_ hk => (HXx.out W_ (K1.out.trans hk (.inl rfl))).1) HLx.out h0 h1)
  have hval := doT_ok hg hx a lk h0 h1
  clear hI hB hr hc hne hgl
  clear h0 h1
  show Calls Try.prog 176 #[.agg #[.int .i64 3, .int .i64 0, .slice (some ad) 2 c1], _] w _
  rw [doT_mul]
  generalize hra : doT got x a lk = ra at *
  obtain ⟨va, oka, aa, la⟩ := ra
  unfold TapeOk at hval
  simp only at hval CA
  have hav : 0 ≤ aa ∧ aa ≤ (got.length : Int) := by have := H01.out; omega
  cases oka with
  | false =>
    simp only [seqT, Bool.false_eq_true, if_false]
    go_enter Try.func176, Try.ntmps176
    go_wp2_with (go_at_call 176; (with_reducible refine CA.out.mono ?_); rintro e w2 ⟨rfl, i2, b2, k2⟩; have hb2 := k2.blk (blk_new w _) HNE.out (by simp); have hq0 := (blk_cell hb2 0).trans rfl; have hq1 := (blk_cell hb2 1).trans rfl; have hq2 := (blk_cell hb2 2).trans rfl; have HB2 := Aside0.mk hb2; have I2 := Aside0.mk i2; have B2 := Aside0.mk b2; have K2 := Aside0.mk (K1.out.trans k2 (.inl rfl)); clear hb2 i2 b2 k2 hx0 hx1 hx2 CA)
    go_ret2
    exact ⟨rfl, I2.out, B2.out, K2.out⟩
  | true =>
    simp only [seqT, if_true]
    have hvb := doT_ok hg hy aa la hav.1 hav.2
    have CBB := Aside0.mk (fun w hI hB hC => ihy w aa la Ay cy hI hB hC HLy.out hav.1 hav.2)
    generalize hrb : doT got y aa la = rb at *
    obtain ⟨vb, okb, ab, lb⟩ := rb
    unfold TapeOk at hvb
    simp only at hvb CBB
    have hm0 : 0 ≤ va * vb := Int.mul_nonneg hval.1 hvb.1
    have hm1 : va * vb ≤ 9216 := by
      have h1 := Int.mul_le_mul hval.2.1 hvb.2.1 hvb.1 (by omega : (0 : Int) ≤ 96)
      omega
    cases okb with
    | false =>
      simp only [Bool.false_eq_true, if_false]
      go_enter Try.func176, Try.ntmps176
      go_wp2_with (first | (go_at_call 176; (with_reducible refine CA.out.mono ?_); rintro e w2 ⟨rfl, i2, b2, k2⟩; have hb2 := k2.blk (blk_new w _) HNE.out (by simp); have hq0 := (blk_cell hb2 0).trans rfl; have hq1 := (blk_cell hb2 1).trans rfl; have hq2 := (blk_cell hb2 2).trans rfl; have HB2 := Aside0.mk hb2; have I2 := Aside0.mk i2; have B2 := Aside0.mk b2; have K2 := Aside0.mk (K1.out.trans k2 (.inl rfl)); clear hb2 i2 b2 k2 hx0 hx1 hx2 CA; obtain ⟨_, hx0, hx1, hx2⟩ := HXy.out w2 K2.out; simp [go_sem] at hx0 hx1 hx2; have CB := Aside0.mk (CBB.out _ I2.out B2.out (fun W_ hk => (HXy.out W_ (K2.out.trans hk (.inl rfl))).1))) | (go_at_call 176; (with_reducible refine CB.out.mono ?_); rintro e w3 ⟨rfl, i3, b3, k3⟩; have hb3 := k3.blk HB2.out HNE.out (by simp); have hr0 := (blk_cell hb3 0).trans rfl; have hr1 := (blk_cell hb3 1).trans rfl; have hr2 := (blk_cell hb3 2).trans rfl; have I3 := Aside0.mk i3; have B3 := Aside0.mk b3; have K3 := Aside0.mk (K2.out.trans k3 (.inl rfl)); clear hb3 i3 b3 k3 hx0 hx1 hx2 hq0 hq1 hq2 CB))
      go_ret2
      exact ⟨rfl, I3.out, B3.out, K3.out⟩
    | true =>
      simp only [if_true]
      go_enter Try.func176, Try.ntmps176
      go_wp2_with (first | (go_at_call 176; (with_reducible refine CA.out.mono ?_); rintro e w2 ⟨rfl, i2, b2, k2⟩; have hb2 := k2.blk (blk_new w _) HNE.out (by simp); have hq0 := (blk_cell hb2 0).trans rfl; have hq1 := (blk_cell hb2 1).trans rfl; have hq2 := (blk_cell hb2 2).trans rfl; have HB2 := Aside0.mk hb2; have I2 := Aside0.mk i2; have B2 := Aside0.mk b2; have K2 := Aside0.mk (K1.out.trans k2 (.inl rfl)); clear hb2 i2 b2 k2 hx0 hx1 hx2 CA; obtain ⟨_, hx0, hx1, hx2⟩ := HXy.out w2 K2.out; simp [go_sem] at hx0 hx1 hx2; have CB := Aside0.mk (CBB.out _ I2.out B2.out (fun W_ hk => (HXy.out W_ (K2.out.trans hk (.inl rfl))).1))) | (go_at_call 176; (with_reducible refine CB.out.mono ?_); rintro e w3 ⟨rfl, i3, b3, k3⟩; have hb3 := k3.blk HB2.out HNE.out (by simp); have hr0 := (blk_cell hb3 0).trans rfl; have hr1 := (blk_cell hb3 1).trans rfl; have hr2 := (blk_cell hb3 2).trans rfl; have I3 := Aside0.mk i3; have B3 := Aside0.mk b3; have K3 := Aside0.mk (K2.out.trans k3 (.inl rfl)); clear hb3 i3 b3 k3 hx0 hx1 hx2 hq0 hq1 hq2 CB))
      go_ret2
      exact ⟨rfl, I3.out, B3.out, K3.out⟩
end Go.Proofs.Ytgbjbpjmbghlbaa.G
end
section
namespace Go.Proofs.Ytgbjbpjmbghlbaa.G
open Go.RowKit Go.Proofs.YtgbjbpjmbghlbaaW.PrintWords Go.Proofs.YtgbjbpjmbghlbaaW.PrintLast Go.Proofs.YtgbjbpjmbghlbaaW.PrintMore
set_option linter.unusedVariables false
set_option linter.unusedSimpArgs false
set_option maxHeartbeats 8000000 in
set_option maxRecDepth 100000 in
theorem does_if {w0 : World} {g : Nat} {got : List Int} (hg : got.all isVal = true) (hgl : got.length ≤ 1000000) (x y z : Tk) (hx : Fits x) (hy : Fits y) (hz : Fits z) (ihx : Does w0 g got x) (ihy : Does w0 g got y) (ihz : Does w0 g got z) : Does w0 g got ⟨4, 0, [x, y, z]⟩ := by
  intro w a lk A1 c1 hI hB hr hc h0 h1
  have HI := Aside0.mk hI
  have HB := Aside0.mk hB
  have hne : w.heap.size ≠ g := fun e => by have := hI.lt; omega
  have HNE := Aside0.mk hne
  have I1 := Aside0.mk (hI.alloc (.cells #[.int .i64 4, .int .i64 0, .slice A1 3 c1] 30 (0, 0)))
  have B1 := Aside0.mk (below_alloc hB (.cells #[.int .i64 4, .int .i64 0, .slice A1 3 c1] 30 (0, 0)))
  have K1 := Aside0.mk (keep_alloc (KeepBut.refl w g none) (.cells #[.int .i64 4, .int .i64 0, .slice A1 3 c1] 30 (0, 0)))
  have hu := Try.underlying30
  have H01 := Aside0.mk (And.intro h0 h1)
  have HGL := Aside0.mk hgl
  obtain ⟨ad, Ax, cx, rfl, hlx, hxx⟩ := part_keep hI hr 0 x rfl
  have HXx := Aside0.mk hxx
  have HLx := Aside0.mk hlx
  clear hxx hlx
  obtain ⟨ad', Ay, cy, ey, hly, hxy⟩ := part_keep hI hr 1 y rfl
  obtain rfl : ad = ad' := Option.some.inj ey
  clear ey
  have HXy := Aside0.mk hxy
  have HLy := Aside0.mk hly
  clear hxy hly
  obtain ⟨ad', Az, cz, ez, hlz, hxz⟩ := part_keep hI hr 2 z rfl
  obtain rfl : ad = ad' := Option.some.inj ez
  clear ez
  have HXz := Aside0.mk hxz
  have HLz := Aside0.mk hlz
  clear hxz hlz
  obtain ⟨_, hx0, hx1, hx2⟩ := HXx.out _ K1.out
  simp [go_sem] at hx0 hx1 hx2
  have CA := Aside0.mk (ihx _ a lk _ _ I1.out B1.out (fun W_ hk => (HXx.out W_ (K1.out.trans hk (.inl rfl))).1) HLx.out h0 h1)
  have hval := doT_ok hg hx a lk h0 h1
  clear hI hB hr hc hne hgl
  clear h0 h1
  show Calls Try.prog 176 #[.agg #[.int .i64 4, .int .i64 0, .slice (some ad) 3 c1], _] w _
  rw [doT_if]
  generalize hra : doT got x a lk = ra at *
  obtain ⟨va, oka, aa, la⟩ := ra
  unfold TapeOk at hval
  simp only at hval CA
  have hav : 0 ≤ aa ∧ aa ≤ (got.length : Int) := by have := H01.out; omega
  cases oka with
  | false =>
    simp only [seqT, Bool.false_eq_true, if_false]
    go_enter Try.func176, Try.ntmps176
    go_wp2_with (go_at_call 176; (with_reducible refine CA.out.mono ?_); rintro e w2 ⟨rfl, i2, b2, k2⟩; have hb2 := k2.blk (blk_new w _) HNE.out (by simp); have hq0 := (blk_cell hb2 0).trans rfl; have hq1 := (blk_cell hb2 1).trans rfl; have hq2 := (blk_cell hb2 2).trans rfl; have HB2 := Aside0.mk hb2; have I2 := Aside0.mk i2; have B2 := Aside0.mk b2; have K2 := Aside0.mk (K1.out.trans k2 (.inl rfl)); clear hb2 i2 b2 k2 hx0 hx1 hx2 CA)
    go_ret2
    exact ⟨rfl, I2.out, B2.out, K2.out⟩
  | true =>
    simp only [seqT, if_true]
    by_cases hv : va = 0
    · rw [if_pos hv]
      have hzb : (va != 0) = false := by rw [hv]; rfl
      have CBB := Aside0.mk (fun w hI hB hC => ihz w aa la Az cz hI hB hC HLz.out hav.1 hav.2)
      go_enter Try.func176, Try.ntmps176
      go_wp2_with (first | (go_at_call 176; (with_reducible refine CA.out.mono ?_); rintro e w2 ⟨rfl, i2, b2, k2⟩; have hb2 := k2.blk (blk_new w _) HNE.out (by simp); have hq0 := (blk_cell hb2 0).trans rfl; have hq1 := (blk_cell hb2 1).trans rfl; have hq2 := (blk_cell hb2 2).trans rfl; have HB2 := Aside0.mk hb2; have I2 := Aside0.mk i2; have B2 := Aside0.mk b2; have K2 := Aside0.mk (K1.out.trans k2 (.inl rfl)); clear hb2 i2 b2 k2 hx0 hx1 hx2 CA; obtain ⟨_, hx0, hx1, hx2⟩ := HXz.out w2 K2.out; simp [go_sem] at hx0 hx1 hx2; have CB := Aside0.mk (CBB.out _ I2.out B2.out (fun W_ hk => (HXz.out W_ (K2.out.trans hk (.inl rfl))).1))) | (go_at_call 176; (with_reducible refine CB.out.mono ?_); rintro e w3 ⟨rfl, i3, b3, k3⟩; have hb3 := k3.blk HB2.out HNE.out (by simp); have hr0 := (blk_cell hb3 0).trans rfl; have hr1 := (blk_cell hb3 1).trans rfl; have hr2 := (blk_cell hb3 2).trans rfl; have I3 := Aside0.mk i3; have B3 := Aside0.mk b3; have K3 := Aside0.mk (K2.out.trans k3 (.inl rfl)); clear hb3 i3 b3 k3 hx0 hx1 hx2 hq0 hq1 hq2 CB))
      go_ret2
      exact ⟨rfl, I3.out, B3.out, K3.out⟩
    · rw [if_neg hv]
      have hzb : (va != 0) = true := bne_iff_ne.mpr hv
      have CBB := Aside0.mk (fun w hI hB hC => ihy w aa la Ay cy hI hB hC HLy.out hav.1 hav.2)
      go_enter Try.func176, Try.ntmps176
      go_wp2_with (first | (go_at_call 176; (with_reducible refine CA.out.mono ?_); rintro e w2 ⟨rfl, i2, b2, k2⟩; have hb2 := k2.blk (blk_new w _) HNE.out (by simp); have hq0 := (blk_cell hb2 0).trans rfl; have hq1 := (blk_cell hb2 1).trans rfl; have hq2 := (blk_cell hb2 2).trans rfl; have HB2 := Aside0.mk hb2; have I2 := Aside0.mk i2; have B2 := Aside0.mk b2; have K2 := Aside0.mk (K1.out.trans k2 (.inl rfl)); clear hb2 i2 b2 k2 hx0 hx1 hx2 CA; obtain ⟨_, hx0, hx1, hx2⟩ := HXy.out w2 K2.out; simp [go_sem] at hx0 hx1 hx2; have CB := Aside0.mk (CBB.out _ I2.out B2.out (fun W_ hk => (HXy.out W_ (K2.out.trans hk (.inl rfl))).1))) | (go_at_call 176; (with_reducible refine CB.out.mono ?_); rintro e w3 ⟨rfl, i3, b3, k3⟩; have hb3 := k3.blk HB2.out HNE.out (by simp); have hr0 := (blk_cell hb3 0).trans rfl; have hr1 := (blk_cell hb3 1).trans rfl; have hr2 := (blk_cell hb3 2).trans rfl; have I3 := Aside0.mk i3; have B3 := Aside0.mk b3; have K3 := Aside0.mk (K2.out.trans k3 (.inl rfl)); clear hb3 i3 b3 k3 hx0 hx1 hx2 hq0 hq1 hq2 CB))
      go_ret2
      exact ⟨rfl, I3.out, B3.out, K3.out⟩
end Go.Proofs.Ytgbjbpjmbghlbaa.G
end
section
namespace Go.Proofs.Ytgbjbpjmbghlbaa.G
open Go.RowKit Go.Proofs.YtgbjbpjmbghlbaaW.PrintWords Go.Proofs.YtgbjbpjmbghlbaaW.PrintLast Go.Proofs.YtgbjbpjmbghlbaaW.PrintMore
set_option linter.unusedVariables false
set_option linter.unusedSimpArgs false
theorem does {w0 : World} {g : Nat} {got : List Int} (hg : got.all isVal = true) (hgl : got.length ≤ 1000000) {t : Tk} (h : Fits t) : Does w0 g got t := by
  induction h with
  | num n h0 h1 => exact does_num hg hgl n
  | get n h0 h1 => exact does_get hg hgl n
  | add a b ha hb iha ihb => exact does_add hg hgl a b ha hb iha ihb
  | mul a b ha hb iha ihb => exact does_mul hg hgl a b ha hb iha ihb
  | iff a b d ha hb hd iha ihb ihd => exact does_if hg hgl a b d ha hb hd iha ihb ihd
  | «at» n h0 h1 a ha iha => exact does_at hg hgl n h0 h1 a ha iha
end Go.Proofs.Ytgbjbpjmbghlbaa.G
end
section
namespace Go.Proofs.Ytgbjbpjmbghlbaa.G
open Go.RowKit Go.Proofs.YtgbjbpjmbghlbaaW.PrintWords Go.Proofs.YtgbjbpjmbghlbaaW.PrintLast Go.Proofs.YtgbjbpjmbghlbaaW.PrintMore
set_option linter.unusedVariables false
set_option linter.unusedSimpArgs false
def spec_l2Next.f (a0_0 : Int) (a0_1 : Int) (l0_2 : List Tk) (l1 : List Int) : Option (Int × Int × Bool) :=
  if fitT ⟨a0_0, a0_1, l0_2⟩ = true ∧ l1.all isVal = true ∧ l1.length ≤ 1000000 then some ((doT l1 ⟨a0_0, a0_1, l0_2⟩ 0 0).1, (doT l1 ⟨a0_0, a0_1, l0_2⟩ 0 0).2.2.2, (doT l1 ⟨a0_0, a0_1, l0_2⟩ 0 0).2.1) else none
theorem heapTk : Kd.Heap k30 := Kd.heap_fix (fun d hd => Kd.heap_iso _ (Kd.heap_pair (Kd.heap_int _) (Kd.heap_pair (Kd.heap_int _) (Kd.heap_slice _ hd))))
set_option maxHeartbeats 8000000 in
set_option maxRecDepth 100000 in
theorem spec_l2Next.calls (a0_0 : Int) (a0_1 : Int) (A0_2 : Option Addr) (c0_2 : Nat) (l0_2 : List Tk) (A1 : Option Addr) (c1 : Nat) (l1 : List Int) (r1 : Int) (r2 : Int) (r3 : Bool) (w : World) (hr0_2 : Kd.C k30 w A0_2 l0_2.length l0_2) (hc0_2 : l0_2.length ≤ c0_2) (hr1 : Kd.C (Kd.int .i64) w A1 l1.length l1) (hc1 : l1.length ≤ c1) (h : spec_l2Next.f a0_0 a0_1 l0_2 l1 = some (r1, r2, r3)) :
    Calls Try.prog 168 #[.agg #[.int .i64 a0_0, .int .i64 a0_1, .slice A0_2 l0_2.length c0_2], .slice A1 l1.length c1] w fun e w' => e = .returned (.tuple #[.int .i64 r1, .int .i64 r2, .bool r3]) ∧ Below w.heap.size w w' := by
  unfold spec_l2Next.f at h
  split at h
  case isFalse => cases h
  rename_i hg
  obtain ⟨hf, hv, hn⟩ := hg
  have hR := Option.some.inj h
  obtain rfl : (doT l1 ⟨a0_0, a0_1, l0_2⟩ 0 0).1 = r1 := congrArg (·.1) hR
  obtain rfl : (doT l1 ⟨a0_0, a0_1, l0_2⟩ 0 0).2.2.2 = r2 := congrArg (·.2.1) hR
  obtain rfl : (doT l1 ⟨a0_0, a0_1, l0_2⟩ 0 0).2.1 = r3 := congrArg (·.2.2) hR
  have hB1 : Below w.heap.size w (w.alloc (.cells #[.int .i64 a0_0, .int .i64 a0_1, .slice A0_2 l0_2.length c0_2] 30 (0, 0))) := below_alloc (Below.refl _ _) _
  have hI := IsS179.new w (w.alloc (.cells #[.int .i64 a0_0, .int .i64 a0_1, .slice A0_2 l0_2.length c0_2] 30 (0, 0))) A1 c1 l1 0 0 hB1 hr1
  have hB2 := below_alloc hB1 (.cells #[.slice A1 l1.length c1, .int .i64 0, .int .i64 0] 179 (0, 0))
  have HA := Aside0.mk (does (w0 := w) hv hn (fits_of _ hf) _ 0 0 A0_2 c0_2 hI hB2 (Kd.C_foot_came heapTk hr0_2 hB2 hI.ge) hc0_2 (Int.le_refl 0) (by omega))
  have hs : (w.alloc (.cells #[.int .i64 a0_0, .int .i64 a0_1, .slice A0_2 l0_2.length c0_2] 30 (0, 0))).heap.size = w.heap.size + 1 := by simp
  rw [hs] at HA
  have hu := Try.underlying30
  have hu2 := Try.underlying179
  clear h hR hI hB1 hB2 hf hv hn hr0_2 hc0_2 hr1 hc1 hs
  go_enter Try.func168, Try.ntmps168
  go_wp2_with ((go_at_call 176; (with_reducible refine HA.out.mono ?_); rintro e w2 ⟨rfl, i2, b2, k2⟩; obtain ⟨A0, c0, hb2, _, _⟩ := i2; have hq2 := (blk_cell hb2 2).trans rfl; have HB2 := Aside0.mk b2; clear b2 k2 hb2 HA))
  go_quiet (fail)
  go_wp2
  go_ret3
  exact ⟨rfl, pw_below_drewN HB2.out nq⟩
end Go.Proofs.Ytgbjbpjmbghlbaa.G
end
section
namespace Go.Proofs.Ytgbjbpjmbghlbaa.G
open Go.RowKit Go.Proofs.YtgbjbpjmbghlbaaW.PrintWords Go.Proofs.YtgbjbpjmbghlbaaW.PrintLast Go.Proofs.YtgbjbpjmbghlbaaW.PrintMore
attribute [local go_sem] max2_int min2_int max_two min_two max_three min_three max_four min_four
set_option linter.unusedVariables false
set_option linter.unusedSimpArgs false
def spec_TaskOk.f (k : Nat) (a0_0 : Int) (a0_1 : Int) (l0_2 : List (S30)) : Option (Bool) := (spec_l1Fit.f k a0_0 a0_1 l0_2).bind fun t116 => (if t116 = true then ((spec_l1Nodes.f k a0_0 a0_1 l0_2).bind fun t117 => (some (decide (t117 ≤ 15)))) else (some false))
set_option maxHeartbeats 8000000 in
set_option maxRecDepth 100000 in
theorem spec_TaskOk.calls (k : Nat) (a0_0 : Int) (a0_1 : Int) (A0_2 : Option Addr) (c0_2 : Nat) (l0_2 : List (S30)) (r : Bool) (w : World) (hr0_2 : Kd.C k30 w A0_2 l0_2.length l0_2) (hc0_2 : l0_2.length ≤ c0_2) (h : spec_TaskOk.f k a0_0 a0_1 l0_2 = some r) :
    Calls Try.prog 69 #[.agg #[.int .i64 a0_0, .int .i64 a0_1, .slice A0_2 l0_2.length c0_2]] w fun e w' => e = .returned (.bool r) ∧ Below w.heap.size w w' := by
  have hu30 := Try.underlying30
  have HR0_2 := Aside0.mk hr0_2
  have HC0_2 := Aside0.mk hc0_2
  clear hr0_2 hc0_2
  have HB := Aside0.mk (Below.refl w.heap.size w)
  have H : ((spec_l1Fit.f k a0_0 a0_1 l0_2).bind fun t116 => (if t116 = true then ((spec_l1Nodes.f k a0_0 a0_1 l0_2).bind fun t117 => (some (decide (t117 ≤ 15)))) else (some false))) = some r := h
  clear h
  replace H := Option.bind_eq_some_iff.mp H
  obtain ⟨t116, A20, H⟩ := H
  replace H : (if t116 = true then ((spec_l1Nodes.f k a0_0 a0_1 l0_2).bind fun t117 => (some (decide (t117 ≤ 15)))) else (some false)) = some r := H
  have A2 := Aside0.mk A20
  clear A20
  by_cases c3 : t116 = true
  · subst c3
    have H1 : ((spec_l1Nodes.f k a0_0 a0_1 l0_2).bind fun t117 => (some (decide (t117 ≤ 15)))) = some r := by rw [if_pos rfl] at H; exact H
    clear H
    have H := H1
    clear H1
    replace H := Option.bind_eq_some_iff.mp H
    obtain ⟨t117, A40, H⟩ := H
    replace H : (some (decide (t117 ≤ 15))) = some r := H
    have A4 := Aside0.mk A40
    clear A40
    obtain rfl := Option.some.inj H
    go_enter Try.func69, Try.ntmps69
    go_wp2_with (first | ((with_reducible refine gate_dst (N := 1) rfl ?_); refine box_event ?hg (N := 1) ?hd (cs := #[.int .i64 a0_0, .int .i64 a0_1, .slice A0_2 l0_2.length c0_2]) (t := 30) ?hr ?_; (case hd => rfl); (case hg => rfl); (case hr => first | (go_simp; done) | (go_simp; rfl)); intro gb115 hg w5 hbox hb; have n0_ := Aside0.mk (below_step (by repeat (first | (with_reducible first | exact HB.out | apply below_alloc | apply pw_below_drewN | apply below_drew1) | exact HB.out)) hb); have n1_ := Aside0.mk (hbox); have n2_ := Aside0.mk ((by rw [hg]; exact (below_size (by repeat (first | (with_reducible first | exact HB.out | apply below_alloc | apply pw_below_drewN | apply below_drew1) | exact HB.out))) : w.heap.size ≤ gb115)); have n3_ := Aside0.mk ((by rw [hg]; exact (below_size (by repeat (first | (with_reducible first | exact HB.out | apply below_alloc | apply pw_below_drewN | apply below_drew1) | exact HB.out))) : w.heap.size ≤ gb115)); clear HB; have HB := n0_; have BK115 := n1_; have GW115 := n2_; have GE115 := n3_; clear n0_ n1_ n2_ n3_; clear hb hbox hg; have hcz6_0 : w5.cell? ⟨gb115, 0, none⟩ = some (.int .i64 a0_0) := (blk_cell BK115.out 0).trans rfl; have hcz6_1 : w5.cell? ⟨gb115, 1, none⟩ = some (.int .i64 a0_1) := (blk_cell BK115.out 1).trans rfl; have hcz6_2 : w5.cell? ⟨gb115, 2, none⟩ = some (.slice A0_2 l0_2.length c0_2) := (blk_cell BK115.out 2).trans rfl; have hfz6_0 := blk_frozen BK115.out 0; have hfz6_1 := blk_frozen BK115.out 1; have hfz6_2 := blk_frozen BK115.out 2) | ((with_reducible refine gate_callee (f := 130) rfl ?_); refine goesL_ (some 4) rfl rfl Try.func130 (by kernel_rfl) rfl #[.agg #[.int .i64 a0_0, .int .i64 a0_1, .slice A0_2 l0_2.length c0_2]] rfl (by (try simp only [List.map_toArray, List.map_cons, List.map_nil]); first | done | rfl | (simp only [List.length_drop, List.length_take]; rfl)) ?_; (with_reducible refine (spec_l1Fit.calls k a0_0 a0_1 _ _ l0_2 true _ ?side1 ?side2 A2.out).mono ?_); (case side1 => repeat (first | exact (Kd.C_below HR0_2.out HB.out) | (with_reducible refine Kd.C_alloc ?_ _) | (with_reducible refine Kd.C_drewN ?_ _) | (with_reducible refine Kd.C_drew ?_))); (case side2 => exact HC0_2.out); rintro e w7 ⟨rfl, hb⟩; refine ⟨_, rfl, ?_⟩; have n0_ := Aside0.mk (blk_below (g := gb115) (o := .cells #[.int .i64 a0_0, .int .i64 a0_1, .slice A0_2 l0_2.length c0_2] 30 (0, 0)) (by (with_reducible repeat (first | refine blk_drewN ?_ _ | refine blk_drew ?_ | refine blk_alloc ?_ _)); exact BK115.out) hb); have n1_ := Aside0.mk (below_step (by repeat (first | (with_reducible first | exact HB.out | apply below_alloc | apply pw_below_drewN | apply below_drew1 | refine below_set ?_ GE115.out) | exact HB.out)) hb); clear BK115; clear HB; have BK115 := n0_; have HB := n1_; clear n0_ n1_; (try clear hb); (try clear hb2); (try clear hk); (try clear hi); have hcz8_0 : w7.cell? ⟨gb115, 0, none⟩ = some (.int .i64 a0_0) := (blk_cell BK115.out 0).trans rfl; have hcz8_1 : w7.cell? ⟨gb115, 1, none⟩ = some (.int .i64 a0_1) := (blk_cell BK115.out 1).trans rfl; have hcz8_2 : w7.cell? ⟨gb115, 2, none⟩ = some (.slice A0_2 l0_2.length c0_2) := (blk_cell BK115.out 2).trans rfl; have hfz8_0 := blk_frozen BK115.out 0; have hfz8_1 := blk_frozen BK115.out 1; have hfz8_2 := blk_frozen BK115.out 2) | (go_at_call 131; (with_reducible refine (spec_l1Nodes.calls k a0_0 a0_1 _ _ l0_2 t117 _ ?side1 ?side2 A4.out).mono ?_); (case side1 => repeat (first | exact (Kd.C_below HR0_2.out HB.out) | (with_reducible refine Kd.C_alloc ?_ _) | (with_reducible refine Kd.C_drewN ?_ _) | (with_reducible refine Kd.C_drew ?_))); (case side2 => exact HC0_2.out); rintro e w9 ⟨rfl, hb⟩; have n0_ := Aside0.mk (blk_below (g := gb115) (o := .cells #[.int .i64 a0_0, .int .i64 a0_1, .slice A0_2 l0_2.length c0_2] 30 (0, 0)) (by (with_reducible repeat (first | refine blk_drewN ?_ _ | refine blk_drew ?_ | refine blk_alloc ?_ _)); exact BK115.out) hb); have n1_ := Aside0.mk (below_step (by repeat (first | (with_reducible first | exact HB.out | apply below_alloc | apply pw_below_drewN | apply below_drew1 | refine below_set ?_ GE115.out) | exact HB.out)) hb); clear BK115; clear HB; have BK115 := n0_; have HB := n1_; clear n0_ n1_; (try clear hb); (try clear hb2); (try clear hk); (try clear hi)))
    go_ret
    exact ⟨by first | rfl | (simp [errW_none, errW_some] <;> rfl) | (simp [*, errW_none, errW_some] <;> rfl), by repeat (first | (with_reducible first | exact HB.out | apply below_alloc | apply pw_below_drewN | apply below_drew1 | refine below_set ?_ GE115.out) | exact HB.out)⟩
  · replace c3 := Bool.eq_false_iff.mpr c3
    subst c3
    have H1 : (some false) = some r := by rw [if_neg (show ¬ (false = true) by decide)] at H; exact H
    clear H
    have H := H1
    clear H1
    obtain rfl := Option.some.inj H
    go_enter Try.func69, Try.ntmps69
    go_wp2_with (first | ((with_reducible refine gate_dst (N := 1) rfl ?_); refine box_event ?hg (N := 1) ?hd (cs := #[.int .i64 a0_0, .int .i64 a0_1, .slice A0_2 l0_2.length c0_2]) (t := 30) ?hr ?_; (case hd => rfl); (case hg => rfl); (case hr => first | (go_simp; done) | (go_simp; rfl)); intro gb115 hg w10 hbox hb; have n0_ := Aside0.mk (below_step (by repeat (first | (with_reducible first | exact HB.out | apply below_alloc | apply pw_below_drewN | apply below_drew1) | exact HB.out)) hb); have n1_ := Aside0.mk (hbox); have n2_ := Aside0.mk ((by rw [hg]; exact (below_size (by repeat (first | (with_reducible first | exact HB.out | apply below_alloc | apply pw_below_drewN | apply below_drew1) | exact HB.out))) : w.heap.size ≤ gb115)); have n3_ := Aside0.mk ((by rw [hg]; exact (below_size (by repeat (first | (with_reducible first | exact HB.out | apply below_alloc | apply pw_below_drewN | apply below_drew1) | exact HB.out))) : w.heap.size ≤ gb115)); clear HB; have HB := n0_; have BK115 := n1_; have GW115 := n2_; have GE115 := n3_; clear n0_ n1_ n2_ n3_; clear hb hbox hg; have hcz11_0 : w10.cell? ⟨gb115, 0, none⟩ = some (.int .i64 a0_0) := (blk_cell BK115.out 0).trans rfl; have hcz11_1 : w10.cell? ⟨gb115, 1, none⟩ = some (.int .i64 a0_1) := (blk_cell BK115.out 1).trans rfl; have hcz11_2 : w10.cell? ⟨gb115, 2, none⟩ = some (.slice A0_2 l0_2.length c0_2) := (blk_cell BK115.out 2).trans rfl; have hfz11_0 := blk_frozen BK115.out 0; have hfz11_1 := blk_frozen BK115.out 1; have hfz11_2 := blk_frozen BK115.out 2) | ((with_reducible refine gate_callee (f := 130) rfl ?_); refine goesL_ (some 4) rfl rfl Try.func130 (by kernel_rfl) rfl #[.agg #[.int .i64 a0_0, .int .i64 a0_1, .slice A0_2 l0_2.length c0_2]] rfl (by (try simp only [List.map_toArray, List.map_cons, List.map_nil]); first | done | rfl | (simp only [List.length_drop, List.length_take]; rfl)) ?_; (with_reducible refine (spec_l1Fit.calls k a0_0 a0_1 _ _ l0_2 false _ ?side1 ?side2 A2.out).mono ?_); (case side1 => repeat (first | exact (Kd.C_below HR0_2.out HB.out) | (with_reducible refine Kd.C_alloc ?_ _) | (with_reducible refine Kd.C_drewN ?_ _) | (with_reducible refine Kd.C_drew ?_))); (case side2 => exact HC0_2.out); rintro e w12 ⟨rfl, hb⟩; refine ⟨_, rfl, ?_⟩; have n0_ := Aside0.mk (blk_below (g := gb115) (o := .cells #[.int .i64 a0_0, .int .i64 a0_1, .slice A0_2 l0_2.length c0_2] 30 (0, 0)) (by (with_reducible repeat (first | refine blk_drewN ?_ _ | refine blk_drew ?_ | refine blk_alloc ?_ _)); exact BK115.out) hb); have n1_ := Aside0.mk (below_step (by repeat (first | (with_reducible first | exact HB.out | apply below_alloc | apply pw_below_drewN | apply below_drew1 | refine below_set ?_ GE115.out) | exact HB.out)) hb); clear BK115; clear HB; have BK115 := n0_; have HB := n1_; clear n0_ n1_; (try clear hb); (try clear hb2); (try clear hk); (try clear hi)))
    go_ret
    exact ⟨by first | rfl | (simp [errW_none, errW_some] <;> rfl) | (simp [*, errW_none, errW_some] <;> rfl), by repeat (first | (with_reducible first | exact HB.out | apply below_alloc | apply pw_below_drewN | apply below_drew1 | refine below_set ?_ GE115.out) | exact HB.out)⟩
end Go.Proofs.Ytgbjbpjmbghlbaa.G
end
