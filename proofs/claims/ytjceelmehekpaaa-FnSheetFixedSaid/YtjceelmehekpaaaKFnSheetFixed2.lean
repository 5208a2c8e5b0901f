-- Written by pack.py (ours): the claim's texts, cut down to what its theorem reaches.
import Derived.Test.YtjceelmehekpaaaProg
import Derived.Test.YtjceelmehekpaaaKFnSheetFixed1
section
namespace Go.Proofs.Ytjceelmehekpaaa.G
open Go.RowKit Go.Proofs.YtjceelmehekpaaaW.PrintWords Go.Proofs.YtjceelmehekpaaaW.PrintLast Go.Proofs.YtjceelmehekpaaaW.PrintMore
attribute [local go_sem] max2_int min2_int max_two min_two max_three min_three max_four min_four
set_option linter.unusedVariables false
set_option linter.unusedSimpArgs false
def errW : Option Int → Value
  | none => .nilIface
  | some c => .iface 0 (.int .i64 c)
theorem errW_none : errW none = .nilIface := rfl
theorem errW_some (c : Int) : errW (some c) = .iface 0 (.int .i64 c) := rfl
theorem info4 : (Try.prog.info? 4).map (fun i => (i.zero, i.size, i.bytes)) = some (some (.bool false), 1, 1) := by kernel_rfl
theorem info5 : (Try.prog.info? 5).map (fun i => (i.zero, i.size, i.bytes)) = some (some (.int .u8 0), 1, 1) := by kernel_rfl
theorem info32 : (Try.prog.info? 32).map (fun i => (i.zero, i.size, i.bytes)) = some (some (.agg #[(.int .i64 0), (.int .i64 0), (.slice none 0 0)]), 3, 40) := by kernel_rfl
structure S32 where
  f0 : Int
  f1 : Int
  f2 : (List S32)
def z32 : S32 := ⟨(0 : Int), (0 : Int), ([] : List S32)⟩
def F32 (d : Kd S32) : Kd S32 := Kd.iso (Kd.pair (Kd.int .i64) (Kd.pair (Kd.int .i64) (Kd.slice 32 d))) (fun x : S32 => (x.f0, x.f1, x.f2))
theorem mono32 : Kd.Mono F32 := Kd.mono_iso _ (Kd.mono_pair (Kd.mono_const _) (Kd.mono_pair (Kd.mono_const _) (Kd.mono_slice 32 Kd.mono_id)))
theorem sub32 : Kd.Sub F32 [32] := Kd.sub_iso _ (Kd.sub_pair (Kd.sub_const _ (by decide)) (Kd.sub_pair (Kd.sub_const _ (by decide)) (Kd.sub_slice 32 (by decide) Kd.sub_id)))
theorem sz32 : ∀ n, (Kd.upto F32 3 [32] n).sz = 3 := Kd.upto_sz (fun _ => rfl)
def k32 : Kd S32 := Kd.fix F32 3 [32] sz32 (Kd.upto_E sub32)
theorem k32_open {w : World} {x : S32} {cs : List Value} (h : k32.K w x cs) : ∃ A2 c2, cs = [.int .i64 x.f0, .int .i64 x.f1, .slice A2 x.f2.length c2] ∧ x.f2.length ≤ c2 ∧ k32.C w A2 x.f2.length x.f2 := by
  obtain ⟨n, h⟩ := h
  cases n with
  | zero => exact h.elim
  | succ n =>
    obtain ⟨_, _, rfl, rfl, ⟨_, _, rfl, rfl, ⟨A2, c2, rfl, l2, g2⟩⟩⟩ := h
    exact ⟨A2, c2, rfl, l2, Kd.fix_C g2⟩
theorem k32_openM {w : World} {base : Nat} {ok : Nat → Prop} {x : S32} {cs : List Value} (h : k32.M w base ok x cs) : ∃ v2, cs = [.int .i64 x.f0, .int .i64 x.f1, v2] ∧ k32.R 32 w base ok v2 x.f2 := by
  obtain ⟨n, h⟩ := h
  cases n with
  | zero => exact h.elim
  | succ n =>
    obtain ⟨_, _, rfl, rfl, ⟨_, _, rfl, rfl, ⟨v2, rfl, g2⟩⟩⟩ := h
    exact ⟨v2, rfl, Kd.fix_R g2⟩
theorem k32_mk (w : World) (x : S32) {A2 : Option Addr} {c2 : Nat} (l2 : x.f2.length ≤ c2) (g2 : k32.C w A2 x.f2.length x.f2) : k32.K w x [.int .i64 x.f0, .int .i64 x.f1, .slice A2 x.f2.length c2] := by
  obtain ⟨n2, q2⟩ := Kd.fix_C_back mono32 g2
  have r2 := Kd.upto_C_le mono32 sz32 (show n2 ≤ n2 by omega) q2
  exact ⟨n2 + 1, ⟨[.int .i64 x.f0], [.int .i64 x.f1, .slice A2 x.f2.length c2], rfl, rfl, ⟨[.int .i64 x.f1], [.slice A2 x.f2.length c2], rfl, rfl, ⟨A2, c2, rfl, l2, r2⟩⟩⟩⟩
theorem k32_mkM (w : World) (base : Nat) (ok : Nat → Prop) (x : S32) {v2 : Value} (g2 : k32.R 32 w base ok v2 x.f2) : k32.M w base ok x [.int .i64 x.f0, .int .i64 x.f1, v2] := by
  obtain ⟨n2, q2⟩ := Kd.fix_R_back mono32 g2
  have r2 := Kd.upto_R_le mono32 sz32 (show n2 ≤ n2 by omega) q2
  exact ⟨n2 + 1, ⟨[.int .i64 x.f0], [.int .i64 x.f1, v2], rfl, rfl, ⟨[.int .i64 x.f1], [v2], rfl, rfl, ⟨v2, rfl, r2⟩⟩⟩⟩
theorem k32_openF {W : World} {ok : Nat → Prop} {x : S32} {cs : List Value} (h : Kd.FK k32 W ok x cs) : ∃ A2 c2, cs = [.int .i64 x.f0, .int .i64 x.f1, .slice A2 x.f2.length c2] ∧ x.f2.length ≤ c2 ∧ Kd.F k32 W ok A2 x.f2.length x.f2 := by
  obtain ⟨A2, c2, rfl, l2, _⟩ := k32_open (Kd.FK_now h)
  exact ⟨A2, c2, rfl, l2, (fun W' hW => by obtain ⟨A2_, c2_, he, l2_, g2_⟩ := k32_open (h W' hW); injection (Option.some.inj (show some (Value.slice A2 x.f2.length c2) = some (Value.slice A2_ x.f2.length c2_) from congrArg (fun l => l[2]?) he)) with ha_ _ _; rw [ha_]; exact g2_)⟩
theorem k32_mkF (W : World) (ok : Nat → Prop) (x : S32) {A2 : Option Addr} {c2 : Nat} (l2 : x.f2.length ≤ c2) (g2 : Kd.F k32 W ok A2 x.f2.length x.f2) : Kd.FK k32 W ok x [.int .i64 x.f0, .int .i64 x.f1, .slice A2 x.f2.length c2] := fun W2 hW => k32_mk W2 x l2 (g2 W2 hW)
def rd_T32 (xs : List S32) (i : Int) : S32 := xs.getD i.toNat z32
theorem at_T32 {w : World} {A : Option Addr} {n : Nat} {xs : List S32} (h : Kd.C k32 w A n xs) (i : Int) (h0 : 0 ≤ i) (h1 : i < n) : ∃ ad A2 c2, A = some ad ∧ w.cell? (ad.add (i.toNat * 3)) = some (.int .i64 (rd_T32 xs i).f0) ∧ w.cell? ⟨(ad.add (i.toNat * 3)).block, (ad.add (i.toNat * 3)).off + 1, none⟩ = some (.int .i64 (rd_T32 xs i).f1) ∧ w.cell? ⟨(ad.add (i.toNat * 3)).block, (ad.add (i.toNat * 3)).off + 2, none⟩ = some (.slice A2 (rd_T32 xs i).f2.length c2) ∧ (rd_T32 xs i).f2.length ≤ c2 ∧ k32.C w A2 (rd_T32 xs i).f2.length (rd_T32 xs i).f2 := by
  obtain ⟨ad, c, e, _, hK, hc0⟩ := Kd.C_get h z32 i h0 h1
  have hc : ∀ j u, c[j]? = some u → w.cell? (ad.add (i.toNat * 3 + j)) = some u := hc0
  obtain ⟨A2, c2, rfl, l2, g2⟩ := k32_open hK
  exact ⟨ad, A2, c2, e, hc 0 _ rfl, by rw [← add_field _ _ 1 (by omega)]; exact hc 1 _ rfl, by rw [← add_field _ _ 2 (by omega)]; exact hc 2 _ rfl, l2, g2⟩
end Go.Proofs.Ytjceelmehekpaaa.G
end
section
namespace Go.Proofs.Ytjceelmehekpaaa.G
open Go.RowKit Go.Proofs.YtjceelmehekpaaaW.PrintWords Go.Proofs.YtjceelmehekpaaaW.PrintLast Go.Proofs.YtjceelmehekpaaaW.PrintMore
attribute [local go_sem] max2_int min2_int max_two min_two max_three min_three max_four min_four
set_option linter.unusedVariables false
set_option linter.unusedSimpArgs false
mutual
def impl_Task_fixed.j0 : Nat → Bool → Int → Int → List (S32) → Option (Bool)
  | 0, _, _, _, _ => none
  | k + 1, x12, x309000, x309001, x309002 => if x12 = true then (some false) else (impl_Task_fixed.l0 k x309002 (x309002.length : Int) 0)
def impl_Task_fixed.l0 : Nat → List (S32) → Int → Int → Option (Bool)
  | 0, _, _, _ => none
  | k + 1, x14, x15, x16 => if x16 < x15 then (if 0 ≤ x16 then (if x16 < (x14.length : Int) then ((impl_Task_fixed.f k ((rd_T32 x14 x16).f0) ((rd_T32 x14 x16).f1) ((rd_T32 x14 x16).f2)).bind fun t311 => (if t311 = true then (impl_Task_fixed.l0 k x14 x15 (wrap64 (x16 + 1))) else (some false))) else (none)) else (none)) else (some true)
def impl_Task_fixed.f : Nat → Int → Int → List (S32) → Option (Bool)
  | 0, _, _, _ => none
  | k + 1, a0_0, a0_1, l0_2 => if a0_0 = 4 then (impl_Task_fixed.j0 k true a0_0 a0_1 l0_2) else (impl_Task_fixed.j0 k (a0_0 == 5) a0_0 a0_1 l0_2)
end
theorem impl_Task_fixed.mono_l : ∀ k, (∀ y0 y1 y2, LeO (impl_Task_fixed.f k y0 y1 y2) (impl_Task_fixed.f (k + 1) y0 y1 y2)) ∧ (∀ y0 y1 y2 y3, LeO (impl_Task_fixed.j0 k y0 y1 y2 y3) (impl_Task_fixed.j0 (k + 1) y0 y1 y2 y3)) ∧ (∀ y0 y1 y2, LeO (impl_Task_fixed.l0 k y0 y1 y2) (impl_Task_fixed.l0 (k + 1) y0 y1 y2))
  | 0 => ⟨fun _ _ _ r h => by simp [impl_Task_fixed.f] at h, fun _ _ _ _ r h => by simp [impl_Task_fixed.j0] at h, fun _ _ _ r h => by simp [impl_Task_fixed.l0] at h⟩
  | k + 1 => by
    obtain ⟨ih0, ih1, ih2⟩ := impl_Task_fixed.mono_l k
    refine ⟨?_, ?_, ?_⟩
    · intro y0 y1 y2
      unfold impl_Task_fixed.f
      repeat' first
      | (with_reducible exact ih0 _ _ _)
      | (with_reducible exact ih1 _ _ _ _)
      | (with_reducible exact ih2 _ _ _)
      | (with_reducible exact LeO.refl _)
      | (with_reducible exact LeO.none _)
      | (with_reducible refine LeO.ite ?_ ?_)
      | (with_reducible refine LeO.bind ?_ (fun _ => ?_))
      | exact ih0 _ _ _
      | exact ih1 _ _ _ _
      | exact ih2 _ _ _
      | exact LeO.none _
      | refine LeO.ite ?_ ?_
      | refine LeO.bind ?_ (fun _ => ?_)
    · intro y0 y1 y2 y3
      unfold impl_Task_fixed.j0
      repeat' first
      | (with_reducible exact ih0 _ _ _)
      | (with_reducible exact ih1 _ _ _ _)
      | (with_reducible exact ih2 _ _ _)
      | (with_reducible exact LeO.refl _)
      | (with_reducible exact LeO.none _)
      | (with_reducible refine LeO.ite ?_ ?_)
      | (with_reducible refine LeO.bind ?_ (fun _ => ?_))
      | exact ih0 _ _ _
      | exact ih1 _ _ _ _
      | exact ih2 _ _ _
      | exact LeO.none _
      | refine LeO.ite ?_ ?_
      | refine LeO.bind ?_ (fun _ => ?_)
    · intro y0 y1 y2
      unfold impl_Task_fixed.l0
      repeat' first
      | (with_reducible exact ih0 _ _ _)
      | (with_reducible exact ih1 _ _ _ _)
      | (with_reducible exact ih2 _ _ _)
      | (with_reducible exact LeO.refl _)
      | (with_reducible exact LeO.none _)
      | (with_reducible refine LeO.ite ?_ ?_)
      | (with_reducible refine LeO.bind ?_ (fun _ => ?_))
      | exact ih0 _ _ _
      | exact ih1 _ _ _ _
      | exact ih2 _ _ _
      | exact LeO.none _
      | refine LeO.ite ?_ ?_
      | refine LeO.bind ?_ (fun _ => ?_)
theorem impl_Task_fixed.mono : ∀ a0 a1 a2 k, LeO (impl_Task_fixed.f k a0 a1 a2) (impl_Task_fixed.f (k + 1) a0 a1 a2) := by
  intro a0 a1 a2 k
  obtain ⟨ih0, ih1, ih2⟩ := impl_Task_fixed.mono_l k
  exact ih0 a0 a1 a2
set_option maxHeartbeats 8000000 in
set_option maxRecDepth 100000 in
theorem impl_Task_fixed.calls (k : Nat) : ∀ (a0_0 : Int) (a0_1 : Int) (A0_2 : Option Addr) (c0_2 : Nat) (l0_2 : List (S32)) (r : Bool) (w : World) (hr0_2 : Kd.C k32 w A0_2 l0_2.length l0_2) (hc0_2 : l0_2.length ≤ c0_2) (h : impl_Task_fixed.f k a0_0 a0_1 l0_2 = some r),
    Calls Try.prog 38 #[.agg #[.int .i64 a0_0, .int .i64 a0_1, .slice A0_2 l0_2.length c0_2]] w fun e w' => e = .returned (.bool r) ∧ Below w.heap.size w w' := by
  induction k using Nat.strongRecOn with
  | _ k ih =>
  intro a0_0 a0_1 A0_2 c0_2 l0_2 r w hr0_2 hc0_2 h
  cases k with
  | zero => exact absurd h (by simp [impl_Task_fixed.f])
  | succ k =>
  simp only [impl_Task_fixed.f] at h
  have hu32 := Try.underlying32
  have HR0_2 := Aside0.mk hr0_2
  have HC0_2 := Aside0.mk hc0_2
  clear hr0_2 hc0_2
  have HB := Aside0.mk (Below.refl w.heap.size w)
  have H : (if a0_0 = 4 then (impl_Task_fixed.j0 k true a0_0 a0_1 l0_2) else (impl_Task_fixed.j0 k (a0_0 == 5) a0_0 a0_1 l0_2)) = some r := h
  clear h
  have HC2 := Aside0.mk H
  clear H
  go_enter Try.func38, Try.ntmps38
  go_upto_region 1 with (first | ((with_reducible refine gate_dst (N := 1) rfl ?_); refine box_event ?hg (N := 1) ?hd (cs := #[.int .i64 a0_0, .int .i64 a0_1, .slice A0_2 l0_2.length c0_2]) (t := 32) ?hr ?_; (case hd => rfl); (case hg => rfl); (case hr => first | (go_simp; done) | (go_simp; rfl)); intro gb308 hg w3 hbox hb; have n0_ := Aside0.mk (below_step (by repeat (first | (with_reducible first | exact HB.out | apply below_alloc | apply pw_below_drewN | apply below_drew1) | exact HB.out)) hb); have n1_ := Aside0.mk (hbox); have n2_ := Aside0.mk ((by rw [hg]; exact (below_size (by repeat (first | (with_reducible first | exact HB.out | apply below_alloc | apply pw_below_drewN | apply below_drew1) | exact HB.out))) : w.heap.size ≤ gb308)); have n3_ := Aside0.mk ((by rw [hg]; exact (below_size (by repeat (first | (with_reducible first | exact HB.out | apply below_alloc | apply pw_below_drewN | apply below_drew1) | exact HB.out))) : w.heap.size ≤ gb308)); clear HB; have HB := n0_; have BK308 := n1_; have GW308 := n2_; have GE308 := n3_; clear n0_ n1_ n2_ n3_; clear hb hbox hg))
  (try simp only [Act.put, List.setIfInBounds_toArray, List.set_cons_zero, List.set_cons_succ])
  go_cut [12] (fun v12 wc => ∃ (kq : Nat) (x12_1 : Bool), v12 = .bool x12_1 ∧ Aside0 (impl_Task_fixed.j0 kq x12_1 a0_0 a0_1 l0_2 = some r) ∧ Aside0 (kq ≤ k) ∧ Aside0 (wc.heap[gb308]? = some (.cells #[.int .i64 a0_0, .int .i64 a0_1, (.slice A0_2 l0_2.length c0_2)] 32 (0, 0))) ∧ Aside0 (Below w.heap.size w wc))
  case first =>
    have H := HC2.out
    clear HC2
    by_cases c4 : a0_0 = 4
    · rw [if_pos c4] at H
      have c4b0 : (a0_0 == 4) = true := beq_iff_eq.mpr c4
      have c4b1 : (a0_0 != 4) = false := bne_eq_false_iff_eq.mpr c4
      clear c4
      (first | rw [c4b0] | (simp only [i64_w, i32_w]; rw [c4b0]) | skip)
      have H' := Aside0.mk H
      clear H
      have hcz5_0 : w3.cell? ⟨gb308, 0, none⟩ = some (.int .i64 a0_0) := (blk_cell BK308.out 0).trans rfl
      have hcz5_1 : w3.cell? ⟨gb308, 1, none⟩ = some (.int .i64 a0_1) := (blk_cell BK308.out 1).trans rfl
      have hcz5_2 : w3.cell? ⟨gb308, 2, none⟩ = some (.slice A0_2 l0_2.length c0_2) := (blk_cell BK308.out 2).trans rfl
      have hfz5_0 := blk_frozen BK308.out 0
      have hfz5_1 := blk_frozen BK308.out 1
      have hfz5_2 := blk_frozen BK308.out 2
      go_wp2
      go_meet
      case rel => exact ⟨_, (true), (by first | rfl | (simp; done) | (simp [*]; done)), H', ⟨by first | omega | exact Nat.le_refl _⟩, ⟨by (with_reducible repeat (first | refine blk_drewN ?_ _ | refine blk_drew ?_ | refine blk_alloc ?_ _)); exact BK308.out⟩, ⟨by repeat (first | (with_reducible first | exact HB.out | apply below_alloc | apply pw_below_drewN | apply below_drew1 | refine below_set ?_ GE308.out) | exact HB.out)⟩⟩
    · rw [if_neg c4] at H
      have c4b0 : (a0_0 == 4) = false := beq_eq_false_iff_ne.mpr c4
      have c4b1 : (a0_0 != 4) = true := bne_iff_ne.mpr c4
      (first | rw [c4b0] | (simp only [i64_w, i32_w]; rw [c4b0]) | skip)
      have H' := Aside0.mk H
      clear H
      have hcz6_0 : w3.cell? ⟨gb308, 0, none⟩ = some (.int .i64 a0_0) := (blk_cell BK308.out 0).trans rfl
      have hcz6_1 : w3.cell? ⟨gb308, 1, none⟩ = some (.int .i64 a0_1) := (blk_cell BK308.out 1).trans rfl
      have hcz6_2 : w3.cell? ⟨gb308, 2, none⟩ = some (.slice A0_2 l0_2.length c0_2) := (blk_cell BK308.out 2).trans rfl
      have hfz6_0 := blk_frozen BK308.out 0
      have hfz6_1 := blk_frozen BK308.out 1
      have hfz6_2 := blk_frozen BK308.out 2
      go_wp2
      go_meet
      case rel => exact ⟨_, ((a0_0 == 5)), (by first | rfl | (simp; done) | (simp [*]; done)), H', ⟨by first | omega | exact Nat.le_refl _⟩, ⟨by (with_reducible repeat (first | refine blk_drewN ?_ _ | refine blk_drew ?_ | refine blk_alloc ?_ _)); exact BK308.out⟩, ⟨by repeat (first | (with_reducible first | exact HB.out | apply below_alloc | apply pw_below_drewN | apply below_drew1 | refine below_set ?_ GE308.out) | exact HB.out)⟩⟩
  case rest =>
    clear HC2
    try clear p2
    try clear c3
    try clear c4
    try clear c4b0
    try clear c4b1
    try clear hcz5_0
    try clear hcz5_1
    try clear hcz5_2
    try clear hcz6_0
    try clear hcz6_1
    try clear hcz6_2
    try clear hfz5_0
    try clear hfz5_1
    try clear hfz5_2
    try clear hfz6_0
    try clear hfz6_1
    try clear hfz6_2
    obtain ⟨kq, x12_1, rfl, HA, HJ1, BK308, HB⟩ := hcut
    cases kq with
    | zero => exact absurd HA.out (by simp [impl_Task_fixed.j0])
    | succ kj1 =>
      have H := HA.out
      clear HA
      simp only [impl_Task_fixed.j0] at H
      by_cases c7 : x12_1 = true
      · subst c7
        have H1 : (some false) = some r := by rw [if_pos rfl] at H; exact H
        clear H
        have H := H1
        clear H1
        obtain rfl := Option.some.inj H
        go_wp2
        go_ret
        exact ⟨by first | rfl | (simp [errW_none, errW_some] <;> rfl) | (simp [*, errW_none, errW_some] <;> rfl), by repeat (first | (with_reducible first | exact HB.out | apply below_alloc | apply pw_below_drewN | apply below_drew1 | refine below_set ?_ GE308.out) | exact HB.out)⟩
      · replace c7 := Bool.eq_false_iff.mpr c7
        subst c7
        have H1 : (impl_Task_fixed.l0 kj1 l0_2 (l0_2.length : Int) 0) = some r := by rw [if_neg (show ¬ (false = true) by decide)] at H; exact H
        clear H
        have H := H1
        clear H1
        have H' := Aside0.mk H
        clear H
        have hcz8_0 : wc.cell? ⟨gb308, 0, none⟩ = some (.int .i64 a0_0) := (blk_cell BK308.out 0).trans rfl
        have hcz8_1 : wc.cell? ⟨gb308, 1, none⟩ = some (.int .i64 a0_1) := (blk_cell BK308.out 1).trans rfl
        have hcz8_2 : wc.cell? ⟨gb308, 2, none⟩ = some (.slice A0_2 l0_2.length c0_2) := (blk_cell BK308.out 2).trans rfl
        have hfz8_0 := blk_frozen BK308.out 0
        have hfz8_1 := blk_frozen BK308.out 1
        have hfz8_2 := blk_frozen BK308.out 2
        go_wp2
        go_loopg [16] kj1 (fun kq v16 w' => ∃ (x16_2 : Int), v16 = .int .i64 x16_2 ∧ Aside0 (impl_Task_fixed.l0 kq l0_2 (l0_2.length : Int) x16_2 = some r) ∧ Aside0 (kq ≤ kj1) ∧ Aside0 (w'.heap[gb308]? = some (.cells #[.int .i64 a0_0, .int .i64 a0_1, (.slice A0_2 l0_2.length c0_2)] 32 (0, 0))) ∧ Aside0 (Below w.heap.size w w'))
        case atStart => exact ⟨(0), (by first | rfl | (simp; done) | (simp [*]; done)), H', ⟨Nat.le_refl _⟩, ⟨by (with_reducible repeat (first | refine blk_drewN ?_ _ | refine blk_drew ?_ | refine blk_alloc ?_ _)); exact BK308.out⟩, ⟨by repeat (first | (with_reducible first | exact HB.out | apply below_alloc | apply pw_below_drewN | apply below_drew1 | refine below_set ?_ GE308.out) | exact HB.out)⟩⟩
        case round =>
          clear H'
          try clear p2
          try clear c3
          try clear c4
          try clear c4b0
          try clear c4b1
          try clear c7
          try clear hcz5_0
          try clear hcz5_1
          try clear hcz5_2
          try clear hcz6_0
          try clear hcz6_1
          try clear hcz6_2
          try clear hcz8_0
          try clear hcz8_1
          try clear hcz8_2
          try clear hfz5_0
          try clear hfz5_1
          try clear hfz5_2
          try clear hfz6_0
          try clear hfz6_1
          try clear hfz6_2
          try clear hfz8_0
          try clear hfz8_1
          try clear hfz8_2
          try clear p2
          obtain ⟨x16_2, rfl, HA, HK2, BK308, HB⟩ := hrel
          cases gk with
          | zero => exact absurd HA.out (by simp [impl_Task_fixed.l0])
          | succ k2 =>
            have H := HA.out
            clear HA
            simp only [impl_Task_fixed.l0] at H
            by_cases c9 : x16_2 < (l0_2.length : Int)
            · rw [if_pos c9] at H
              have c9b0 : decide (x16_2 < (l0_2.length : Int)) = true := decide_eq_true c9
              clear c9
              by_cases c10 : 0 ≤ x16_2
              · rw [if_pos c10] at H
                have c10b0 : decide (0 ≤ x16_2) = true := decide_eq_true c10
                clear c10
                by_cases c11 : x16_2 < (l0_2.length : Int)
                · rw [if_pos c11] at H
                  have c11b0 : decide (x16_2 < (l0_2.length : Int)) = true := decide_eq_true c11
                  clear c11
                  replace H := Option.bind_eq_some_iff.mp H
                  obtain ⟨t311, A120, H⟩ := H
                  replace H : (if t311 = true then (impl_Task_fixed.l0 k2 l0_2 (l0_2.length : Int) (wrap64 (x16_2 + 1))) else (some false)) = some r := H
                  have A12 := Aside0.mk A120
                  clear A120
                  by_cases c13 : t311 = true
                  · subst c13
                    have H1 : (impl_Task_fixed.l0 k2 l0_2 (l0_2.length : Int) (wrap64 (x16_2 + 1))) = some r := by rw [if_pos rfl] at H; exact H
                    clear H
                    have H := H1
                    clear H1
                    have H' := Aside0.mk H
                    clear H
                    have p309 : 0 ≤ (x16_2 : Int) := of_decide_eq_true (by first | (with_reducible assumption) | assumption)
                    have q309 : x16_2 < (l0_2.length : Int) := of_decide_eq_true (by first | (with_reducible assumption) | assumption)
                    obtain ⟨ad309, A309_2, c309_2, e309, hx309_0, hx309_1, hx309_2, hl309_2, hi309_2⟩ := at_T32 HR0_2.out x16_2 p309 q309
                    cases e309
                    replace hx309_0 := (HB.out.cell (World.block_lt_of_cell? w _ hx309_0)).trans hx309_0
                    replace hx309_1 := (HB.out.cell (World.block_lt_of_cell? w _ hx309_1)).trans hx309_1
                    replace hx309_2 := (HB.out.cell (World.block_lt_of_cell? w _ hx309_2)).trans hx309_2
                    have HR309_2 := Aside0.mk hi309_2
                    have HC309_2 := Aside0.mk hl309_2
                    clear hi309_2 hl309_2
                    replace p309 := eq_true p309
                    replace q309 := eq_true q309
                    go_wp2_with (first | ((with_reducible refine gate_dst (N := 4) rfl ?_); refine box_event ?hg (N := 4) ?hd (cs := #[.int .i64 0, .int .i64 0, .slice none 0 0]) (t := 32) ?hr ?_; (case hd => rfl); (case hg => rfl); (case hr => first | (go_simp; done) | (go_simp; rfl)); intro gb310 hg w14 hbox hb; have n0_ := Aside0.mk (blk_below (g := gb308) (o := .cells #[.int .i64 a0_0, .int .i64 a0_1, .slice (some ad309) l0_2.length c0_2] 32 (0, 0)) (by (with_reducible repeat (first | refine blk_drewN ?_ _ | refine blk_drew ?_ | refine blk_alloc ?_ _)); exact BK308.out) hb); have n1_ := Aside0.mk (below_step (by repeat (first | (with_reducible first | exact HB.out | apply below_alloc | apply pw_below_drewN | apply below_drew1 | refine below_set ?_ GE308.out) | exact HB.out)) hb); have n2_ := Aside0.mk (hbox); have n3_ := Aside0.mk ((by rw [hg]; exact (below_size (by repeat (first | (with_reducible first | exact HB.out | apply below_alloc | apply pw_below_drewN | apply below_drew1 | refine below_set ?_ GE308.out) | exact HB.out))) : w.heap.size ≤ gb310)); have n4_ := Aside0.mk ((by rw [hg]; exact (below_size (by repeat (first | (with_reducible first | exact HB.out | apply below_alloc | apply pw_below_drewN | apply below_drew1 | refine below_set ?_ GE308.out) | exact HB.out))) : w.heap.size ≤ gb310)); have n5_ := Aside0.mk ((by rw [hg]; exact Nat.ne_of_lt (blk_lt (g := gb308) (o := .cells #[.int .i64 a0_0, .int .i64 a0_1, .slice (some ad309) l0_2.length c0_2] 32 (0, 0)) (by (with_reducible repeat (first | refine blk_drewN ?_ _ | refine blk_drew ?_ | refine blk_alloc ?_ _)); exact BK308.out)) : gb308 ≠ gb310)); have n6_ := Aside0.mk ((by rw [hg]; exact Nat.ne_of_gt (blk_lt (g := gb308) (o := .cells #[.int .i64 a0_0, .int .i64 a0_1, .slice (some ad309) l0_2.length c0_2] 32 (0, 0)) (by (with_reducible repeat (first | refine blk_drewN ?_ _ | refine blk_drew ?_ | refine blk_alloc ?_ _)); exact BK308.out)) : gb310 ≠ gb308)); clear BK308; clear HB; have BK308 := n0_; have HB := n1_; have BK310 := n2_; have GW310 := n3_; have GE310 := n4_; have NB308_310 := n5_; have NB310_308 := n6_; clear n0_ n1_ n2_ n3_ n4_ n5_ n6_; clear hb hbox hg; have hnb15 := NB310_308.out; have hnc15 := NB308_310.out; have hcz16_0 : w14.cell? ⟨gb310, 0, none⟩ = some (.int .i64 0) := (blk_cell BK310.out 0).trans rfl; have hcz16_1 : w14.cell? ⟨gb310, 1, none⟩ = some (.int .i64 0) := (blk_cell BK310.out 1).trans rfl; have hcz16_2 : w14.cell? ⟨gb310, 2, none⟩ = some (.slice none 0 0) := (blk_cell BK310.out 2).trans rfl; have hfz16_0 := blk_frozen BK310.out 0; have hfz16_1 := blk_frozen BK310.out 1; have hfz16_2 := blk_frozen BK310.out 2) | ((with_reducible refine gate_callee (f := 38) rfl ?_); refine goesL_ (some 21) rfl rfl Try.func38 (by kernel_rfl) rfl #[.agg #[.int .i64 ((rd_T32 l0_2 x16_2).f0), .int .i64 ((rd_T32 l0_2 x16_2).f1), .slice A309_2 ((rd_T32 l0_2 x16_2).f2).length c309_2]] rfl (by (try simp only [List.map_toArray, List.map_cons, List.map_nil]); first | done | rfl | (simp only [List.length_drop, List.length_take]; rfl)) ?_; (with_reducible refine (ih k2 (by have := HJ1.out; have := HK2.out; omega) ((rd_T32 l0_2 x16_2).f0) ((rd_T32 l0_2 x16_2).f1) _ _ ((rd_T32 l0_2 x16_2).f2) true _ ?side1 ?side2 A12.out).mono ?_); (case side1 => exact Kd.C_below HR309_2.out (by repeat (first | (with_reducible first | exact HB.out | apply below_alloc | apply pw_below_drewN | apply below_drew1 | refine below_set ?_ GE308.out | refine below_set ?_ GE310.out) | exact HB.out))); (case side2 => exact HC309_2.out); rintro e w17 ⟨rfl, hb⟩; refine ⟨_, rfl, ?_⟩; have n0_ := Aside0.mk (blk_below (g := gb308) (o := .cells #[.int .i64 a0_0, .int .i64 a0_1, .slice (some ad309) l0_2.length c0_2] 32 (0, 0)) (by (with_reducible repeat (first | refine blk_drewN ?_ _ | refine blk_drew ?_ | refine blk_alloc ?_ _)); refine blk_far ?_ NB308_310.out _; (with_reducible repeat (first | refine blk_drewN ?_ _ | refine blk_drew ?_ | refine blk_alloc ?_ _)); refine blk_far ?_ NB308_310.out _; (with_reducible repeat (first | refine blk_drewN ?_ _ | refine blk_drew ?_ | refine blk_alloc ?_ _)); refine blk_far ?_ NB308_310.out _; (with_reducible repeat (first | refine blk_drewN ?_ _ | refine blk_drew ?_ | refine blk_alloc ?_ _)); exact BK308.out) hb); have n1_ := Aside0.mk (blk_below (g := gb310) (o := .cells #[.int .i64 ((rd_T32 l0_2 x16_2).f0), .int .i64 ((rd_T32 l0_2 x16_2).f1), .slice A309_2 ((rd_T32 l0_2 x16_2).f2).length c309_2] 32 (0, 0)) (by (with_reducible repeat (first | refine blk_drewN ?_ _ | refine blk_drew ?_ | refine blk_alloc ?_ _)); refine blk_put (cs := #[.int .i64 ((rd_T32 l0_2 x16_2).f0), .int .i64 ((rd_T32 l0_2 x16_2).f1), .slice none 0 0]) ?_ 2 _ rfl; (with_reducible repeat (first | refine blk_drewN ?_ _ | refine blk_drew ?_ | refine blk_alloc ?_ _)); refine blk_put (cs := #[.int .i64 ((rd_T32 l0_2 x16_2).f0), .int .i64 0, .slice none 0 0]) ?_ 1 _ rfl; (with_reducible repeat (first | refine blk_drewN ?_ _ | refine blk_drew ?_ | refine blk_alloc ?_ _)); refine blk_put (cs := #[.int .i64 0, .int .i64 0, .slice none 0 0]) ?_ 0 _ rfl; (with_reducible repeat (first | refine blk_drewN ?_ _ | refine blk_drew ?_ | refine blk_alloc ?_ _)); exact BK310.out) hb); have n2_ := Aside0.mk (below_step (by repeat (first | (with_reducible first | exact HB.out | apply below_alloc | apply pw_below_drewN | apply below_drew1 | refine below_set ?_ GE308.out | refine below_set ?_ GE310.out) | exact HB.out)) hb); clear BK308; clear BK310; clear HB; have BK308 := n0_; have BK310 := n1_; have HB := n2_; clear n0_ n1_ n2_; (try clear hb); (try clear hb2); (try clear hk); (try clear hi)))
                    go_roundg k2
                    case measure => have := HJ1.out; have := HK2.out; omega
                    case rel => exact ⟨(wrap64 (x16_2 + 1)), (by first | rfl | (simp; done) | (simp [*]; done)), H', ⟨by have := HJ1.out; have := HK2.out; omega⟩, ⟨by (with_reducible repeat (first | refine blk_drewN ?_ _ | refine blk_drew ?_ | refine blk_alloc ?_ _)); exact BK308.out⟩, ⟨by repeat (first | (with_reducible first | exact HB.out | apply below_alloc | apply pw_below_drewN | apply below_drew1 | refine below_set ?_ GE308.out | refine below_set ?_ GE310.out) | exact HB.out)⟩⟩
                  · replace c13 := Bool.eq_false_iff.mpr c13
                    subst c13
                    have H1 : (some false) = some r := by rw [if_neg (show ¬ (false = true) by decide)] at H; exact H
                    clear H
                    have H := H1
                    clear H1
                    obtain rfl := Option.some.inj H
                    have p309 : 0 ≤ (x16_2 : Int) := of_decide_eq_true (by first | (with_reducible assumption) | assumption)
                    have q309 : x16_2 < (l0_2.length : Int) := of_decide_eq_true (by first | (with_reducible assumption) | assumption)
                    obtain ⟨ad309, A309_2, c309_2, e309, hx309_0, hx309_1, hx309_2, hl309_2, hi309_2⟩ := at_T32 HR0_2.out x16_2 p309 q309
                    cases e309
                    replace hx309_0 := (HB.out.cell (World.block_lt_of_cell? w _ hx309_0)).trans hx309_0
                    replace hx309_1 := (HB.out.cell (World.block_lt_of_cell? w _ hx309_1)).trans hx309_1
                    replace hx309_2 := (HB.out.cell (World.block_lt_of_cell? w _ hx309_2)).trans hx309_2
                    have HR309_2 := Aside0.mk hi309_2
                    have HC309_2 := Aside0.mk hl309_2
                    clear hi309_2 hl309_2
                    replace p309 := eq_true p309
                    replace q309 := eq_true q309
                    go_wp2_with (first | ((with_reducible refine gate_dst (N := 4) rfl ?_); refine box_event ?hg (N := 4) ?hd (cs := #[.int .i64 0, .int .i64 0, .slice none 0 0]) (t := 32) ?hr ?_; (case hd => rfl); (case hg => rfl); (case hr => first | (go_simp; done) | (go_simp; rfl)); intro gb310 hg w18 hbox hb; have n0_ := Aside0.mk (blk_below (g := gb308) (o := .cells #[.int .i64 a0_0, .int .i64 a0_1, .slice (some ad309) l0_2.length c0_2] 32 (0, 0)) (by (with_reducible repeat (first | refine blk_drewN ?_ _ | refine blk_drew ?_ | refine blk_alloc ?_ _)); exact BK308.out) hb); have n1_ := Aside0.mk (below_step (by repeat (first | (with_reducible first | exact HB.out | apply below_alloc | apply pw_below_drewN | apply below_drew1 | refine below_set ?_ GE308.out) | exact HB.out)) hb); have n2_ := Aside0.mk (hbox); have n3_ := Aside0.mk ((by rw [hg]; exact (below_size (by repeat (first | (with_reducible first | exact HB.out | apply below_alloc | apply pw_below_drewN | apply below_drew1 | refine below_set ?_ GE308.out) | exact HB.out))) : w.heap.size ≤ gb310)); have n4_ := Aside0.mk ((by rw [hg]; exact (below_size (by repeat (first | (with_reducible first | exact HB.out | apply below_alloc | apply pw_below_drewN | apply below_drew1 | refine below_set ?_ GE308.out) | exact HB.out))) : w.heap.size ≤ gb310)); have n5_ := Aside0.mk ((by rw [hg]; exact Nat.ne_of_lt (blk_lt (g := gb308) (o := .cells #[.int .i64 a0_0, .int .i64 a0_1, .slice (some ad309) l0_2.length c0_2] 32 (0, 0)) (by (with_reducible repeat (first | refine blk_drewN ?_ _ | refine blk_drew ?_ | refine blk_alloc ?_ _)); exact BK308.out)) : gb308 ≠ gb310)); have n6_ := Aside0.mk ((by rw [hg]; exact Nat.ne_of_gt (blk_lt (g := gb308) (o := .cells #[.int .i64 a0_0, .int .i64 a0_1, .slice (some ad309) l0_2.length c0_2] 32 (0, 0)) (by (with_reducible repeat (first | refine blk_drewN ?_ _ | refine blk_drew ?_ | refine blk_alloc ?_ _)); exact BK308.out)) : gb310 ≠ gb308)); clear BK308; clear HB; have BK308 := n0_; have HB := n1_; have BK310 := n2_; have GW310 := n3_; have GE310 := n4_; have NB308_310 := n5_; have NB310_308 := n6_; clear n0_ n1_ n2_ n3_ n4_ n5_ n6_; clear hb hbox hg; have hnb19 := NB310_308.out; have hnc19 := NB308_310.out; have hcz20_0 : w18.cell? ⟨gb310, 0, none⟩ = some (.int .i64 0) := (blk_cell BK310.out 0).trans rfl; have hcz20_1 : w18.cell? ⟨gb310, 1, none⟩ = some (.int .i64 0) := (blk_cell BK310.out 1).trans rfl; have hcz20_2 : w18.cell? ⟨gb310, 2, none⟩ = some (.slice none 0 0) := (blk_cell BK310.out 2).trans rfl; have hfz20_0 := blk_frozen BK310.out 0; have hfz20_1 := blk_frozen BK310.out 1; have hfz20_2 := blk_frozen BK310.out 2) | ((with_reducible refine gate_callee (f := 38) rfl ?_); refine goesL_ (some 21) rfl rfl Try.func38 (by kernel_rfl) rfl #[.agg #[.int .i64 ((rd_T32 l0_2 x16_2).f0), .int .i64 ((rd_T32 l0_2 x16_2).f1), .slice A309_2 ((rd_T32 l0_2 x16_2).f2).length c309_2]] rfl (by (try simp only [List.map_toArray, List.map_cons, List.map_nil]); first | done | rfl | (simp only [List.length_drop, List.length_take]; rfl)) ?_; (with_reducible refine (ih k2 (by have := HJ1.out; have := HK2.out; omega) ((rd_T32 l0_2 x16_2).f0) ((rd_T32 l0_2 x16_2).f1) _ _ ((rd_T32 l0_2 x16_2).f2) false _ ?side1 ?side2 A12.out).mono ?_); (case side1 => exact Kd.C_below HR309_2.out (by repeat (first | (with_reducible first | exact HB.out | apply below_alloc | apply pw_below_drewN | apply below_drew1 | refine below_set ?_ GE308.out | refine below_set ?_ GE310.out) | exact HB.out))); (case side2 => exact HC309_2.out); rintro e w21 ⟨rfl, hb⟩; refine ⟨_, rfl, ?_⟩; have n0_ := Aside0.mk (blk_below (g := gb308) (o := .cells #[.int .i64 a0_0, .int .i64 a0_1, .slice (some ad309) l0_2.length c0_2] 32 (0, 0)) (by (with_reducible repeat (first | refine blk_drewN ?_ _ | refine blk_drew ?_ | refine blk_alloc ?_ _)); refine blk_far ?_ NB308_310.out _; (with_reducible repeat (first | refine blk_drewN ?_ _ | refine blk_drew ?_ | refine blk_alloc ?_ _)); refine blk_far ?_ NB308_310.out _; (with_reducible repeat (first | refine blk_drewN ?_ _ | refine blk_drew ?_ | refine blk_alloc ?_ _)); refine blk_far ?_ NB308_310.out _; (with_reducible repeat (first | refine blk_drewN ?_ _ | refine blk_drew ?_ | refine blk_alloc ?_ _)); exact BK308.out) hb); have n1_ := Aside0.mk (blk_below (g := gb310) (o := .cells #[.int .i64 ((rd_T32 l0_2 x16_2).f0), .int .i64 ((rd_T32 l0_2 x16_2).f1), .slice A309_2 ((rd_T32 l0_2 x16_2).f2).length c309_2] 32 (0, 0)) (by (with_reducible repeat (first | refine blk_drewN ?_ _ | refine blk_drew ?_ | refine blk_alloc ?_ _)); refine blk_put (cs := #[.int .i64 ((rd_T32 l0_2 x16_2).f0), .int .i64 ((rd_T32 l0_2 x16_2).f1), .slice none 0 0]) ?_ 2 _ rfl; (with_reducible repeat (first | refine blk_drewN ?_ _ | refine blk_drew ?_ | refine blk_alloc ?_ _)); refine blk_put (cs := #[.int .i64 ((rd_T32 l0_2 x16_2).f0), .int .i64 0, .slice none 0 0]) ?_ 1 _ rfl; (with_reducible repeat (first | refine blk_drewN ?_ _ | refine blk_drew ?_ | refine blk_alloc ?_ _)); refine blk_put (cs := #[.int .i64 0, .int .i64 0, .slice none 0 0]) ?_ 0 _ rfl; (with_reducible repeat (first | refine blk_drewN ?_ _ | refine blk_drew ?_ | refine blk_alloc ?_ _)); exact BK310.out) hb); have n2_ := Aside0.mk (below_step (by repeat (first | (with_reducible first | exact HB.out | apply below_alloc | apply pw_below_drewN | apply below_drew1 | refine below_set ?_ GE308.out | refine below_set ?_ GE310.out) | exact HB.out)) hb); clear BK308; clear BK310; clear HB; have BK308 := n0_; have BK310 := n1_; have HB := n2_; clear n0_ n1_ n2_; (try clear hb); (try clear hb2); (try clear hk); (try clear hi)))
                    go_ret
                    exact ⟨by first | rfl | (simp [errW_none, errW_some] <;> rfl) | (simp [*, errW_none, errW_some] <;> rfl), by repeat (first | (with_reducible first | exact HB.out | apply below_alloc | apply pw_below_drewN | apply below_drew1 | refine below_set ?_ GE308.out | refine below_set ?_ GE310.out) | exact HB.out)⟩
                · rw [if_neg c11] at H
                  exact absurd H (by simp)
              · rw [if_neg c10] at H
                exact absurd H (by simp)
            · rw [if_neg c9] at H
              have c9b0 : decide (x16_2 < (l0_2.length : Int)) = false := decide_eq_false c9
              clear c9
              obtain rfl := Option.some.inj H
              go_wp2
              go_ret
              exact ⟨by first | rfl | (simp [errW_none, errW_some] <;> rfl) | (simp [*, errW_none, errW_some] <;> rfl), by repeat (first | (with_reducible first | exact HB.out | apply below_alloc | apply pw_below_drewN | apply below_drew1 | refine below_set ?_ GE308.out) | exact HB.out)⟩
def impl_SheetFixed_1.f (k : Nat) (a0_0 : Int) (a0_1 : Int) (l0_2 : List (S32)) : Option (Bool) := (impl_Task_fixed.f k a0_0 a0_1 l0_2).bind fun t313 => (some (!t313))
theorem impl_SheetFixed_1.mono : ∀ a0 a1 a2 k, LeO (impl_SheetFixed_1.f k a0 a1 a2) (impl_SheetFixed_1.f (k + 1) a0 a1 a2) := by
  intro a0 a1 a2 k
  unfold impl_SheetFixed_1.f
  repeat' first
      | (with_reducible exact impl_Task_fixed.mono _ _ _ _)
      | (with_reducible exact LeO.refl _)
      | (with_reducible exact LeO.none _)
      | (with_reducible refine LeO.ite ?_ ?_)
      | (with_reducible refine LeO.bind ?_ (fun _ => ?_))
      | exact impl_Task_fixed.mono _ _ _ _
      | exact LeO.none _
      | refine LeO.ite ?_ ?_
      | refine LeO.bind ?_ (fun _ => ?_)
set_option maxHeartbeats 8000000 in
set_option maxRecDepth 100000 in
theorem impl_SheetFixed_1.calls (k : Nat) (a0_0 : Int) (a0_1 : Int) (A0_2 : Option Addr) (c0_2 : Nat) (l0_2 : List (S32)) (r : Bool) (w : World) (hr0_2 : Kd.C k32 w A0_2 l0_2.length l0_2) (hc0_2 : l0_2.length ≤ c0_2) (h : impl_SheetFixed_1.f k a0_0 a0_1 l0_2 = some r) :
    Calls Try.prog 37 #[.agg #[.int .i64 a0_0, .int .i64 a0_1, .slice A0_2 l0_2.length c0_2]] w fun e w' => e = .returned (.bool r) ∧ Below w.heap.size w w' := by
  have hu32 := Try.underlying32
  have HR0_2 := Aside0.mk hr0_2
  have HC0_2 := Aside0.mk hc0_2
  clear hr0_2 hc0_2
  have HB := Aside0.mk (Below.refl w.heap.size w)
  have H : ((impl_Task_fixed.f k a0_0 a0_1 l0_2).bind fun t313 => (some (!t313))) = some r := h
  clear h
  replace H := Option.bind_eq_some_iff.mp H
  obtain ⟨t313, A20, H⟩ := H
  replace H : (some (!t313)) = some r := H
  have A2 := Aside0.mk A20
  clear A20
  obtain rfl := Option.some.inj H
  go_enter Try.func37, Try.ntmps37
  go_wp2_with (first | ((with_reducible refine gate_dst (N := 1) rfl ?_); refine box_event ?hg (N := 1) ?hd (cs := #[.int .i64 a0_0, .int .i64 a0_1, .slice A0_2 l0_2.length c0_2]) (t := 32) ?hr ?_; (case hd => rfl); (case hg => rfl); (case hr => first | (go_simp; done) | (go_simp; rfl)); intro gb312 hg w3 hbox hb; have n0_ := Aside0.mk (below_step (by repeat (first | (with_reducible first | exact HB.out | apply below_alloc | apply pw_below_drewN | apply below_drew1) | exact HB.out)) hb); have n1_ := Aside0.mk (hbox); have n2_ := Aside0.mk ((by rw [hg]; exact (below_size (by repeat (first | (with_reducible first | exact HB.out | apply below_alloc | apply pw_below_drewN | apply below_drew1) | exact HB.out))) : w.heap.size ≤ gb312)); have n3_ := Aside0.mk ((by rw [hg]; exact (below_size (by repeat (first | (with_reducible first | exact HB.out | apply below_alloc | apply pw_below_drewN | apply below_drew1) | exact HB.out))) : w.heap.size ≤ gb312)); clear HB; have HB := n0_; have BK312 := n1_; have GW312 := n2_; have GE312 := n3_; clear n0_ n1_ n2_ n3_; clear hb hbox hg; have hcz4_0 : w3.cell? ⟨gb312, 0, none⟩ = some (.int .i64 a0_0) := (blk_cell BK312.out 0).trans rfl; have hcz4_1 : w3.cell? ⟨gb312, 1, none⟩ = some (.int .i64 a0_1) := (blk_cell BK312.out 1).trans rfl; have hcz4_2 : w3.cell? ⟨gb312, 2, none⟩ = some (.slice A0_2 l0_2.length c0_2) := (blk_cell BK312.out 2).trans rfl; have hfz4_0 := blk_frozen BK312.out 0; have hfz4_1 := blk_frozen BK312.out 1; have hfz4_2 := blk_frozen BK312.out 2) | ((with_reducible refine gate_callee (f := 38) rfl ?_); refine goesL_ (some 4) rfl rfl Try.func38 (by kernel_rfl) rfl #[.agg #[.int .i64 a0_0, .int .i64 a0_1, .slice A0_2 l0_2.length c0_2]] rfl (by (try simp only [List.map_toArray, List.map_cons, List.map_nil]); first | done | rfl | (simp only [List.length_drop, List.length_take]; rfl)) ?_; (with_reducible refine (impl_Task_fixed.calls k a0_0 a0_1 _ _ l0_2 t313 _ ?side1 ?side2 A2.out).mono ?_); (case side1 => repeat (first | exact (Kd.C_below HR0_2.out HB.out) | (with_reducible refine Kd.C_alloc ?_ _) | (with_reducible refine Kd.C_drewN ?_ _) | (with_reducible refine Kd.C_drew ?_))); (case side2 => exact HC0_2.out); rintro e w5 ⟨rfl, hb⟩; refine ⟨_, rfl, ?_⟩; have n0_ := Aside0.mk (blk_below (g := gb312) (o := .cells #[.int .i64 a0_0, .int .i64 a0_1, .slice A0_2 l0_2.length c0_2] 32 (0, 0)) (by (with_reducible repeat (first | refine blk_drewN ?_ _ | refine blk_drew ?_ | refine blk_alloc ?_ _)); exact BK312.out) hb); have n1_ := Aside0.mk (below_step (by repeat (first | (with_reducible first | exact HB.out | apply below_alloc | apply pw_below_drewN | apply below_drew1 | refine below_set ?_ GE312.out) | exact HB.out)) hb); clear BK312; clear HB; have BK312 := n0_; have HB := n1_; clear n0_ n1_; (try clear hb); (try clear hb2); (try clear hk); (try clear hi)))
  go_ret
  exact ⟨by first | rfl | (simp [errW_none, errW_some] <;> rfl) | (simp [*, errW_none, errW_some] <;> rfl), by repeat (first | (with_reducible first | exact HB.out | apply below_alloc | apply pw_below_drewN | apply below_drew1 | refine below_set ?_ GE312.out) | exact HB.out)⟩
end Go.Proofs.Ytjceelmehekpaaa.G
end
section
namespace Go.Proofs.Ytjceelmehekpaaa.G
open Go.RowKit Go.Proofs.YtjceelmehekpaaaW.PrintWords Go.Proofs.YtjceelmehekpaaaW.PrintLast Go.Proofs.YtjceelmehekpaaaW.PrintMore
attribute [local go_sem] max2_int min2_int max_two min_two max_three min_three max_four min_four
set_option linter.unusedVariables false
set_option linter.unusedSimpArgs false
def IsS84 (w0 W : World) (g : Nat) (f0 : List Int) (f1 : Int) : Prop := ∃ A0 c0, W.heap[g]? = some (.cells #[.slice A0 f0.length c0, .int .i64 f1] 84 (0, 0)) ∧ w0.heap.size ≤ g ∧ Kd.C (Kd.int .u8) w0 A0 f0.length f0
theorem IsS84.grown {w0 W : World} {g : Nat} {f0 : List Int} {f1 : Int} {W1 : World} {row : Option Nat} (h : IsS84 w0 W g f0 f1) (hw : W.grownBy W1 row) (hne : some g ≠ row) : IsS84 w0 W1 g f0 f1 := by
  obtain ⟨A0, c0, hb, hg, hr0⟩ := h
  exact ⟨A0, c0, blk_grown hb hw hne, hg, hr0⟩
theorem IsS84.own_neN {w0 W : World} {g : Nat} {f0 : List Int} {f1 : Int} {α : Type} {d : Kd α} {e : Nat} {base : Nat} {ok : Nat → Prop} {v : Value} {xs : List α} (h : IsS84 w0 W g f0 f1) (ho : Kd.N d e W base ok v xs) (ht : e ≠ 84) : some g ≠ v.ownBlock := by
  obtain ⟨A0, c0, hb, hg, hr0⟩ := h
  exact Kd.N_ne ho hb ht
theorem IsS84.fresh {w0 W : World} {g : Nat} {f0 : List Int} {f1 : Int} (h : IsS84 w0 W g f0 f1) : ∀ k, W.heap.size ≤ k → k ≠ g := by
  obtain ⟨A0, c0, hb, hg, hr0⟩ := h
  exact Kd.freshB hb
theorem IsS84.kept {w0 W : World} {g : Nat} {f0 : List Int} {f1 : Int} {W1 : World} {S : Nat → Prop} (h : IsS84 w0 W g f0 f1) (hk : Kept W W1 S) (hne : ¬ S g) : IsS84 w0 W1 g f0 f1 := by
  obtain ⟨A0, c0, hb, hg, hr0⟩ := h
  exact ⟨A0, c0, blk_kept hb hk hne, hg, hr0⟩
theorem IsS84.below {w0 W : World} {g : Nat} {f0 : List Int} {f1 : Int} {W1 : World} (h : IsS84 w0 W g f0 f1) (hw : Below W.heap.size W W1) : IsS84 w0 W1 g f0 f1 := h.grown (grown_of_below hw none) (by simp)
theorem IsS84.alloc {w0 W : World} {g : Nat} {f0 : List Int} {f1 : Int} (h : IsS84 w0 W g f0 f1) (o : Obj) : IsS84 w0 (W.alloc o) g f0 f1 := h.below (below_alloc (Below.refl _ _) o)
theorem IsS84.drewN {w0 W : World} {g : Nat} {f0 : List Int} {f1 : Int} (h : IsS84 w0 W g f0 f1) (m : Nat) : IsS84 w0 (W.drewN m) g f0 f1 := h
theorem IsS84.drew {w0 W : World} {g : Nat} {f0 : List Int} {f1 : Int} (h : IsS84 w0 W g f0 f1) : IsS84 w0 W.drew g f0 f1 := h
theorem IsS84.at_ {w0 W : World} {g : Nat} {f0 : List Int} {f1 : Int} {w' : World} {m : Nat} (hq : W.drewN m = w') (h : IsS84 w0 W g f0 f1) : IsS84 w0 w' g f0 f1 := by subst hq; exact IsS84.drewN h m
theorem IsS84.apart {w0 W : World} {g : Nat} {f0 : List Int} {f1 : Int} {α : Type} {d : Kd α} {e : Nat} {base : Nat} {ok : Nat → Prop} {v : Value} {xs : List α} (h : IsS84 w0 W g f0 f1) (ho : d.R e W base ok v xs) (ht : ∀ q, q ∈ e :: d.E → q ≠ 84) : d.R e W base (fun k => ok k ∧ k ≠ g) v xs := by
  obtain ⟨A0, c0, hb, hg, hr0⟩ := h
  exact Kd.R_types ho hb ht
theorem IsS84.own_ne {w0 W : World} {g : Nat} {f0 : List Int} {f1 : Int} {α : Type} {d : Kd α} {e : Nat} {base : Nat} {ok : Nat → Prop} {v : Value} {xs : List α} (h : IsS84 w0 W g f0 f1) (ho : d.R e W base ok v xs) (ht : e ≠ 84) : some g ≠ v.ownBlock := by
  obtain ⟨A0, c0, hb, hg, hr0⟩ := h
  exact Kd.R_ne ho hb ht
theorem IsS84.lt {w0 W : World} {g : Nat} {f0 : List Int} {f1 : Int} (h : IsS84 w0 W g f0 f1) : g < W.heap.size := by
  obtain ⟨A0, c0, hb, hg, hr0⟩ := h
  exact blk_lt hb
theorem IsS84.ge {w0 W : World} {g : Nat} {f0 : List Int} {f1 : Int} (h : IsS84 w0 W g f0 f1) : w0.heap.size ≤ g := by
  obtain ⟨A0, c0, hb, hg, hr0⟩ := h
  exact hg
theorem IsS84.ne_blk {w0 W : World} {g : Nat} {f0 : List Int} {f1 : Int} {a : Nat} {cs : Array Value} {t : TypeId} {fr : Nat × Nat} (h : IsS84 w0 W g f0 f1) (hb2 : W.heap[a]? = some (.cells cs t fr)) (ht : t ≠ 84) : g ≠ a := by
  obtain ⟨A0, c0, hb, hg, hr0⟩ := h
  rintro rfl
  rw [hb] at hb2
  injection hb2 with hb2
  injection hb2 with _ ht2
  exact ht ht2.symm
theorem IsS84.far {w0 W : World} {g : Nat} {f0 : List Int} {f1 : Int} {p : Addr} (h : IsS84 w0 W g f0 f1) (hne : g ≠ p.block) (u : Value) : IsS84 w0 (W.setCell p u) g f0 f1 := by
  obtain ⟨A0, c0, hb, hg, hr0⟩ := h
  exact ⟨A0, c0, blk_far hb hne u, hg, hr0⟩
theorem cellS84_0 {W : World} {g : Nat} {A0 : Option Addr} {c0 : Nat} {f0 : List Int} {f1 : Int} (h : W.heap[g]? = some (.cells #[.slice A0 f0.length c0, .int .i64 f1] 84 (0, 0))) : W.cell? ⟨g, 0, none⟩ = some (.slice A0 f0.length c0) := (blk_cell h 0).trans rfl
theorem cellS84_1 {W : World} {g : Nat} {A0 : Option Addr} {c0 : Nat} {f0 : List Int} {f1 : Int} (h : W.heap[g]? = some (.cells #[.slice A0 f0.length c0, .int .i64 f1] 84 (0, 0))) : W.cell? ⟨g, 1, none⟩ = some (.int .i64 f1) := (blk_cell h 1).trans rfl
theorem IsS84.set_1 {w0 W : World} {g : Nat} {f0 : List Int} {f1 : Int} (h : IsS84 w0 W g f0 f1) (x : Int) : IsS84 w0 (W.setCell ⟨g, 1, none⟩ (.int .i64 x)) g f0 x := by
  obtain ⟨A0, c0, hb, hg, hr0⟩ := h
  exact ⟨A0, c0, by simpa using blk_set hb 1 (.int .i64 x), hg, hr0⟩
theorem IsS84.new (w0 W : World) (A0 : Option Addr) (c0 : Nat) (f0 : List Int) (f1 : Int) (hB : Below w0.heap.size w0 W) (hr0 : Kd.C (Kd.int .u8) w0 A0 f0.length f0) : IsS84 w0 (W.alloc (.cells #[.slice A0 f0.length c0, .int .i64 f1] 84)) W.heap.size f0 f1 := ⟨A0, c0, by simpa using heap_alloc_new W _, hB.size, hr0⟩
def spec_l6Open.f (l0 : List Int) : Option (List Int × Int) := if (l0.length : Int) > 2000 then (if 2000 ≤ (l0.length : Int) then (some (l0.take 2000, 0)) else (none)) else (some (l0, 0))
set_option maxHeartbeats 8000000 in
set_option maxRecDepth 100000 in
theorem spec_l6Open.calls (A0 : Option Addr) (c0 : Nat) (l0 : List Int) (r1 : List Int) (r2 : Int) (w0 w : World) (hB : Below w0.heap.size w0 w) (hr0 : Kd.C (Kd.int .u8) w0 A0 l0.length l0) (hc0 : l0.length ≤ c0) (h : spec_l6Open.f l0 = some (r1, r2)) :
    Calls Try.prog 31 #[.slice A0 l0.length c0] w fun e w' => ∃ g_ : Nat, e = .returned (.pointer (some ⟨g_, 0, none⟩)) ∧ IsS84 w0 w' g_ r1 r2 ∧ Below w0.heap.size w0 w' ∧ Below w.heap.size w w' := by
  have hu84 := Try.underlying84
  have HR0 := Aside0.mk hr0
  have HC0 := Aside0.mk hc0
  clear hr0 hc0
  have HBW := Aside0.mk (Below.refl w.heap.size w)
  have HW0 := Aside0.mk hB.size
  have HB := Aside0.mk hB
  clear hB
  have H : (if (l0.length : Int) > 2000 then (if 2000 ≤ (l0.length : Int) then (some (l0.take 2000, 0)) else (none)) else (some (l0, 0))) = some (r1, r2) := h
  clear h
  by_cases c2 : (l0.length : Int) > 2000
  · rw [if_pos c2] at H
    have c2b0 : decide (2000 < (l0.length : Int)) = true := decide_eq_true c2
    have c2b1 : decide (2000 < l0.length) = true := decide_eq_true (by omega)
    clear c2
    by_cases c3 : 2000 ≤ (l0.length : Int)
    · rw [if_pos c3] at H
      have c3b0 := eq_true c3
      have c3b1 : decide (2000 ≤ (l0.length : Int)) = true := decide_eq_true c3
      clear c3
      simp only [Option.some.injEq, Prod.mk.injEq] at H
      obtain ⟨rfl, rfl⟩ := H
      obtain ⟨i04, hi04, _, hsz4, _⟩ := info_parts info5
      obtain ⟨hcut4, hA4, hC4⟩ := print_take_of (P := Try.prog) (Value.int .u8) 0 22 5 .i64 Try.underlying22 hi04 hsz4 A0 c0 l0 2000 (by omega) (of_decide_eq_true (by first | (with_reducible assumption) | assumption)) HC0.out
      have HR101 := Aside0.mk (Kd.C_of_reads (h1 := fun _ => rfl) (hA4 _ (Kd.reads_of_C HR0.out)))
      have HC101 := Aside0.mk hC4
      clear hA4 hC4 hi04 hsz4
      go_enter Try.func31, Try.ntmps31
      go_wp2_with (first | ((with_reducible refine gate_dst (N := 10) rfl ?_); refine box_event ?hg (N := 10) ?hd (cs := #[.slice A0 (l0.take 2000).length c0, .int .i64 0]) (t := 84) ?hr ?_; (case hd => rfl); (case hg => rfl); (case hr => first | (go_simp; done) | (go_simp; rfl)); intro gb102 hg w5 hbox hb; have n0_ := Aside0.mk (below_step HBW.out hb); have n1_ := Aside0.mk (below_step (by repeat (first | (with_reducible first | exact HB.out | apply below_alloc | apply pw_below_drewN | apply below_drew1) | exact HB.out)) hb); have n2_ := Aside0.mk (hbox); have n3_ := Aside0.mk ((by rw [hg]; exact (below_size (by repeat (first | (with_reducible first | exact HBW.out | apply below_alloc | apply pw_below_drewN | apply below_drew1) | exact HBW.out))) : w.heap.size ≤ gb102)); have n4_ := Aside0.mk ((Nat.le_trans HW0.out (by rw [hg]; exact (below_size (by repeat (first | (with_reducible first | exact HBW.out | apply below_alloc | apply pw_below_drewN | apply below_drew1) | exact HBW.out))) : w.heap.size ≤ gb102) : w0.heap.size ≤ gb102)); clear HBW; clear HB; have HBW := n0_; have HB := n1_; have BK102 := n2_; have GW102 := n3_; have GE102 := n4_; clear n0_ n1_ n2_ n3_ n4_; clear hb hbox hg))
      go_ret
      exact ⟨_, rfl, (show IsS84 w0 _ gb102 (l0.take 2000) 0 from ⟨_, _, by (with_reducible repeat (first | refine blk_drewN ?_ _ | refine blk_drew ?_ | refine blk_alloc ?_ _)); exact BK102.out, GE102.out, HR101.out⟩), by repeat (first | (with_reducible first | exact HB.out | apply below_alloc | apply pw_below_drewN | apply below_drew1 | refine below_set ?_ GE102.out) | exact HB.out), by repeat (first | (with_reducible first | exact HBW.out | apply below_alloc | apply pw_below_drewN | apply below_drew1 | refine below_set ?_ GW102.out) | exact HBW.out)⟩
    · rw [if_neg c3] at H
      exact absurd H (by simp)
  · rw [if_neg c2] at H
    have c2b0 : decide (2000 < (l0.length : Int)) = false := decide_eq_false c2
    have c2b1 : decide (2000 < l0.length) = false := decide_eq_false (by omega)
    clear c2
    simp only [Option.some.injEq, Prod.mk.injEq] at H
    obtain ⟨rfl, rfl⟩ := H
    go_enter Try.func31, Try.ntmps31
    go_wp2_with (first | ((with_reducible refine gate_dst (N := 10) rfl ?_); refine box_event ?hg (N := 10) ?hd (cs := #[.slice A0 l0.length c0, .int .i64 0]) (t := 84) ?hr ?_; (case hd => rfl); (case hg => rfl); (case hr => first | (go_simp; done) | (go_simp; rfl)); intro gb103 hg w6 hbox hb; have n0_ := Aside0.mk (below_step HBW.out hb); have n1_ := Aside0.mk (below_step (by repeat (first | (with_reducible first | exact HB.out | apply below_alloc | apply pw_below_drewN | apply below_drew1) | exact HB.out)) hb); have n2_ := Aside0.mk (hbox); have n3_ := Aside0.mk ((by rw [hg]; exact (below_size (by repeat (first | (with_reducible first | exact HBW.out | apply below_alloc | apply pw_below_drewN | apply below_drew1) | exact HBW.out))) : w.heap.size ≤ gb103)); have n4_ := Aside0.mk ((Nat.le_trans HW0.out (by rw [hg]; exact (below_size (by repeat (first | (with_reducible first | exact HBW.out | apply below_alloc | apply pw_below_drewN | apply below_drew1) | exact HBW.out))) : w.heap.size ≤ gb103) : w0.heap.size ≤ gb103)); clear HBW; clear HB; have HBW := n0_; have HB := n1_; have BK103 := n2_; have GW103 := n3_; have GE103 := n4_; clear n0_ n1_ n2_ n3_ n4_; clear hb hbox hg))
    go_ret
    exact ⟨_, rfl, (show IsS84 w0 _ gb103 l0 0 from ⟨_, _, by (with_reducible repeat (first | refine blk_drewN ?_ _ | refine blk_drew ?_ | refine blk_alloc ?_ _)); exact BK103.out, GE103.out, HR0.out⟩), by repeat (first | (with_reducible first | exact HB.out | apply below_alloc | apply pw_below_drewN | apply below_drew1 | refine below_set ?_ GE103.out) | exact HB.out), by repeat (first | (with_reducible first | exact HBW.out | apply below_alloc | apply pw_below_drewN | apply below_drew1 | refine below_set ?_ GW103.out) | exact HBW.out)⟩
def spec_l6Rd_pick.j0 : Nat → Int → Bool → List Int → Int → Option (Int × Int)
  | 0, _, _, _, _ => none
  | k + 1, x1, x24, x1000, x1001 => if x24 = true then (some (0, x1001)) else (if (wrap64 (x1001 - 1)) < (x1000.length : Int) then (if 0 ≤ (wrap64 (x1001 - 1)) then (if x1 = 0 then (none) else (some (Int.tmod (wrap64 (rd x1000 (wrap64 (x1001 - 1)))) x1, x1001))) else (none)) else (if (x1000.length : Int) = 0 then (none) else (if 0 ≤ (Int.tmod (wrap64 (x1001 - 1)) (x1000.length : Int)) then (if (Int.tmod (wrap64 (x1001 - 1)) (x1000.length : Int)) < (x1000.length : Int) then (if 0 ≤ (Int.tmod (wrap64 ((wrap64 ((wrap64 (x1001 - 1)) * 7)) + 3)) (x1000.length : Int)) then (if (Int.tmod (wrap64 ((wrap64 ((wrap64 (x1001 - 1)) * 7)) + 3)) (x1000.length : Int)) < (x1000.length : Int) then (if x1 = 0 then (none) else (some (Int.tmod (Go.bits .xor .i64 (wrap64 ((wrap64 ((wrap64 ((wrap64 ((wrap64 (rd x1000 (Int.tmod (wrap64 (x1001 - 1)) (x1000.length : Int)))) * 131)) + (wrap64 ((wrap64 (rd x1000 (Int.tmod (wrap64 ((wrap64 ((wrap64 (x1001 - 1)) * 7)) + 3)) (x1000.length : Int)))) * 1117)))) + (wrap64 ((wrap64 (x1001 - 1)) * 29)))) + (wrap64 ((wrap64 (Int.tdiv (wrap64 (x1001 - 1)) (x1000.length : Int))) * 53)))) (wrap64 (Int.tdiv (wrap64 ((wrap64 ((wrap64 ((wrap64 ((wrap64 (rd x1000 (Int.tmod (wrap64 (x1001 - 1)) (x1000.length : Int)))) * 131)) + (wrap64 ((wrap64 (rd x1000 (Int.tmod (wrap64 ((wrap64 ((wrap64 (x1001 - 1)) * 7)) + 3)) (x1000.length : Int)))) * 1117)))) + (wrap64 ((wrap64 (x1001 - 1)) * 29)))) + (wrap64 ((wrap64 (Int.tdiv (wrap64 (x1001 - 1)) (x1000.length : Int))) * 53)))) 64))) x1, x1001))) else (none)) else (none)) else (none)) else (none))))
def spec_l6Rd_pick.f (k : Nat) (s0_0 : List Int) (s0_1 : Int) (a1 : Int) : Option (Int × Int) := if a1 < 1 then (spec_l6Rd_pick.j0 k a1 true s0_0 (wrap64 (s0_1 + 1))) else (spec_l6Rd_pick.j0 k a1 ((s0_0.length : Int) == 0) s0_0 (wrap64 (s0_1 + 1)))
set_option maxHeartbeats 8000000 in
set_option maxRecDepth 100000 in
theorem spec_l6Rd_pick.calls (k : Nat) (g : Nat) (s0_0 : List Int) (s0_1 : Int) (a1 : Int) (r1 : Int) (r2 : Int) (w0 w : World) (hI : IsS84 w0 w g s0_0 s0_1) (hB : Below w0.heap.size w0 w) (h : spec_l6Rd_pick.f k s0_0 s0_1 a1 = some (r1, r2)) :
    Calls Try.prog 33 #[.pointer (some ⟨g, 0, none⟩), .int .i64 a1] w fun e w' => e = .returned (.int .i64 r1) ∧ IsS84 w0 w' g s0_0 r2 ∧ Below w0.heap.size w0 w' ∧ KeepBut w w' g none := by
  have HI0 := Aside0.mk hI
  have HK := Aside0.mk (KeepBut.refl w g none)
  have HL := Aside0.mk hB.size
  clear hI
  have HW0 := Aside0.mk hB.size
  have HB := Aside0.mk hB
  clear hB
  have H : (if a1 < 1 then (spec_l6Rd_pick.j0 k a1 true s0_0 (wrap64 (s0_1 + 1))) else (spec_l6Rd_pick.j0 k a1 ((s0_0.length : Int) == 0) s0_0 (wrap64 (s0_1 + 1)))) = some (r1, r2) := h
  clear h
  have HC3 := Aside0.mk H
  clear H
  obtain ⟨ASz4_0, cSz4_0, HGz4, hgz4, HSz4_0⟩ := HI0.out
  have hcz4_0 := cellS84_0 HGz4
  have hcz4_1 := cellS84_1 HGz4
  have hfz4_1 := blk_frozen HGz4 1
  clear HGz4 hgz4
  go_enter Try.func33, Try.ntmps33
  go_upto_region 2 with (fail)
  repeat (go_quiet (fail); go_upto_region 2 with (fail))
  go_cut [24] (fun v24 wc => ∃ (kq : Nat) (x24_2 : Bool), v24 = .bool x24_2 ∧ Aside0 (spec_l6Rd_pick.j0 kq a1 x24_2 s0_0 (wrap64 (s0_1 + 1)) = some (r1, r2)) ∧ Aside0 (kq ≤ k) ∧ Aside0 (IsS84 w0 wc g s0_0 (wrap64 (s0_1 + 1))) ∧ Aside0 (KeepBut w wc g none) ∧ Aside0 (Below w0.heap.size w0 wc))
  case first =>
    have H := HC3.out
    clear HC3
    by_cases c5 : a1 < 1
    · rw [if_pos c5] at H
      have c5b0 : decide (a1 < 1) = true := decide_eq_true c5
      clear c5
      (first | rw [c5b0] | (simp only [i64_w, i32_w]; rw [c5b0]) | skip)
      have H' := Aside0.mk H
      clear H
      go_wp2
      repeat (go_quiet (fail); try go_wp2)
      go_meet
      case rel => exact ⟨_, (true), (by first | rfl | (simp; done) | (simp [*]; done)), H', ⟨by first | omega | exact Nat.le_refl _⟩, ⟨by repeat (first | (with_reducible first | exact HI0.out | apply IsS84.alloc | apply IsS84.drewN | apply IsS84.drew | apply IsS84.set_1) | exact HI0.out)⟩, ⟨by repeat (first | (with_reducible first | exact HK.out | apply KeepBut.set_ | apply keep_drewN | apply keep_drew | apply keep_alloc) | exact HK.out)⟩, ⟨by repeat (first | (with_reducible first | exact HB.out | apply below_alloc | apply pw_below_drewN | apply below_drew1 | refine below_set ?_ (IsS84.ge HI0.out)) | exact HB.out)⟩⟩
    · rw [if_neg c5] at H
      have c5b0 : decide (a1 < 1) = false := decide_eq_false c5
      clear c5
      (first | rw [c5b0] | (simp only [i64_w, i32_w]; rw [c5b0]) | skip)
      have H' := Aside0.mk H
      clear H
      obtain ⟨ASz6_0, cSz6_0, HGz6, hgz6, HSz6_0⟩ := HI0.out
      have hcz6_0 := cellS84_0 HGz6
      have hcz6_1 := cellS84_1 HGz6
      have hfz6_1 := blk_frozen HGz6 1
      clear HGz6 hgz6
      go_wp2
      repeat (go_quiet (fail); try go_wp2)
      go_meet
      case rel => exact ⟨_, (((s0_0.length : Int) == 0)), (by first | rfl | (simp; done) | (simp [*]; done)), H', ⟨by first | omega | exact Nat.le_refl _⟩, ⟨by repeat (first | (with_reducible first | exact HI0.out | apply IsS84.alloc | apply IsS84.drewN | apply IsS84.drew | apply IsS84.set_1) | exact HI0.out)⟩, ⟨by repeat (first | (with_reducible first | exact HK.out | apply KeepBut.set_ | apply keep_drewN | apply keep_drew | apply keep_alloc) | exact HK.out)⟩, ⟨by repeat (first | (with_reducible first | exact HB.out | apply below_alloc | apply pw_below_drewN | apply below_drew1 | refine below_set ?_ (IsS84.ge HI0.out)) | exact HB.out)⟩⟩
  case rest =>
    clear HC3
    try clear p2
    try clear c3
    try clear c5
    try clear c5b0
    try clear p6
    try clear hcz4_0
    try clear hcz4_1
    try clear hcz6_0
    try clear hcz6_1
    try clear hfz4_1
    try clear hfz6_1
    obtain ⟨kq, x24_2, rfl, HA, HJ2, HI0, HK, HB⟩ := hcut
    cases kq with
    | zero => exact absurd HA.out (by simp [spec_l6Rd_pick.j0])
    | succ kj2 =>
      have H := HA.out
      clear HA
      simp only [spec_l6Rd_pick.j0] at H
      by_cases c7 : x24_2 = true
      · subst c7
        have H1 : (some (0, (wrap64 (s0_1 + 1)))) = some (r1, r2) := by rw [if_pos rfl] at H; exact H
        clear H
        have H := H1
        clear H1
        simp only [Option.some.injEq, Prod.mk.injEq] at H
        obtain ⟨rfl, rfl⟩ := H
        go_wp2
        repeat (go_quiet (fail); try go_wp2)
        go_ret
        exact ⟨by first | rfl | (simp [errW_none, errW_some] <;> rfl) | (simp [*, errW_none, errW_some] <;> rfl), by repeat (first | (with_reducible first | exact HI0.out | apply IsS84.alloc | apply IsS84.drewN | apply IsS84.drew | apply IsS84.set_1) | exact HI0.out), by repeat (first | (with_reducible first | exact HB.out | apply below_alloc | apply pw_below_drewN | apply below_drew1 | refine below_set ?_ (IsS84.ge HI0.out)) | exact HB.out), by repeat (first | (with_reducible first | exact HK.out | apply KeepBut.set_ | apply keep_drewN | apply keep_drew | apply keep_alloc) | exact HK.out)⟩
      · replace c7 := Bool.eq_false_iff.mpr c7
        subst c7
        have H1 : (if (wrap64 ((wrap64 (s0_1 + 1)) - 1)) < (s0_0.length : Int) then (if 0 ≤ (wrap64 ((wrap64 (s0_1 + 1)) - 1)) then (if a1 = 0 then (none) else (some (Int.tmod (wrap64 (rd s0_0 (wrap64 ((wrap64 (s0_1 + 1)) - 1)))) a1, (wrap64 (s0_1 + 1))))) else (none)) else (if (s0_0.length : Int) = 0 then (none) else (if 0 ≤ (Int.tmod (wrap64 ((wrap64 (s0_1 + 1)) - 1)) (s0_0.length : Int)) then (if (Int.tmod (wrap64 ((wrap64 (s0_1 + 1)) - 1)) (s0_0.length : Int)) < (s0_0.length : Int) then (if 0 ≤ (Int.tmod (wrap64 ((wrap64 ((wrap64 ((wrap64 (s0_1 + 1)) - 1)) * 7)) + 3)) (s0_0.length : Int)) then (if (Int.tmod (wrap64 ((wrap64 ((wrap64 ((wrap64 (s0_1 + 1)) - 1)) * 7)) + 3)) (s0_0.length : Int)) < (s0_0.length : Int) then (if a1 = 0 then (none) else (some (Int.tmod (Go.bits .xor .i64 (wrap64 ((wrap64 ((wrap64 ((wrap64 ((wrap64 (rd s0_0 (Int.tmod (wrap64 ((wrap64 (s0_1 + 1)) - 1)) (s0_0.length : Int)))) * 131)) + (wrap64 ((wrap64 (rd s0_0 (Int.tmod (wrap64 ((wrap64 ((wrap64 ((wrap64 (s0_1 + 1)) - 1)) * 7)) + 3)) (s0_0.length : Int)))) * 1117)))) + (wrap64 ((wrap64 ((wrap64 (s0_1 + 1)) - 1)) * 29)))) + (wrap64 ((wrap64 (Int.tdiv (wrap64 ((wrap64 (s0_1 + 1)) - 1)) (s0_0.length : Int))) * 53)))) (wrap64 (Int.tdiv (wrap64 ((wrap64 ((wrap64 ((wrap64 ((wrap64 (rd s0_0 (Int.tmod (wrap64 ((wrap64 (s0_1 + 1)) - 1)) (s0_0.length : Int)))) * 131)) + (wrap64 ((wrap64 (rd s0_0 (Int.tmod (wrap64 ((wrap64 ((wrap64 ((wrap64 (s0_1 + 1)) - 1)) * 7)) + 3)) (s0_0.length : Int)))) * 1117)))) + (wrap64 ((wrap64 ((wrap64 (s0_1 + 1)) - 1)) * 29)))) + (wrap64 ((wrap64 (Int.tdiv (wrap64 ((wrap64 (s0_1 + 1)) - 1)) (s0_0.length : Int))) * 53)))) 64))) a1, (wrap64 (s0_1 + 1))))) else (none)) else (none)) else (none)) else (none)))) = some (r1, r2) := by rw [if_neg (show ¬ (false = true) by decide)] at H; exact H
        clear H
        have H := H1
        clear H1
        by_cases c8 : (wrap64 ((wrap64 (s0_1 + 1)) - 1)) < (s0_0.length : Int)
        · rw [if_pos c8] at H
          have c8b0 : decide ((wrap64 ((wrap64 (s0_1 + 1)) - 1)) < (s0_0.length : Int)) = true := decide_eq_true c8
          clear c8
          obtain ⟨ji9, hji9⟩ : ∃ j_ : Int, (wrap64 ((wrap64 (s0_1 + 1)) - 1)) = j_ := ⟨_, rfl⟩
          replace H : (if 0 ≤ (ji9) then (if a1 = 0 then (none) else (some (Int.tmod (wrap64 (rd s0_0 (ji9))) a1, (wrap64 (s0_1 + 1))))) else (none)) = some (r1, r2) := by first | (rw [hji9] at H; exact H) | (simp only [hji9] at H ⊢; exact H)
          (try rw [hji9] at c8b0)
          have hji9w : (IntKind.i64.wrap ((wrap64 (s0_1 + 1)) - 1)) = ji9 := (i64_w _).trans hji9
          by_cases c10 : 0 ≤ (ji9)
          · rw [if_pos c10] at H
            have c10b0 : decide (0 ≤ (ji9)) = true := decide_eq_true c10
            clear c10
            by_cases c11 : a1 = 0
            · rw [if_pos c11] at H
              exact absurd H (by simp)
            · rw [if_neg c11] at H
              have c11b0 : (a1 == 0) = false := beq_eq_false_iff_ne.mpr c11
              have c11b1 : (a1 != 0) = true := bne_iff_ne.mpr c11
              simp only [Option.some.injEq, Prod.mk.injEq] at H
              obtain ⟨rfl, rfl⟩ := H
              obtain ⟨ASz12_0, cSz12_0, HGz12, hgz12, HSz12_0⟩ := HI0.out
              have hcz12_0 := cellS84_0 HGz12
              have hcz12_1 := cellS84_1 HGz12
              have hfz12_1 := blk_frozen HGz12 1
              clear HGz12 hgz12
              have p104 : 0 ≤ ((ji9) : Int) := of_decide_eq_true (by first | (with_reducible assumption) | assumption)
              have q104 : (ji9) < (s0_0.length : Int) := of_decide_eq_true (by first | (with_reducible assumption) | assumption)
              obtain ⟨ad104, e104, hx104_0⟩ := Kd.at_int HSz12_0 (ji9) p104 q104
              cases e104
              replace hx104_0 := pw_cell_below HB.out hx104_0
              replace p104 := eq_true p104
              replace q104 := eq_true q104
              go_wp2
              repeat (go_quiet (fail); try go_wp2)
              go_ret
              exact ⟨by first | rfl | (simp [errW_none, errW_some] <;> rfl) | (simp only [← hji9]; first | rfl | (simp [errW_none, errW_some] <;> rfl)) | (simp [*, errW_none, errW_some] <;> rfl), by repeat (first | (with_reducible first | exact HI0.out | apply IsS84.alloc | apply IsS84.drewN | apply IsS84.drew | apply IsS84.set_1) | exact HI0.out), by repeat (first | (with_reducible first | exact HB.out | apply below_alloc | apply pw_below_drewN | apply below_drew1 | refine below_set ?_ (IsS84.ge HI0.out)) | exact HB.out), by repeat (first | (with_reducible first | exact HK.out | apply KeepBut.set_ | apply keep_drewN | apply keep_drew | apply keep_alloc) | exact HK.out)⟩
          · rw [if_neg c10] at H
            exact absurd H (by simp)
        · rw [if_neg c8] at H
          have c8b0 : decide ((wrap64 ((wrap64 (s0_1 + 1)) - 1)) < (s0_0.length : Int)) = false := decide_eq_false c8
          clear c8
          by_cases c13 : (s0_0.length : Int) = 0
          · rw [if_pos c13] at H
            exact absurd H (by simp)
          · rw [if_neg c13] at H
            have c13b0 : ((s0_0.length : Int) == 0) = false := beq_eq_false_iff_ne.mpr c13
            have c13b1 : ((s0_0.length : Int) != 0) = true := bne_iff_ne.mpr c13
            have c13b2 : ¬ (s0_0 = []) := fun h_ => c13 (by rw [h_]; rfl)
            obtain ⟨ji14, hji14⟩ : ∃ j_ : Int, (Int.tmod (wrap64 ((wrap64 (s0_1 + 1)) - 1)) (s0_0.length : Int)) = j_ := ⟨_, rfl⟩
            replace H : (if 0 ≤ (ji14) then (if (ji14) < (s0_0.length : Int) then (if 0 ≤ (Int.tmod (wrap64 ((wrap64 ((wrap64 ((wrap64 (s0_1 + 1)) - 1)) * 7)) + 3)) (s0_0.length : Int)) then (if (Int.tmod (wrap64 ((wrap64 ((wrap64 ((wrap64 (s0_1 + 1)) - 1)) * 7)) + 3)) (s0_0.length : Int)) < (s0_0.length : Int) then (if a1 = 0 then (none) else (some (Int.tmod (Go.bits .xor .i64 (wrap64 ((wrap64 ((wrap64 ((wrap64 ((wrap64 (rd s0_0 (ji14))) * 131)) + (wrap64 ((wrap64 (rd s0_0 (Int.tmod (wrap64 ((wrap64 ((wrap64 ((wrap64 (s0_1 + 1)) - 1)) * 7)) + 3)) (s0_0.length : Int)))) * 1117)))) + (wrap64 ((wrap64 ((wrap64 (s0_1 + 1)) - 1)) * 29)))) + (wrap64 ((wrap64 (Int.tdiv (wrap64 ((wrap64 (s0_1 + 1)) - 1)) (s0_0.length : Int))) * 53)))) (wrap64 (Int.tdiv (wrap64 ((wrap64 ((wrap64 ((wrap64 ((wrap64 (rd s0_0 (ji14))) * 131)) + (wrap64 ((wrap64 (rd s0_0 (Int.tmod (wrap64 ((wrap64 ((wrap64 ((wrap64 (s0_1 + 1)) - 1)) * 7)) + 3)) (s0_0.length : Int)))) * 1117)))) + (wrap64 ((wrap64 ((wrap64 (s0_1 + 1)) - 1)) * 29)))) + (wrap64 ((wrap64 (Int.tdiv (wrap64 ((wrap64 (s0_1 + 1)) - 1)) (s0_0.length : Int))) * 53)))) 64))) a1, (wrap64 (s0_1 + 1))))) else (none)) else (none)) else (none)) else (none)) = some (r1, r2) := by first | (rw [hji14] at H; exact H) | (simp only [hji14] at H ⊢; exact H)
            by_cases c15 : 0 ≤ (ji14)
            · rw [if_pos c15] at H
              have c15b0 : decide (0 ≤ (ji14)) = true := decide_eq_true c15
              clear c15
              by_cases c16 : (ji14) < (s0_0.length : Int)
              · rw [if_pos c16] at H
                have c16b0 : decide ((ji14) < (s0_0.length : Int)) = true := decide_eq_true c16
                clear c16
                obtain ⟨ji17, hji17⟩ : ∃ j_ : Int, (Int.tmod (wrap64 ((wrap64 ((wrap64 ((wrap64 (s0_1 + 1)) - 1)) * 7)) + 3)) (s0_0.length : Int)) = j_ := ⟨_, rfl⟩
                replace H : (if 0 ≤ (ji17) then (if (ji17) < (s0_0.length : Int) then (if a1 = 0 then (none) else (some (Int.tmod (Go.bits .xor .i64 (wrap64 ((wrap64 ((wrap64 ((wrap64 ((wrap64 (rd s0_0 (ji14))) * 131)) + (wrap64 ((wrap64 (rd s0_0 (ji17))) * 1117)))) + (wrap64 ((wrap64 ((wrap64 (s0_1 + 1)) - 1)) * 29)))) + (wrap64 ((wrap64 (Int.tdiv (wrap64 ((wrap64 (s0_1 + 1)) - 1)) (s0_0.length : Int))) * 53)))) (wrap64 (Int.tdiv (wrap64 ((wrap64 ((wrap64 ((wrap64 ((wrap64 (rd s0_0 (ji14))) * 131)) + (wrap64 ((wrap64 (rd s0_0 (ji17))) * 1117)))) + (wrap64 ((wrap64 ((wrap64 (s0_1 + 1)) - 1)) * 29)))) + (wrap64 ((wrap64 (Int.tdiv (wrap64 ((wrap64 (s0_1 + 1)) - 1)) (s0_0.length : Int))) * 53)))) 64))) a1, (wrap64 (s0_1 + 1))))) else (none)) else (none)) = some (r1, r2) := by first | (rw [hji17] at H; exact H) | (simp only [hji17] at H ⊢; exact H)
                by_cases c18 : 0 ≤ (ji17)
                · rw [if_pos c18] at H
                  have c18b0 : decide (0 ≤ (ji17)) = true := decide_eq_true c18
                  clear c18
                  by_cases c19 : (ji17) < (s0_0.length : Int)
                  · rw [if_pos c19] at H
                    have c19b0 : decide ((ji17) < (s0_0.length : Int)) = true := decide_eq_true c19
                    clear c19
                    by_cases c20 : a1 = 0
                    · rw [if_pos c20] at H
                      exact absurd H (by simp)
                    · rw [if_neg c20] at H
                      have c20b0 : (a1 == 0) = false := beq_eq_false_iff_ne.mpr c20
                      have c20b1 : (a1 != 0) = true := bne_iff_ne.mpr c20
                      simp only [Option.some.injEq, Prod.mk.injEq] at H
                      obtain ⟨rfl, rfl⟩ := H
                      obtain ⟨ASz21_0, cSz21_0, HGz21, hgz21, HSz21_0⟩ := HI0.out
                      have hcz21_0 := cellS84_0 HGz21
                      have hcz21_1 := cellS84_1 HGz21
                      have hfz21_1 := blk_frozen HGz21 1
                      clear HGz21 hgz21
                      have p105 : 0 ≤ ((ji14) : Int) := of_decide_eq_true (by first | (with_reducible assumption) | assumption)
                      have q105 : (ji14) < (s0_0.length : Int) := of_decide_eq_true (by first | (with_reducible assumption) | assumption)
                      obtain ⟨ad105, e105, hx105_0⟩ := Kd.at_int HSz21_0 (ji14) p105 q105
                      cases e105
                      replace hx105_0 := pw_cell_below HB.out hx105_0
                      replace p105 := eq_true p105
                      replace q105 := eq_true q105
                      have p106 : 0 ≤ ((ji17) : Int) := of_decide_eq_true (by first | (with_reducible assumption) | assumption)
                      have q106 : (ji17) < (s0_0.length : Int) := of_decide_eq_true (by first | (with_reducible assumption) | assumption)
                      obtain ⟨ad106, e106, hx106_0⟩ := Kd.at_int HSz21_0 (ji17) p106 q106
                      obtain rfl : ad105 = ad106 := (by injection e106)
                      replace hx106_0 := pw_cell_below HB.out hx106_0
                      replace p106 := eq_true p106
                      replace q106 := eq_true q106
                      go_wp2
                      repeat (go_quiet (fail); try go_wp2)
                      go_ret
                      exact ⟨by first | rfl | (simp [errW_none, errW_some] <;> rfl) | (simp only [← hji14, ← hji17]; first | rfl | (simp [errW_none, errW_some] <;> rfl)) | (simp [*, errW_none, errW_some] <;> rfl), by repeat (first | (with_reducible first | exact HI0.out | apply IsS84.alloc | apply IsS84.drewN | apply IsS84.drew | apply IsS84.set_1) | exact HI0.out), by repeat (first | (with_reducible first | exact HB.out | apply below_alloc | apply pw_below_drewN | apply below_drew1 | refine below_set ?_ (IsS84.ge HI0.out)) | exact HB.out), by repeat (first | (with_reducible first | exact HK.out | apply KeepBut.set_ | apply keep_drewN | apply keep_drew | apply keep_alloc) | exact HK.out)⟩
                  · rw [if_neg c19] at H
                    exact absurd H (by simp)
                · rw [if_neg c18] at H
                  exact absurd H (by simp)
              · rw [if_neg c16] at H
                exact absurd H (by simp)
            · rw [if_neg c15] at H
              exact absurd H (by simp)
def spec_l6In.f (a0 : Int) (a1 : Int) (a2 : Int) : Option (Bool) := if a0 ≥ a1 then (some (decide (a0 ≤ a2))) else (some false)
set_option maxHeartbeats 8000000 in
set_option maxRecDepth 100000 in
theorem spec_l6In.calls (a0 : Int) (a1 : Int) (a2 : Int) (r : Bool) (w : World) (h : spec_l6In.f a0 a1 a2 = some r) :
    Calls Try.prog 44 #[.int .i64 a0, .int .i64 a1, .int .i64 a2] w fun e w' => e = .returned (.bool r) ∧ Drawn0 w w' := by
  have H : (if a0 ≥ a1 then (some (decide (a0 ≤ a2))) else (some false)) = some r := h
  clear h
  by_cases c4 : a0 ≥ a1
  · rw [if_pos c4] at H
    have c4b0 : decide (a1 ≤ a0) = true := decide_eq_true c4
    clear c4
    obtain rfl := Option.some.inj H
    go_enter Try.func44, Try.ntmps44
    go_wp2
    go_ret
    exact ⟨by first | rfl | (simp; done) | (simp [*]; done), by repeat (first | exact Drawn0.refl _ | apply Drawn0.step)⟩
  · rw [if_neg c4] at H
    have c4b0 : decide (a1 ≤ a0) = false := decide_eq_false c4
    clear c4
    obtain rfl := Option.some.inj H
    go_enter Try.func44, Try.ntmps44
    go_wp2
    go_ret
    exact ⟨by first | rfl | (simp; done) | (simp [*]; done), by repeat (first | exact Drawn0.refl _ | apply Drawn0.step)⟩
def spec_l1Shape.j0 : Nat → Int → Bool → Option (Int × Int × Bool)
  | 0, _, _ => none
  | k + 1, x5, x10 => if x10 = true then (some (2, 0, true)) else (if x5 = 4 then (some (3, 0, true)) else (if x5 = 5 then (some (1, 9, true)) else (some (0, 0, false))))
def spec_l1Shape.f (k : Nat) (a0 : Int) : Option (Int × Int × Bool) := if a0 = 0 then (some (0, 96, true)) else (if a0 = 1 then (some (0, 9, true)) else (if a0 = 2 then (spec_l1Shape.j0 k a0 (a0 == 2)) else (spec_l1Shape.j0 k a0 (a0 == 3))))
set_option maxHeartbeats 8000000 in
set_option maxRecDepth 100000 in
theorem spec_l1Shape.calls (k : Nat) (a0 : Int) (r1 : Int) (r2 : Int) (r3 : Bool) (w : World) (h : spec_l1Shape.f k a0 = some (r1, r2, r3)) :
    Calls Try.prog 102 #[.int .i64 a0] w fun e w' => e = .returned (.tuple #[.int .i64 r1, .int .i64 r2, .bool r3]) ∧ Drawn0 w w' := by
  have H : (if a0 = 0 then (some (0, 96, true)) else (if a0 = 1 then (some (0, 9, true)) else (if a0 = 2 then (spec_l1Shape.j0 k a0 (a0 == 2)) else (spec_l1Shape.j0 k a0 (a0 == 3))))) = some (r1, r2, r3) := h
  clear h
  by_cases c2 : a0 = 0
  · rw [if_pos c2] at H
    have c2b0 : (a0 == 0) = true := beq_iff_eq.mpr c2
    have c2b1 : (a0 != 0) = false := bne_eq_false_iff_eq.mpr c2
    clear c2
    simp only [Option.some.injEq, Prod.mk.injEq] at H
    obtain ⟨rfl, rfl, rfl⟩ := H
    go_enter Try.func102, Try.ntmps102
    go_wp2
    go_ret3
    exact ⟨by first | rfl | (simp; done) | (simp [*]; done), by repeat (first | exact Drawn0.refl _ | apply Drawn0.step)⟩
  · rw [if_neg c2] at H
    have c2b0 : (a0 == 0) = false := beq_eq_false_iff_ne.mpr c2
    have c2b1 : (a0 != 0) = true := bne_iff_ne.mpr c2
    by_cases c3 : a0 = 1
    · rw [if_pos c3] at H
      have c3b0 : (a0 == 1) = true := beq_iff_eq.mpr c3
      have c3b1 : (a0 != 1) = false := bne_eq_false_iff_eq.mpr c3
      clear c3
      simp only [Option.some.injEq, Prod.mk.injEq] at H
      obtain ⟨rfl, rfl, rfl⟩ := H
      go_enter Try.func102, Try.ntmps102
      go_wp2
      go_ret3
      exact ⟨by first | rfl | (simp; done) | (simp [*]; done), by repeat (first | exact Drawn0.refl _ | apply Drawn0.step)⟩
    · rw [if_neg c3] at H
      have c3b0 : (a0 == 1) = false := beq_eq_false_iff_ne.mpr c3
      have c3b1 : (a0 != 1) = true := bne_iff_ne.mpr c3
      have HC4 := Aside0.mk H
      clear H
      go_enter Try.func102, Try.ntmps102
      go_upto_if 10 with (fail)
      go_cut [10] (fun v10 wc => ∃ (kq : Nat) (x10_3 : Bool), v10 = .bool x10_3 ∧ Aside0 (spec_l1Shape.j0 kq a0 x10_3 = some (r1, r2, r3)) ∧ Aside0 (kq ≤ k) ∧ Drawn0 w wc)
      case first =>
        have H := HC4.out
        clear HC4
        by_cases c5 : a0 = 2
        · rw [if_pos c5] at H
          have c5b0 : (a0 == 2) = true := beq_iff_eq.mpr c5
          have c5b1 : (a0 != 2) = false := bne_eq_false_iff_eq.mpr c5
          clear c5
          (first | rw [c5b0] | (simp only [i64_w, i32_w]; rw [c5b0]) | skip)
          have H' := Aside0.mk H
          clear H
          go_wp2
          go_meet
          case rel => exact ⟨_, ((a0 == 2)), (by first | rfl | (simp; done) | (simp [*]; done)), H', ⟨by first | omega | exact Nat.le_refl _⟩, by repeat (first | exact Drawn0.refl _ | apply Drawn0.step)⟩
        · rw [if_neg c5] at H
          have c5b0 : (a0 == 2) = false := beq_eq_false_iff_ne.mpr c5
          have c5b1 : (a0 != 2) = true := bne_iff_ne.mpr c5
          (first | rw [c5b0] | (simp only [i64_w, i32_w]; rw [c5b0]) | skip)
          have H' := Aside0.mk H
          clear H
          go_wp2
          go_meet
          case rel => exact ⟨_, ((a0 == 3)), (by first | rfl | (simp; done) | (simp [*]; done)), H', ⟨by first | omega | exact Nat.le_refl _⟩, by repeat (first | exact Drawn0.refl _ | apply Drawn0.step)⟩
      case rest =>
        clear HC4
        try clear c1
        try clear c2
        try clear c2b0
        try clear c2b1
        try clear p2
        try clear c3
        try clear c3b0
        try clear c3b1
        try clear c5
        try clear c5b0
        try clear c5b1
        obtain ⟨kq, x10_3, rfl, HA, HJ3, ⟨mc3, rfl⟩⟩ := hcut
        cases kq with
        | zero => exact absurd HA.out (by simp [spec_l1Shape.j0])
        | succ kj3 =>
          have H := HA.out
          clear HA
          simp only [spec_l1Shape.j0] at H
          by_cases c6 : x10_3 = true
          · subst c6
            have H1 : (some (2, 0, true)) = some (r1, r2, r3) := by rw [if_pos rfl] at H; exact H
            clear H
            have H := H1
            clear H1
            simp only [Option.some.injEq, Prod.mk.injEq] at H
            obtain ⟨rfl, rfl, rfl⟩ := H
            go_wp2
            go_ret3
            exact ⟨by first | rfl | (simp; done) | (simp [*]; done), by repeat (first | exact Drawn0.refl _ | apply Drawn0.step)⟩
          · replace c6 := Bool.eq_false_iff.mpr c6
            subst c6
            have H1 : (if a0 = 4 then (some (3, 0, true)) else (if a0 = 5 then (some (1, 9, true)) else (some (0, 0, false)))) = some (r1, r2, r3) := by rw [if_neg (show ¬ (false = true) by decide)] at H; exact H
            clear H
            have H := H1
            clear H1
            by_cases c7 : a0 = 4
            · rw [if_pos c7] at H
              have c7b0 : (a0 == 4) = true := beq_iff_eq.mpr c7
              have c7b1 : (a0 != 4) = false := bne_eq_false_iff_eq.mpr c7
              clear c7
              simp only [Option.some.injEq, Prod.mk.injEq] at H
              obtain ⟨rfl, rfl, rfl⟩ := H
              go_wp2
              go_ret3
              exact ⟨by first | rfl | (simp; done) | (simp [*]; done), by repeat (first | exact Drawn0.refl _ | apply Drawn0.step)⟩
            · rw [if_neg c7] at H
              have c7b0 : (a0 == 4) = false := beq_eq_false_iff_ne.mpr c7
              have c7b1 : (a0 != 4) = true := bne_iff_ne.mpr c7
              by_cases c8 : a0 = 5
              · rw [if_pos c8] at H
                have c8b0 : (a0 == 5) = true := beq_iff_eq.mpr c8
                have c8b1 : (a0 != 5) = false := bne_eq_false_iff_eq.mpr c8
                clear c8
                simp only [Option.some.injEq, Prod.mk.injEq] at H
                obtain ⟨rfl, rfl, rfl⟩ := H
                go_wp2
                go_ret3
                exact ⟨by first | rfl | (simp; done) | (simp [*]; done), by repeat (first | exact Drawn0.refl _ | apply Drawn0.step)⟩
              · rw [if_neg c8] at H
                have c8b0 : (a0 == 5) = false := beq_eq_false_iff_ne.mpr c8
                have c8b1 : (a0 != 5) = true := bne_iff_ne.mpr c8
                simp only [Option.some.injEq, Prod.mk.injEq] at H
                obtain ⟨rfl, rfl, rfl⟩ := H
                go_wp2
                go_ret3
                exact ⟨by first | rfl | (simp; done) | (simp [*]; done), by repeat (first | exact Drawn0.refl _ | apply Drawn0.step)⟩
mutual
def spec_l1Fit.j0 : Nat → Bool → Int → Int → List (S32) → Option (Bool)
  | 0, _, _, _, _ => none
  | k + 1, x29, x108000, x108001, x108002 => if x29 = true then (some false) else (spec_l1Fit.l0 k 0 x108000 x108001 x108002)
def spec_l1Fit.l0 : Nat → Int → Int → Int → List (S32) → Option (Bool)
  | 0, _, _, _, _ => none
  | k + 1, x6, x108000, x108001, x108002 => if x6 < (x108002.length : Int) then (if 0 ≤ x6 then ((spec_l1Fit.f k ((rd_T32 x108002 x6).f0) ((rd_T32 x108002 x6).f1) ((rd_T32 x108002 x6).f2)).bind fun t113 => (if t113 = true then (spec_l1Fit.l0 k (wrap64 (x6 + 1)) x108000 x108001 x108002) else (some false))) else (none)) else (some true)
def spec_l1Fit.f : Nat → Int → Int → List (S32) → Option (Bool)
  | 0, _, _, _ => none
  | k + 1, a0_0, a0_1, l0_2 => (spec_l1Shape.f k a0_0).bind fun bt108 => (if bt108.2.2 = true then (if (l0_2.length : Int) = bt108.1 then ((spec_l6In.f a0_1 0 bt108.2.1).bind fun t111 => (spec_l1Fit.j0 k (!t111) a0_0 a0_1 l0_2)) else (spec_l1Fit.j0 k true a0_0 a0_1 l0_2)) else (spec_l1Fit.j0 k true a0_0 a0_1 l0_2))
end
set_option maxHeartbeats 8000000 in
set_option maxRecDepth 100000 in
theorem spec_l1Fit.calls (k : Nat) : ∀ (a0_0 : Int) (a0_1 : Int) (A0_2 : Option Addr) (c0_2 : Nat) (l0_2 : List (S32)) (r : Bool) (w : World) (hr0_2 : Kd.C k32 w A0_2 l0_2.length l0_2) (hc0_2 : l0_2.length ≤ c0_2) (h : spec_l1Fit.f k a0_0 a0_1 l0_2 = some r),
    Calls Try.prog 67 #[.agg #[.int .i64 a0_0, .int .i64 a0_1, .slice A0_2 l0_2.length c0_2]] w fun e w' => e = .returned (.bool r) ∧ Below w.heap.size w w' := by
  induction k using Nat.strongRecOn with
  | _ k ih =>
  intro a0_0 a0_1 A0_2 c0_2 l0_2 r w hr0_2 hc0_2 h
  cases k with
  | zero => exact absurd h (by simp [spec_l1Fit.f])
  | succ k =>
  simp only [spec_l1Fit.f] at h
  have hu32 := Try.underlying32
  have HR0_2 := Aside0.mk hr0_2
  have HC0_2 := Aside0.mk hc0_2
  clear hr0_2 hc0_2
  have HB := Aside0.mk (Below.refl w.heap.size w)
  have H : ((spec_l1Shape.f k a0_0).bind fun bt108 => (if bt108.2.2 = true then (if (l0_2.length : Int) = bt108.1 then ((spec_l6In.f a0_1 0 bt108.2.1).bind fun t111 => (spec_l1Fit.j0 k (!t111) a0_0 a0_1 l0_2)) else (spec_l1Fit.j0 k true a0_0 a0_1 l0_2)) else (spec_l1Fit.j0 k true a0_0 a0_1 l0_2))) = some r := h
  clear h
  replace H := Option.bind_eq_some_iff.mp H
  obtain ⟨⟨t108, t109, t110⟩, A20, H⟩ := H
  replace H : (if t110 = true then (if (l0_2.length : Int) = t108 then ((spec_l6In.f a0_1 0 t109).bind fun t111 => (spec_l1Fit.j0 k (!t111) a0_0 a0_1 l0_2)) else (spec_l1Fit.j0 k true a0_0 a0_1 l0_2)) else (spec_l1Fit.j0 k true a0_0 a0_1 l0_2)) = some r := H
  have A2 := Aside0.mk A20
  clear A20
  have HC3 := Aside0.mk H
  clear H
  go_enter Try.func67, Try.ntmps67
  go_upto_region 2 with (first | ((with_reducible refine gate_dst (N := 1) rfl ?_); (try (refine gate_guard (by rfl) ?_; dsimp only)); refine box_event ?hg (N := 1) ?hd (cs := #[.int .i64 a0_0, .int .i64 a0_1, .slice A0_2 l0_2.length c0_2]) (t := 32) ?hr ?_; (case hd => rfl); (case hg => rfl); (case hr => first | (go_simp; done) | (go_simp; rfl)); intro gb107 hg w4 hbox hb; have n0_ := Aside0.mk (below_step (by repeat (first | (with_reducible first | exact HB.out | apply below_alloc | apply pw_below_drewN | apply below_drew1) | exact HB.out)) hb); have n1_ := Aside0.mk (hbox); have n2_ := Aside0.mk ((by rw [hg]; exact (below_size (by repeat (first | (with_reducible first | exact HB.out | apply below_alloc | apply pw_below_drewN | apply below_drew1) | exact HB.out))) : w.heap.size ≤ gb107)); have n3_ := Aside0.mk ((by rw [hg]; exact (below_size (by repeat (first | (with_reducible first | exact HB.out | apply below_alloc | apply pw_below_drewN | apply below_drew1) | exact HB.out))) : w.heap.size ≤ gb107)); clear HB; have HB := n0_; have BK107 := n1_; have GW107 := n2_; have GE107 := n3_; clear n0_ n1_ n2_ n3_; clear hb hbox hg; have hcz5_0 : w4.cell? ⟨gb107, 0, none⟩ = some (.int .i64 a0_0) := (blk_cell BK107.out 0).trans rfl; have hcz5_1 : w4.cell? ⟨gb107, 1, none⟩ = some (.int .i64 a0_1) := (blk_cell BK107.out 1).trans rfl; have hcz5_2 : w4.cell? ⟨gb107, 2, none⟩ = some (.slice A0_2 l0_2.length c0_2) := (blk_cell BK107.out 2).trans rfl; have hfz5_0 := blk_frozen BK107.out 0; have hfz5_1 := blk_frozen BK107.out 1; have hfz5_2 := blk_frozen BK107.out 2) | ((with_reducible refine gate_callee (f := 102) rfl ?_); refine goesL_ (some 10) rfl rfl Try.func102 (by kernel_rfl) rfl #[.int .i64 a0_0] rfl (by (try simp only [List.map_toArray, List.map_cons, List.map_nil]); first | done | rfl | (simp only [List.length_drop, List.length_take]; rfl)) ?_; (with_reducible refine (spec_l1Shape.calls k a0_0 t108 t109 t110 _ A2.out).mono ?_); rintro e w' ⟨rfl, ⟨nd, rfl⟩⟩; refine ⟨_, rfl, ?_⟩))
  (try simp only [Act.put, List.setIfInBounds_toArray, List.set_cons_zero, List.set_cons_succ])
  go_cut [29] (fun v29 wc => ∃ (kq : Nat) (x29_2 : Bool), v29 = .bool x29_2 ∧ Aside0 (spec_l1Fit.j0 kq x29_2 a0_0 a0_1 l0_2 = some r) ∧ Aside0 (kq ≤ k) ∧ Aside0 (wc.heap[gb107]? = some (.cells #[.int .i64 a0_0, .int .i64 a0_1, (.slice A0_2 l0_2.length c0_2)] 32 (0, 0))) ∧ Aside0 (Below w.heap.size w wc))
  case first =>
    have H := HC3.out
    clear HC3
    by_cases c6 : t110 = true
    · subst c6
      have H1 : (if (l0_2.length : Int) = t108 then ((spec_l6In.f a0_1 0 t109).bind fun t111 => (spec_l1Fit.j0 k (!t111) a0_0 a0_1 l0_2)) else (spec_l1Fit.j0 k true a0_0 a0_1 l0_2)) = some r := by rw [if_pos rfl] at H; exact H
      clear H
      have H := H1
      clear H1
      by_cases c7 : (l0_2.length : Int) = t108
      · rw [if_pos c7] at H
        have c7b0 : ((l0_2.length : Int) == t108) = true := beq_iff_eq.mpr c7
        have c7b1 : ((l0_2.length : Int) != t108) = false := bne_eq_false_iff_eq.mpr c7
        clear c7
        (first | rw [c7b0] | (simp only [i64_w, i32_w]; rw [c7b0]) | skip)
        replace H := Option.bind_eq_some_iff.mp H
        obtain ⟨t111, A80, H⟩ := H
        replace H : (spec_l1Fit.j0 k (!t111) a0_0 a0_1 l0_2) = some r := H
        have A8 := Aside0.mk A80
        clear A80
        have H' := Aside0.mk H
        clear H
        have hcz9_0 : w4.cell? ⟨gb107, 0, none⟩ = some (.int .i64 a0_0) := (blk_cell BK107.out 0).trans rfl
        have hcz9_1 : w4.cell? ⟨gb107, 1, none⟩ = some (.int .i64 a0_1) := (blk_cell BK107.out 1).trans rfl
        have hcz9_2 : w4.cell? ⟨gb107, 2, none⟩ = some (.slice A0_2 l0_2.length c0_2) := (blk_cell BK107.out 2).trans rfl
        have hfz9_0 := blk_frozen BK107.out 0
        have hfz9_1 := blk_frozen BK107.out 1
        have hfz9_2 := blk_frozen BK107.out 2
        go_wp2_with (first | (go_at_call 44; (with_reducible refine (spec_l6In.calls a0_1 0 t109 t111 _ A8.out).mono ?_); rintro e w' ⟨rfl, ⟨nd, rfl⟩⟩))
        go_meet
        case rel => exact ⟨_, (!t111), (by first | rfl | (simp; done) | (simp [*]; done)), H', ⟨by first | omega | exact Nat.le_refl _⟩, ⟨by (with_reducible repeat (first | refine blk_drewN ?_ _ | refine blk_drew ?_ | refine blk_alloc ?_ _)); exact BK107.out⟩, ⟨by repeat (first | (with_reducible first | exact HB.out | apply below_alloc | apply pw_below_drewN | apply below_drew1 | refine below_set ?_ GE107.out) | exact HB.out)⟩⟩
      · rw [if_neg c7] at H
        have c7b0 : ((l0_2.length : Int) == t108) = false := beq_eq_false_iff_ne.mpr c7
        have c7b1 : ((l0_2.length : Int) != t108) = true := bne_iff_ne.mpr c7
        (first | rw [c7b0] | (simp only [i64_w, i32_w]; rw [c7b0]) | skip)
        have H' := Aside0.mk H
        clear H
        have hcz10_0 : w4.cell? ⟨gb107, 0, none⟩ = some (.int .i64 a0_0) := (blk_cell BK107.out 0).trans rfl
        have hcz10_1 : w4.cell? ⟨gb107, 1, none⟩ = some (.int .i64 a0_1) := (blk_cell BK107.out 1).trans rfl
        have hcz10_2 : w4.cell? ⟨gb107, 2, none⟩ = some (.slice A0_2 l0_2.length c0_2) := (blk_cell BK107.out 2).trans rfl
        have hfz10_0 := blk_frozen BK107.out 0
        have hfz10_1 := blk_frozen BK107.out 1
        have hfz10_2 := blk_frozen BK107.out 2
        go_wp2
        go_meet
        case rel => exact ⟨_, (true), (by first | rfl | (simp; done) | (simp [*]; done)), H', ⟨by first | omega | exact Nat.le_refl _⟩, ⟨by (with_reducible repeat (first | refine blk_drewN ?_ _ | refine blk_drew ?_ | refine blk_alloc ?_ _)); exact BK107.out⟩, ⟨by repeat (first | (with_reducible first | exact HB.out | apply below_alloc | apply pw_below_drewN | apply below_drew1 | refine below_set ?_ GE107.out) | exact HB.out)⟩⟩
    · replace c6 := Bool.eq_false_iff.mpr c6
      subst c6
      have H1 : (spec_l1Fit.j0 k true a0_0 a0_1 l0_2) = some r := by rw [if_neg (show ¬ (false = true) by decide)] at H; exact H
      clear H
      have H := H1
      clear H1
      have H' := Aside0.mk H
      clear H
      go_wp2
      go_meet
      case rel => exact ⟨_, (true), (by first | rfl | (simp; done) | (simp [*]; done)), H', ⟨by first | omega | exact Nat.le_refl _⟩, ⟨by (with_reducible repeat (first | refine blk_drewN ?_ _ | refine blk_drew ?_ | refine blk_alloc ?_ _)); exact BK107.out⟩, ⟨by repeat (first | (with_reducible first | exact HB.out | apply below_alloc | apply pw_below_drewN | apply below_drew1 | refine below_set ?_ GE107.out) | exact HB.out)⟩⟩
  case rest =>
    clear HC3
    try clear c1
    try clear p2
    try clear c6
    try clear c7
    try clear c7b0
    try clear c7b1
    try clear c10
    try clear hcz10_0
    try clear hcz10_1
    try clear hcz10_2
    try clear hcz5_0
    try clear hcz5_1
    try clear hcz5_2
    try clear hcz9_0
    try clear hcz9_1
    try clear hcz9_2
    try clear hfz10_0
    try clear hfz10_1
    try clear hfz10_2
    try clear hfz5_0
    try clear hfz5_1
    try clear hfz5_2
    try clear hfz9_0
    try clear hfz9_1
    try clear hfz9_2
    obtain ⟨kq, x29_2, rfl, HA, HJ2, BK107, HB⟩ := hcut
    cases kq with
    | zero => exact absurd HA.out (by simp [spec_l1Fit.j0])
    | succ kj2 =>
      have H := HA.out
      clear HA
      simp only [spec_l1Fit.j0] at H
      by_cases c11 : x29_2 = true
      · subst c11
        have H1 : (some false) = some r := by rw [if_pos rfl] at H; exact H
        clear H
        have H := H1
        clear H1
        obtain rfl := Option.some.inj H
        go_wp2
        go_ret
        exact ⟨by first | rfl | (simp [errW_none, errW_some] <;> rfl) | (simp [*, errW_none, errW_some] <;> rfl), by repeat (first | (with_reducible first | exact HB.out | apply below_alloc | apply pw_below_drewN | apply below_drew1 | refine below_set ?_ GE107.out) | exact HB.out)⟩
      · replace c11 := Bool.eq_false_iff.mpr c11
        subst c11
        have H1 : (spec_l1Fit.l0 kj2 0 a0_0 a0_1 l0_2) = some r := by rw [if_neg (show ¬ (false = true) by decide)] at H; exact H
        clear H
        have H := H1
        clear H1
        have H' := Aside0.mk H
        clear H
        go_wp2
        go_loopg [6] kj2 (fun kq v6 w' => ∃ (x6_2 : Int), v6 = .int .i64 x6_2 ∧ Aside0 (spec_l1Fit.l0 kq x6_2 a0_0 a0_1 l0_2 = some r) ∧ Aside0 (kq ≤ kj2) ∧ Aside0 (w'.heap[gb107]? = some (.cells #[.int .i64 a0_0, .int .i64 a0_1, (.slice A0_2 l0_2.length c0_2)] 32 (0, 0))) ∧ Aside0 (Below w.heap.size w w'))
        case atStart => exact ⟨(0), (by first | rfl | (simp; done) | (simp [*]; done)), H', ⟨Nat.le_refl _⟩, ⟨by (with_reducible repeat (first | refine blk_drewN ?_ _ | refine blk_drew ?_ | refine blk_alloc ?_ _)); exact BK107.out⟩, ⟨by repeat (first | (with_reducible first | exact HB.out | apply below_alloc | apply pw_below_drewN | apply below_drew1 | refine below_set ?_ GE107.out) | exact HB.out)⟩⟩
        case round =>
          clear H'
          try clear c1
          try clear p2
          try clear c6
          try clear c7
          try clear c7b0
          try clear c7b1
          try clear c10
          try clear c11
          try clear hcz10_0
          try clear hcz10_1
          try clear hcz10_2
          try clear hcz5_0
          try clear hcz5_1
          try clear hcz5_2
          try clear hcz9_0
          try clear hcz9_1
          try clear hcz9_2
          try clear hfz10_0
          try clear hfz10_1
          try clear hfz10_2
          try clear hfz5_0
          try clear hfz5_1
          try clear hfz5_2
          try clear hfz9_0
          try clear hfz9_1
          try clear hfz9_2
          try clear p2
          obtain ⟨x6_2, rfl, HA, HK2, BK107, HB⟩ := hrel
          cases gk with
          | zero => exact absurd HA.out (by simp [spec_l1Fit.l0])
          | succ k2 =>
            have H := HA.out
            clear HA
            simp only [spec_l1Fit.l0] at H
            by_cases c12 : x6_2 < (l0_2.length : Int)
            · rw [if_pos c12] at H
              have c12b0 : decide (x6_2 < (l0_2.length : Int)) = true := decide_eq_true c12
              clear c12
              by_cases c13 : 0 ≤ x6_2
              · rw [if_pos c13] at H
                have c13b0 : decide (0 ≤ x6_2) = true := decide_eq_true c13
                clear c13
                replace H := Option.bind_eq_some_iff.mp H
                obtain ⟨t113, A140, H⟩ := H
                replace H : (if t113 = true then (spec_l1Fit.l0 k2 (wrap64 (x6_2 + 1)) a0_0 a0_1 l0_2) else (some false)) = some r := H
                have A14 := Aside0.mk A140
                clear A140
                by_cases c15 : t113 = true
                · subst c15
                  have H1 : (spec_l1Fit.l0 k2 (wrap64 (x6_2 + 1)) a0_0 a0_1 l0_2) = some r := by rw [if_pos rfl] at H; exact H
                  clear H
                  have H := H1
                  clear H1
                  have H' := Aside0.mk H
                  clear H
                  have hcz16_0 : wr.cell? ⟨gb107, 0, none⟩ = some (.int .i64 a0_0) := (blk_cell BK107.out 0).trans rfl
                  have hcz16_1 : wr.cell? ⟨gb107, 1, none⟩ = some (.int .i64 a0_1) := (blk_cell BK107.out 1).trans rfl
                  have hcz16_2 : wr.cell? ⟨gb107, 2, none⟩ = some (.slice A0_2 l0_2.length c0_2) := (blk_cell BK107.out 2).trans rfl
                  have hfz16_0 := blk_frozen BK107.out 0
                  have hfz16_1 := blk_frozen BK107.out 1
                  have hfz16_2 := blk_frozen BK107.out 2
                  have p112 : 0 ≤ (x6_2 : Int) := of_decide_eq_true (by first | (with_reducible assumption) | assumption)
                  have q112 : x6_2 < (l0_2.length : Int) := of_decide_eq_true (by first | (with_reducible assumption) | assumption)
                  obtain ⟨ad112, A112_2, c112_2, e112, hx112_0, hx112_1, hx112_2, hl112_2, hi112_2⟩ := at_T32 HR0_2.out x6_2 p112 q112
                  cases e112
                  replace hx112_0 := (HB.out.cell (World.block_lt_of_cell? w _ hx112_0)).trans hx112_0
                  replace hx112_1 := (HB.out.cell (World.block_lt_of_cell? w _ hx112_1)).trans hx112_1
                  replace hx112_2 := (HB.out.cell (World.block_lt_of_cell? w _ hx112_2)).trans hx112_2
                  have HR112_2 := Aside0.mk hi112_2
                  have HC112_2 := Aside0.mk hl112_2
                  clear hi112_2 hl112_2
                  replace p112 := eq_true p112
                  replace q112 := eq_true q112
                  go_wp2_with (first | ((with_reducible refine gate_callee (f := 67) rfl ?_); refine goesL_ (some 42) rfl rfl Try.func67 (by kernel_rfl) rfl #[.agg #[.int .i64 ((rd_T32 l0_2 x6_2).f0), .int .i64 ((rd_T32 l0_2 x6_2).f1), .slice A112_2 ((rd_T32 l0_2 x6_2).f2).length c112_2]] rfl (by (try simp only [List.map_toArray, List.map_cons, List.map_nil]); first | done | rfl | (simp only [List.length_drop, List.length_take]; rfl)) ?_; (with_reducible refine (ih k2 (by have := HJ2.out; have := HK2.out; omega) ((rd_T32 l0_2 x6_2).f0) ((rd_T32 l0_2 x6_2).f1) _ _ ((rd_T32 l0_2 x6_2).f2) true _ ?side1 ?side2 A14.out).mono ?_); (case side1 => repeat (first | exact (Kd.C_below HR112_2.out HB.out) | (with_reducible refine Kd.C_alloc ?_ _) | (with_reducible refine Kd.C_drewN ?_ _) | (with_reducible refine Kd.C_drew ?_))); (case side2 => exact HC112_2.out); rintro e w17 ⟨rfl, hb⟩; refine ⟨_, rfl, ?_⟩; have n0_ := Aside0.mk (blk_below (g := gb107) (o := .cells #[.int .i64 a0_0, .int .i64 a0_1, .slice (some ad112) l0_2.length c0_2] 32 (0, 0)) (by (with_reducible repeat (first | refine blk_drewN ?_ _ | refine blk_drew ?_ | refine blk_alloc ?_ _)); exact BK107.out) hb); have n1_ := Aside0.mk (below_step (by repeat (first | (with_reducible first | exact HB.out | apply below_alloc | apply pw_below_drewN | apply below_drew1 | refine below_set ?_ GE107.out) | exact HB.out)) hb); clear BK107; clear HB; have BK107 := n0_; have HB := n1_; clear n0_ n1_; (try clear hb); (try clear hb2); (try clear hk); (try clear hi)))
                  go_roundg k2
                  case measure => have := HJ2.out; have := HK2.out; omega
                  case rel => exact ⟨(wrap64 (x6_2 + 1)), (by first | rfl | (simp; done) | (simp [*]; done)), H', ⟨by have := HJ2.out; have := HK2.out; omega⟩, ⟨by (with_reducible repeat (first | refine blk_drewN ?_ _ | refine blk_drew ?_ | refine blk_alloc ?_ _)); exact BK107.out⟩, ⟨by repeat (first | (with_reducible first | exact HB.out | apply below_alloc | apply pw_below_drewN | apply below_drew1 | refine below_set ?_ GE107.out) | exact HB.out)⟩⟩
                · replace c15 := Bool.eq_false_iff.mpr c15
                  subst c15
                  have H1 : (some false) = some r := by rw [if_neg (show ¬ (false = true) by decide)] at H; exact H
                  clear H
                  have H := H1
                  clear H1
                  obtain rfl := Option.some.inj H
                  have hcz18_0 : wr.cell? ⟨gb107, 0, none⟩ = some (.int .i64 a0_0) := (blk_cell BK107.out 0).trans rfl
                  have hcz18_1 : wr.cell? ⟨gb107, 1, none⟩ = some (.int .i64 a0_1) := (blk_cell BK107.out 1).trans rfl
                  have hcz18_2 : wr.cell? ⟨gb107, 2, none⟩ = some (.slice A0_2 l0_2.length c0_2) := (blk_cell BK107.out 2).trans rfl
                  have hfz18_0 := blk_frozen BK107.out 0
                  have hfz18_1 := blk_frozen BK107.out 1
                  have hfz18_2 := blk_frozen BK107.out 2
                  have p112 : 0 ≤ (x6_2 : Int) := of_decide_eq_true (by first | (with_reducible assumption) | assumption)
                  have q112 : x6_2 < (l0_2.length : Int) := of_decide_eq_true (by first | (with_reducible assumption) | assumption)
                  obtain ⟨ad112, A112_2, c112_2, e112, hx112_0, hx112_1, hx112_2, hl112_2, hi112_2⟩ := at_T32 HR0_2.out x6_2 p112 q112
                  cases e112
                  replace hx112_0 := (HB.out.cell (World.block_lt_of_cell? w _ hx112_0)).trans hx112_0
                  replace hx112_1 := (HB.out.cell (World.block_lt_of_cell? w _ hx112_1)).trans hx112_1
                  replace hx112_2 := (HB.out.cell (World.block_lt_of_cell? w _ hx112_2)).trans hx112_2
                  have HR112_2 := Aside0.mk hi112_2
                  have HC112_2 := Aside0.mk hl112_2
                  clear hi112_2 hl112_2
                  replace p112 := eq_true p112
                  replace q112 := eq_true q112
                  go_wp2_with (first | ((with_reducible refine gate_callee (f := 67) rfl ?_); refine goesL_ (some 42) rfl rfl Try.func67 (by kernel_rfl) rfl #[.agg #[.int .i64 ((rd_T32 l0_2 x6_2).f0), .int .i64 ((rd_T32 l0_2 x6_2).f1), .slice A112_2 ((rd_T32 l0_2 x6_2).f2).length c112_2]] rfl (by (try simp only [List.map_toArray, List.map_cons, List.map_nil]); first | done | rfl | (simp only [List.length_drop, List.length_take]; rfl)) ?_; (with_reducible refine (ih k2 (by have := HJ2.out; have := HK2.out; omega) ((rd_T32 l0_2 x6_2).f0) ((rd_T32 l0_2 x6_2).f1) _ _ ((rd_T32 l0_2 x6_2).f2) false _ ?side1 ?side2 A14.out).mono ?_); (case side1 => repeat (first | exact (Kd.C_below HR112_2.out HB.out) | (with_reducible refine Kd.C_alloc ?_ _) | (with_reducible refine Kd.C_drewN ?_ _) | (with_reducible refine Kd.C_drew ?_))); (case side2 => exact HC112_2.out); rintro e w19 ⟨rfl, hb⟩; refine ⟨_, rfl, ?_⟩; have n0_ := Aside0.mk (blk_below (g := gb107) (o := .cells #[.int .i64 a0_0, .int .i64 a0_1, .slice (some ad112) l0_2.length c0_2] 32 (0, 0)) (by (with_reducible repeat (first | refine blk_drewN ?_ _ | refine blk_drew ?_ | refine blk_alloc ?_ _)); exact BK107.out) hb); have n1_ := Aside0.mk (below_step (by repeat (first | (with_reducible first | exact HB.out | apply below_alloc | apply pw_below_drewN | apply below_drew1 | refine below_set ?_ GE107.out) | exact HB.out)) hb); clear BK107; clear HB; have BK107 := n0_; have HB := n1_; clear n0_ n1_; (try clear hb); (try clear hb2); (try clear hk); (try clear hi)))
                  go_ret
                  exact ⟨by first | rfl | (simp [errW_none, errW_some] <;> rfl) | (simp [*, errW_none, errW_some] <;> rfl), by repeat (first | (with_reducible first | exact HB.out | apply below_alloc | apply pw_below_drewN | apply below_drew1 | refine below_set ?_ GE107.out) | exact HB.out)⟩
              · rw [if_neg c13] at H
                exact absurd H (by simp)
            · rw [if_neg c12] at H
              have c12b0 : decide (x6_2 < (l0_2.length : Int)) = false := decide_eq_false c12
              clear c12
              obtain rfl := Option.some.inj H
              have hcz20_0 : wr.cell? ⟨gb107, 0, none⟩ = some (.int .i64 a0_0) := (blk_cell BK107.out 0).trans rfl
              have hcz20_1 : wr.cell? ⟨gb107, 1, none⟩ = some (.int .i64 a0_1) := (blk_cell BK107.out 1).trans rfl
              have hcz20_2 : wr.cell? ⟨gb107, 2, none⟩ = some (.slice A0_2 l0_2.length c0_2) := (blk_cell BK107.out 2).trans rfl
              have hfz20_0 := blk_frozen BK107.out 0
              have hfz20_1 := blk_frozen BK107.out 1
              have hfz20_2 := blk_frozen BK107.out 2
              go_wp2
              go_ret
              exact ⟨by first | rfl | (simp [errW_none, errW_some] <;> rfl) | (simp [*, errW_none, errW_some] <;> rfl), by repeat (first | (with_reducible first | exact HB.out | apply below_alloc | apply pw_below_drewN | apply below_drew1 | refine below_set ?_ GE107.out) | exact HB.out)⟩
end Go.Proofs.Ytjceelmehekpaaa.G
end
section
namespace Go.Proofs.Ytjceelmehekpaaa.G
open Go.RowKit Go.Proofs.YtjceelmehekpaaaW.PrintWords
set_option linter.unusedVariables false
set_option linter.unusedSimpArgs false
structure Ist {α : Type} (d : Kd α) : Prop where
  set : ∀ {w : World} {base : Nat} {ok : Nat → Prop} {x : α} {cs : List Value} {j : Nat} {z0 : Int} (z : Int), cs[j]? = some (.int .i64 z0) → d.M w base ok x cs → d.M w base ok x (cs.set j (.int .i64 z))
  mv : ∀ {w : World} {base : Nat} {ok : Nat → Prop} {x : α} {cs : List Value} {g o : Nat} {z0 : Int} (z : Int), w.cell? ⟨g, o, none⟩ = some (.int .i64 z0) → d.M w base ok x cs → d.M (w.setCell ⟨g, o, none⟩ (.int .i64 z)) base ok x cs
theorem chunk_set {inner : List Value} {o a n : Nat} (u : Value) (h1 : a ≤ o) (h2 : o < a + n) : ((inner.set o u).drop a).take n = ((inner.drop a).take n).set (o - a) u := by
  apply List.ext_getElem?
  intro q
  rw [List.getElem?_take, List.getElem?_drop, List.getElem?_set, List.getElem?_set, List.getElem?_take, List.getElem?_drop, List.length_take, List.length_drop]
  by_cases hq : q < n
  · rw [if_pos hq, if_pos hq]
    by_cases e : o = a + q
    · rw [if_pos e, if_pos (show o - a = q by omega)]
      by_cases hl : o < inner.length
      · rw [if_pos (by omega), if_pos (by omega)]
      · rw [if_neg (by omega), if_neg (by omega)]
    · rw [if_neg e, if_neg (by omega)]
  · rw [if_neg hq, if_neg hq]
    rw [if_neg (by omega)]
theorem chunk_far {inner : List Value} {o a n : Nat} (u : Value) (h : ¬ (a ≤ o ∧ o < a + n)) : ((inner.set o u).drop a).take n = (inner.drop a).take n := by
  apply List.ext_getElem?
  intro q
  rw [List.getElem?_take, List.getElem?_drop, List.getElem?_set, List.getElem?_take, List.getElem?_drop]
  by_cases hq : q < n
  · rw [if_pos hq, if_pos hq, if_neg (by omega)]
  · rw [if_neg hq, if_neg hq]
theorem ist_R {α : Type} {d : Kd α} (hd : Ist d) {e : Nat} {w : World} {base : Nat} {ok : Nat → Prop} {v : Value} {xs : List α} {g o : Nat} {z0 : Int} (z : Int) (hc : w.cell? ⟨g, o, none⟩ = some (.int .i64 z0)) (h : d.R e w base ok v xs) : d.R e (w.setCell ⟨g, o, none⟩ (.int .i64 z)) base ok v xs := by
  obtain ⟨h0, inner, ho, hr⟩ := h
  by_cases hg : v.ownBlock = some g
  · obtain ⟨A, c, rfl⟩ : ∃ A c, v = .slice A xs.length c := own_slice ho
    obtain ⟨gb, ho2⟩ : ∃ ad : Addr, A = some ad := by
      cases A with
      | none => simp [Value.ownBlock] at hg
      | some ad => exact ⟨ad, rfl⟩
    subst ho2
    have hgb : gb = ⟨g, 0, none⟩ := by
      rcases ho.2 with ⟨h1, _⟩ | ⟨g', cap, cur, h1, _⟩
      · cases h1
      · injection h1 with h1 _ _
        injection h1 with h1
        have h2 : gb.block = g := by simpa [Value.ownBlock] using hg
        rw [h1] at h2
        rw [h1, ← h2]
    subst hgb
    refine ⟨h0, inner.set o (.int .i64 z), (ho.stored o _).1, by rw [List.length_set]; exact hr.1, fun j p hj => ?_⟩
    have hM := hr.2 j p hj
    by_cases hin : j * d.sz ≤ o ∧ o < j * d.sz + d.sz
    · rw [chunk_set _ hin.1 hin.2]
      refine hd.mv z hc (hd.set (z0 := z0) z ?_ hM)
      have hlen := d.K_len (d.K_of_M hM)
      rw [List.length_take, List.length_drop] at hlen
      have hol : o < inner.length := by omega
      have h3 := ho.cells (g := g) (by simp [Value.ownBlock]) o _ (List.getElem?_eq_getElem hol)
      rw [add_plain, hc] at h3
      injection h3 with h3
      rw [List.getElem?_take, if_pos (by omega), List.getElem?_drop, show j * d.sz + (o - j * d.sz) = o by omega, List.getElem?_eq_getElem hol, h3]
    · rw [chunk_far _ hin]
      exact hd.mv z hc hM
  · exact ⟨h0, inner, own_setCell ho (fun e => hg e.symm) _, hr.imp_ (fun p c hp => hd.mv z hc hp)⟩
structure Marked (w w' : World) (base : Nat) (ok : Nat → Prop) : Prop where
  below : Below base w w'
  kept : Kept w w' ok
  size : w'.heap.size = w.heap.size
  rows : ∀ {α : Type} {d : Kd α}, Ist d → ∀ {e b : Nat} {o : Nat → Prop} {v : Value} {xs : List α}, d.R e w b o v xs → d.R e w' b o v xs
theorem Marked.refl (w : World) (base : Nat) (ok : Nat → Prop) : Marked w w base ok := ⟨Below.refl _ _, Kept.refl _ _, rfl, fun _ _ _ _ _ _ h => h⟩
theorem Marked.trans {w w1 w2 : World} {base : Nat} {ok : Nat → Prop} (h : Marked w w1 base ok) (k : Marked w1 w2 base ok) : Marked w w2 base ok :=
  ⟨h.below.trans k.below, h.kept.then_ k.kept (fun _ hk => .inl hk), k.size.trans h.size, fun hd _ _ _ _ _ hr => k.rows hd (h.rows hd hr)⟩
theorem Marked.mono {w w1 : World} {base base' : Nat} {ok ok' : Nat → Prop} (h : Marked w w1 base ok) (hb : base' ≤ base) (hk : ∀ k, ok k → ok' k) : Marked w w1 base' ok' := ⟨h.below.mono hb, h.kept.mono hk, h.size, h.rows⟩
theorem Marked.drew {w w1 : World} {base : Nat} {ok : Nat → Prop} (h : Marked w w1 base ok) (n : Nat) : Marked w (w1.drewN n) base ok := ⟨pw_below_drewN h.below n, h.kept.drewN n, h.size, fun hd _ _ _ _ _ hr => Kd.R_drewN (h.rows hd hr) n⟩
theorem Marked.store {w w1 : World} {base : Nat} {ok : Nat → Prop} (h : Marked w w1 base ok) {g o : Nat} {z0 : Int} (z : Int) (hc : w1.cell? ⟨g, o, none⟩ = some (.int .i64 z0)) (hg : ok g) (hb : base ≤ g) : Marked w (w1.setCell ⟨g, o, none⟩ (.int .i64 z)) base ok :=
  ⟨h.below.setCell hb _, h.kept.setCell (.inl hg) _, by simpa [World.setCell] using h.size, fun hd _ _ _ _ _ hr => ist_R hd z hc (h.rows hd hr)⟩
end Go.Proofs.Ytjceelmehekpaaa.G
end
section
namespace Go.Proofs.Ytjceelmehekpaaa.G
open Go.RowKit Go.Proofs.YtjceelmehekpaaaW.PrintWords
set_option linter.unusedVariables false
set_option linter.unusedSimpArgs false
abbrev TkL := S32
mutual
def lowT : TkL → TkL
  | ⟨a, b, ps⟩ => if a = 5 then (match lowL ps with | [] => ⟨0, 0, []⟩ | q :: _ => q) else ⟨a, b, lowL ps⟩
def lowL : List TkL → List TkL
  | [] => []
  | p :: ps => lowT p :: lowL ps
end
mutual
def isLow : TkL → Prop
  | ⟨a, _, ps⟩ => a ≠ 5 ∧ isLowL ps
def isLowL : List TkL → Prop
  | [] => True
  | p :: ps => isLow p ∧ isLowL ps
end
mutual
def walkT : TkL → Prop
  | ⟨a, _, ps⟩ => (a = 5 → ps ≠ []) ∧ walkL ps
def walkL : List TkL → Prop
  | [] => True
  | p :: ps => walkT p ∧ walkL ps
end
mutual
def szT : TkL → Nat
  | ⟨_, _, ps⟩ => 1 + szL ps
def szL : List TkL → Nat
  | [] => 0
  | p :: ps => szT p + szL ps
end
mutual
theorem lowT_isLow : ∀ t : TkL, isLow (lowT t)
  | ⟨a, b, ps⟩ => by
    have h := lowL_isLow ps
    unfold lowT
    split
    · split
      · simp [isLow, isLowL]
      · rename_i q qs he
        rw [he] at h
        simp only [isLowL] at h
        exact h.1
    · rename_i ha
      simp only [isLow]
      exact ⟨ha, h⟩
theorem lowL_isLow : ∀ ts : List TkL, isLowL (lowL ts)
  | [] => by simp [lowL, isLowL]
  | t :: ts => by
    simp only [lowL, isLowL]
    exact ⟨lowT_isLow t, lowL_isLow ts⟩
end
mutual
theorem lowT_fix : ∀ t : TkL, isLow t → lowT t = t
  | ⟨a, b, ps⟩ => fun h => by
    simp only [isLow] at h
    unfold lowT
    rw [if_neg h.1, lowL_fix ps h.2]
theorem lowL_fix : ∀ ts : List TkL, isLowL ts → lowL ts = ts
  | [] => fun _ => by simp [lowL]
  | t :: ts => fun h => by
    simp only [isLowL] at h
    simp only [lowL]
    rw [lowT_fix t h.1, lowL_fix ts h.2]
end
mutual
theorem lowT_sz : ∀ t : TkL, szT (lowT t) ≤ szT t
  | ⟨a, b, ps⟩ => by
    have h := lowL_sz ps
    unfold lowT
    split
    · split
      · simp [szT, szL]
      · rename_i q qs he
        rw [he] at h
        simp only [szL] at h
        simp only [szT] at h ⊢
        omega
    · simp only [szT]
      omega
theorem lowL_sz : ∀ ts : List TkL, szL (lowL ts) ≤ szL ts
  | [] => by simp [lowL]
  | t :: ts => by
    have h1 := lowT_sz t
    have h2 := lowL_sz ts
    simp only [lowL, szL]
    omega
end
mutual
theorem low_walk : ∀ t : TkL, isLow t → walkT t
  | ⟨a, b, ps⟩ => fun h => by
    simp only [isLow] at h
    simp only [walkT]
    exact ⟨fun e => absurd e h.1, lowL_walk ps h.2⟩
theorem lowL_walk : ∀ ts : List TkL, isLowL ts → walkL ts
  | [] => fun _ => by simp [walkL]
  | t :: ts => fun h => by
    simp only [isLowL] at h
    simp only [walkL]
    exact ⟨low_walk t h.1, lowL_walk ts h.2⟩
end
structure Lw (x y : TkL) : Prop where
  low : lowT y = lowT x
  fix : isLow x → y = x
  walk : walkT x → walkT y
  sz : szT y ≤ szT x
theorem Lw.refl (x : TkL) : Lw x x := ⟨rfl, fun _ => rfl, fun h => h, Nat.le_refl _⟩
theorem Lw.trans {x y z : TkL} (h : Lw x y) (k : Lw y z) : Lw x z :=
  ⟨k.low.trans h.low, fun hx => by have e := h.fix hx; subst e; exact k.fix hx, fun hx => k.walk (h.walk hx), Nat.le_trans k.sz h.sz⟩
theorem Lw.to (x : TkL) : Lw x (lowT x) := ⟨lowT_fix _ (lowT_isLow x), fun h => lowT_fix x h, fun _ => low_walk _ (lowT_isLow x), lowT_sz x⟩
inductive Lws : List TkL → List TkL → Prop
  | nil : Lws [] []
  | cons {p q : TkL} {ps qs : List TkL} : Lw p q → Lws ps qs → Lws (p :: ps) (q :: qs)
theorem Lws.length {ps qs : List TkL} (h : Lws ps qs) : qs.length = ps.length := by
  induction h with
  | nil => rfl
  | cons _ _ ih => simp [ih]
theorem Lws.low {ps qs : List TkL} (h : Lws ps qs) : lowL qs = lowL ps := by
  induction h with
  | nil => rfl
  | cons h _ ih => simp only [lowL]; rw [h.low, ih]
theorem Lws.fix {ps qs : List TkL} (h : Lws ps qs) : isLowL ps → qs = ps := by
  induction h with
  | nil => exact fun _ => rfl
  | cons h _ ih => intro hp; simp only [isLowL] at hp; rw [h.fix hp.1, ih hp.2]
theorem Lws.walk {ps qs : List TkL} (h : Lws ps qs) : walkL ps → walkL qs := by
  induction h with
  | nil => exact fun h => h
  | cons h _ ih => intro hp; simp only [walkL] at hp ⊢; exact ⟨h.walk hp.1, ih hp.2⟩
theorem Lws.sz {ps qs : List TkL} (h : Lws ps qs) : szL qs ≤ szL ps := by
  induction h with
  | nil => exact Nat.le_refl _
  | cons h _ ih => have := h.sz; simp only [szL]; omega
theorem Lws.node {ps qs : List TkL} (h : Lws ps qs) (a b : Int) : Lw ⟨a, b, ps⟩ ⟨a, b, qs⟩ := by
  refine ⟨?_, fun hx => ?_, fun hx => ?_, ?_⟩
  · unfold lowT; rw [h.low]
  · simp only [isLow] at hx; rw [h.fix hx.2]
  · simp only [walkT] at hx ⊢
    refine ⟨fun e hq => hx.1 e ?_, h.walk hx.2⟩
    have := h.length
    rw [hq] at this
    exact List.length_eq_zero_iff.1 this.symm
  · have := h.sz; simp only [szT]; omega
structure LwN (x y : TkL) : Prop where
  f0 : y.f0 = x.f0
  f1 : y.f1 = x.f1
  f2 : Lws x.f2 y.f2
theorem LwN.lw {x y : TkL} (h : LwN x y) : Lw x y := by
  obtain ⟨a, b, ps⟩ := x
  obtain ⟨a', b', qs⟩ := y
  obtain ⟨h0, h1, h2⟩ := h
  simp only at h0 h1 h2
  subst h0 h1
  exact h2.node a' b'
theorem Lws.trans {ps qs rs : List TkL} (h : Lws ps qs) (k : Lws qs rs) : Lws ps rs := by
  induction h generalizing rs with
  | nil => exact k
  | cons h _ ih =>
    cases k with
    | cons h2 k2 => exact .cons (h.trans h2) (ih k2)
theorem LwN.trans {x y z : TkL} (h : LwN x y) (k : LwN y z) : LwN x z := ⟨k.f0.trans h.f0, k.f1.trans h.f1, h.f2.trans k.f2⟩
theorem Lws.at {ps qs : List TkL} (h : Lws ps qs) : ∀ (j : Nat) (q : TkL), qs[j]? = some q → ∃ p, ps[j]? = some p ∧ Lw p q := by
  induction h with
  | nil => intro j q hq; simp at hq
  | cons h _ ih =>
    intro j q hq
    cases j with
    | zero => simp only [List.getElem?_cons_zero, Option.some.injEq] at hq; subst hq; exact ⟨_, rfl, h⟩
    | succ j => exact ih j q (by simpa using hq)
theorem Lws.refl : ∀ ps : List TkL, Lws ps ps
  | [] => .nil
  | p :: ps => .cons (Lw.refl p) (Lws.refl ps)
theorem Lws.pick {Q : Nat → TkL → Prop} {ps : List TkL} (h : ∀ j p, ps[j]? = some p → ∃ q, Lw p q ∧ Q j q) : ∃ qs, Lws ps qs ∧ ∀ j q, qs[j]? = some q → Q j q := by
  induction ps generalizing Q with
  | nil => exact ⟨[], .nil, fun j q hq => by simp at hq⟩
  | cons p ps ih =>
    obtain ⟨q, hq, hQ⟩ := h 0 p rfl
    obtain ⟨qs, h1, h2⟩ := ih (Q := fun j => Q (j + 1)) (fun j p hp => h (j + 1) p (by simpa using hp))
    refine ⟨q :: qs, .cons hq h1, fun j r hr => ?_⟩
    cases j with
    | zero => simp only [List.getElem?_cons_zero, Option.some.injEq] at hr; rw [← hr]; exact hQ
    | succ j => exact h2 j r (by simpa using hr)
def setL : List Value → Nat → List Value → List Value
  | xs, _, [] => xs
  | xs, o, u :: us => setL (xs.set o u) (o + 1) us
theorem setL_get : ∀ (us xs : List Value) (o q : Nat), o + us.length ≤ xs.length → (setL xs o us)[q]? = if o ≤ q ∧ q < o + us.length then us[q - o]? else xs[q]?
  | [], xs, o, q, h => by
    rw [if_neg (by simp only [List.length_nil]; omega)]
    rfl
  | u :: us, xs, o, q, h => by
    simp only [List.length_cons] at h ⊢
    rw [setL, setL_get us (xs.set o u) (o + 1) q (by rw [List.length_set]; omega)]
    by_cases h1 : o + 1 ≤ q ∧ q < o + 1 + us.length
    · rw [if_pos h1, if_pos (by omega), show q - o = (q - (o + 1)) + 1 by omega, List.getElem?_cons_succ]
    · rw [if_neg h1, List.getElem?_set]
      by_cases h2 : o = q
      · subst h2
        rw [if_pos rfl, if_pos (by omega), if_pos (by omega), Nat.sub_self, List.getElem?_cons_zero]
      · rw [if_neg h2, if_neg (by omega)]
theorem setL_far : ∀ (us xs : List Value) (o q : Nat), ¬ (o ≤ q ∧ q < o + us.length) → (setL xs o us)[q]? = xs[q]?
  | [], xs, o, q, h => rfl
  | u :: us, xs, o, q, h => by
    simp only [List.length_cons] at h
    rw [setL, setL_far us (xs.set o u) (o + 1) q (by omega), List.getElem?_set, if_neg (by omega)]
theorem setL_length : ∀ (us xs : List Value) (o : Nat), (setL xs o us).length = xs.length
  | [], _, _ => rfl
  | u :: us, xs, o => by rw [setL, setL_length us, List.length_set]
theorem own_setCells {base : Nat} {e : TypeId} {size n cap g : Nat} : ∀ (us : List Value) (o : Nat) {w : World} {xs : List Value}, w.ownsRow base e size (.slice (some ⟨g, 0, none⟩) n cap) n xs → (w.setCells g o us).ownsRow base e size (.slice (some ⟨g, 0, none⟩) n cap) n (setL xs o us)
  | [], _, _, _, h => h
  | u :: us, o, _, _, h => own_setCells us (o + 1) (h.stored o u).1
theorem tk_one {w : World} : ∀ (n : Nat) {b b' : Nat} {o o' : Nat → Prop} {x y : TkL} {cs : List Value}, (Kd.upto F32 3 [32] n).M w b o x cs → k32.M w b' o' y cs → x = y := by
  intro n
  induction n with
  | zero => intro b b' o o' x y cs h; exact h.elim
  | succ n ih =>
    intro b b' o o' x y cs h k
    obtain ⟨xa, xb, ps⟩ := x
    obtain ⟨ya, yb, qs⟩ := y
    obtain ⟨v, e, hQ⟩ := k32_openM k
    obtain ⟨_, _, rfl, rfl, ⟨_, _, rfl, rfl, ⟨v', rfl, hP⟩⟩⟩ := h
    change (Kd.upto F32 3 [32] n).R 32 w b o v' ps at hP
    change k32.R 32 w b' o' v qs at hQ
    have e1 : xa = ya := by injection e with e1 _; injection e1
    have e2 : xb = yb := by injection e with _ e2; injection e2 with e2 _; injection e2
    have e3 : v' = v := by injection e with _ e2; injection e2 with _ e3; injection e3
    subst e1 e2 e3
    have key : ps = qs := by
      obtain ⟨A, c, hv, _, _⟩ := Kd.R_reads hP
      obtain ⟨A2, c2, hv2, _, _⟩ := Kd.R_reads hQ
      have hl : ps.length = qs.length := by rw [hv] at hv2; injection hv2
      obtain ⟨_, i1, ho1, hr1⟩ := hP
      obtain ⟨_, i2, ho2, hr2⟩ := hQ
      have hsz : (Kd.upto F32 3 [32] n).sz = 3 := sz32 n
      have hz2 : k32.sz = 3 := rfl
      have l1 := hr1.1
      have l2 := hr2.1
      rw [hsz] at l1
      rw [hz2] at l2
      have hi : i1 = i2 := by
        apply List.ext_getElem?
        intro q
        by_cases hq : q < i1.length
        · have hq2 : q < i2.length := by omega
          rcases ho1.2 with ⟨h1, h3⟩ | ⟨g, cap, cur, h1, _⟩
          · omega
          · have hb : v'.ownBlock = some g := by rw [h1]; simp [Value.ownBlock]
            have c1 := ho1.cells (g := g) hb q _ (List.getElem?_eq_getElem hq)
            have c2 := ho2.cells (g := g) hb q _ (List.getElem?_eq_getElem hq2)
            rw [List.getElem?_eq_getElem hq, List.getElem?_eq_getElem hq2]
            rw [c1] at c2
            exact c2
        · rw [List.getElem?_eq_none (by omega), List.getElem?_eq_none (by omega)]
      subst hi
      apply List.ext_getElem?
      intro j
      by_cases hj : j < ps.length
      · have hj2 : j < qs.length := by omega
        have m1 := hr1.2 j _ (List.getElem?_eq_getElem hj)
        have m2 := hr2.2 j _ (List.getElem?_eq_getElem hj2)
        rw [hsz] at m1
        rw [hz2] at m2
        rw [List.getElem?_eq_getElem hj, List.getElem?_eq_getElem hj2, ih m1 m2]
      · rw [List.getElem?_eq_none (by omega), List.getElem?_eq_none (by omega)]
    rw [key]
theorem tk_uniq {w : World} {b b' : Nat} {o o' : Nat → Prop} {x y : TkL} {cs : List Value} (h : k32.M w b o x cs) (k : k32.M w b' o' y cs) : x = y := by
  obtain ⟨n, h⟩ := h
  exact tk_one n h k
theorem tk_and_ {w : World} : ∀ (n : Nat) {b b' : Nat} {o o' : Nat → Prop} {x y : TkL} {cs : List Value}, (Kd.upto F32 3 [32] n).M w b o x cs → k32.M w b' o' y cs → k32.M w b (fun k => o k ∧ o' k) x cs := by
  intro n
  induction n with
  | zero => intro b b' o o' x y cs h; exact h.elim
  | succ n ih =>
    intro b b' o o' x y cs h k
    obtain ⟨xa, xb, ps⟩ := x
    obtain ⟨ya, yb, qs⟩ := y
    obtain ⟨v, e, hQ⟩ := k32_openM k
    obtain ⟨_, _, rfl, rfl, ⟨_, _, rfl, rfl, ⟨v', rfl, hP⟩⟩⟩ := h
    change (Kd.upto F32 3 [32] n).R 32 w b o v' ps at hP
    change k32.R 32 w b' o' v qs at hQ
    have e1 : xa = ya := by injection e with e1 _; injection e1
    have e2 : xb = yb := by injection e with _ e2; injection e2 with e2 _; injection e2
    have e3 : v' = v := by injection e with _ e2; injection e2 with _ e3; injection e3
    subst e1 e2 e3
    have key : k32.R 32 w b (fun k => o k ∧ o' k) v' ps := by
      obtain ⟨A, c, hv, _, _⟩ := Kd.R_reads hP
      obtain ⟨A2, c2, hv2, _, _⟩ := Kd.R_reads hQ
      have hl : ps.length = qs.length := by rw [hv] at hv2; injection hv2
      obtain ⟨h0a, i1, ho1, hr1⟩ := hP
      obtain ⟨h0b, i2, ho2, hr2⟩ := hQ
      have hsz : (Kd.upto F32 3 [32] n).sz = 3 := sz32 n
      have hz2 : k32.sz = 3 := rfl
      have l1 := hr1.1
      have l2 := hr2.1
      rw [hsz] at l1
      rw [hz2] at l2
      have hi : i1 = i2 := by
        apply List.ext_getElem?
        intro q
        by_cases hq : q < i1.length
        · have hq2 : q < i2.length := by omega
          rcases ho1.2 with ⟨h1, h3⟩ | ⟨g, cap, cur, h1, _⟩
          · omega
          · have hb : v'.ownBlock = some g := by rw [h1]; simp [Value.ownBlock]
            have c1 := ho1.cells (g := g) hb q _ (List.getElem?_eq_getElem hq)
            have c2 := ho2.cells (g := g) hb q _ (List.getElem?_eq_getElem hq2)
            rw [List.getElem?_eq_getElem hq, List.getElem?_eq_getElem hq2]
            rw [c1] at c2
            exact c2
        · rw [List.getElem?_eq_none (by omega), List.getElem?_eq_none (by omega)]
      subst hi
      refine ⟨fun k hk => ⟨h0a k hk, h0b k hk⟩, i1, by rw [show k32.sz = 3 from rfl, ← hsz]; exact ho1, by rw [hz2]; exact l1, fun j p hj => ?_⟩
      have hjl : j < ps.length := by
        rcases Nat.lt_or_ge j ps.length with h | h
        · exact h
        · rw [List.getElem?_eq_none h] at hj; cases hj
      have m1 := hr1.2 j p hj
      have m2 := hr2.2 j _ (List.getElem?_eq_getElem (show j < qs.length by omega))
      rw [hsz] at m1
      rw [hz2] at m2
      rw [hz2]
      exact k32.M_mono (fun k hk => ⟨⟨hk.1.1, hk.2.1⟩, hk.1.2⟩) (ih m1 m2)
    exact k32_mkM w b _ ⟨xa, xb, ps⟩ key
theorem tk_and {w : World} {b b' : Nat} {o o' : Nat → Prop} {x y : TkL} {cs : List Value} (h : k32.M w b o x cs) (k : k32.M w b' o' y cs) : k32.M w b (fun k => o k ∧ o' k) x cs := by
  obtain ⟨n, h⟩ := h
  exact tk_and_ n h k
theorem low_ext {w : World} {base : Nat} {ok : Nat → Prop} {x : TkL} {ce cs' : List Value} (hx : k32.M w base ok x ce) (P : ∀ b o y, (∀ k, o k → ok k) → k32.M w b o y ce → k32.M w b o (lowT y) cs') :
    ∀ b o y, k32.M w b o y ce → k32.M w b o (lowT y) cs' := fun b o y h => k32.M_mono (fun _ hk => hk.1) (P b (fun k => o k ∧ ok k) y (fun _ hk => hk.2) (tk_and h hx))
theorem low_store {w : World} {g i : Nat} {old new : List Value} (hol : old.length = 3) (hnl : new.length = 3) (hcell : ∀ j u, old[j]? = some u → w.cell? ⟨g, i * 3 + j, none⟩ = some u)
    (H : ∀ base ok x, k32.M w base ok x old → k32.M w base ok (lowT x) new) :
    ∀ (n : Nat) {base : Nat} {ok : Nat → Prop} {x : TkL} {cs : List Value}, (Kd.upto F32 3 [32] n).M w base ok x cs → ∃ y, LwN x y ∧ k32.M (w.setCells g (i * 3) new) base ok y cs := by
  intro n
  induction n with
  | zero => intro base ok x cs h; exact h.elim
  | succ n ih =>
    intro base ok x cs h
    obtain ⟨xa, xb, ps⟩ := x
    obtain ⟨_, _, rfl, rfl, ⟨_, _, rfl, rfl, ⟨v, rfl, hR⟩⟩⟩ := h
    change (Kd.upto F32 3 [32] n).R 32 w base ok v ps at hR
    have key : ∃ ys, Lws ps ys ∧ k32.R 32 (w.setCells g (i * 3) new) base ok v ys := by
      obtain ⟨h0, inner, ho, hr⟩ := hR
      have hsz : (Kd.upto F32 3 [32] n).sz = 3 := sz32 n
      have hr1 := hr.1
      rw [hsz] at hr1 ho
      obtain ⟨A, c, rfl⟩ := own_slice ho
      by_cases hg : (Value.slice A ps.length c).ownBlock = some g
      · have hA : A = some ⟨g, 0, none⟩ := by
          rcases ho.2 with ⟨h1, _⟩ | ⟨g', cap, cur, h1, _⟩
          · injection h1 with h1 _ _
            subst h1
            simp [Value.ownBlock] at hg
          · injection h1 with h1 _ _
            subst h1
            have h2 : g' = g := by simpa [Value.ownBlock] using hg
            rw [h2]
        subst hA
        have hpick : ∃ ys, Lws ps ys ∧ ∀ j q, ys[j]? = some q → k32.M (w.setCells g (i * 3) new) base (fun k => ok k ∧ some k ≠ (Value.slice (some ⟨g, 0, none⟩) ps.length c).ownBlock) q (((setL inner (i * 3) new).drop (j * 3)).take 3) := by
          refine Lws.pick fun j p hp => ?_
          have hM0 := hr.2 j p hp
          rw [hsz] at hM0
          have hM : k32.M w base (fun k => ok k ∧ some k ≠ (Value.slice (some ⟨g, 0, none⟩) ps.length c).ownBlock) p ((inner.drop (j * 3)).take 3) := ⟨n, hM0⟩
          have hjl : j < ps.length := by
            rcases Nat.lt_or_ge j ps.length with h | h
            · exact h
            · rw [List.getElem?_eq_none h] at hp; cases hp
          have hfarM : ∀ (z : TkL) (ds : List Value), k32.M w base (fun k => ok k ∧ some k ≠ (Value.slice (some ⟨g, 0, none⟩) ps.length c).ownBlock) z ds → k32.M (w.setCells g (i * 3) new) base (fun k => ok k ∧ some k ≠ (Value.slice (some ⟨g, 0, none⟩) ps.length c).ownBlock) z ds :=
            fun z ds hz => Kd.M_step hz (fun k hk _ => setCells_far new (i * 3) k (fun e => hk.2 (by rw [e]; simp [Value.ownBlock])))
          by_cases hji : j = i
          · subst hji
            have eold : (inner.drop (j * 3)).take 3 = old := by
              apply List.ext_getElem?
              intro q
              rw [List.getElem?_take, List.getElem?_drop]
              by_cases hq : q < 3
              · rw [if_pos hq]
                have hlt : j * 3 + q < inner.length := by omega
                have h1 := ho.cells (g := g) (by simp [Value.ownBlock]) (j * 3 + q) _ (List.getElem?_eq_getElem hlt)
                rw [add_plain] at h1
                have h2 := hcell q _ (List.getElem?_eq_getElem (show q < old.length by omega))
                rw [h1] at h2
                rw [List.getElem?_eq_getElem hlt, List.getElem?_eq_getElem (show q < old.length by omega)]
                exact h2
              · rw [if_neg hq, List.getElem?_eq_none (by omega)]
            have enew : ((setL inner (j * 3) new).drop (j * 3)).take 3 = new := by
              apply List.ext_getElem?
              intro q
              rw [List.getElem?_take, List.getElem?_drop]
              by_cases hq : q < 3
              · rw [if_pos hq, setL_get new inner (j * 3) (j * 3 + q) (by omega), if_pos (by omega), show j * 3 + q - j * 3 = q by omega]
              · rw [if_neg hq, List.getElem?_eq_none (by omega)]
            rw [eold] at hM
            rw [enew]
            exact ⟨lowT p, Lw.to p, hfarM _ _ (H _ _ _ hM)⟩
          · have esame : ((setL inner (i * 3) new).drop (j * 3)).take 3 = (inner.drop (j * 3)).take 3 := by
              apply List.ext_getElem?
              intro q
              rw [List.getElem?_take, List.getElem?_drop, List.getElem?_take, List.getElem?_drop]
              by_cases hq : q < 3
              · rw [if_pos hq, if_pos hq, setL_far new inner (i * 3) (j * 3 + q) (by omega)]
              · rw [if_neg hq, if_neg hq]
            rw [esame]
            exact ⟨p, Lw.refl p, hfarM _ _ hM⟩
        obtain ⟨ys, h1, h2⟩ := hpick
        refine ⟨ys, h1, h0, setL inner (i * 3) new, by rw [h1.length]; exact own_setCells new (i * 3) ho, by rw [h1.length, setL_length]; exact hr1, fun j q hq => h2 j q hq⟩
      · have hmove : ∀ k, (Value.slice A ps.length c).ownBlock = some k → (w.setCells g (i * 3) new).heap[k]? = w.heap[k]? := fun k hk => setCells_far new (i * 3) k (fun e => hg (by rw [← e]; exact hk))
        obtain ⟨ys, h1, h2⟩ := Lws.pick (Q := fun j q => k32.M (w.setCells g (i * 3) new) base (fun k => ok k ∧ some k ≠ (Value.slice A ps.length c).ownBlock) q ((inner.drop (j * 3)).take 3)) (ps := ps) (fun j p hp => by
          have hM0 := hr.2 j p hp
          rw [hsz] at hM0
          obtain ⟨y, hy1, hy2⟩ := ih hM0
          exact ⟨y, hy1.lw, hy2⟩)
        exact ⟨ys, h1, h0, inner, by rw [h1.length]; exact own_move ho hmove, by rw [h1.length]; exact hr1, fun j q hq => h2 j q hq⟩
    obtain ⟨ys, h1, h2⟩ := key
    refine ⟨⟨xa, xb, ys⟩, ⟨rfl, rfl, h1⟩, ?_⟩
    exact k32_mkM _ base ok ⟨xa, xb, ys⟩ h2
structure Lowed (w w' : World) (base : Nat) (ok : Nat → Prop) : Prop where
  below : Below base w w'
  kept : Kept w w' ok
  rows : ∀ {b : Nat} {o : Nat → Prop} {x : TkL} {cs : List Value}, k32.M w b o x cs → ∃ y, LwN x y ∧ k32.M w' b o y cs
theorem LwN.refl (x : TkL) : LwN x x := ⟨rfl, rfl, Lws.refl _⟩
theorem Lowed.refl (w : World) (base : Nat) (ok : Nat → Prop) : Lowed w w base ok := ⟨Below.refl _ _, Kept.refl _ _, fun h => ⟨_, LwN.refl _, h⟩⟩
theorem Lowed.trans {w w1 w2 : World} {base : Nat} {ok : Nat → Prop} (h : Lowed w w1 base ok) (k : Lowed w1 w2 base ok) : Lowed w w2 base ok :=
  ⟨h.below.trans k.below, h.kept.then_ k.kept (fun _ hk => .inl hk), fun hm => by obtain ⟨y, h1, h2⟩ := h.rows hm; obtain ⟨z, h3, h4⟩ := k.rows h2; exact ⟨z, h1.trans h3, h4⟩⟩
theorem Lowed.mono {w w1 : World} {base base' : Nat} {ok ok' : Nat → Prop} (h : Lowed w w1 base ok) (hb : base' ≤ base) (hk : ∀ k, ok k → ok' k) : Lowed w w1 base' ok' := ⟨h.below.mono hb, h.kept.mono hk, h.rows⟩
theorem below_setCells {B g : Nat} {a : World} (hg : B ≤ g) : ∀ (us : List Value) (o : Nat) {w : World}, Below B a w → Below B a (w.setCells g o us)
  | [], _, _, h => h
  | u :: us, o, _, h => below_setCells hg us (o + 1) (h.setCell hg u)
theorem kept_setCells {g : Nat} {a : World} {S : Nat → Prop} (hg : S g ∨ a.heap.size ≤ g) : ∀ (us : List Value) (o : Nat) {w : World}, Kept a w S → Kept a (w.setCells g o us) S
  | [], _, _, h => h
  | u :: us, o, _, h => kept_setCells hg us (o + 1) (h.setCell hg u)
theorem Lowed.on {w w1 w2 : World} {base : Nat} {ok : Nat → Prop} (h : Lowed w w1 base ok) (hb : Below w1.heap.size w1 w2) (hs : base ≤ w.heap.size) : Lowed w w2 base ok :=
  ⟨h.below.trans (hb.mono (Nat.le_trans hs h.below.size)), h.kept.below hb, fun hm => by obtain ⟨y, h1, h2⟩ := h.rows hm; exact ⟨y, h1, Kd.M_below h2 hb⟩⟩
theorem Lowed.store {w w1 : World} {base : Nat} {ok : Nat → Prop} (h : Lowed w w1 base ok) {g i : Nat} {old new : List Value} (hol : old.length = 3) (hnl : new.length = 3) (hcell : ∀ j u, old[j]? = some u → w1.cell? ⟨g, i * 3 + j, none⟩ = some u)
    (H : ∀ b o y, k32.M w1 b o y old → k32.M w1 b o (lowT y) new) (hg : ok g) (hb : base ≤ g) : Lowed w (w1.setCells g (i * 3) new) base ok :=
  ⟨below_setCells hb new (i * 3) h.below, kept_setCells (.inl hg) new (i * 3) h.kept, fun hm => by
    obtain ⟨y, h1, n, h2⟩ := h.rows hm
    obtain ⟨z, h3, h4⟩ := low_store hol hnl hcell H n h2
    exact ⟨z, h1.trans h3, h4⟩⟩
theorem Lowed.far {w w1 : World} {base : Nat} {ok : Nat → Prop} (h : Lowed w w1 base ok) {g : Nat} (hg : w.heap.size ≤ g) (hb : base ≤ w.heap.size) (o : Nat) (u : Value) : Lowed w (w1.setCell ⟨g, o, none⟩ u) base ok :=
  ⟨h.below.setCell (Nat.le_trans hb hg) u, h.kept.setCell (.inr hg) u, fun hm => by
    obtain ⟨y, h1, h2⟩ := h.rows (k32.M_bound hm)
    exact ⟨y, h1, k32.M_mono (fun _ hk => hk.1) (Kd.M_step h2 (fun k hk _ => Below.heap_setCell w1 ⟨g, o, none⟩ u k (fun e => by have h3 := hk.2.2.1; simp only at e; omega)))⟩⟩
theorem elem_is {w : World} {g n cap b i : Nat} {o : Nat → Prop} {ps : List TkL} (hR : k32.R 32 w b o (.slice (some ⟨g, 0, none⟩) n cap) ps) (hi : i < n) {ce : List Value} (hl : ce.length = 3)
    (hcc : ∀ j u, ce[j]? = some u → w.cell? ⟨g, i * 3 + j, none⟩ = some u) : k32.M w b (fun k => o k ∧ k ≠ g) (ps.getD i ⟨0, 0, []⟩) ce := by
  obtain ⟨c, hcl, hM, hc, _⟩ := Kd.R_elem hR ⟨0, 0, []⟩ (i : Int) (by omega) (by omega)
  simp only [Int.toNat_natCast] at hM hc
  have e : c = ce := by
    have hc3 : c.length = 3 := hcl
    apply List.ext_getElem?
    intro j
    by_cases hj : j < 3
    · have h1 := hc j _ (List.getElem?_eq_getElem (show j < c.length by omega))
      have h2 := hcc j _ (List.getElem?_eq_getElem (show j < ce.length by omega))
      rw [List.getElem?_eq_getElem (show j < c.length by omega), List.getElem?_eq_getElem (show j < ce.length by omega), ← h2, ← h1]
      rfl
    · rw [List.getElem?_eq_none (by omega), List.getElem?_eq_none (by omega)]
  rw [e] at hM
  exact hM
theorem lowT_at (b : Int) (p : TkL) (ps : List TkL) : lowT ⟨5, b, p :: ps⟩ = lowT p := by
  have e : lowT ⟨5, b, p :: ps⟩ = (match lowL (p :: ps) with | [] => ⟨0, 0, []⟩ | q :: _ => q) := by rw [lowT, if_pos rfl]
  rw [e]
  simp only [lowL]
theorem low_at {w : World} {g n cap : Nat} {b1 : Int} {ce cs' : List Value} (hl : ce.length = 3) (hcc : ∀ j u, ce[j]? = some u → w.cell? ⟨g, 0 * 3 + j, none⟩ = some u) (hn : 0 < n)
    (P : ∀ b o y, k32.M w b o y ce → k32.M w b o (lowT y) cs') :
    ∀ b o y, k32.M w b o y [.int .i64 5, .int .i64 b1, .slice (some ⟨g, 0, none⟩) n cap] → k32.M w b o (lowT y) cs' := by
  intro b o y h
  obtain ⟨v2, e, hR⟩ := k32_openM h
  obtain ⟨ya, yb, ps⟩ := y
  have e1 : ya = 5 := by injection e with e1 _; injection e1 with _ e1; exact e1.symm
  have e3 : v2 = .slice (some ⟨g, 0, none⟩) n cap := by injection e with _ e2; injection e2 with _ e3; injection e3 with e3 _; exact e3.symm
  subst e1 e3
  have hlen := (Kd.R_reads' hR).1
  simp only at hlen hR
  cases ps with
  | nil => simp at hlen; omega
  | cons p ps =>
    have hE := P _ _ _ (elem_is hR hn hl hcc)
    rw [lowT_at]
    simp only [List.getD_cons_zero] at hE
    exact k32.M_mono (fun _ hk => hk.1) hE
theorem low_round {W W1 : World} {base g cap i n : Nat} {ok : Nat → Prop} {zs : List TkL} {ce cs' : List Value} (hR : k32.R 32 W base ok (.slice (some ⟨g, 0, none⟩) n cap) zs) (hi : i < n)
    (hcl : ce.length = 3) (hnl : cs'.length = 3) (hcc : ∀ j u, ce[j]? = some u → W.cell? ⟨g, i * 3 + j, none⟩ = some u) (hL : Lowed W W1 base (fun k => ok k ∧ k ≠ g))
    (hP : ∀ b o y, k32.M W1 b o y ce → k32.M W1 b o (lowT y) cs') :
    ∃ zs', k32.R 32 (W1.setCells g (i * 3) cs') base ok (.slice (some ⟨g, 0, none⟩) n cap) zs' ∧ Lws zs zs' ∧ (∀ q, zs'[i]? = some q → isLow q) ∧ Lowed W (W1.setCells g (i * 3) cs') base ok := by
  have hn := (Kd.R_reads' hR).1
  have hE0 := elem_is hR hi hcl hcc
  obtain ⟨h0, inner, ho, hr⟩ := id hR
  have hz3 : k32.sz = 3 := rfl
  have hb : (Value.slice (some ⟨g, 0, none⟩) n cap).ownBlock = some g := by simp [Value.ownBlock]
  have hg0 := h0 g hb
  have hbg := own_base ho g hb
  have hlt := own_lt ho g hb
  have hW1 : W1.heap[g]? = W.heap[g]? := hL.kept.2 g hlt (fun h => h.2 rfl)
  have ho1 : W1.ownsRow base 32 k32.sz (.slice (some ⟨g, 0, none⟩) n cap) zs.length inner := own_move ho (fun k hk => by rw [hb] at hk; injection hk with hk; rw [← hk]; exact hW1)
  obtain ⟨cells, hbk⟩ := own_typed ho g hb
  have hcc1 : ∀ j u, ce[j]? = some u → W1.cell? ⟨g, i * 3 + j, none⟩ = some u := fun j u hu => by
    have h1 := hcc j u hu
    rw [blk_cell hbk] at h1
    rw [blk_cell (hW1.trans hbk)]
    exact h1
  have hLo : Lowed W (W1.setCells g (i * 3) cs') base ok := (hL.mono (Nat.le_refl _) (fun _ hk => hk.1)).store hcl hnl hcc1 hP hg0 hbg
  obtain ⟨y, hy, hyM⟩ := hLo.rows (k32_mkM W base ok ⟨0, 0, zs⟩ hR)
  obtain ⟨v2, e2, hR2⟩ := k32_openM hyM
  have e3 : v2 = .slice (some ⟨g, 0, none⟩) n cap := by injection e2 with _ e2; injection e2 with _ e3; injection e3 with e3 _; exact e3.symm
  subst e3
  refine ⟨y.f2, hR2, hy.f2, fun q hq => ?_, hLo⟩
  have ho2 : (W1.setCells g (i * 3) cs').ownsRow base 32 k32.sz (.slice (some ⟨g, 0, none⟩) n cap) n (setL inner (i * 3) cs') := own_setCells cs' (i * 3) (by rw [hn]; rw [hn] at ho1; exact ho1)
  have hil : inner.length = zs.length * 3 := by have := hr.1; rw [hz3] at this; exact this
  have hcc2 : ∀ j u, cs'[j]? = some u → (W1.setCells g (i * 3) cs').cell? ⟨g, i * 3 + j, none⟩ = some u := fun j u hu => by
    have hj : j < cs'.length := by
      rcases Nat.lt_or_ge j cs'.length with h | h
      · exact h
      · rw [List.getElem?_eq_none h] at hu; cases hu
    have h1 : (setL inner (i * 3) cs')[i * 3 + j]? = some u := by
      rw [setL_get cs' inner (i * 3) (i * 3 + j) (by omega), if_pos (by omega), show i * 3 + j - i * 3 = j by omega]
      exact hu
    have h2 := ho2.cells (g := g) hb (i * 3 + j) u h1
    rw [add_plain] at h2
    exact h2
  have hE2 := elem_is hR2 hi hnl hcc2
  obtain ⟨z1, hz1, hz1M⟩ := hL.rows hE0
  have hM1 := hP _ _ _ hz1M
  have hM2 : k32.M (W1.setCells g (i * 3) cs') base (fun k => ok k ∧ k ≠ g) (lowT z1) cs' := Kd.M_step hM1 (fun k hk _ => setCells_far cs' (i * 3) k hk.2)
  have e := tk_uniq hE2 hM2
  have hq2 : y.f2.getD i ⟨0, 0, []⟩ = q := by rw [List.getD_eq_getElem?_getD, hq, Option.getD_some]
  rw [hq2] at e
  rw [e]
  exact lowT_isLow z1
end Go.Proofs.Ytjceelmehekpaaa.G
end
section
namespace Go.Proofs.Ytjceelmehekpaaa.G
open Go.RowKit Go.Proofs.YtjceelmehekpaaaW.PrintWords Go.Proofs.YtjceelmehekpaaaW.PrintLast Go.Proofs.YtjceelmehekpaaaW.PrintMore
set_option linter.unusedVariables false
set_option linter.unusedSimpArgs false
def LowP (w w' : World) (base : Nat) (ok : Nat → Prop) (cs : List Value) (e : Ending) : Prop :=
  ∃ (a' b' : Int) (A' : Option Addr) (n' c' : Nat), e = .returned (.agg #[.int .i64 a', .int .i64 b', .slice A' n' c']) ∧ (∀ b o y, (∀ k, o k → ok k) → k32.M w' b o y cs → k32.M w' b o (lowT y) [.int .i64 a', .int .i64 b', .slice A' n' c']) ∧ Lowed w w' base ok
theorem walkL_at : ∀ {ps : List TkL} (i : Nat) (h : i < ps.length), walkL ps → walkT ps[i]
  | p :: ps, 0, _, hw => by simp only [walkL] at hw; exact hw.1
  | p :: ps, i + 1, h, hw => by simp only [walkL] at hw; exact walkL_at i (by simpa using h) hw.2
theorem szL_at : ∀ {ps : List TkL} (i : Nat) (h : i < ps.length), szT ps[i] ≤ szL ps
  | p :: ps, 0, _ => by simp only [szL, List.getElem_cons_zero]; omega
  | p :: ps, i + 1, h => by have := szL_at (ps := ps) i (by simpa using h); simp only [szL, List.getElem_cons_succ]; omega
theorem isLowL_of : ∀ {ps : List TkL}, (∀ (j : Nat) (q : TkL), ps[j]? = some q → isLow q) → isLowL ps
  | [], _ => by simp [isLowL]
  | p :: ps, h => by
    simp only [isLowL]
    exact ⟨h 0 p rfl, isLowL_of fun j q hq => h (j + 1) q (by simpa using hq)⟩
theorem walkT_f2 {t : TkL} (h : walkT t) : (t.f0 = 5 → t.f2 ≠ []) ∧ walkL t.f2 := by cases t; simpa [walkT] using h
set_option maxHeartbeats 8000000 in
set_option maxRecDepth 100000 in
theorem lower_w : ∀ (N : Nat) (x : TkL) (_ : szT x < N) (_ : walkT x) (A : Option Addr) (c : Nat) (kk : Int) (w : World) (base : Nat) (ok : Nat → Prop) (_ : base ≤ w.heap.size) (_ : ∀ k, ok k → k < w.heap.size) (_ : k32.R 32 w base ok (.slice A x.f2.length c) x.f2),
    Calls Try.prog 65 #[.agg #[.int .i64 x.f0, .int .i64 x.f1, .slice A x.f2.length c], .int .i64 kk] w fun e w' => LowP w w' base ok [.int .i64 x.f0, .int .i64 x.f1, .slice A x.f2.length c] e := by
  intro N
  induction N using Nat.strongRecOn with
  | _ N ih =>
  intro x hN hW A c kk w base ok hB hOk hR
  obtain ⟨xa, xb, ps⟩ := x
  simp only at hR ⊢
  have hu := Try.underlying32
  have HI := Aside0.mk ih
  have HR := Aside0.mk hR
  have HN := Aside0.mk hN
  have HW := Aside0.mk (walkT_f2 hW)
  have HO := Aside0.mk hOk
  have HBs := Aside0.mk hB
  clear ih hR hN hW hOk hB
  go_enter Try.func65, Try.ntmps65
  by_cases h5 : xa = 5
  · subst h5
    have hps : 0 < ps.length := List.length_pos_iff.2 (HW.out.1 rfl)
    obtain ⟨g, cap, e, hbg, hlt, cells, hbk⟩ := Kd.R_form HR.out hps
    cases e
    have hd5 : decide ((5 : Int) = 5) = true := rfl
    have HPS := Aside0.mk hps
    have HBK := Aside0.mk hbk
    have HLT := Aside0.mk hlt
    clear hps hbk hlt hbg
    go_upto_region 1 with (first
      | ((with_reducible refine gate_dst (N := 2) rfl ?_); refine box_event ?hg (N := 2) ?hd (cs := #[.int .i64 5, .int .i64 xb, .slice (some ⟨g, 0, none⟩) ps.length c]) (t := 32) ?hr ?_; (case hd => rfl); (case hg => rfl); (case hr => first | (go_simp; done) | (go_simp; rfl)); intro gb1 hg w2 hbox hb; have HB2 := Aside0.mk hb; have BK1 := Aside0.mk hbox; have GE1 := Aside0.mk (show w.heap.size ≤ gb1 from Nat.le_of_eq hg.symm); clear hb hbox hg)
      | ((with_reducible refine gate_dst (N := 4) rfl ?_); refine box_event ?hg (N := 4) ?hd (cs := #[.int .i64 0, .int .i64 0, .slice none 0 0]) (t := 32) ?hr ?_; (case hd => rfl); (case hg => rfl); (case hr => first | (go_simp; done) | (go_simp; rfl)); intro gb2 hg w3 hbox hb; have HB3 := Aside0.mk (HB2.out.trans (hb.mono HB2.out.size)); have BK1' := Aside0.mk (blk_below BK1.out hb); have BK2 := Aside0.mk hbox; have GE2 := Aside0.mk (show w.heap.size ≤ gb2 from Nat.le_trans HB2.out.size (Nat.le_of_eq hg.symm)); have NE := Aside0.mk (show gb1 ≠ gb2 from by rw [hg]; exact Nat.ne_of_lt (blk_lt BK1.out)); clear BK1; have BK1 := BK1'; clear BK1'; clear hb hbox hg))
    have hz0 : w3.cell? ⟨gb1, 0, none⟩ = some (.int .i64 5) := (blk_cell BK1.out 0).trans rfl
    have hz1 : w3.cell? ⟨gb1, 1, none⟩ = some (.int .i64 xb) := (blk_cell BK1.out 1).trans rfl
    have hz2 : w3.cell? ⟨gb1, 2, none⟩ = some (.slice (some ⟨g, 0, none⟩) ps.length c) := (blk_cell BK1.out 2).trans rfl
    have HR3 := Aside0.mk (Kd.R_below HR.out HB3.out)
    obtain ⟨ce, hcl, hM, hcc, _⟩ := Kd.R_elem HR3.out ⟨0, 0, []⟩ 0 (by omega) (by have := HPS.out; omega)
    have hgp : ps.getD (0 : Int).toNat ⟨0, 0, []⟩ = ps[0]'HPS.out := by rw [List.getD_eq_getElem?_getD, show (0 : Int).toNat = 0 from rfl, List.getElem?_eq_getElem HPS.out, Option.getD_some]
    rw [hgp] at hM
    have hsz := szL_at 0 HPS.out
    have hwk := walkL_at 0 HPS.out HW.out.2
    generalize ps[0]'HPS.out = p at hM hsz hwk
    clear hgp
    obtain ⟨v2, rfl, hRv⟩ := k32_openM hM
    obtain ⟨A2, c2, rfl⟩ := Kd.R_slice hRv
    have HCC := Aside0.mk hcc
    have HE := Aside0.mk hM
    have hx0 : w3.cell? ⟨g, 0, none⟩ = some (.int .i64 p.f0) := hcc 0 _ rfl
    have hx1 : w3.cell? ⟨g, 1, none⟩ = some (.int .i64 p.f1) := hcc 1 _ rfl
    have hx2 : w3.cell? ⟨g, 2, none⟩ = some (.slice A2 p.f2.length c2) := hcc 2 _ rfl
    have hq : ((0 : Int) < (ps.length : Int)) = True := eq_true (by have := HPS.out; omega)
    have hq2 : (0 < ps.length) = True := eq_true HPS.out
    have HCALL := Aside0.mk (HI.out (szT p + 1) (by have h1 := HN.out; simp only [szT] at h1; omega) p (Nat.lt_succ_self _) hwk A2 c2 kk w3 base (fun k => ok k ∧ k ≠ g) (Nat.le_trans HBs.out HB3.out.size) (fun k hk => Nat.lt_of_lt_of_le (HO.out k hk.1) HB3.out.size) hRv)
    clear hcc hM hcl hRv hsz hwk
    go_wp2_with (first
      | ((with_reducible refine gate_callee (f := 65) rfl ?_); refine goesL_ (some 14) rfl rfl Try.func65 (by kernel_rfl) rfl #[.agg #[.int .i64 p.f0, .int .i64 p.f1, .slice A2 p.f2.length c2], .int .i64 kk] rfl (by (try simp only [List.map_toArray, List.map_cons, List.map_nil]); first | done | rfl) ?_; (with_reducible refine HCALL.out.mono ?_); rintro e w4 ⟨a', b', A', n', c', rfl, hP, hl⟩; refine ⟨_, rfl, ?_⟩; have HP := Aside0.mk hP; have HL := Aside0.mk hl; clear hP hl; have BK2' := Aside0.mk ((HL.out.kept.2 gb2 (blk_lt BK2.out) (fun h => by have h1 := HO.out _ h.1; have h2 := GE2.out; omega)).trans BK2.out); clear hz0 hz1 hz2 hx0 hx1 hx2; have hy0 : w4.cell? ⟨gb2, 0, none⟩ = some (.int .i64 0) := (blk_cell BK2'.out 0).trans rfl; have hy1 : w4.cell? ⟨gb2, 1, none⟩ = some (.int .i64 0) := (blk_cell BK2'.out 1).trans rfl; have hy2 : w4.cell? ⟨gb2, 2, none⟩ = some (.slice none 0 0) := (blk_cell BK2'.out 2).trans rfl; have hf0 := blk_frozen BK2'.out 0; have hf1 := blk_frozen BK2'.out 1; have hf2 := blk_frozen BK2'.out 2))
    refine bodyPost_ret (results_cell_row rfl _ _ gb2 32 #[.int .i64 a', .int .i64 b', .slice A' n' c'] (0, 0) _ rfl (by refine blk_put (cs := #[.int .i64 a', .int .i64 b', .slice none 0 0]) ?_ 2 _ rfl; refine blk_put (cs := #[.int .i64 a', .int .i64 0, .slice none 0 0]) ?_ 1 _ rfl; refine blk_put (cs := #[.int .i64 0, .int .i64 0, .slice none 0 0]) ?_ 0 _ rfl; exact BK2'.out) Try.underlying32 rfl (by kernel_rfl)) rfl ?_
    have HL4 : Lowed w w4 base ok := ((Lowed.refl w base ok).on HB3.out HBs.out).trans (HL.out.mono (Nat.le_refl _) (fun _ hk => hk.1))
    refine ⟨a', b', A', n', c', rfl, fun b o y ho hy => ?_, ((HL4.far GE2.out HBs.out _ _).far GE2.out HBs.out _ _).far GE2.out HBs.out _ _⟩
    have hne : ∀ k, ok k → k ≠ gb2 := fun k hk e => by have h1 := HO.out k hk; have h2 := GE2.out; omega
    have hfar : ∀ k, ok k → (((w4.setCell ⟨gb2, 0, none⟩ (.int .i64 a')).setCell ⟨gb2, 1, none⟩ (.int .i64 b')).setCell ⟨gb2, 2, none⟩ (.slice A' n' c')).heap[k]? = w4.heap[k]? := fun k hk =>
      (Below.heap_setCell _ _ _ k (hne k hk)).trans ((Below.heap_setCell _ _ _ k (hne k hk)).trans (Below.heap_setCell _ _ _ k (hne k hk)))
    have hy4 : k32.M w4 b o y [.int .i64 5, .int .i64 xb, .slice (some ⟨g, 0, none⟩) ps.length c] := Kd.M_step hy (fun k hk _ => (hfar k (ho k hk)).symm)
    obtain ⟨z, _, hz⟩ := HL.out.rows HE.out
    have hbk3 := blk_below HBK.out HB3.out
    have hbk4 := (HL.out.kept.2 g (blk_lt hbk3) (fun h => h.2 rfl)).trans hbk3
    have hcc4 : ∀ j u, ([.int .i64 p.f0, .int .i64 p.f1, .slice A2 p.f2.length c2] : List Value)[j]? = some u → w4.cell? ⟨g, 0 * 3 + j, none⟩ = some u := fun j u hu => by
      have h1 := HCC.out j u hu
      rw [blk_cell hbk3] at h1
      rw [blk_cell hbk4]
      exact h1
    exact Kd.M_step (low_at rfl hcc4 HPS.out (low_ext hz HP.out) b o y hy4) (fun k hk _ => hfar k (ho k hk))
  · have hd5 : decide (xa = 5) = false := decide_eq_false h5
    have hd6 : (xa == 5) = false := beq_eq_false_iff_ne.2 h5
    have hd7 : (xa = 5) = False := eq_false h5
    have H5 := Aside0.mk h5
    clear h5
    go_upto_region 1 with (first
      | ((with_reducible refine gate_dst (N := 2) rfl ?_); refine box_event ?hg (N := 2) ?hd (cs := #[.int .i64 xa, .int .i64 xb, .slice A ps.length c]) (t := 32) ?hr ?_; (case hd => rfl); (case hg => rfl); (case hr => first | (go_simp; done) | (go_simp; rfl)); intro gb1 hg w2 hbox hb; have HB2 := Aside0.mk hb; have BK1 := Aside0.mk hbox; have GE1 := Aside0.mk (show w.heap.size ≤ gb1 from Nat.le_of_eq hg.symm); clear hb hbox hg)
      | ((with_reducible refine gate_dst (N := 4) rfl ?_); refine box_event ?hg (N := 4) ?hd (cs := #[.int .i64 0, .int .i64 0, .slice none 0 0]) (t := 32) ?hr ?_; (case hd => rfl); (case hg => rfl); (case hr => first | (go_simp; done) | (go_simp; rfl)); intro gb2 hg w3 hbox hb; have HB3 := Aside0.mk (HB2.out.trans (hb.mono HB2.out.size)); have BK1' := Aside0.mk (blk_below BK1.out hb); have BK2 := Aside0.mk hbox; have GE2 := Aside0.mk (show w.heap.size ≤ gb2 from Nat.le_trans HB2.out.size (Nat.le_of_eq hg.symm)); have NE := Aside0.mk (show gb1 ≠ gb2 from by rw [hg]; exact Nat.ne_of_lt (blk_lt BK1.out)); clear BK1; have BK1 := BK1'; clear BK1'; clear hb hbox hg))
    have hz0 : w3.cell? ⟨gb1, 0, none⟩ = some (.int .i64 xa) := (blk_cell BK1.out 0).trans rfl
    go_wp2
    clear hz0 hd5 hd6 hd7
    go_loopg [5] ps.length (fun kq v5 w' => ∃ (i : Nat) (x5 : Int) (zs : List TkL), v5 = .int .i64 x5 ∧ Aside0 (x5 = (i : Int)) ∧ Aside0 (i + kq = ps.length) ∧ Aside0 (k32.R 32 w' base ok (.slice A ps.length c) zs) ∧ Aside0 (Lws ps zs) ∧ Aside0 (∀ (j : Nat) (q : TkL), j < i → zs[j]? = some q → isLow q) ∧ Aside0 (Lowed w w' base ok) ∧ Aside0 (w'.heap[gb1]? = some (.cells #[.int .i64 xa, .int .i64 xb, .slice A ps.length c] 32 (0, 0))) ∧ Aside0 (w'.heap[gb2]? = some (.cells #[.int .i64 0, .int .i64 0, .slice none 0 0] 32 (0, 0))))
    case atStart => exact ⟨0, 0, ps, rfl, ⟨rfl⟩, ⟨by omega⟩, ⟨Kd.R_below HR.out HB3.out⟩, ⟨Lws.refl ps⟩, ⟨fun j q h => by omega⟩, ⟨(Lowed.refl w base ok).on HB3.out HBs.out⟩, BK1, BK2⟩
    case round =>
      clear BK1 BK2
      obtain ⟨i, x5, zs, rfl, HX5, HIK, HZR, HZL, HZ, HM, BK1, BK2⟩ := hrel
      have hz0 : wr.cell? ⟨gb1, 0, none⟩ = some (.int .i64 xa) := (blk_cell BK1.out 0).trans rfl
      have hz1 : wr.cell? ⟨gb1, 1, none⟩ = some (.int .i64 xb) := (blk_cell BK1.out 1).trans rfl
      have hz2 : wr.cell? ⟨gb1, 2, none⟩ = some (.slice A ps.length c) := (blk_cell BK1.out 2).trans rfl
      cases gk with
      | zero =>
        have hb : decide (x5 < (ps.length : Int)) = false := decide_eq_false (by have := HX5.out; have := HIK.out; omega)
        have hy0 : wr.cell? ⟨gb2, 0, none⟩ = some (.int .i64 0) := (blk_cell BK2.out 0).trans rfl
        have hy1 : wr.cell? ⟨gb2, 1, none⟩ = some (.int .i64 0) := (blk_cell BK2.out 1).trans rfl
        have hy2 : wr.cell? ⟨gb2, 2, none⟩ = some (.slice none 0 0) := (blk_cell BK2.out 2).trans rfl
        have hf0 := blk_frozen BK2.out 0
        have hf1 := blk_frozen BK2.out 1
        have hf2 := blk_frozen BK2.out 2
        go_wp2
        refine bodyPost_ret (results_cell_row rfl _ _ gb2 32 #[.int .i64 xa, .int .i64 xb, .slice A ps.length c] (0, 0) _ rfl (by refine blk_put (cs := #[.int .i64 xa, .int .i64 xb, .slice none 0 0]) ?_ 2 _ rfl; refine blk_put (cs := #[.int .i64 xa, .int .i64 0, .slice none 0 0]) ?_ 1 _ rfl; refine blk_put (cs := #[.int .i64 0, .int .i64 0, .slice none 0 0]) ?_ 0 _ rfl; exact BK2.out) Try.underlying32 rfl (by kernel_rfl)) rfl ?_
        refine ⟨xa, xb, A, ps.length, c, rfl, fun b o y ho hy => ?_, ((HM.out.far GE2.out HBs.out _ _).far GE2.out HBs.out _ _).far GE2.out HBs.out _ _⟩
        have hne : ∀ k, ok k → k ≠ gb2 := fun k hk e => by have h1 := HO.out k hk; have h2 := GE2.out; omega
        have hfar : ∀ k, ok k → (((wr.setCell ⟨gb2, 0, none⟩ (.int .i64 xa)).setCell ⟨gb2, 1, none⟩ (.int .i64 xb)).setCell ⟨gb2, 2, none⟩ (.slice A ps.length c)).heap[k]? = wr.heap[k]? := fun k hk =>
          (Below.heap_setCell _ _ _ k (hne k hk)).trans ((Below.heap_setCell _ _ _ k (hne k hk)).trans (Below.heap_setCell _ _ _ k (hne k hk)))
        have hy4 := Kd.M_step hy (fun k hk _ => (hfar k (ho k hk)).symm)
        have hown := k32_mkM wr base ok ⟨xa, xb, zs⟩ HZR.out
        have e := tk_uniq hy4 hown
        have hlow : isLow ⟨xa, xb, zs⟩ := by
          simp only [isLow]
          refine ⟨H5.out, isLowL_of fun j q hq => HZ.out j q ?_ hq⟩
          have h1 := HIK.out
          have h2 := HZL.out.length
          rcases Nat.lt_or_ge j zs.length with h | h
          · omega
          · rw [List.getElem?_eq_none h] at hq; cases hq
        rw [e, lowT_fix _ hlow, ← e]
        exact hy
      | succ gk =>
      have HLT : Aside0 (i < ps.length) := ⟨by have := HIK.out; omega⟩
      have hb : decide (x5 < (ps.length : Int)) = true := decide_eq_true (by have := HX5.out; have := HLT.out; omega)
      have hp : 0 ≤ x5 := by have := HX5.out; omega
      have hq : x5 < (ps.length : Int) := by have := HX5.out; have := HLT.out; omega
      have hzl := HZL.out.length
      obtain ⟨g, cap, e, hbg, hlt, cells, hbk⟩ := Kd.R_form HZR.out (by have := HLT.out; omega)
      rw [hzl] at e
      cases e
      obtain ⟨ce, hcl, hM, hcc, _⟩ := Kd.R_elem HZR.out ⟨0, 0, []⟩ x5 hp hq
      have hxi : x5.toNat = i := by have := HX5.out; omega
      have hgp : zs.getD x5.toNat ⟨0, 0, []⟩ = zs[i]'(by have := HLT.out; omega) := by rw [hxi, List.getD_eq_getElem?_getD, List.getElem?_eq_getElem, Option.getD_some]
      rw [hgp] at hM
      obtain ⟨p0, hp0, hlw⟩ := HZL.out.at i _ (List.getElem?_eq_getElem (by have := HLT.out; omega))
      have e0 : p0 = ps[i]'HLT.out := by rw [List.getElem?_eq_getElem HLT.out] at hp0; injection hp0 with hp0; exact hp0.symm
      subst e0
      have hsz := Nat.le_trans hlw.sz (szL_at i HLT.out)
      have hwk := hlw.walk (walkL_at i HLT.out HW.out.2)
      generalize zs[i]'_ = p at hM hsz hwk
      clear hgp hlw hp0
      obtain ⟨v2, rfl, hRv⟩ := k32_openM hM
      obtain ⟨A2, c2, rfl⟩ := Kd.R_slice hRv
      have HCC := Aside0.mk hcc
      have hx0 : wr.cell? ⟨g, x5.toNat * 3, none⟩ = some (.int .i64 p.f0) := hcc 0 _ rfl
      have hx1 : wr.cell? ⟨g, x5.toNat * 3 + 1, none⟩ = some (.int .i64 p.f1) := hcc 1 _ rfl
      have hx2 : wr.cell? ⟨g, x5.toNat * 3 + 2, none⟩ = some (.slice A2 p.f2.length c2) := hcc 2 _ rfl
      have HXI := Aside0.mk hxi
      have hp' : (0 ≤ x5) = True := eq_true hp
      have hq' : (x5 < (ps.length : Int)) = True := eq_true hq
      have HG := Aside0.mk hbk
      clear hcc hcl hxi hp hq hbk hlt hbg hzl
      go_wp2
      refine start_ (n := 12) (S := fun w' => w'.cell? ⟨gb1, 2, none⟩ = some (.slice (some ⟨g, 0, none⟩) ps.length c) ∧ w'.cell? ⟨g, x5.toNat * 3, none⟩ = some (.int .i64 p.f0) ∧ w'.cell? ⟨g, x5.toNat * 3 + 1, none⟩ = some (.int .i64 p.f1) ∧ w'.cell? ⟨g, x5.toNat * 3 + 2, none⟩ = some (.slice A2 p.f2.length c2)) (ds := [11]) #[false, false, false, false, false, false, false, false, false, false, false, false] (by kernel_rfl) rfl rfl ⟨hz2, hx0, hx1, hx2⟩ (fun hHeld => ?_)
      have BK1 := Aside0.mk (blk_drew BK1.out)
      have BK2 := Aside0.mk (blk_drew BK2.out)
      have HG6 := Aside0.mk (blk_drew HG.out)
      have HZR6 := Aside0.mk (Kd.R_drew HZR.out)
      have HM6 := Aside0.mk (HM.out.on (below_drew1 (Below.refl wr.heap.size wr)) HBs.out)
      have HX0 := Aside0.mk (show wr.drew.cell? ⟨g, x5.toNat * 3, none⟩ = some (.int .i64 p.f0) from hx0)
      have HX1 := Aside0.mk (show wr.drew.cell? ⟨g, x5.toNat * 3 + 1, none⟩ = some (.int .i64 p.f1) from hx1)
      have HX2 := Aside0.mk (show wr.drew.cell? ⟨g, x5.toNat * 3 + 2, none⟩ = some (.slice A2 p.f2.length c2) from hx2)
      have HRV := Aside0.mk (Kd.R_drew hRv)
      have HE6 := Aside0.mk (Kd.M_below hM (below_drew1 (Below.refl wr.heap.size wr)))
      have HCC6 := Aside0.mk (show ∀ j u, ([.int .i64 p.f0, .int .i64 p.f1, .slice A2 p.f2.length c2] : List Value)[j]? = some u → wr.drew.cell? ⟨g, x5.toNat * 3 + j, none⟩ = some u from HCC.out)
      have hM := HE6
      have hsize : w.heap.size ≤ wr.drew.heap.size := HM.out.kept.1
      have HSZ := Aside0.mk hsize
      clear hM HCC hx0 hx1 hx2 hz0 hz1 hz2 hRv hsize
      generalize wr.drew = w6 at BK1 BK2 HG6 HZR6 HM6 HX0 HX1 HX2 HRV HSZ HE6 HCC6 hHeld ⊢
      have HCALL := Aside0.mk (HI.out (szT p + 1) (by have h1 := HN.out; simp only [szT] at h1; omega) p (Nat.lt_succ_self _) hwk A2 c2 kk w6 base (fun k => ok k ∧ k ≠ g) (Nat.le_trans HBs.out HSZ.out) (fun k hk => Nat.lt_of_lt_of_le (HO.out k hk.1) HSZ.out) HRV.out)
      clear hsz hwk
      refine pure_ (i := 0) (N := some 22) (v := ?_) (a' := ?_) #[true, false, false, false, false, false, false, false, false, false, false, false] rfl rfl (by kernel_rfl) (fun _ _ _ h => h) (Or.inl ⟨by rfl, ?_⟩) ?_ ?_
      rotate_left
      · intro w'
        go_simp
        with_reducible rfl
      rotate_left
      · simp only [Act.put, List.setIfInBounds_toArray, List.set_cons_zero, List.set_cons_succ, i64_w, i32_w]
        rfl
      refine pure_ (i := 2) (N := some 24) (v := ?_) (a' := ?_) #[true, false, true, false, false, false, false, false, false, false, false, false] rfl rfl (by kernel_rfl) (fun _ _ _ h => h) (Or.inl ⟨by rfl, ?_⟩) ?_ ?_
      rotate_left
      · intro w'
        go_simp
        with_reducible rfl
      rotate_left
      · simp only [Act.put, List.setIfInBounds_toArray, List.set_cons_zero, List.set_cons_succ, i64_w, i32_w]
        rfl
      refine pure_ (i := 3) (N := some 25) (v := ?_) (a' := ?_) #[true, false, true, true, false, false, false, false, false, false, false, false] rfl rfl (by kernel_rfl) (fun _ _ _ h => h) (Or.inl ⟨by rfl, ?_⟩) ?_ ?_
      rotate_left
      · intro w'
        go_simp
        with_reducible rfl
      rotate_left
      · simp only [Act.put, List.setIfInBounds_toArray, List.set_cons_zero, List.set_cons_succ, i64_w, i32_w]
        rfl
      refine pure_ (i := 5) (N := some 27) (v := ?_) (a' := ?_) #[true, false, true, true, false, true, false, false, false, false, false, false] rfl rfl (by kernel_rfl) (fun _ _ _ h => h) (Or.inl ⟨by rfl, ?_⟩) ?_ ?_
      rotate_left
      · intro w'
        go_simp
        with_reducible rfl
      rotate_left
      · simp only [Act.put, List.setIfInBounds_toArray, List.set_cons_zero, List.set_cons_succ, i64_w, i32_w]
        rfl
      refine pure_ (i := 8) (N := some 30) (v := ?_) (a' := ?_) #[true, false, true, true, false, true, false, false, true, false, false, false] rfl rfl (by kernel_rfl) (fun _ _ _ h => h) (Or.inl ⟨by rfl, ?_⟩) ?_ ?_
      rotate_left
      · intro w'
        go_simp
        with_reducible rfl
      rotate_left
      · simp only [Act.put, List.setIfInBounds_toArray, List.set_cons_zero, List.set_cons_succ, i64_w, i32_w]
        rfl
      refine take_ (i := 1) (N := some 23) (v := ?_) (a' := ?_) #[true, true, true, true, false, true, false, false, true, false, false, false] rfl rfl (by kernel_rfl) (fun _ _ _ h => h) (Or.inl ⟨by rfl, ?_⟩) hHeld ?_ ?_
      rotate_left
      · rintro w' ⟨s0, s1, s2, s3⟩
        go_simp
        with_reducible rfl
      rotate_left
      · simp only [Act.put, List.setIfInBounds_toArray, List.set_cons_zero, List.set_cons_succ, i64_w, i32_w]
        rfl
      refine take_ (i := 4) (N := some 26) (v := ?_) (a' := ?_) #[true, true, true, true, true, true, false, false, true, false, false, false] rfl rfl (by kernel_rfl) (fun _ _ _ h => h) (Or.inl ⟨by rfl, ?_⟩) hHeld ?_ ?_
      rotate_left
      · rintro w' ⟨s0, s1, s2, s3⟩
        go_simp
        with_reducible rfl
      rotate_left
      · simp only [Act.put, List.setIfInBounds_toArray, List.set_cons_zero, List.set_cons_succ, i64_w, i32_w]
        rfl
      refine pure_ (i := 6) (N := some 28) (v := ?_) (a' := ?_) #[true, true, true, true, true, true, true, false, true, false, false, false] rfl rfl (by kernel_rfl) (fun _ _ _ h => h) (Or.inl ⟨by rfl, ?_⟩) ?_ ?_
      rotate_left
      · intro w'
        go_simp
        with_reducible rfl
      rotate_left
      · simp only [Act.put, List.setIfInBounds_toArray, List.set_cons_zero, List.set_cons_succ, i64_w, i32_w]
        rfl
      refine take_ (i := 7) (N := some 29) (v := ?_) (a' := ?_) #[true, true, true, true, true, true, true, true, true, false, false, false] rfl rfl (by kernel_rfl) (fun _ _ _ h => h) (Or.inl ⟨by rfl, ?_⟩) hHeld ?_ ?_
      rotate_left
      · rintro w' ⟨s0, s1, s2, s3⟩
        go_simp
        with_reducible rfl
      rotate_left
      · simp only [Act.put, List.setIfInBounds_toArray, List.set_cons_zero, List.set_cons_succ, i64_w, i32_w]
        rfl
      refine one_ (i := 9) (N := some 31) #[true, true, true, true, true, true, true, true, true, true, false, false] rfl rfl (by kernel_rfl) (by decide) (fun K hK => ?_)
      refine goes_ Try.func65 (by kernel_rfl) rfl #[.agg #[.int .i64 p.f0, .int .i64 p.f1, .slice A2 p.f2.length c2], .int .i64 kk] (by rfl) rfl rfl (by (try simp only [List.map_toArray, List.map_cons, List.map_nil]); first | done | rfl) ?_
      with_reducible refine HCALL.out.mono ?_
      rintro e w7 ⟨a', b', A', n', c', rfl, hP, hl⟩
      refine ⟨_, rfl, ?_⟩
      have HP := Aside0.mk hP
      have HL := Aside0.mk hl
      clear hP hl
      have hne : ∀ k, ok k → k ≠ gb1 ∧ k ≠ gb2 := fun k hk => by have h1 := HO.out k hk; have h2 := GE1.out; have h3 := GE2.out; omega
      have HNE := Aside0.mk hne
      clear hne
      have BK1 := Aside0.mk ((HL.out.kept.2 gb1 (blk_lt BK1.out) (fun h => (HNE.out _ h.1).1 rfl)).trans BK1.out)
      have BK2 := Aside0.mk ((HL.out.kept.2 gb2 (blk_lt BK2.out) (fun h => (HNE.out _ h.1).2 rfl)).trans BK2.out)
      have HG7 := Aside0.mk ((HL.out.kept.2 g (blk_lt HG6.out) (fun h => h.2 rfl)).trans HG6.out)
      have hy0 : w7.cell? ⟨g, x5.toNat * 3, none⟩ = some (.int .i64 p.f0) := by have h1 := HX0.out; rw [blk_cell HG6.out] at h1; rw [blk_cell HG7.out]; exact h1
      have hy1 : w7.cell? ⟨g, x5.toNat * 3 + 1, none⟩ = some (.int .i64 p.f1) := by have h1 := HX1.out; rw [blk_cell HG6.out] at h1; rw [blk_cell HG7.out]; exact h1
      have hy2 : w7.cell? ⟨g, x5.toNat * 3 + 2, none⟩ = some (.slice A2 p.f2.length c2) := by have h1 := HX2.out; rw [blk_cell HG6.out] at h1; rw [blk_cell HG7.out]; exact h1
      have hf0 : w7.frozen? ⟨g, x5.toNat * 3, none⟩ = false := blk_frozen HG7.out _
      have hf1 : w7.frozen? ⟨g, x5.toNat * 3 + 1, none⟩ = false := blk_frozen HG7.out _
      have hf2 : w7.frozen? ⟨g, x5.toNat * 3 + 2, none⟩ = false := blk_frozen HG7.out _
      refine hK.out _ _ ⟨(blk_cell BK1.out 2).trans rfl, hy0, hy1, hy2⟩ (fun hHeld => ?_)
      clear hK K
      refine norm_ (a' := ?_) ?_ ?_
      rotate_left
      · show Act.put _ (some 31) _ = _
        simp only [Act.put, List.setIfInBounds_toArray, List.set_cons_zero, List.set_cons_succ, i64_w, i32_w]
        rfl
      refine pure_ (i := 10) (N := some 32) (v := ?_) (a' := ?_) #[true, true, true, true, true, true, true, true, true, true, true, false] rfl rfl (by kernel_rfl) (fun _ _ _ h => h) (Or.inl ⟨by rfl, ?_⟩) ?_ ?_
      rotate_left
      · intro w'
        go_simp
        with_reducible rfl
      rotate_left
      · simp only [Act.put, List.setIfInBounds_toArray, List.set_cons_zero, List.set_cons_succ, i64_w, i32_w]
        rfl
      refine last_ (i := 11) (N := none) #[true, true, true, true, true, true, true, true, true, true, true, true] rfl rfl (by kernel_rfl) (by decide) (fun K hK => ?_)
      refine skip_ (w1 := ?_) (by rfl) rfl ?_ ?_
      rotate_left
      · go_simp
        rfl
      refine hK.out _ _ ?_
      clear hK K
      refine done_ (by kernel_rfl) ?_
      clear hHeld hy0 hy1 hy2 hf0 hf1 hf2
      have hog := HZR6.out.1 g rfl
      have hng := HNE.out g hog
      have BK1 := Aside0.mk (blk_far (p := ⟨g, x5.toNat * 3 + 2, none⟩) (blk_far (p := ⟨g, x5.toNat * 3 + 1, none⟩) (blk_far (p := ⟨g, x5.toNat * 3, none⟩) BK1.out (fun e => hng.1 e.symm) (.int .i64 a')) (fun e => hng.1 e.symm) (.int .i64 b')) (fun e => hng.1 e.symm) (.slice A' n' c'))
      have BK2 := Aside0.mk (blk_far (p := ⟨g, x5.toNat * 3 + 2, none⟩) (blk_far (p := ⟨g, x5.toNat * 3 + 1, none⟩) (blk_far (p := ⟨g, x5.toNat * 3, none⟩) BK2.out (fun e => hng.2 e.symm) (.int .i64 a')) (fun e => hng.2 e.symm) (.int .i64 b')) (fun e => hng.2 e.symm) (.slice A' n' c'))
      obtain ⟨z, _, hz⟩ := HL.out.rows HE6.out
      obtain ⟨zs', hR', hLs, hlow, hLo⟩ := low_round (i := x5.toNat) (cs' := [.int .i64 a', .int .i64 b', .slice A' n' c']) HZR6.out (by have := HX5.out; have := HLT.out; omega) rfl rfl HCC6.out HL.out (low_ext hz HP.out)
      have HRN := Aside0.mk (show k32.R 32 (((w7.setCell ⟨g, x5.toNat * 3, none⟩ (.int .i64 a')).setCell ⟨g, x5.toNat * 3 + 1, none⟩ (.int .i64 b')).setCell ⟨g, x5.toNat * 3 + 2, none⟩ (.slice A' n' c')) base ok (.slice (some ⟨g, 0, none⟩) ps.length c) zs' from hR')
      have HMN := Aside0.mk (show Lowed w (((w7.setCell ⟨g, x5.toNat * 3, none⟩ (.int .i64 a')).setCell ⟨g, x5.toNat * 3 + 1, none⟩ (.int .i64 b')).setCell ⟨g, x5.toNat * 3 + 2, none⟩ (.slice A' n' c')) base ok from HM6.out.trans hLo)
      have HLS := Aside0.mk (HZL.out.trans hLs)
      have HLW : Aside0 (∀ (j : Nat) (q : TkL), j < i + 1 → zs'[j]? = some q → isLow q) := ⟨fun j q hj hq => by
        by_cases e : j = i
        · exact hlow q (by rw [HXI.out, ← e]; exact hq)
        · obtain ⟨p1, hp1, hlw⟩ := hLs.at j q hq
          have h1 := HZ.out j p1 (by omega) hp1
          rw [hlw.fix h1]
          exact h1⟩
      clear hR' hLs hlow hLo hz hog hng
      go_wp2
      go_roundg gk
      case measure => omega
      case rel => exact ⟨i + 1, _, zs', rfl, ⟨by have h1 := HX5.out; have h2 := HLT.out; have h3 := (Kd.R_reads' HR.out).2.2.2.1; unfold wrap64; omega⟩, ⟨by have := HIK.out; omega⟩, HRN, HLS, HLW, HMN, BK1, BK2⟩
end Go.Proofs.Ytjceelmehekpaaa.G
end
