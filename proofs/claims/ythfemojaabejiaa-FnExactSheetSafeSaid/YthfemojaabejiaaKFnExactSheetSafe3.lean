-- Written by pack.py (ours): the claim's texts, cut down to what its theorem reaches.
import Derived.Test.YthfemojaabejiaaKFnExactSheetSafe2
section
namespace Go.Proofs.Ythfemojaabejiaa.G
open Go.RowKit Go.Proofs.YthfemojaabejiaaW.PrintWords Go.Proofs.YthfemojaabejiaaW.PrintLast Go.Proofs.YthfemojaabejiaaW.PrintMore
set_option linter.unusedVariables false
set_option linter.unusedSimpArgs false
def idxTo (bs : List Bool) : Nat → List Int
  | 0 => []
  | i + 1 => if bs.getD i false = true then idxTo bs i ++ [(i : Int)] else idxTo bs i
theorem idxTo_len (bs : List Bool) (i : Nat) : (idxTo bs i).length ≤ i := by
  induction i with
  | zero => simp [idxTo]
  | succ i ih =>
    rw [idxTo]
    split
    · rw [List.length_append, List.length_singleton]; omega
    · omega
def impl_TaskMay.f (k : Nat) (a0_0 : Int) (a0_1 : Int) (l0_2 : List Tk) : Option (List Int) := (impl_TaskOk.f k a0_0 a0_1 l0_2).bind fun b => if b = true then (if fitT ⟨a0_0, a0_1, l0_2⟩ = true then some (idxTo (mayT ⟨a0_0, a0_1, l0_2⟩ (List.replicate 10 false)) 10) else none) else some []
theorem infoInt : (Try.prog.info? 3).map (fun i => (i.zero, i.size, i.bytes)) = some (some (.int .i64 0), 1, 8) := by kernel_rfl
set_option maxHeartbeats 8000000 in
set_option maxRecDepth 100000 in
theorem impl_TaskMay.calls (k : Nat) (a0_0 : Int) (a0_1 : Int) (A0_2 : Option Addr) (c0_2 : Nat) (l0_2 : List S141) (r : List Int) (w : World) (hr0_2 : Kd.C k141 w A0_2 l0_2.length l0_2) (hc0_2 : l0_2.length ≤ c0_2) (h : impl_TaskMay.f k a0_0 a0_1 l0_2 = some r) :
    Calls Try.prog 116 #[.agg #[.int .i64 a0_0, .int .i64 a0_1, .slice A0_2 l0_2.length c0_2]] w fun e w' => ∃ v0_ : Value, e = .returned v0_ ∧ Kd.R (Kd.int .i64) 3 w' w.heap.size (fun _ => True) v0_ r ∧ Below w.heap.size w w' := by
  have hu1 := Try.underlying141
  have hu2 := Try.underlying173
  unfold impl_TaskMay.f at h
  obtain ⟨b, hb, h⟩ := Option.bind_eq_some_iff.mp h
  have CK := Aside0.mk (impl_TaskOk.calls k a0_0 a0_1 A0_2 c0_2 l0_2 b (w.alloc (.cells #[.int .i64 a0_0, .int .i64 a0_1, .slice A0_2 l0_2.length c0_2] 141)) (Kd.C_alloc hr0_2 _) hc0_2 hb)
  have hbx := heap_alloc_new w (.cells #[.int .i64 a0_0, .int .i64 a0_1, .slice A0_2 l0_2.length c0_2] 141)
  have BX := Aside0.mk hbx
  have HR := Aside0.mk hr0_2
  have HC := Aside0.mk hc0_2
  have HA := Aside0.mk ((Below.refl w.heap.size w).alloc (Nat.le_refl _) (.cells #[.int .i64 a0_0, .int .i64 a0_1, .slice A0_2 l0_2.length c0_2] 141))
  have hx0 : (w.alloc (.cells #[.int .i64 a0_0, .int .i64 a0_1, .slice A0_2 l0_2.length c0_2] 141)).cell? ⟨w.heap.size, 0, none⟩ = some (.int .i64 a0_0) := (blk_cell hbx 0).trans rfl
  have hx1 : (w.alloc (.cells #[.int .i64 a0_0, .int .i64 a0_1, .slice A0_2 l0_2.length c0_2] 141)).cell? ⟨w.heap.size, 1, none⟩ = some (.int .i64 a0_1) := (blk_cell hbx 1).trans rfl
  have hx2 : (w.alloc (.cells #[.int .i64 a0_0, .int .i64 a0_1, .slice A0_2 l0_2.length c0_2] 141)).cell? ⟨w.heap.size, 2, none⟩ = some (.slice A0_2 l0_2.length c0_2) := (blk_cell hbx 2).trans rfl
  clear hbx hr0_2 hc0_2 hb
  cases b with
  | false =>
    simp only [Bool.false_eq_true, if_false] at h
    obtain rfl := Option.some.inj h
    clear h
    go_enter Try.func116, Try.ntmps116
    go_wp2_with fail
    with_reducible refine CK.out.mono ?_
    rintro e w1 ⟨rfl, hb1⟩
    have HB := Aside0.mk (HA.out.trans (hb1.mono HA.out.size))
    clear CK hb1 hx0 hx1 hx2
    go_wp2
    go_ret
    exact ⟨_, rfl, Kd.R_nil _ _ _ _ _, HB.out⟩
  | true =>
    simp only [if_true] at h
    split at h
    · rename_i hf
      have hr := Option.some.inj h
      have hml := mayT_len ⟨a0_0, a0_1, l0_2⟩ (List.replicate 10 false) (by simp)
      generalize hbs : mayT ⟨a0_0, a0_1, l0_2⟩ (List.replicate 10 false) = bs at hr hml
      subst hr
      obtain ⟨b0, b1, b2, b3, b4, b5, b6, b7, b8, b9, rfl⟩ : ∃ b0 b1 b2 b3 b4 b5 b6 b7 b8 b9, bs = [b0, b1, b2, b3, b4, b5, b6, b7, b8, b9] := by
        match bs, hml with
        | [b0, b1, b2, b3, b4, b5, b6, b7, b8, b9], _ => exact ⟨b0, b1, b2, b3, b4, b5, b6, b7, b8, b9, rfl⟩
      have HBS := Aside0.mk hbs
      have HF := Aside0.mk hf
      clear h hf hml hbs
      go_enter Try.func116, Try.ntmps116
      go_wp2_with fail
      with_reducible refine CK.out.mono ?_
      rintro e w1 ⟨rfl, hb1⟩
      have HB := Aside0.mk (HA.out.trans (hb1.mono HA.out.size))
      have BX1 := Aside0.mk ((hb1.block _ (blk_lt BX.out)).trans BX.out)
      clear CK hb1 hx0 hx1 hx2 BX HA
      have BX2 := Aside0.mk (blk_alloc BX1.out (.cells #[.bool false, .bool false, .bool false, .bool false, .bool false, .bool false, .bool false, .bool false, .bool false, .bool false] 173))
      have hx0 : (w1.alloc (.cells #[.bool false, .bool false, .bool false, .bool false, .bool false, .bool false, .bool false, .bool false, .bool false, .bool false] 173)).cell? ⟨w.heap.size, 0, none⟩ = some (.int .i64 a0_0) := (blk_cell BX2.out 0).trans rfl
      have hx1 : (w1.alloc (.cells #[.bool false, .bool false, .bool false, .bool false, .bool false, .bool false, .bool false, .bool false, .bool false, .bool false] 173)).cell? ⟨w.heap.size, 1, none⟩ = some (.int .i64 a0_1) := (blk_cell BX2.out 1).trans rfl
      have hx2 : (w1.alloc (.cells #[.bool false, .bool false, .bool false, .bool false, .bool false, .bool false, .bool false, .bool false, .bool false, .bool false] 173)).cell? ⟨w.heap.size, 2, none⟩ = some (.slice A0_2 l0_2.length c0_2) := (blk_cell BX2.out 2).trans rfl
      have e10 : arr10 (List.replicate 10 false) = #[.bool false, .bool false, .bool false, .bool false, .bool false, .bool false, .bool false, .bool false, .bool false, .bool false] := rfl
      have hal : (w1.alloc (.cells #[.bool false, .bool false, .bool false, .bool false, .bool false, .bool false, .bool false, .bool false, .bool false, .bool false] 173)).heap[w1.heap.size]? = some (.cells (arr10 (List.replicate 10 false)) 173 (0, 0)) := by rw [e10]; exact heap_alloc_new w1 _
      have CK := Aside0.mk (may_w ⟨a0_0, a0_1, l0_2⟩ A0_2 c0_2 w1.heap.size (List.replicate 10 false) w (w1.alloc (.cells #[.bool false, .bool false, .bool false, .bool false, .bool false, .bool false, .bool false, .bool false, .bool false, .bool false] 173)) HF.out (by simp) HR.out HC.out HB.out.size (HB.out.alloc HB.out.size _) hal)
      clear hal e10
      go_wp2_with fail
      with_reducible refine CK.out.mono ?_
      rintro e w2 ⟨rfl, h3, h4⟩
      rw [HBS.out] at h3
      have HS := Aside0.mk h3
      have HB2 := Aside0.mk h4
      clear CK h3 h4 hx0 hx1 hx2 BX1 BX2
      have hx0 : w2.cell? ⟨w1.heap.size, 0, none⟩ = some (.bool b0) := (blk_cell HS.out 0).trans rfl
      have hx1 : w2.cell? ⟨w1.heap.size, 1, none⟩ = some (.bool b1) := (blk_cell HS.out 1).trans rfl
      have hx2 : w2.cell? ⟨w1.heap.size, 2, none⟩ = some (.bool b2) := (blk_cell HS.out 2).trans rfl
      have hx3 : w2.cell? ⟨w1.heap.size, 3, none⟩ = some (.bool b3) := (blk_cell HS.out 3).trans rfl
      have hx4 : w2.cell? ⟨w1.heap.size, 4, none⟩ = some (.bool b4) := (blk_cell HS.out 4).trans rfl
      have hx5 : w2.cell? ⟨w1.heap.size, 5, none⟩ = some (.bool b5) := (blk_cell HS.out 5).trans rfl
      have hx6 : w2.cell? ⟨w1.heap.size, 6, none⟩ = some (.bool b6) := (blk_cell HS.out 6).trans rfl
      have hx7 : w2.cell? ⟨w1.heap.size, 7, none⟩ = some (.bool b7) := (blk_cell HS.out 7).trans rfl
      have hx8 : w2.cell? ⟨w1.heap.size, 8, none⟩ = some (.bool b8) := (blk_cell HS.out 8).trans rfl
      have hx9 : w2.cell? ⟨w1.heap.size, 9, none⟩ = some (.bool b9) := (blk_cell HS.out 9).trans rfl
      clear HS
      go_wp2
      go_loopg [4, 13] 10 (fun kq v4 v13 w' => ∃ i : Nat, v13 = .int .i64 (i : Int) ∧ Aside0 (i + kq = 10) ∧ Aside0 (Kd.R (Kd.int .i64) 3 w' w.heap.size (fun _ => True) v4 (idxTo [b0, b1, b2, b3, b4, b5, b6, b7, b8, b9] i)) ∧ Aside0 (Below w.heap.size w w'))
      case atStart => exact ⟨0, by simp, ⟨by omega⟩, ⟨Kd.R_nil _ _ _ _ _⟩, HB2⟩
      case round =>
        obtain ⟨i, rfl, HI, HO, HB3⟩ := hrel
        cases gk with
        | zero =>
          have hi : i = 10 := by have := HI.out; omega
          subst hi
          go_wp2
          go_ret
          exact ⟨_, rfl, HO.out, HB3.out⟩
        | succ gk =>
          have hlt : i < 10 := by have := HI.out; omega
          have HOL := Aside0.mk (idxTo_len [b0, b1, b2, b3, b4, b5, b6, b7, b8, b9] i)
          have hc : i = 0 ∨ i = 1 ∨ i = 2 ∨ i = 3 ∨ i = 4 ∨ i = 5 ∨ i = 6 ∨ i = 7 ∨ i = 8 ∨ i = 9 := by omega
          rcases hc with rfl | rfl | rfl | rfl | rfl | rfl | rfl | rfl | rfl | rfl
          · have hg : gk = 9 := by have := HI.out; omega
            subst hg
            cases b0 with
            | true =>
              have hix : ∀ W : World, (Instr.index 173 (.agg #[.bool true, .bool b1, .bool b2, .bool b3, .bool b4, .bool b5, .bool b6, .bool b7, .bool b8, .bool b9]) (.int .i64 0)).run Try.prog W = .ok (.bool true) W := fun _ => rfl
              have HN : Aside0 (idxTo [true, b1, b2, b3, b4, b5, b6, b7, b8, b9] 1 = idxTo [true, b1, b2, b3, b4, b5, b6, b7, b8, b9] 0 ++ [(0 : Int)]) := ⟨by rw [idxTo]; rfl⟩
              generalize idxTo [true, b1, b2, b3, b4, b5, b6, b7, b8, b9] 0 = out at HO HOL HN
              obtain ⟨Ao, co, eo⟩ := Kd.R_slice HO.out
              subst eo
              go_wp2_with (first | (at_builtin; refine Kd.R_append (Kd.int .i64) (w0 := w) w.heap.size rfl (.tmp 18) (.tmp 20) 34 3 (.int .i64 0) 8 rfl Try.underlying34 infoInt rfl (by decide) (by omega) (.slice Ao out.length co) out (0 : Int) [.int .i64 0] (fun _ => True) (fun _ => False) rfl rfl ?aP (fun _ hk => hk.elim) ?aF ?aO ?aB ?aS ?aL ?_; (case aP => rfl); (case aB => exact HB3.out); (case aF => exact (fun _ _ => trivial)); (case aO => exact HO.out); (case aS => exact HB3.out.size); (case aL => have := HOL.out; omega); intro v2 w4 ho hb hg hat; have HO2 := Aside0.mk ho; have HB4 := Aside0.mk hb; clear ho hb hg hat))
              go_roundg 9
              case measure => omega
              case rel => exact ⟨1, by go_num, ⟨by omega⟩, ⟨by rw [HN.out]; exact HO2.out⟩, HB4⟩
            | false =>
              have hix : ∀ W : World, (Instr.index 173 (.agg #[.bool false, .bool b1, .bool b2, .bool b3, .bool b4, .bool b5, .bool b6, .bool b7, .bool b8, .bool b9]) (.int .i64 0)).run Try.prog W = .ok (.bool false) W := fun _ => rfl
              have HN : Aside0 (idxTo [false, b1, b2, b3, b4, b5, b6, b7, b8, b9] 1 = idxTo [false, b1, b2, b3, b4, b5, b6, b7, b8, b9] 0) := ⟨by rw [idxTo]; rfl⟩
              go_wp2
              go_roundg 9
              case measure => omega
              case rel => exact ⟨1, by go_num, ⟨by omega⟩, ⟨by rw [HN.out]; exact HO.out⟩, HB3⟩
          · have hg : gk = 8 := by have := HI.out; omega
            subst hg
            cases b1 with
            | true =>
              have hix : ∀ W : World, (Instr.index 173 (.agg #[.bool b0, .bool true, .bool b2, .bool b3, .bool b4, .bool b5, .bool b6, .bool b7, .bool b8, .bool b9]) (.int .i64 1)).run Try.prog W = .ok (.bool true) W := fun _ => rfl
              have HN : Aside0 (idxTo [b0, true, b2, b3, b4, b5, b6, b7, b8, b9] 2 = idxTo [b0, true, b2, b3, b4, b5, b6, b7, b8, b9] 1 ++ [(1 : Int)]) := ⟨by rw [idxTo]; rfl⟩
              generalize idxTo [b0, true, b2, b3, b4, b5, b6, b7, b8, b9] 1 = out at HO HOL HN
              obtain ⟨Ao, co, eo⟩ := Kd.R_slice HO.out
              subst eo
              go_wp2_with (first | (at_builtin; refine Kd.R_append (Kd.int .i64) (w0 := w) w.heap.size rfl (.tmp 18) (.tmp 20) 34 3 (.int .i64 0) 8 rfl Try.underlying34 infoInt rfl (by decide) (by omega) (.slice Ao out.length co) out (1 : Int) [.int .i64 1] (fun _ => True) (fun _ => False) rfl rfl ?aP (fun _ hk => hk.elim) ?aF ?aO ?aB ?aS ?aL ?_; (case aP => rfl); (case aB => exact HB3.out); (case aF => exact (fun _ _ => trivial)); (case aO => exact HO.out); (case aS => exact HB3.out.size); (case aL => have := HOL.out; omega); intro v2 w4 ho hb hg hat; have HO2 := Aside0.mk ho; have HB4 := Aside0.mk hb; clear ho hb hg hat))
              go_roundg 8
              case measure => omega
              case rel => exact ⟨2, by go_num, ⟨by omega⟩, ⟨by rw [HN.out]; exact HO2.out⟩, HB4⟩
            | false =>
              have hix : ∀ W : World, (Instr.index 173 (.agg #[.bool b0, .bool false, .bool b2, .bool b3, .bool b4, .bool b5, .bool b6, .bool b7, .bool b8, .bool b9]) (.int .i64 1)).run Try.prog W = .ok (.bool false) W := fun _ => rfl
              have HN : Aside0 (idxTo [b0, false, b2, b3, b4, b5, b6, b7, b8, b9] 2 = idxTo [b0, false, b2, b3, b4, b5, b6, b7, b8, b9] 1) := ⟨by rw [idxTo]; rfl⟩
              go_wp2
              go_roundg 8
              case measure => omega
              case rel => exact ⟨2, by go_num, ⟨by omega⟩, ⟨by rw [HN.out]; exact HO.out⟩, HB3⟩
          · have hg : gk = 7 := by have := HI.out; omega
            subst hg
            cases b2 with
            | true =>
              have hix : ∀ W : World, (Instr.index 173 (.agg #[.bool b0, .bool b1, .bool true, .bool b3, .bool b4, .bool b5, .bool b6, .bool b7, .bool b8, .bool b9]) (.int .i64 2)).run Try.prog W = .ok (.bool true) W := fun _ => rfl
              have HN : Aside0 (idxTo [b0, b1, true, b3, b4, b5, b6, b7, b8, b9] 3 = idxTo [b0, b1, true, b3, b4, b5, b6, b7, b8, b9] 2 ++ [(2 : Int)]) := ⟨by rw [idxTo]; rfl⟩
              generalize idxTo [b0, b1, true, b3, b4, b5, b6, b7, b8, b9] 2 = out at HO HOL HN
              obtain ⟨Ao, co, eo⟩ := Kd.R_slice HO.out
              subst eo
              go_wp2_with (first | (at_builtin; refine Kd.R_append (Kd.int .i64) (w0 := w) w.heap.size rfl (.tmp 18) (.tmp 20) 34 3 (.int .i64 0) 8 rfl Try.underlying34 infoInt rfl (by decide) (by omega) (.slice Ao out.length co) out (2 : Int) [.int .i64 2] (fun _ => True) (fun _ => False) rfl rfl ?aP (fun _ hk => hk.elim) ?aF ?aO ?aB ?aS ?aL ?_; (case aP => rfl); (case aB => exact HB3.out); (case aF => exact (fun _ _ => trivial)); (case aO => exact HO.out); (case aS => exact HB3.out.size); (case aL => have := HOL.out; omega); intro v2 w4 ho hb hg hat; have HO2 := Aside0.mk ho; have HB4 := Aside0.mk hb; clear ho hb hg hat))
              go_roundg 7
              case measure => omega
              case rel => exact ⟨3, by go_num, ⟨by omega⟩, ⟨by rw [HN.out]; exact HO2.out⟩, HB4⟩
            | false =>
              have hix : ∀ W : World, (Instr.index 173 (.agg #[.bool b0, .bool b1, .bool false, .bool b3, .bool b4, .bool b5, .bool b6, .bool b7, .bool b8, .bool b9]) (.int .i64 2)).run Try.prog W = .ok (.bool false) W := fun _ => rfl
              have HN : Aside0 (idxTo [b0, b1, false, b3, b4, b5, b6, b7, b8, b9] 3 = idxTo [b0, b1, false, b3, b4, b5, b6, b7, b8, b9] 2) := ⟨by rw [idxTo]; rfl⟩
              go_wp2
              go_roundg 7
              case measure => omega
              case rel => exact ⟨3, by go_num, ⟨by omega⟩, ⟨by rw [HN.out]; exact HO.out⟩, HB3⟩
          · have hg : gk = 6 := by have := HI.out; omega
            subst hg
            cases b3 with
            | true =>
              have hix : ∀ W : World, (Instr.index 173 (.agg #[.bool b0, .bool b1, .bool b2, .bool true, .bool b4, .bool b5, .bool b6, .bool b7, .bool b8, .bool b9]) (.int .i64 3)).run Try.prog W = .ok (.bool true) W := fun _ => rfl
              have HN : Aside0 (idxTo [b0, b1, b2, true, b4, b5, b6, b7, b8, b9] 4 = idxTo [b0, b1, b2, true, b4, b5, b6, b7, b8, b9] 3 ++ [(3 : Int)]) := ⟨by rw [idxTo]; rfl⟩
              generalize idxTo [b0, b1, b2, true, b4, b5, b6, b7, b8, b9] 3 = out at HO HOL HN
              obtain ⟨Ao, co, eo⟩ := Kd.R_slice HO.out
              subst eo
              go_wp2_with (first | (at_builtin; refine Kd.R_append (Kd.int .i64) (w0 := w) w.heap.size rfl (.tmp 18) (.tmp 20) 34 3 (.int .i64 0) 8 rfl Try.underlying34 infoInt rfl (by decide) (by omega) (.slice Ao out.length co) out (3 : Int) [.int .i64 3] (fun _ => True) (fun _ => False) rfl rfl ?aP (fun _ hk => hk.elim) ?aF ?aO ?aB ?aS ?aL ?_; (case aP => rfl); (case aB => exact HB3.out); (case aF => exact (fun _ _ => trivial)); (case aO => exact HO.out); (case aS => exact HB3.out.size); (case aL => have := HOL.out; omega); intro v2 w4 ho hb hg hat; have HO2 := Aside0.mk ho; have HB4 := Aside0.mk hb; clear ho hb hg hat))
              go_roundg 6
              case measure => omega
              case rel => exact ⟨4, by go_num, ⟨by omega⟩, ⟨by rw [HN.out]; exact HO2.out⟩, HB4⟩
            | false =>
              have hix : ∀ W : World, (Instr.index 173 (.agg #[.bool b0, .bool b1, .bool b2, .bool false, .bool b4, .bool b5, .bool b6, .bool b7, .bool b8, .bool b9]) (.int .i64 3)).run Try.prog W = .ok (.bool false) W := fun _ => rfl
              have HN : Aside0 (idxTo [b0, b1, b2, false, b4, b5, b6, b7, b8, b9] 4 = idxTo [b0, b1, b2, false, b4, b5, b6, b7, b8, b9] 3) := ⟨by rw [idxTo]; rfl⟩
              go_wp2
              go_roundg 6
              case measure => omega
              case rel => exact ⟨4, by go_num, ⟨by omega⟩, ⟨by rw [HN.out]; exact HO.out⟩, HB3⟩
          · have hg : gk = 5 := by have := HI.out; omega
            subst hg
            cases b4 with
            | true =>
              have hix : ∀ W : World, (Instr.index 173 (.agg #[.bool b0, .bool b1, .bool b2, .bool b3, .bool true, .bool b5, .bool b6, .bool b7, .bool b8, .bool b9]) (.int .i64 4)).run Try.prog W = .ok (.bool true) W := fun _ => rfl
              have HN : Aside0 (idxTo [b0, b1, b2, b3, true, b5, b6, b7, b8, b9] 5 = idxTo [b0, b1, b2, b3, true, b5, b6, b7, b8, b9] 4 ++ [(4 : Int)]) := ⟨by rw [idxTo]; rfl⟩
              generalize idxTo [b0, b1, b2, b3, true, b5, b6, b7, b8, b9] 4 = out at HO HOL HN
              obtain ⟨Ao, co, eo⟩ := Kd.R_slice HO.out
              subst eo
              go_wp2_with (first | (at_builtin; refine Kd.R_append (Kd.int .i64) (w0 := w) w.heap.size rfl (.tmp 18) (.tmp 20) 34 3 (.int .i64 0) 8 rfl Try.underlying34 infoInt rfl (by decide) (by omega) (.slice Ao out.length co) out (4 : Int) [.int .i64 4] (fun _ => True) (fun _ => False) rfl rfl ?aP (fun _ hk => hk.elim) ?aF ?aO ?aB ?aS ?aL ?_; (case aP => rfl); (case aB => exact HB3.out); (case aF => exact (fun _ _ => trivial)); (case aO => exact HO.out); (case aS => exact HB3.out.size); (case aL => have := HOL.out; omega); intro v2 w4 ho hb hg hat; have HO2 := Aside0.mk ho; have HB4 := Aside0.mk hb; clear ho hb hg hat))
              go_roundg 5
              case measure => omega
              case rel => exact ⟨5, by go_num, ⟨by omega⟩, ⟨by rw [HN.out]; exact HO2.out⟩, HB4⟩
            | false =>
              have hix : ∀ W : World, (Instr.index 173 (.agg #[.bool b0, .bool b1, .bool b2, .bool b3, .bool false, .bool b5, .bool b6, .bool b7, .bool b8, .bool b9]) (.int .i64 4)).run Try.prog W = .ok (.bool false) W := fun _ => rfl
              have HN : Aside0 (idxTo [b0, b1, b2, b3, false, b5, b6, b7, b8, b9] 5 = idxTo [b0, b1, b2, b3, false, b5, b6, b7, b8, b9] 4) := ⟨by rw [idxTo]; rfl⟩
              go_wp2
              go_roundg 5
              case measure => omega
              case rel => exact ⟨5, by go_num, ⟨by omega⟩, ⟨by rw [HN.out]; exact HO.out⟩, HB3⟩
          · have hg : gk = 4 := by have := HI.out; omega
            subst hg
            cases b5 with
            | true =>
              have hix : ∀ W : World, (Instr.index 173 (.agg #[.bool b0, .bool b1, .bool b2, .bool b3, .bool b4, .bool true, .bool b6, .bool b7, .bool b8, .bool b9]) (.int .i64 5)).run Try.prog W = .ok (.bool true) W := fun _ => rfl
              have HN : Aside0 (idxTo [b0, b1, b2, b3, b4, true, b6, b7, b8, b9] 6 = idxTo [b0, b1, b2, b3, b4, true, b6, b7, b8, b9] 5 ++ [(5 : Int)]) := ⟨by rw [idxTo]; rfl⟩
              generalize idxTo [b0, b1, b2, b3, b4, true, b6, b7, b8, b9] 5 = out at HO HOL HN
              obtain ⟨Ao, co, eo⟩ := Kd.R_slice HO.out
              subst eo
              go_wp2_with (first | (at_builtin; refine Kd.R_append (Kd.int .i64) (w0 := w) w.heap.size rfl (.tmp 18) (.tmp 20) 34 3 (.int .i64 0) 8 rfl Try.underlying34 infoInt rfl (by decide) (by omega) (.slice Ao out.length co) out (5 : Int) [.int .i64 5] (fun _ => True) (fun _ => False) rfl rfl ?aP (fun _ hk => hk.elim) ?aF ?aO ?aB ?aS ?aL ?_; (case aP => rfl); (case aB => exact HB3.out); (case aF => exact (fun _ _ => trivial)); (case aO => exact HO.out); (case aS => exact HB3.out.size); (case aL => have := HOL.out; omega); intro v2 w4 ho hb hg hat; have HO2 := Aside0.mk ho; have HB4 := Aside0.mk hb; clear ho hb hg hat))
              go_roundg 4
              case measure => omega
              case rel => exact ⟨6, by go_num, ⟨by omega⟩, ⟨by rw [HN.out]; exact HO2.out⟩, HB4⟩
            | false =>
              have hix : ∀ W : World, (Instr.index 173 (.agg #[.bool b0, .bool b1, .bool b2, .bool b3, .bool b4, .bool false, .bool b6, .bool b7, .bool b8, .bool b9]) (.int .i64 5)).run Try.prog W = .ok (.bool false) W := fun _ => rfl
              have HN : Aside0 (idxTo [b0, b1, b2, b3, b4, false, b6, b7, b8, b9] 6 = idxTo [b0, b1, b2, b3, b4, false, b6, b7, b8, b9] 5) := ⟨by rw [idxTo]; rfl⟩
              go_wp2
              go_roundg 4
              case measure => omega
              case rel => exact ⟨6, by go_num, ⟨by omega⟩, ⟨by rw [HN.out]; exact HO.out⟩, HB3⟩
          · have hg : gk = 3 := by have := HI.out; omega
            subst hg
            cases b6 with
            | true =>
              have hix : ∀ W : World, (Instr.index 173 (.agg #[.bool b0, .bool b1, .bool b2, .bool b3, .bool b4, .bool b5, .bool true, .bool b7, .bool b8, .bool b9]) (.int .i64 6)).run Try.prog W = .ok (.bool true) W := fun _ => rfl
              have HN : Aside0 (idxTo [b0, b1, b2, b3, b4, b5, true, b7, b8, b9] 7 = idxTo [b0, b1, b2, b3, b4, b5, true, b7, b8, b9] 6 ++ [(6 : Int)]) := ⟨by rw [idxTo]; rfl⟩
              generalize idxTo [b0, b1, b2, b3, b4, b5, true, b7, b8, b9] 6 = out at HO HOL HN
              obtain ⟨Ao, co, eo⟩ := Kd.R_slice HO.out
              subst eo
              go_wp2_with (first | (at_builtin; refine Kd.R_append (Kd.int .i64) (w0 := w) w.heap.size rfl (.tmp 18) (.tmp 20) 34 3 (.int .i64 0) 8 rfl Try.underlying34 infoInt rfl (by decide) (by omega) (.slice Ao out.length co) out (6 : Int) [.int .i64 6] (fun _ => True) (fun _ => False) rfl rfl ?aP (fun _ hk => hk.elim) ?aF ?aO ?aB ?aS ?aL ?_; (case aP => rfl); (case aB => exact HB3.out); (case aF => exact (fun _ _ => trivial)); (case aO => exact HO.out); (case aS => exact HB3.out.size); (case aL => have := HOL.out; omega); intro v2 w4 ho hb hg hat; have HO2 := Aside0.mk ho; have HB4 := Aside0.mk hb; clear ho hb hg hat))
              go_roundg 3
              case measure => omega
              case rel => exact ⟨7, by go_num, ⟨by omega⟩, ⟨by rw [HN.out]; exact HO2.out⟩, HB4⟩
            | false =>
              have hix : ∀ W : World, (Instr.index 173 (.agg #[.bool b0, .bool b1, .bool b2, .bool b3, .bool b4, .bool b5, .bool false, .bool b7, .bool b8, .bool b9]) (.int .i64 6)).run Try.prog W = .ok (.bool false) W := fun _ => rfl
              have HN : Aside0 (idxTo [b0, b1, b2, b3, b4, b5, false, b7, b8, b9] 7 = idxTo [b0, b1, b2, b3, b4, b5, false, b7, b8, b9] 6) := ⟨by rw [idxTo]; rfl⟩
              go_wp2
              go_roundg 3
              case measure => omega
              case rel => exact ⟨7, by go_num, ⟨by omega⟩, ⟨by rw [HN.out]; exact HO.out⟩, HB3⟩
          · have hg : gk = 2 := by have := HI.out; omega
            subst hg
            cases b7 with
            | true =>
              have hix : ∀ W : World, (Instr.index 173 (.agg #[.bool b0, .bool b1, .bool b2, .bool b3, .bool b4, .bool b5, .bool b6, .bool true, .bool b8, .bool b9]) (.int .i64 7)).run Try.prog W = .ok (.bool true) W := fun _ => rfl
              have HN : Aside0 (idxTo [b0, b1, b2, b3, b4, b5, b6, true, b8, b9] 8 = idxTo [b0, b1, b2, b3, b4, b5, b6, true, b8, b9] 7 ++ [(7 : Int)]) := ⟨by rw [idxTo]; rfl⟩
              generalize idxTo [b0, b1, b2, b3, b4, b5, b6, true, b8, b9] 7 = out at HO HOL HN
              obtain ⟨Ao, co, eo⟩ := Kd.R_slice HO.out
              subst eo
              go_wp2_with (first | (at_builtin; refine Kd.R_append (Kd.int .i64) (w0 := w) w.heap.size rfl (.tmp 18) (.tmp 20) 34 3 (.int .i64 0) 8 rfl Try.underlying34 infoInt rfl (by decide) (by omega) (.slice Ao out.length co) out (7 : Int) [.int .i64 7] (fun _ => True) (fun _ => False) rfl rfl ?aP (fun _ hk => hk.elim) ?aF ?aO ?aB ?aS ?aL ?_; (case aP => rfl); (case aB => exact HB3.out); (case aF => exact (fun _ _ => trivial)); (case aO => exact HO.out); (case aS => exact HB3.out.size); (case aL => have := HOL.out; omega); intro v2 w4 ho hb hg hat; have HO2 := Aside0.mk ho; have HB4 := Aside0.mk hb; clear ho hb hg hat))
              go_roundg 2
              case measure => omega
              case rel => exact ⟨8, by go_num, ⟨by omega⟩, ⟨by rw [HN.out]; exact HO2.out⟩, HB4⟩
            | false =>
              have hix : ∀ W : World, (Instr.index 173 (.agg #[.bool b0, .bool b1, .bool b2, .bool b3, .bool b4, .bool b5, .bool b6, .bool false, .bool b8, .bool b9]) (.int .i64 7)).run Try.prog W = .ok (.bool false) W := fun _ => rfl
              have HN : Aside0 (idxTo [b0, b1, b2, b3, b4, b5, b6, false, b8, b9] 8 = idxTo [b0, b1, b2, b3, b4, b5, b6, false, b8, b9] 7) := ⟨by rw [idxTo]; rfl⟩
              go_wp2
              go_roundg 2
              case measure => omega
              case rel => exact ⟨8, by go_num, ⟨by omega⟩, ⟨by rw [HN.out]; exact HO.out⟩, HB3⟩
          · have hg : gk = 1 := by have := HI.out; omega
            subst hg
            cases b8 with
            | true =>
              have hix : ∀ W : World, (Instr.index 173 (.agg #[.bool b0, .bool b1, .bool b2, .bool b3, .bool b4, .bool b5, .bool b6, .bool b7, .bool true, .bool b9]) (.int .i64 8)).run Try.prog W = .ok (.bool true) W := fun _ => rfl
              have HN : Aside0 (idxTo [b0, b1, b2, b3, b4, b5, b6, b7, true, b9] 9 = idxTo [b0, b1, b2, b3, b4, b5, b6, b7, true, b9] 8 ++ [(8 : Int)]) := ⟨by rw [idxTo]; rfl⟩
              generalize idxTo [b0, b1, b2, b3, b4, b5, b6, b7, true, b9] 8 = out at HO HOL HN
              obtain ⟨Ao, co, eo⟩ := Kd.R_slice HO.out
              subst eo
              go_wp2_with (first | (at_builtin; refine Kd.R_append (Kd.int .i64) (w0 := w) w.heap.size rfl (.tmp 18) (.tmp 20) 34 3 (.int .i64 0) 8 rfl Try.underlying34 infoInt rfl (by decide) (by omega) (.slice Ao out.length co) out (8 : Int) [.int .i64 8] (fun _ => True) (fun _ => False) rfl rfl ?aP (fun _ hk => hk.elim) ?aF ?aO ?aB ?aS ?aL ?_; (case aP => rfl); (case aB => exact HB3.out); (case aF => exact (fun _ _ => trivial)); (case aO => exact HO.out); (case aS => exact HB3.out.size); (case aL => have := HOL.out; omega); intro v2 w4 ho hb hg hat; have HO2 := Aside0.mk ho; have HB4 := Aside0.mk hb; clear ho hb hg hat))
              go_roundg 1
              case measure => omega
              case rel => exact ⟨9, by go_num, ⟨by omega⟩, ⟨by rw [HN.out]; exact HO2.out⟩, HB4⟩
            | false =>
              have hix : ∀ W : World, (Instr.index 173 (.agg #[.bool b0, .bool b1, .bool b2, .bool b3, .bool b4, .bool b5, .bool b6, .bool b7, .bool false, .bool b9]) (.int .i64 8)).run Try.prog W = .ok (.bool false) W := fun _ => rfl
              have HN : Aside0 (idxTo [b0, b1, b2, b3, b4, b5, b6, b7, false, b9] 9 = idxTo [b0, b1, b2, b3, b4, b5, b6, b7, false, b9] 8) := ⟨by rw [idxTo]; rfl⟩
              go_wp2
              go_roundg 1
              case measure => omega
              case rel => exact ⟨9, by go_num, ⟨by omega⟩, ⟨by rw [HN.out]; exact HO.out⟩, HB3⟩
          · have hg : gk = 0 := by have := HI.out; omega
            subst hg
            cases b9 with
            | true =>
              have hix : ∀ W : World, (Instr.index 173 (.agg #[.bool b0, .bool b1, .bool b2, .bool b3, .bool b4, .bool b5, .bool b6, .bool b7, .bool b8, .bool true]) (.int .i64 9)).run Try.prog W = .ok (.bool true) W := fun _ => rfl
              have HN : Aside0 (idxTo [b0, b1, b2, b3, b4, b5, b6, b7, b8, true] 10 = idxTo [b0, b1, b2, b3, b4, b5, b6, b7, b8, true] 9 ++ [(9 : Int)]) := ⟨by rw [idxTo]; rfl⟩
              generalize idxTo [b0, b1, b2, b3, b4, b5, b6, b7, b8, true] 9 = out at HO HOL HN
              obtain ⟨Ao, co, eo⟩ := Kd.R_slice HO.out
              subst eo
              go_wp2_with (first | (at_builtin; refine Kd.R_append (Kd.int .i64) (w0 := w) w.heap.size rfl (.tmp 18) (.tmp 20) 34 3 (.int .i64 0) 8 rfl Try.underlying34 infoInt rfl (by decide) (by omega) (.slice Ao out.length co) out (9 : Int) [.int .i64 9] (fun _ => True) (fun _ => False) rfl rfl ?aP (fun _ hk => hk.elim) ?aF ?aO ?aB ?aS ?aL ?_; (case aP => rfl); (case aB => exact HB3.out); (case aF => exact (fun _ _ => trivial)); (case aO => exact HO.out); (case aS => exact HB3.out.size); (case aL => have := HOL.out; omega); intro v2 w4 ho hb hg hat; have HO2 := Aside0.mk ho; have HB4 := Aside0.mk hb; clear ho hb hg hat))
              go_roundg 0
              case measure => omega
              case rel => exact ⟨10, by go_num, ⟨by omega⟩, ⟨by rw [HN.out]; exact HO2.out⟩, HB4⟩
            | false =>
              have hix : ∀ W : World, (Instr.index 173 (.agg #[.bool b0, .bool b1, .bool b2, .bool b3, .bool b4, .bool b5, .bool b6, .bool b7, .bool b8, .bool false]) (.int .i64 9)).run Try.prog W = .ok (.bool false) W := fun _ => rfl
              have HN : Aside0 (idxTo [b0, b1, b2, b3, b4, b5, b6, b7, b8, false] 10 = idxTo [b0, b1, b2, b3, b4, b5, b6, b7, b8, false] 9) := ⟨by rw [idxTo]; rfl⟩
              go_wp2
              go_roundg 0
              case measure => omega
              case rel => exact ⟨10, by go_num, ⟨by omega⟩, ⟨by rw [HN.out]; exact HO.out⟩, HB3⟩
    · cases h
end Go.Proofs.Ythfemojaabejiaa.G
end
section
namespace Go.Proofs.Ythfemojaabejiaa.G
open Go.RowKit Go.Proofs.YthfemojaabejiaaW.PrintWords Go.Proofs.YthfemojaabejiaaW.PrintLast Go.Proofs.YthfemojaabejiaaW.PrintMore
attribute [local go_sem] max2_int min2_int max_two min_two max_three min_three max_four min_four
set_option linter.unusedVariables false
set_option linter.unusedSimpArgs false
def impl_Sheet_may.l0 : Nat → List Int → List Int → Int → Int → List Bool → List (S141) → Option (List Int)
  | 0, _, _, _, _, _, _ => none
  | k + 1, x5, x13, x14, x15, x215000, x215001 => if x15 < x14 then (if 0 ≤ x15 then (if x15 < (x13.length : Int) then ((impl_Sheet_makes.f x215000 x215001 (rd x13 x15)).bind fun t220 => (if t220 = true then (if x5.length < 17592186044416 then (impl_Sheet_may.l0 k (x5 ++ [rd x13 x15]) x13 x14 (wrap64 (x15 + 1)) x215000 x215001) else (none)) else (impl_Sheet_may.l0 k x5 x13 x14 (wrap64 (x15 + 1)) x215000 x215001))) else (none)) else (none)) else (some x5)
def impl_Sheet_may.f (k : Nat) (l0_0 : List Bool) (l0_1 : List (S141)) (a1 : Int) : Option (List Int) := if 0 ≤ a1 then (if a1 < (l0_1.length : Int) then ((impl_TaskMay.f k ((rd_T141 l0_1 a1).f0) ((rd_T141 l0_1 a1).f1) ((rd_T141 l0_1 a1).f2)).bind fun t216 => (impl_Sheet_may.l0 k ([] : List Int) t216 (t216.length : Int) 0 l0_0 l0_1)) else (none)) else (none)
set_option maxHeartbeats 8000000 in
set_option maxRecDepth 100000 in
theorem impl_Sheet_may.calls (k : Nat) (A0_0 : Option Addr) (c0_0 : Nat) (l0_0 : List Bool) (A0_1 : Option Addr) (c0_1 : Nat) (l0_1 : List (S141)) (a1 : Int) (r : List Int) (w : World) (hr0_0 : Kd.C Kd.bool w A0_0 l0_0.length l0_0) (hc0_0 : l0_0.length ≤ c0_0) (hr0_1 : Kd.C k141 w A0_1 l0_1.length l0_1) (hc0_1 : l0_1.length ≤ c0_1) (h : impl_Sheet_may.f k l0_0 l0_1 a1 = some r) :
    Calls Try.prog 64 #[.agg #[.slice A0_0 l0_0.length c0_0, .slice A0_1 l0_1.length c0_1], .int .i64 a1] w fun e w' => ∃ v0_ : Value, e = .returned (v0_) ∧ Kd.R (Kd.int .i64) 3 w' w.heap.size (fun _ => True) v0_ r ∧ Below w.heap.size w w' := by
  have hu30 := Try.underlying30
  have hu141 := Try.underlying141
  have HR0_0 := Aside0.mk hr0_0
  have HC0_0 := Aside0.mk hc0_0
  clear hr0_0 hc0_0
  have HR0_1 := Aside0.mk hr0_1
  have HC0_1 := Aside0.mk hc0_1
  clear hr0_1 hc0_1
  have HB := Aside0.mk (Below.refl w.heap.size w)
  have H : (if 0 ≤ a1 then (if a1 < (l0_1.length : Int) then ((impl_TaskMay.f k ((rd_T141 l0_1 a1).f0) ((rd_T141 l0_1 a1).f1) ((rd_T141 l0_1 a1).f2)).bind fun t216 => (impl_Sheet_may.l0 k ([] : List Int) t216 (t216.length : Int) 0 l0_0 l0_1)) else (none)) else (none)) = some r := h
  clear h
  by_cases c3 : 0 ≤ a1
  · rw [if_pos c3] at H
    have c3b0 : decide (0 ≤ a1) = true := decide_eq_true c3
    clear c3
    by_cases c4 : a1 < (l0_1.length : Int)
    · rw [if_pos c4] at H
      have c4b0 : decide (a1 < (l0_1.length : Int)) = true := decide_eq_true c4
      clear c4
      replace H := Option.bind_eq_some_iff.mp H
      obtain ⟨t216, A50, H⟩ := H
      replace H : (impl_Sheet_may.l0 k ([] : List Int) t216 (t216.length : Int) 0 l0_0 l0_1) = some r := H
      have A5 := Aside0.mk A50
      clear A50
      have H' := Aside0.mk H
      clear H
      go_enter Try.func64, Try.ntmps64
      go_wp2_with (first | ((with_reducible refine gate_dst (N := 2) rfl ?_); refine box_event ?hg (N := 2) ?hd (cs := #[.slice A0_0 l0_0.length c0_0, .slice A0_1 l0_1.length c0_1]) (t := 30) ?hr ?_; (case hd => rfl); (case hg => rfl); (case hr => first | (go_simp; done) | (go_simp; rfl)); intro gb214 hg w6 hbox hb; have n0_ := Aside0.mk (below_step (by repeat (first | (with_reducible first | exact HB.out | apply below_alloc | apply pw_below_drewN | apply below_drew1) | exact HB.out)) hb); have n1_ := Aside0.mk (hbox); have n2_ := Aside0.mk ((by rw [hg]; exact (below_size (by repeat (first | (with_reducible first | exact HB.out | apply below_alloc | apply pw_below_drewN | apply below_drew1) | exact HB.out))) : w.heap.size ≤ gb214)); have n3_ := Aside0.mk ((by rw [hg]; exact (below_size (by repeat (first | (with_reducible first | exact HB.out | apply below_alloc | apply pw_below_drewN | apply below_drew1) | exact HB.out))) : w.heap.size ≤ gb214)); clear HB; have HB := n0_; have BK214 := n1_; have GW214 := n2_; have GE214 := n3_; clear n0_ n1_ n2_ n3_; clear hb hbox hg; have hcz7_0 : w6.cell? ⟨gb214, 0, none⟩ = some (.slice A0_0 l0_0.length c0_0) := (blk_cell BK214.out 0).trans rfl; have hcz7_1 : w6.cell? ⟨gb214, 1, none⟩ = some (.slice A0_1 l0_1.length c0_1) := (blk_cell BK214.out 1).trans rfl; have hfz7_0 := blk_frozen BK214.out 0; have hfz7_1 := blk_frozen BK214.out 1; have p215 : 0 ≤ (a1 : Int) := of_decide_eq_true (by first | (with_reducible assumption) | assumption); have q215 : a1 < (l0_1.length : Int) := of_decide_eq_true (by first | (with_reducible assumption) | assumption); obtain ⟨ad215, A215_2, c215_2, e215, hx215_0, hx215_1, hx215_2, hl215_2, hi215_2⟩ := at_T141 HR0_1.out a1 p215 q215; cases e215; replace hx215_0 := (HB.out.cell (World.block_lt_of_cell? w _ hx215_0)).trans hx215_0; replace hx215_1 := (HB.out.cell (World.block_lt_of_cell? w _ hx215_1)).trans hx215_1; replace hx215_2 := (HB.out.cell (World.block_lt_of_cell? w _ hx215_2)).trans hx215_2; have HR215_2 := Aside0.mk hi215_2; have HC215_2 := Aside0.mk hl215_2; clear hi215_2 hl215_2; replace p215 := eq_true p215; replace q215 := eq_true q215) | ((with_reducible refine gate_callee (f := 116) rfl ?_); refine goesL_ (some 13) rfl rfl Try.func116 (by kernel_rfl) rfl #[.agg #[.int .i64 ((rd_T141 l0_1 a1).f0), .int .i64 ((rd_T141 l0_1 a1).f1), .slice A215_2 ((rd_T141 l0_1 a1).f2).length c215_2]] rfl (by (try simp only [List.map_toArray, List.map_cons, List.map_nil]); first | done | rfl | (simp only [List.length_drop, List.length_take]; rfl)) ?_; (with_reducible refine (impl_TaskMay.calls k ((rd_T141 l0_1 a1).f0) ((rd_T141 l0_1 a1).f1) _ _ ((rd_T141 l0_1 a1).f2) t216 _ ?side1 ?side2 A5.out).mono ?_); (case side1 => repeat (first | exact (Kd.C_below HR215_2.out HB.out) | (with_reducible refine Kd.C_alloc ?_ _) | (with_reducible refine Kd.C_drewN ?_ _) | (with_reducible refine Kd.C_drew ?_))); (case side2 => exact HC215_2.out); rintro e w8 ⟨v217, rfl, ho0, hb⟩; refine ⟨_, rfl, ?_⟩; have n0_ := Aside0.mk (Kd.R_lower ho0 (below_size (by repeat (first | (with_reducible first | exact HB.out | apply below_alloc | apply pw_below_drewN | apply below_drew1 | refine below_set ?_ GE214.out) | exact HB.out)))); have n1_ := Aside0.mk (blk_below (g := gb214) (o := .cells #[.slice A0_0 l0_0.length c0_0, .slice (some ad215) l0_1.length c0_1] 30 (0, 0)) (by (with_reducible repeat (first | refine blk_drewN ?_ _ | refine blk_drew ?_ | refine blk_alloc ?_ _)); exact BK214.out) hb); have n2_ := Aside0.mk (below_step (by repeat (first | (with_reducible first | exact HB.out | apply below_alloc | apply pw_below_drewN | apply below_drew1 | refine below_set ?_ GE214.out) | exact HB.out)) hb); clear BK214; clear HB; have HO218 := n0_; have BK214 := n1_; have HB := n2_; clear n0_ n1_ n2_; (try clear hb); (try clear hb2); (try clear hk); (try clear hi); (try clear ho0); obtain ⟨Ao9, co9, eo9⟩ := Kd.R_slice HO218.out; subst eo9))
      go_loopg [5, 15] k (fun kq v5 v15 w' => ∃ (x5_1 : List Int) (x15_1 : Int), v15 = .int .i64 x15_1 ∧ Aside0 (impl_Sheet_may.l0 kq x5_1 t216 (t216.length : Int) x15_1 l0_0 l0_1 = some r) ∧ Aside0 (kq ≤ k) ∧ Aside0 (Kd.R (Kd.int .i64) 3 w' w.heap.size (fun k_ => some k_ ≠ ((.slice Ao9 t216.length co9) : Value).ownBlock) v5 x5_1) ∧ Aside0 (Kd.R (Kd.int .i64) 3 w' w.heap.size (fun k_ => some k_ ≠ (v5 : Value).ownBlock) (.slice Ao9 t216.length co9) t216) ∧ Aside0 (w'.heap[gb214]? = some (.cells #[(.slice A0_0 l0_0.length c0_0), (.slice (some ad215) l0_1.length c0_1)] 30 (0, 0))) ∧ Aside0 (Below w.heap.size w w'))
      case atStart => exact ⟨(([] : List Int)), (0), (by first | rfl | (simp; done) | (simp [*]; done)), H', ⟨Nat.le_refl _⟩, ⟨by first | exact Kd.R_nil _ _ _ _ _ | exact Kd.N_nil _ _ _ _ _ | exact Kd.V_nil _ _ _ _ _ | exact Kd.Q_nil _ _ _ _ _ | exact Kd.S_nil _ _ _ _ _⟩, ⟨by (with_reducible repeat (first | apply Kd.R_alloc | apply Kd.R_drewN | apply Kd.R_drew)); exact Kd.R_mono HO218.out (fun _ hk => (by simp [Value.ownBlock]))⟩, ⟨by (with_reducible repeat (first | refine blk_drewN ?_ _ | refine blk_drew ?_ | refine blk_alloc ?_ _)); exact BK214.out⟩, ⟨by repeat (first | (with_reducible first | exact HB.out | apply below_alloc | apply pw_below_drewN | apply below_drew1 | refine below_set ?_ GE214.out) | exact HB.out)⟩⟩
      case round =>
        clear H'
        try clear c1
        try clear c2
        try clear p2
        try clear q2
        try clear hx2
        try clear c3
        try clear c3b0
        try clear c4
        try clear c4b0
        try clear c6
        try clear hcz7_0
        try clear hcz7_1
        try clear hfz7_0
        try clear hfz7_1
        try clear hx215_0
        try clear hx215_1
        try clear hx215_2
        try clear p215
        try clear q215
        obtain ⟨x5_1, x15_1, rfl, HA, HK1, HO_5, HO_13, BK214, HB⟩ := hrel
        cases gk with
        | zero => exact absurd HA.out (by simp [impl_Sheet_may.l0])
        | succ k1 =>
          have H := HA.out
          clear HA
          simp only [impl_Sheet_may.l0] at H
          by_cases c10 : x15_1 < (t216.length : Int)
          · rw [if_pos c10] at H
            have c10b0 : decide (x15_1 < (t216.length : Int)) = true := decide_eq_true c10
            clear c10
            by_cases c11 : 0 ≤ x15_1
            · rw [if_pos c11] at H
              have c11b0 : decide (0 ≤ x15_1) = true := decide_eq_true c11
              clear c11
              by_cases c12 : x15_1 < (t216.length : Int)
              · rw [if_pos c12] at H
                have c12b0 : decide (x15_1 < (t216.length : Int)) = true := decide_eq_true c12
                clear c12
                replace H := Option.bind_eq_some_iff.mp H
                obtain ⟨t220, A130, H⟩ := H
                replace H : (if t220 = true then (if x5_1.length < 17592186044416 then (impl_Sheet_may.l0 k1 (x5_1 ++ [rd t216 x15_1]) t216 (t216.length : Int) (wrap64 (x15_1 + 1)) l0_0 l0_1) else (none)) else (impl_Sheet_may.l0 k1 x5_1 t216 (t216.length : Int) (wrap64 (x15_1 + 1)) l0_0 l0_1)) = some r := H
                have A13 := Aside0.mk A130
                clear A130
                by_cases c14 : t220 = true
                · subst c14
                  have H1 : (if x5_1.length < 17592186044416 then (impl_Sheet_may.l0 k1 (x5_1 ++ [rd t216 x15_1]) t216 (t216.length : Int) (wrap64 (x15_1 + 1)) l0_0 l0_1) else (none)) = some r := by rw [if_pos rfl] at H; exact H
                  clear H
                  have H := H1
                  clear H1
                  by_cases c15 : x5_1.length < 17592186044416
                  · rw [if_pos c15] at H
                    have LMc15 := Aside0.mk c15
                    clear c15
                    obtain ⟨y221, hy221⟩ : ∃ y_ : List Int, y_ = (x5_1 ++ [rd t216 x15_1]) := ⟨_, rfl⟩
                    replace H : (impl_Sheet_may.l0 k1 y221 t216 (t216.length : Int) (wrap64 (x15_1 + 1)) l0_0 l0_1) = some r := by first | (rw [hy221]; with_reducible exact H) | (have H2_ := (Option.bind_some _ _).symm.trans H; rw [hy221]; with_reducible exact H2_) | (have H2_ := (Option.bind_some _ _).symm.trans H; with_reducible exact H2_) | with_reducible exact H | (rw [hy221]; exact H) | exact H
                    have Ny221 := Aside0.mk hy221
                    clear hy221
                    have H' := Aside0.mk H
                    clear H
                    have p219 : 0 ≤ (x15_1 : Int) := of_decide_eq_true (by first | (with_reducible assumption) | assumption)
                    have q219 : x15_1 < (t216.length : Int) := of_decide_eq_true (by first | (with_reducible assumption) | assumption)
                    obtain ⟨ad219, e219, hx219_0⟩ := Kd.at_int (Kd.R_reads' HO_13.out).2.2 x15_1 p219 q219
                    cases e219
                    replace p219 := eq_true p219
                    replace q219 := eq_true q219
                    have hcz16_0 : wr.cell? ⟨gb214, 0, none⟩ = some (.slice A0_0 l0_0.length c0_0) := (blk_cell BK214.out 0).trans rfl
                    have hcz16_1 : wr.cell? ⟨gb214, 1, none⟩ = some (.slice (some ad215) l0_1.length c0_1) := (blk_cell BK214.out 1).trans rfl
                    have hfz16_0 := blk_frozen BK214.out 0
                    have hfz16_1 := blk_frozen BK214.out 1
                    go_wp2_with (first | ((with_reducible refine gate_callee (f := 115) rfl ?_); refine goesL_ (some 21) rfl rfl Try.func115 (by kernel_rfl) rfl #[.agg #[.slice A0_0 l0_0.length c0_0, .slice (some ad215) l0_1.length c0_1], .int .i64 (rd t216 x15_1)] rfl (by (try simp only [List.map_toArray, List.map_cons, List.map_nil]); first | done | rfl | (simp only [List.length_drop, List.length_take]; rfl)) ?_; (with_reducible refine (impl_Sheet_makes.calls _ _ l0_0 _ _ l0_1 (rd t216 x15_1) true _ ?side1 ?side2 ?side3 ?side4 A13.out).mono ?_); (case side1 => repeat (first | exact (Kd.C_below HR0_0.out HB.out) | (with_reducible refine Kd.C_alloc ?_ _) | (with_reducible refine Kd.C_drewN ?_ _) | (with_reducible refine Kd.C_drew ?_))); (case side2 => exact HC0_0.out); (case side3 => repeat (first | exact (Kd.C_below HR0_1.out HB.out) | (with_reducible refine Kd.C_alloc ?_ _) | (with_reducible refine Kd.C_drewN ?_ _) | (with_reducible refine Kd.C_drew ?_))); (case side4 => exact HC0_1.out); rintro e w17 ⟨rfl, hb⟩; refine ⟨_, rfl, ?_⟩; have n0_ := Aside0.mk (Kd.R_below (by (with_reducible repeat (first | apply Kd.R_alloc | apply Kd.R_drewN | apply Kd.R_drew)); exact HO_5.out) hb); have n1_ := Aside0.mk (Kd.R_below (by (with_reducible repeat (first | apply Kd.R_alloc | apply Kd.R_drewN | apply Kd.R_drew)); exact HO_13.out) hb); have n2_ := Aside0.mk (blk_below (g := gb214) (o := .cells #[.slice A0_0 l0_0.length c0_0, .slice (some ad215) l0_1.length c0_1] 30 (0, 0)) (by (with_reducible repeat (first | refine blk_drewN ?_ _ | refine blk_drew ?_ | refine blk_alloc ?_ _)); exact BK214.out) hb); have n3_ := Aside0.mk (below_step (by repeat (first | (with_reducible first | exact HB.out | apply below_alloc | apply pw_below_drewN | apply below_drew1 | refine below_set ?_ GE214.out) | exact HB.out)) hb); clear HO_5; clear HO_13; clear BK214; clear HB; have HO_5 := n0_; have HO_13 := n1_; have BK214 := n2_; have HB := n3_; clear n0_ n1_ n2_ n3_; (try clear hb); (try clear hb2); (try clear hk); (try clear hi)) | ((with_reducible refine gate_builtin (b := .append) (xs := #[.tmp 22, .tmp 24]) rfl ?_); at_builtin; refine Kd.R_append (Kd.int .i64) (w0 := w) w.heap.size rfl (.tmp 22) (.tmp 24) 34 3 (.int .i64 0) 8 rfl Try.underlying34 info3 rfl (by decide) (by omega) u5 x5_1 (rd t216 x15_1) [.int .i64 (rd t216 x15_1)] (fun k_ => some k_ ≠ (.slice (some ad219) t216.length co9 : Value).ownBlock) (fun _ => False) rfl rfl ?aP (fun _ hk => hk.elim) ?aF ?aO ?aB ?aS ?aL ?_; (case aP => exact rfl); (case aB => exact (by repeat (first | (with_reducible first | exact HB.out | apply below_alloc | apply pw_below_drewN | apply below_drew1 | refine below_set ?_ GE214.out) | exact HB.out))); (case aF => exact (fun k_ hk => Kd.fresh' (Kd.R_lt (by (with_reducible repeat (first | apply Kd.R_alloc | apply Kd.R_drewN | apply Kd.R_drew)); exact HO_13.out)) k_ hk)); (case aO => exact (by (with_reducible repeat (first | apply Kd.R_alloc | apply Kd.R_drewN | apply Kd.R_drew)); exact HO_5.out)); (case aS => exact (below_size (by repeat (first | (with_reducible first | exact HB.out | apply below_alloc | apply pw_below_drewN | apply below_drew1 | refine below_set ?_ GE214.out) | exact HB.out)))); (case aL => have := LMc15.out; omega); intro v222 w18 ho hb hg hat; rw [← Ny221.out] at ho; have n0_ := Aside0.mk (Kd.R_after (ok := (fun _ => True)) (by (with_reducible repeat (first | apply Kd.R_alloc | apply Kd.R_drewN | apply Kd.R_drew)); exact Kd.R_mono HO_13.out (fun _ hk => ⟨trivial, hk⟩)) hg hat); have n1_ := Aside0.mk (blk_grown (g := gb214) (o := .cells #[.slice A0_0 l0_0.length c0_0, .slice (some ad215) l0_1.length c0_1] 30 (0, 0)) (by (with_reducible repeat (first | refine blk_drewN ?_ _ | refine blk_drew ?_ | refine blk_alloc ?_ _)); exact BK214.out) hg (Kd.R_ne HO_5.out BK214.out (by decide))); have n2_ := Aside0.mk (hb); have n3_ := Aside0.mk (ho); clear HO_13; clear BK214; clear HB; clear HO_5; have HO_13 := n0_; have BK214 := n1_; have HB := n2_; have HO223 := n3_; clear n0_ n1_ n2_ n3_; clear ho hb hg hat))
                    go_roundg k1
                    case measure => have := HK1.out; omega
                    case rel => exact ⟨(y221), (wrap64 (x15_1 + 1)), (by first | rfl | (simp; done) | (simp [*]; done)), H', ⟨by have := HK1.out; omega⟩, ⟨by (with_reducible repeat (first | apply Kd.R_alloc | apply Kd.R_drewN | apply Kd.R_drew)); exact HO223.out⟩, ⟨by (with_reducible repeat (first | apply Kd.R_alloc | apply Kd.R_drewN | apply Kd.R_drew)); exact Kd.R_mono HO_13.out (fun _ hk => hk.2)⟩, ⟨by (with_reducible repeat (first | refine blk_drewN ?_ _ | refine blk_drew ?_ | refine blk_alloc ?_ _)); exact BK214.out⟩, ⟨by repeat (first | (with_reducible first | exact HB.out | apply below_alloc | apply pw_below_drewN | apply below_drew1 | refine below_set ?_ GE214.out) | exact HB.out)⟩⟩
                  · rw [if_neg c15] at H
                    exact absurd H (by simp)
                · replace c14 := Bool.eq_false_iff.mpr c14
                  subst c14
                  have H1 : (impl_Sheet_may.l0 k1 x5_1 t216 (t216.length : Int) (wrap64 (x15_1 + 1)) l0_0 l0_1) = some r := by rw [if_neg (show ¬ (false = true) by decide)] at H; exact H
                  clear H
                  have H := H1
                  clear H1
                  have H' := Aside0.mk H
                  clear H
                  have p219 : 0 ≤ (x15_1 : Int) := of_decide_eq_true (by first | (with_reducible assumption) | assumption)
                  have q219 : x15_1 < (t216.length : Int) := of_decide_eq_true (by first | (with_reducible assumption) | assumption)
                  obtain ⟨ad219, e219, hx219_0⟩ := Kd.at_int (Kd.R_reads' HO_13.out).2.2 x15_1 p219 q219
                  cases e219
                  replace p219 := eq_true p219
                  replace q219 := eq_true q219
                  have hcz19_0 : wr.cell? ⟨gb214, 0, none⟩ = some (.slice A0_0 l0_0.length c0_0) := (blk_cell BK214.out 0).trans rfl
                  have hcz19_1 : wr.cell? ⟨gb214, 1, none⟩ = some (.slice (some ad215) l0_1.length c0_1) := (blk_cell BK214.out 1).trans rfl
                  have hfz19_0 := blk_frozen BK214.out 0
                  have hfz19_1 := blk_frozen BK214.out 1
                  go_wp2_with (first | ((with_reducible refine gate_callee (f := 115) rfl ?_); refine goesL_ (some 21) rfl rfl Try.func115 (by kernel_rfl) rfl #[.agg #[.slice A0_0 l0_0.length c0_0, .slice (some ad215) l0_1.length c0_1], .int .i64 (rd t216 x15_1)] rfl (by (try simp only [List.map_toArray, List.map_cons, List.map_nil]); first | done | rfl | (simp only [List.length_drop, List.length_take]; rfl)) ?_; (with_reducible refine (impl_Sheet_makes.calls _ _ l0_0 _ _ l0_1 (rd t216 x15_1) false _ ?side1 ?side2 ?side3 ?side4 A13.out).mono ?_); (case side1 => repeat (first | exact (Kd.C_below HR0_0.out HB.out) | (with_reducible refine Kd.C_alloc ?_ _) | (with_reducible refine Kd.C_drewN ?_ _) | (with_reducible refine Kd.C_drew ?_))); (case side2 => exact HC0_0.out); (case side3 => repeat (first | exact (Kd.C_below HR0_1.out HB.out) | (with_reducible refine Kd.C_alloc ?_ _) | (with_reducible refine Kd.C_drewN ?_ _) | (with_reducible refine Kd.C_drew ?_))); (case side4 => exact HC0_1.out); rintro e w20 ⟨rfl, hb⟩; refine ⟨_, rfl, ?_⟩; have n0_ := Aside0.mk (Kd.R_below (by (with_reducible repeat (first | apply Kd.R_alloc | apply Kd.R_drewN | apply Kd.R_drew)); exact HO_5.out) hb); have n1_ := Aside0.mk (Kd.R_below (by (with_reducible repeat (first | apply Kd.R_alloc | apply Kd.R_drewN | apply Kd.R_drew)); exact HO_13.out) hb); have n2_ := Aside0.mk (blk_below (g := gb214) (o := .cells #[.slice A0_0 l0_0.length c0_0, .slice (some ad215) l0_1.length c0_1] 30 (0, 0)) (by (with_reducible repeat (first | refine blk_drewN ?_ _ | refine blk_drew ?_ | refine blk_alloc ?_ _)); exact BK214.out) hb); have n3_ := Aside0.mk (below_step (by repeat (first | (with_reducible first | exact HB.out | apply below_alloc | apply pw_below_drewN | apply below_drew1 | refine below_set ?_ GE214.out) | exact HB.out)) hb); clear HO_5; clear HO_13; clear BK214; clear HB; have HO_5 := n0_; have HO_13 := n1_; have BK214 := n2_; have HB := n3_; clear n0_ n1_ n2_ n3_; (try clear hb); (try clear hb2); (try clear hk); (try clear hi)))
                  go_roundg k1
                  case measure => have := HK1.out; omega
                  case rel => exact ⟨(x5_1), (wrap64 (x15_1 + 1)), (by first | rfl | (simp; done) | (simp [*]; done)), H', ⟨by have := HK1.out; omega⟩, ⟨by (with_reducible repeat (first | apply Kd.R_alloc | apply Kd.R_drewN | apply Kd.R_drew)); exact HO_5.out⟩, ⟨by (with_reducible repeat (first | apply Kd.R_alloc | apply Kd.R_drewN | apply Kd.R_drew)); exact HO_13.out⟩, ⟨by (with_reducible repeat (first | refine blk_drewN ?_ _ | refine blk_drew ?_ | refine blk_alloc ?_ _)); exact BK214.out⟩, ⟨by repeat (first | (with_reducible first | exact HB.out | apply below_alloc | apply pw_below_drewN | apply below_drew1 | refine below_set ?_ GE214.out) | exact HB.out)⟩⟩
              · rw [if_neg c12] at H
                exact absurd H (by simp)
            · rw [if_neg c11] at H
              exact absurd H (by simp)
          · rw [if_neg c10] at H
            have c10b0 : decide (x15_1 < (t216.length : Int)) = false := decide_eq_false c10
            clear c10
            obtain rfl := Option.some.inj H
            go_wp2
            go_ret
            exact ⟨_, by first | rfl | (simp [errW_none, errW_some] <;> rfl) | (simp [*, errW_none, errW_some] <;> rfl), by (with_reducible repeat (first | apply Kd.R_alloc | apply Kd.R_drewN | apply Kd.R_drew)); exact Kd.R_mono HO_5.out (fun _ hk => trivial), by repeat (first | (with_reducible first | exact HB.out | apply below_alloc | apply pw_below_drewN | apply below_drew1 | refine below_set ?_ GE214.out) | exact HB.out)⟩
    · rw [if_neg c4] at H
      exact absurd H (by simp)
  · rw [if_neg c3] at H
    exact absurd H (by simp)
end Go.Proofs.Ythfemojaabejiaa.G
end
