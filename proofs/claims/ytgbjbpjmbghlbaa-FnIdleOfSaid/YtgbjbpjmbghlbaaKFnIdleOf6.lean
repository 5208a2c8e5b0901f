-- Written by pack.py (ours): the claim's texts, cut down to what its theorem reaches.
import Derived.Lib.SliceRun
import Derived.Test.YtgbjbpjmbghlbaaKFnIdleOf5
section
namespace Go.Proofs.Ytgbjbpjmbghlbaa.G
open Go.RowKit Go.Proofs.YtgbjbpjmbghlbaaW.PrintWords Go.Proofs.YtgbjbpjmbghlbaaW.PrintLast Go.Proofs.YtgbjbpjmbghlbaaW.PrintMore
set_option linter.unusedVariables false
set_option linter.unusedSimpArgs false
theorem infoClint : (Try.prog.info? 3).map (fun i => (i.zero, i.size, i.bytes)) = some (some (.int .i64 0), 1, 8) := by kernel_rfl
def slices_Clone_int.f (l0 : List (Int)) : Option (List (Int)) := if l0.length < 17592186044416 then some l0 else none
set_option maxHeartbeats 8000000 in
set_option maxRecDepth 100000 in
theorem slices_Clone_int.calls (A0 : Option Addr) (c0 : Nat) (l0 : List (Int)) (r : List (Int)) (w : World) (hr0 : Kd.C (Kd.int .i64) w A0 l0.length l0) (hc0 : l0.length ≤ c0) (h : slices_Clone_int.f l0 = some r) :
    Calls Try.prog 171 #[.slice A0 l0.length c0] w fun e w' => ∃ v0_ : Value, e = .returned (v0_) ∧ Kd.R (Kd.int .i64) 3 w' w.heap.size (fun _ => True) v0_ r ∧ Below w.heap.size w w' := by
  unfold slices_Clone_int.f at h
  by_cases hl : l0.length < 17592186044416
  · rw [if_pos hl] at h
    obtain rfl := Option.some.inj h
    have HR := Aside0.mk hr0
    have HL := Aside0.mk hl
    have hq : ∀ (W : World) (a : Option Addr) (n c : Nat), (binOp .eql 26 (.slice a n c) (.slice none 0 0)).run Try.prog W = .ok (.bool a.isNone) W := fun W a n c => Lib.run_eql_slice_nil W _ _ a n c 0 0 Try.underlying26
    clear h hl hr0
    cases A0 with
    | none =>
      have he : l0 = [] := by
        rcases Nat.eq_zero_or_pos l0.length with h0 | h0
        · exact List.eq_nil_of_length_eq_zero h0
        · obtain ⟨ad, h1, _⟩ := HR.out.2.2 h0
          cases h1
      subst he
      go_enter Try.func171, Try.ntmps171
      go_wp2
      go_ret
      exact ⟨_, rfl, Kd.R_nil _ _ _ _ _, Below.refl _ _⟩
    | some ad =>
      go_enter Try.func171, Try.ntmps171
      go_wp2_with (first | ((with_reducible refine gate_dst (N := 5) rfl ?_); refine Kd.R_lit (Kd.int .i64) (w0 := w) w.heap.size 3 rfl rfl (xs := []) (inner := []) (ok := fun _ => True) (okp := fun _ => False) (by go_simp; first | done | rfl) (Reps.none _ _) (fun _ h => h.elim) trivial (Below.refl _ _) (Nat.le_refl _) (by simp) ?_; intro v1 w1 ho hb hg hat; have HO1 := Aside0.mk ho; have HB1 := Aside0.mk hb; clear ho hb hg hat) | (at_builtin; refine Kd.R_append_rows (Kd.int .i64) (Rr := Kd.K (Kd.int .i64) w1) (w0 := w) w.heap.size rfl (.tmp 5) (.tmp 6) 26 3 (.int .i64 0) 8 rfl Try.underlying26 infoClint rfl (by decide) (by omega) v1 [] l0 _ _ _ (fun _ => True) (fun _ => False) rfl rfl ?aO ?aR (fun _ _ h => h) (fun _ h => h.elim) ?aF ?aB ?aS ?aL ?_; (case aR => exact Kd.C_below HR.out HB1.out); (case aB => exact HB1.out); (case aF => exact fun _ _ => trivial); (case aO => exact HO1.out); (case aS => exact HB1.out.size); (case aL => have := HL.out; simp only [List.length_nil]; omega); intro v2 w2 ho hb hg hat; have HO2 := Aside0.mk ho; have HB2 := Aside0.mk hb; clear ho hb hg hat))
      go_ret
      exact ⟨_, rfl, HO2.out, HB2.out⟩
  · rw [if_neg hl] at h
    cases h
end Go.Proofs.Ytgbjbpjmbghlbaa.G
end
section
namespace Go.Proofs.Ytgbjbpjmbghlbaa.G
open Go.RowKit Go.Proofs.YtgbjbpjmbghlbaaW.PrintWords Go.Proofs.YtgbjbpjmbghlbaaW.PrintLast Go.Proofs.YtgbjbpjmbghlbaaW.PrintMore
set_option linter.unusedVariables false
set_option linter.unusedSimpArgs false
def idxFrom {α : Type} (P : α → Bool) : List α → Nat → Int
  | [], _ => -1
  | x :: xs, i => if P x = true then (i : Int) else idxFrom P xs (i + 1)
def Tells (c : Nat) (lb : Array Value) {α : Type} (enc : α → Value) (P : α → Bool) (w : World) (l : List α) : Prop :=
  ∀ x ∈ l, ∀ W, Below w.heap.size w W → Calls Try.prog c (#[enc x] ++ lb) W fun e W' => e = .returned (.bool (P x)) ∧ Below W.heap.size W W'
set_option maxHeartbeats 8000000 in
set_option maxRecDepth 100000 in
theorem indexFunc_int (c : Nat) (lb : Array Value) (P : Int → Bool) (A : Option Addr) (cap : Nat) (l : List Int) (w : World) (hr : Kd.C (Kd.int .i64) w A l.length l) (hrun : ∀ (args : Array Value) (W : World), (callFunc c args).run Try.prog W = .ok (.enter c args) W) (hT : Tells c lb (Value.int .i64) P w l) :
    Calls Try.prog 154 #[.slice A l.length cap, .func (.func c) #[] lb] w fun e w' => e = .returned (.int .i64 (idxFrom P l 0)) ∧ Below w.heap.size w w' := by
  have HR := Aside0.mk hr
  have HT := Aside0.mk hT
  have hE := hrun
  clear hr hT hrun
  go_enter Try.func154, Try.ntmps154
  go_wp2
  go_loopg [8] l.length (fun kq v8 w' => ∃ i : Nat, v8 = .int .i64 (i : Int) ∧ Aside0 (i + kq = l.length) ∧ Aside0 (idxFrom P l 0 = idxFrom P (l.drop i) i) ∧ Aside0 (Below w.heap.size w w'))
  case atStart => exact ⟨0, by simp, ⟨by omega⟩, ⟨by simp⟩, ⟨Below.refl _ _⟩⟩
  case round =>
    obtain ⟨i, rfl, HI, HP, HB⟩ := hrel
    cases gk with
    | zero =>
      have hi : i = l.length := by have := HI.out; omega
      subst hi
      have hb : decide ((l.length : Int) < (l.length : Int)) = false := decide_eq_false (by omega)
      have hres : idxFrom P l 0 = -1 := by rw [HP.out, List.drop_length]; rfl
      have HRes := Aside0.mk hres
      clear hres HP
      go_wp2
      go_ret
      exact ⟨by rw [HRes.out]; rfl, HB.out⟩
    | succ gk =>
      have hlt : i < l.length := by have := HI.out; omega
      have hb : decide ((i : Int) < (l.length : Int)) = true := decide_eq_true (by omega)
      obtain ⟨ad, e, hx⟩ := Kd.at_int HR.out (i : Int) (by omega) (by omega)
      cases e
      have hlen := HR.out.2.1
      have hmax : (i : Int) + 1 ≤ 9223372036854775807 := by omega
      have hcell : wr.cell? (ad.add i) = some (.int .i64 (rd l (i : Int))) := by
        have h1 := (HB.out.cell (World.block_lt_of_cell? w _ hx)).trans hx
        simpa using h1
      have p0 : (0 ≤ (i : Int)) = True := eq_true (by omega)
      have q0 : ((i : Int) < (l.length : Int)) = True := eq_true (by omega)
      clear hx
      have hstep : idxFrom P l 0 = if P (rd l (i : Int)) = true then (i : Int) else idxFrom P (l.drop (i + 1)) (i + 1) := by
        rw [HP.out, List.drop_eq_getElem_cons hlt, idxFrom]
        simp [rd, List.getElem?_eq_getElem hlt]
      have HS := Aside0.mk hstep
      clear hstep HP
      go_wp2_with fail
      refine (HT.out _ (by simp only [rd, Int.toNat_natCast, List.getD_eq_getElem?_getD, List.getElem?_eq_getElem hlt, Option.getD_some]; exact List.getElem_mem hlt) wr HB.out).mono ?_
      rintro e w1 ⟨rfl, hb1⟩
      have HB1 := Aside0.mk (HB.out.trans (hb1.mono HB.out.size))
      clear hb1 HB hcell
      by_cases hP : P (rd l (i : Int)) = true
      · have HR1 := Aside0.mk (HS.out.trans (if_pos hP))
        go_wp2
        go_ret
        exact ⟨by rw [HR1.out]; rfl, HB1.out⟩
      · have HR1 := Aside0.mk (HS.out.trans (if_neg hP))
        have hP' : P (rd l (i : Int)) = false := by simpa using hP
        clear hP
        go_wp2
        go_roundg gk
        case measure => omega
        case rel => exact ⟨i + 1, by go_num, ⟨by have := HI.out; omega⟩, ⟨HR1.out⟩, HB1⟩
end Go.Proofs.Ytgbjbpjmbghlbaa.G
end
