-- Written by pack.py (ours): the claim's texts, cut down to what its theorem reaches.
import Derived.Test.YtgbjbpjmbghlbaaRows
import Derived.ProofKit
import Derived.OpenShut
import Derived.ShutString
import Derived.ChangeOld
import Derived.SizedLaws
import Derived.Test.YtgbjbpjmbghlbaaKFnExactStateOk7
section
namespace Go.Proofs.Ytgbjbpjmbghlbaa.fnExactStateOk
open Go.ChangeShapes Go.WideShapes Go.ChangeAt Go.RowKit Go.Proofs.YtgbjbpjmbghlbaaW.PrintWords Go.Proofs.YtgbjbpjmbghlbaaW.OpenData Go.Proofs.Ytgbjbpjmbghlbaa.G
set_option linter.unusedVariables false
theorem own : ownKnob Try.prog.godebug = none := by kernel_rfl
theorem laidOut : laidOutB Try.prog = true := by kernel_rfl
set_option maxRecDepth 100000 in
theorem lifted (os : Os) (started : os.Started) (H : Type) (enc : TypeId × Value → H) :
    ReturnsInHanded {} Try.checked os 6 .any (Rows.fnExactStateOkSpec.pre6 enc Try.prog Try.f6 Rows.fnExactStateOkRow.domain false) (Rows.fnExactStateOkSpec.post enc Try.prog Try.f6 false true false false) := by
  refine returnsInHanded_of_change_sized (C := Try.checked) own started (by kernel_rfl) Try.func6
    (ChangeSpec.witness6 (enc := enc) (C := Try.checked) false ⟨#[], #[.agg #[.slice none 0 0, .slice none 0 0], .agg #[.slice none 0 0, .slice none 0 0, .slice none 0 0, .slice none 0 0]], []⟩ 8 (by kernel_rfl) (by kernel_rfl) (by kernel_rfl) (by kernel_rfl)) ?_
  intro W base args ds gs before hval0 hW hcnd hsz0 _
  have hval : ∀ (j : Nat) t v, Try.f6.params[j]? = some t → args[j]? = some v → Value.okWide Try.prog W .any base t v := hval0
  have hW' := hW
  obtain ⟨p, q, hA0, hV, rfl, hfz, hnd⟩ := hW
  have hA : DataW.TrodAll enc Try.prog W 0 (fun _ => true) true Try.f6.params.toList args.toList ds p := hA0
  rw [Try.params6] at hA hval
  obtain ⟨v0, vs0, d0, ds0, p0, q0, hargs, rfl, rfl, h0, r0⟩ := trodAll_cons hA
  obtain ⟨v1, vs1, d1, ds1, p1, q1, rfl, rfl, rfl, h1, r1⟩ := trodAll_cons r0
  obtain ⟨rfl, rfl, rfl⟩ := trodAll_nil r1
  obtain rfl : args = #[v0, v1] := by cases args; simp_all
  obtain ⟨rfl, rfl⟩ := trodVars_none hV
  have k0 := h0
  have lt0 : ∀ x ∈ p0, x.block < W.heap.size := by obtain ⟨m, hm⟩ := k0; exact DataW.trod_lt m _ _ _ hm
  obtain ⟨v0_0, v0_1, y0_0, y0_1, m0, rfl, rfl, rfl, t0_0, t0_1⟩ := Go.Joins.open_agg2 Try.underlying48 (by kernel_rfl) (by kernel_rfl) (hval 0 48 v0 rfl rfl) h0
  obtain ⟨x0_0, ⟨A0_0, c0_0, e0_0, hl0_0, hC0_0⟩, hx0_0⟩ := (opens_sl4) m0 enc W m0 _ _ (Nat.le_refl _) t0_0
  simp only [List.cons.injEq, and_true] at e0_0
  subst e0_0
  obtain ⟨x0_1, ⟨A0_1, c0_1, e0_1, hl0_1, hC0_1⟩, hx0_1⟩ := (opens_sl24) m0 enc W m0 _ _ (Nat.le_refl _) t0_1
  simp only [List.cons.injEq, and_true] at e0_1
  subst e0_1
  have k1 := h1
  have lt1 : ∀ x ∈ p1, x.block < W.heap.size := by obtain ⟨m, hm⟩ := k1; exact DataW.trod_lt m _ _ _ hm
  obtain ⟨v1_0, v1_1, v1_2, v1_3, y1_0, y1_1, y1_2, y1_3, m1, rfl, rfl, rfl, t1_0, t1_1, t1_2, t1_3⟩ := Go.Joins.open_agg4 Try.underlying51 (by kernel_rfl) (by kernel_rfl) (hval 1 51 v1 rfl rfl) h1
  obtain ⟨x1_0, ⟨A1_0, c1_0, e1_0, hl1_0, hC1_0⟩, hx1_0⟩ := (opens_sl3) m1 enc W m1 _ _ (Nat.le_refl _) t1_0
  simp only [List.cons.injEq, and_true] at e1_0
  subst e1_0
  obtain ⟨x1_1, ⟨A1_1, c1_1, e1_1, hl1_1, hC1_1⟩, hx1_1⟩ := (opens_sl4) m1 enc W m1 _ _ (Nat.le_refl _) t1_1
  simp only [List.cons.injEq, and_true] at e1_1
  subst e1_1
  obtain ⟨x1_2, ⟨A1_2, c1_2, e1_2, hl1_2, hC1_2⟩, hx1_2⟩ := (opens_sl3) m1 enc W m1 _ _ (Nat.le_refl _) t1_2
  simp only [List.cons.injEq, and_true] at e1_2
  subst e1_2
  obtain ⟨x1_3, ⟨A1_3, c1_3, e1_3, hl1_3, hC1_3⟩, hx1_3⟩ := (opens_sl81) m1 enc W m1 _ _ (Nat.le_refl _) t1_3
  simp only [List.cons.injEq, and_true] at e1_3
  subst e1_3
  clear hA0 hval0 hsz0
  obtain ⟨k, hk⟩ := pure_FnExactStateOk x0_0 hx0_0 x0_1 hx0_1 x1_0 hx1_0 x1_1 hx1_1 x1_2 hx1_2 x1_3 hx1_3
  refine (laws_FnExactStateOk.calls k A0_0 c0_0 x0_0 A0_1 c0_1 x0_1 A1_0 c1_0 x1_0 A1_1 c1_1 x1_1 A1_2 c1_2 x1_2 A1_3 c1_3 x1_3 true W hC0_0 hl0_0 hC0_1 hl0_1 hC1_0 hl1_0 hC1_1 hl1_1 hC1_2 hl1_2 hC1_3 hl1_3 hk).mono fun e W' ⟨he, bel⟩ => ?_
  subst he
  exact ⟨_, rfl, _, _, _, [], _, [], hW', trodAll_mk1 (shut_bool Try.underlying4 _), (trodAll_cons_mk (Below.trod laidOut (by kernel_rfl) (of_decide_eq_true (by kernel_rfl)) k0 bel lt0) (trodAll_cons_mk (Below.trod laidOut (by kernel_rfl) (of_decide_eq_true (by kernel_rfl)) k1 bel lt1) trodAll_mk0)), rfl, bel.frame _, fun h => by cases h⟩
theorem over : Rows.fnExactStateOkRow.holds Try.pinned (OpenSpec.ofChange Rows.fnExactStateOkSpec) :=
  OpenClaim.holds_of_wide 6 Try.f6 rfl rfl rfl rfl rfl rfl rfl ⟨rfl, rfl, rfl, rfl, rfl⟩ rfl rfl rfl rfl rfl (by kernel_rfl) Try.func6 (by kernel_rfl)
    (of_decide_eq_true (by kernel_rfl)) (by unfold Func.isWrapper; first | (rw [if_pos (by decide +kernel)]; kernel_rfl) | (rw [if_neg (by decide +kernel)]; exact ⟨rfl, rfl⟩))
    (fun os started H enc _ => lifted os started H enc)
theorem proved : Rows.FnExactStateOkSaid := over
end Go.Proofs.Ytgbjbpjmbghlbaa.fnExactStateOk
namespace Go.Proofs.Ytgbjbpjmbghlbaa
theorem fnExactStateOk_holds : Rows.FnExactStateOkSaid := fnExactStateOk.proved
end Go.Proofs.Ytgbjbpjmbghlbaa
end
