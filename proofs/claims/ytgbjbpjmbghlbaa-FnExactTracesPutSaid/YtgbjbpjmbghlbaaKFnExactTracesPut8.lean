-- Written by pack.py (ours): the claim's texts, cut down to what its theorem reaches.
import Derived.ChangeArms
import Derived.DataReads
import Derived.Lib.SmallJoins
import Derived.Deep.Slices
import Derived.Deep.Strs
import Derived.Test.YtgbjbpjmbghlbaaKFnExactTracesPut7
section
namespace Go.Proofs.YtgbjbpjmbghlbaaW.OpenData
open Go.RowKit Go.Proofs.YtgbjbpjmbghlbaaW.PrintWords
set_option linter.unusedVariables false
set_option linter.unusedSimpArgs false
def Opens (P : Program) (t : TypeId) {α : Type} (d : Kd α) (ex : α → Prop) (n : Nat) : Prop :=
  ∀ {H : Type} (enc : TypeId × Value → H) (w : World) (fuel : Nat) (cs : List Value) (x : DataW H × List MemPlace), fuel ≤ n →
    DataW.trod enc P w 0 (fun _ => true) true fuel t cs = some x → ∃ a, d.K w a cs ∧ ex a
theorem opens_int {P : Program} {t : TypeId} {k : IntKind} (ht : P.underlying t = some (.int k)) (n : Nat) : Opens P t (Kd.int k) (fun x => (Lit.int k x).wf = true) n := by
  intro H enc w fuel cs x _ h
  obtain ⟨m, rfl, _, hw⟩ := DataW.trod_int ht h
  exact ⟨m, rfl, hw⟩
theorem list_of {α : Type} (p : Nat → α → Prop) (n : Nat) (h : ∀ i, i < n → ∃ x, p i x) : ∃ l : List α, l.length = n ∧ ∀ i x, l[i]? = some x → p i x := by
  induction n with
  | zero => exact ⟨[], rfl, fun i x h => by simp at h⟩
  | succ n ih =>
    obtain ⟨l, hl, hp⟩ := ih (fun i hi => h i (by omega))
    obtain ⟨y, hy⟩ := h n (by omega)
    refine ⟨l ++ [y], by simp [hl], fun i x hx => ?_⟩
    rcases Nat.lt_or_ge i l.length with hi | hi
    · rw [List.getElem?_append_left hi] at hx
      exact hp i x hx
    · have hi' : i = l.length := by
        have := (List.getElem?_eq_some_iff.1 hx).1
        simp at this
        omega
      subst hi'
      have : y = x := by simpa using hx
      subst this
      rw [hl]
      exact hy
theorem add_add_ (a : Addr) (i j : Nat) : (a.add i).add j = a.add (i + j) := Go.Deep.add_add a i j
theorem opens_slice {P : Program} {t e : TypeId} {α : Type} {d : Kd α} {ex : α → Prop} {n : Nat} (ht : P.underlying t = some (.slice e)) (hc : P.cellsOf e = d.sz) (h : Opens P e d ex n) :
    Opens P t (Kd.slice e d) (fun xs => xs.length ≤ maxLen ∧ ∀ x ∈ xs, ex x) (n + 1) := by
  intro H enc w fuel cs x hfu hr
  rcases DataW.trod_slice ht hr with ⟨rfl, _⟩ | ⟨a, len, cap, elems, rest, m, rfl, rfl, _, _, hl, hm, hlen, hel, _⟩
  · exact ⟨[], ⟨none, 0, rfl, Nat.le_refl _, rfl, by simp, fun h => absurd h (by simp)⟩, by simp, by simp⟩
  · have key : ∀ i, i < len → ∃ y : α, ex y ∧ ∃ c : List Value, c.length = d.sz ∧ d.K w y c ∧ ∀ j u, c[j]? = some u → w.cell? (a.add (i * d.sz + j)) = some u := by
      intro i hi
      have h1 := hel i hi
      rw [List.getElem?_eq_getElem (by omega)] at h1
      obtain ⟨cs', h2, h3⟩ := Option.bind_eq_some_iff.1 h1
      obtain ⟨y, hy, he⟩ := h enc w m cs' _ (by omega) h3
      obtain ⟨_, h4, h5⟩ := World.cells?_some h2
      refine ⟨y, he, cs', by rw [h4, hc], hy, fun j u hu => ?_⟩
      have hj : j < P.cellsOf e := by rw [← h4]; exact (List.getElem?_eq_some_iff.1 hu).1
      have h6 := h5 j hj
      rw [hu, add_add_, hc] at h6
      exact h6
    obtain ⟨xs, hxl, hxs⟩ := list_of (fun i y => ex y ∧ ∃ c : List Value, c.length = d.sz ∧ d.K w y c ∧ ∀ j u, c[j]? = some u → w.cell? (a.add (i * d.sz + j)) = some u) len key
    subst hxl
    refine ⟨xs, ⟨some a, cap, rfl, hl, rfl, ?_, fun _ => ⟨a, rfl, fun j p hj => (hxs j p hj).2⟩⟩, by omega, fun x hx => ?_⟩
    · have : maxLen = 9223372036854775807 := by decide
      omega
    · obtain ⟨i, hi, rfl⟩ := List.mem_iff_getElem.1 hx
      exact (hxs i _ (List.getElem?_eq_getElem hi)).1
theorem opens_imp {P : Program} {t : TypeId} {α : Type} {d : Kd α} {ex ex' : α → Prop} {n m : Nat} (h : Opens P t d ex n) (hm : m ≤ n) (hex : ∀ x, ex x → ex' x) : Opens P t d ex' m := by
  intro H enc w fuel cs x hfu hr
  obtain ⟨a, hK, he⟩ := h enc w fuel cs x (by omega) hr
  exact ⟨a, hK, hex a he⟩
theorem opens_struct3 {P : Program} {t : TypeId} {f0 f1 f2 : Field} {α β γ δ : Type} {d0 : Kd α} {d1 : Kd β} {d2 : Kd γ} {e0 : α → Prop} {e1 : β → Prop} {e2 : γ → Prop} {n : Nat} (g : δ → α × β × γ) (gi : α → β → γ → δ) (hg : ∀ a b c, g (gi a b c) = (a, b, c))
    (ht : P.underlying t = some (.struct #[f0, f1, f2])) (hs : P.cellsOf t = d0.sz + d1.sz + d2.sz) (o0 : f0.offset = 0) (o1 : f1.offset = d0.sz) (o2 : f2.offset = d0.sz + d1.sz) (c0 : P.cellsOf f0.type = d0.sz) (c1 : P.cellsOf f1.type = d1.sz) (c2 : P.cellsOf f2.type = d2.sz)
    (h0 : Opens P f0.type d0 e0 n) (h1 : Opens P f1.type d1 e1 n) (h2 : Opens P f2.type d2 e2 n) :
    Opens P t (Kd.iso (Kd.pair d0 (Kd.pair d1 d2)) g) (fun x => e0 (g x).1 ∧ e1 (g x).2.1 ∧ e2 (g x).2.2) (n + 1) := by
  intro H enc w fuel cs x hfu hr
  obtain ⟨xs, m, rfl, _, hl, hlen, hf⟩ := DataW.trod_struct ht hr
  match xs, hlen with
  | [y0, y1, y2], _ =>
    have r0 := hf 0 f0 rfl
    have r1 := hf 1 f1 rfl
    have r2 := hf 2 f2 rfl
    rw [o0, c0] at r0
    rw [o1, c1] at r1
    rw [o2, c2] at r2
    obtain ⟨a, hK0, he0⟩ := h0 enc w m _ _ (by omega) r0
    obtain ⟨b, hK1, he1⟩ := h1 enc w m _ _ (by omega) r1
    obtain ⟨c, hK2, he2⟩ := h2 enc w m _ _ (by omega) r2
    refine ⟨gi a b c, ?_, by simp only [hg]; exact ⟨he0, he1, he2⟩⟩
    show ∃ k0 k1, cs = k0 ++ k1 ∧ d0.K w (g (gi a b c)).1 k0 ∧ ∃ k2 k3, k1 = k2 ++ k3 ∧ d1.K w (g (gi a b c)).2.1 k2 ∧ d2.K w (g (gi a b c)).2.2 k3
    rw [hg]
    rw [List.drop_zero] at hK0
    refine ⟨cs.take d0.sz, cs.drop d0.sz, (List.take_append_drop _ _).symm, hK0, (cs.drop d0.sz).take d1.sz, (cs.drop d0.sz).drop d1.sz, (List.take_append_drop _ _).symm, hK1, ?_⟩
    rw [List.drop_drop]
    rw [List.take_of_length_le (by rw [List.length_drop]; omega)] at hK2
    exact hK2
theorem opens_struct2 {P : Program} {t : TypeId} {f0 f1 : Field} {α β δ : Type} {d0 : Kd α} {d1 : Kd β} {e0 : α → Prop} {e1 : β → Prop} {n : Nat} (g : δ → α × β) (gi : α → β → δ) (hg : ∀ a b, g (gi a b) = (a, b))
    (ht : P.underlying t = some (.struct #[f0, f1])) (hs : P.cellsOf t = d0.sz + d1.sz) (o0 : f0.offset = 0) (o1 : f1.offset = d0.sz) (c0 : P.cellsOf f0.type = d0.sz) (c1 : P.cellsOf f1.type = d1.sz)
    (h0 : Opens P f0.type d0 e0 n) (h1 : Opens P f1.type d1 e1 n) :
    Opens P t (Kd.iso (Kd.pair d0 d1) g) (fun x => e0 (g x).1 ∧ e1 (g x).2) (n + 1) := by
  intro H enc w fuel cs x hfu hr
  obtain ⟨xs, m, rfl, _, hl, hlen, hf⟩ := DataW.trod_struct ht hr
  match xs, hlen with
  | [y0, y1], _ =>
    have r0 := hf 0 f0 rfl
    have r1 := hf 1 f1 rfl
    rw [o0, c0] at r0
    rw [o1, c1] at r1
    obtain ⟨a, hK0, he0⟩ := h0 enc w m _ _ (by omega) r0
    obtain ⟨b, hK1, he1⟩ := h1 enc w m _ _ (by omega) r1
    refine ⟨gi a b, ?_, by simp only [hg]; exact ⟨he0, he1⟩⟩
    show ∃ k0 k1, cs = k0 ++ k1 ∧ d0.K w (g (gi a b)).1 k0 ∧ d1.K w (g (gi a b)).2 k1
    rw [hg]
    rw [List.drop_zero] at hK0
    refine ⟨cs.take d0.sz, cs.drop d0.sz, (List.take_append_drop _ _).symm, hK0, ?_⟩
    rw [List.take_of_length_le (by rw [List.length_drop]; omega)] at hK1
    exact hK1
theorem open_row {P : Program} {t e : TypeId} {α : Type} {d : Kd α} {ex : List α → Prop} (h : ∀ n, Opens P t (Kd.slice e d) ex n) {H : Type} {enc : TypeId × Value → H} {w : World} {v : Value} {x : DataW H} {p : List MemPlace} {r : Reach} {b0 : Nat} (ht : P.underlying t = some (.slice e)) (hv : Value.okWide P w r b0 t v)
    (hr : DataW.Trod enc P w 0 (fun _ => true) true t v x p) : ∃ A c xs, v = .slice A xs.length c ∧ xs.length ≤ c ∧ d.C w A xs.length xs ∧ ex xs := by
  obtain ⟨a0, l0, c0, rfl⟩ := Go.WideShapes.okWide_slice ht hv
  obtain ⟨fuel, hf⟩ := hr
  obtain ⟨xs, ⟨A, c, e1, hl, hC⟩, he⟩ := h fuel enc w fuel _ _ (Nat.le_refl _) hf
  simp only [Value.cells, List.cons.injEq, and_true] at e1
  exact ⟨A, c, xs, e1, hl, hC, he⟩
end Go.Proofs.YtgbjbpjmbghlbaaW.OpenData
end
section
namespace Go.Proofs.Ytgbjbpjmbghlbaa.G
open Go.RowKit Go.Proofs.YtgbjbpjmbghlbaaW.PrintWords Go.Proofs.YtgbjbpjmbghlbaaW.OpenData
set_option linter.unusedVariables false
def ex_t165 (x : S165) : Prop := (fun x : Int => (Lit.int .i64 x).wf = true) x.f0 ∧ (fun x : Int => (Lit.int .i64 x).wf = true) x.f1
theorem opens_t165 : ∀ n, Opens Try.prog 165 k165 ex_t165 n := fun n => opens_imp (opens_struct2 (fun x : S165 => (x.f0, x.f1)) S165.mk (fun _ _  => rfl) Try.underlying165 (by kernel_rfl) rfl rfl (by kernel_rfl) (by kernel_rfl) ((fun n => opens_int Try.underlying3 n) n) ((fun n => opens_int Try.underlying3 n) n)) (Nat.le_succ n) (fun _ h => h)
def ex_sl165 (xs : List (S165)) : Prop := xs.length ≤ 9223372036854775807 ∧ ∀ x ∈ xs, (ex_t165) x
theorem opens_sl165 : ∀ n, Opens Try.prog 79 (Kd.slice 165 k165) ex_sl165 n := fun n => opens_imp (opens_slice Try.underlying79 (by kernel_rfl) ((opens_t165) n)) (Nat.le_succ n) (fun _ h => h)
def ex_t81 (x : S81) : Prop := (fun x : Int => (Lit.int .i64 x).wf = true) x.f0 ∧ (ex_sl165) x.f1 ∧ (fun x : Int => (Lit.int .i64 x).wf = true) x.f2
theorem opens_t81 : ∀ n, Opens Try.prog 81 k81 ex_t81 n := fun n => opens_imp (opens_struct3 (fun x : S81 => (x.f0, x.f1, x.f2)) S81.mk (fun _ _ _  => rfl) Try.underlying81 (by kernel_rfl) rfl rfl rfl (by kernel_rfl) (by kernel_rfl) (by kernel_rfl) ((fun n => opens_int Try.underlying3 n) n) ((opens_sl165) n) ((fun n => opens_int Try.underlying3 n) n)) (Nat.le_succ n) (fun _ h => h)
def ex_sl81 (xs : List (S81)) : Prop := xs.length ≤ 9223372036854775807 ∧ ∀ x ∈ xs, (ex_t81) x
theorem opens_sl81 : ∀ n, Opens Try.prog 49 (Kd.slice 81 k81) ex_sl81 n := fun n => opens_imp (opens_slice Try.underlying49 (by kernel_rfl) ((opens_t81) n)) (Nat.le_succ n) (fun _ h => h)
end Go.Proofs.Ytgbjbpjmbghlbaa.G
end
section
namespace Go.Proofs.Ytgbjbpjmbghlbaa.G
open Go.RowKit Go.Proofs.YtgbjbpjmbghlbaaW.PrintWords
set_option linter.unusedVariables false
set_option linter.unusedSimpArgs false
def leftOf (n : Nat) (left : Int) : Int := if (n : Int) ≤ left then left - n else -1
theorem leftOf_yes {n : Nat} {left : Int} (h : (n : Int) ≤ left) : leftOf n left = left - n := if_pos h
theorem leftOf_no {n : Nat} {left : Int} (h : ¬ (n : Int) ≤ left) : leftOf n left = -1 := if_neg h
theorem leftOf_add {a b : Nat} {left : Int} (h : (a : Int) ≤ left) : leftOf b (left - a) = leftOf (a + b) left := by
  unfold leftOf
  split <;> split <;> omega
theorem leftOf_zero {left : Int} (h : 0 ≤ left) : leftOf 0 left = left := by unfold leftOf; split <;> omega
theorem leftOf_neg {n : Nat} {left : Int} (h0 : 0 ≤ left) : leftOf n left < 0 ↔ ¬ (n : Int) ≤ left := by unfold leftOf; split <;> omega
end Go.Proofs.Ytgbjbpjmbghlbaa.G
end
section
namespace Go.Proofs.Ytgbjbpjmbghlbaa.G
open Go.RowKit Go.Proofs.YtgbjbpjmbghlbaaW.PrintWords
set_option linter.unusedVariables false
set_option linter.unusedSimpArgs false
def sumL {α : Type} (sz : α → Nat) : List α → Nat
  | [] => 0
  | x :: xs => sz x + sumL sz xs
theorem sumL_mem {α : Type} (sz : α → Nat) {l : List α} : ∀ x ∈ l, sz x ≤ sumL sz l := by
  induction l with
  | nil => intro x hx; cases hx
  | cons y ys ih =>
    intro x hx
    simp only [sumL]
    rcases List.mem_cons.1 hx with rfl | hx
    · omega
    · have := ih x hx; omega
theorem szLoop {α : Type} (l : List α) (F : Nat → Int → Int → Option Int) (one : Nat → α → Int → Option Int) (sz : α → Nat)
    (hend : ∀ k lf, F (k + 1) lf (l.length : Int) = some lf)
    (hstep : ∀ k lf (i : Nat) (h : i < l.length), F (k + 1) lf (i : Int) = (one k l[i] lf).bind fun t => if t < 0 then some (-1) else F k t ((i + 1 : Nat) : Int))
    (hone : ∀ x ∈ l, ∀ lf : Int, 0 ≤ lf → lf ≤ 1048576 → Ev (fun k => one k x lf) (leftOf (sz x) lf)) :
    ∀ (d i : Nat) (lf : Int), d = l.length - i → i ≤ l.length → 0 ≤ lf → lf ≤ 1048576 → Ev (fun k => F k lf (i : Int)) (leftOf (sumL sz (l.drop i)) lf) := by
  intro d
  induction d with
  | zero =>
    intro i lf hd hi g0 g1
    have e : i = l.length := by omega
    subst e
    refine Ev.step (fun k => hend k lf) ?_
    simp only [List.drop_length, sumL]
    exact Ev.eq (Ev.now lf) (leftOf_zero g0).symm
  | succ d ihd =>
    intro i lf hd hi g0 g1
    have hlt : i < l.length := by omega
    rw [drop_tk l i hlt, sumL]
    refine Ev.step (fun k => hstep k lf i hlt) ?_
    refine Ev.bind (hone _ (List.getElem_mem hlt) lf g0 g1) ?_
    by_cases hc : (sz l[i] : Int) ≤ lf
    · rw [leftOf_yes hc]
      simp only [if_neg (show ¬ (lf - (sz l[i] : Int) < 0) by omega)]
      exact Ev.eq (ihd (i + 1) (lf - sz l[i]) (by omega) (by omega) (by omega) (by omega)) (leftOf_add hc)
    · rw [leftOf_no hc]
      simp only [if_pos (show (-1 : Int) < 0 by omega)]
      exact Ev.eq (Ev.now (-1)) (leftOf_no (by omega)).symm
theorem toLoop {α β γ : Type} (l : List α) (F : Nat → List β → Int → Option (List β)) (one : Nat → α → Option γ) (mk : γ → β) (cv : α → β) (z : β)
    (hend : ∀ k out, F (k + 1) out (l.length : Int) = some out)
    (hstep : ∀ k out (i : Nat) (h : i < l.length), out.length = l.length → F (k + 1) out (i : Int) = (one k l[i]).bind fun t => F k (out.set i (mk t)) ((i + 1 : Nat) : Int))
    (hone : ∀ x ∈ l, ∃ c, Ev (fun k => one k x) c ∧ mk c = cv x) : Ev (fun k => F k (List.replicate l.length z) 0) (l.map cv) := by
  have loop : ∀ (d i : Nat), d = l.length - i → i ≤ l.length → Ev (fun k => F k ((l.take i).map cv ++ List.replicate (l.length - i) z) (i : Int)) (l.map cv) := by
    intro d
    induction d with
    | zero =>
      intro i hd hi
      have e : i = l.length := by omega
      subst e
      refine Ev.step (fun k => hend k _) ?_
      simp only [Nat.sub_self, List.replicate_zero, List.append_nil, List.take_length]
      exact Ev.now _
    | succ d ihd =>
      intro i hd hi
      have hlt : i < l.length := by omega
      have hl : ((l.take i).map cv ++ List.replicate (l.length - i) z).length = l.length := by simp; omega
      refine Ev.step (fun k => hstep k _ i hlt hl) ?_
      obtain ⟨c, hc, hm⟩ := hone _ (List.getElem_mem hlt)
      refine Ev.bind hc ?_
      rw [hm]
      have e : ((l.take i).map cv ++ List.replicate (l.length - i) z).set i (cv l[i]) = (l.take (i + 1)).map cv ++ List.replicate (l.length - (i + 1)) z := by
        rw [List.set_append_right _ _ (by rw [List.length_map, List.length_take]; omega), List.length_map, List.length_take, Nat.min_eq_left (by omega), Nat.sub_self]
        rw [show l.length - i = (l.length - (i + 1)) + 1 by omega, List.replicate_succ, List.set_cons_zero, List.take_succ_eq_append_getElem hlt]
        rw [List.map_append, List.map_singleton, List.append_assoc, List.singleton_append]
      rw [e]
      exact ihd (i + 1) (by omega) (by omega)
  have h := loop l.length 0 (by omega) (by omega)
  simp only [List.take_zero, List.map_nil, List.nil_append, Nat.sub_zero, Int.natCast_zero, Int.ofNat_zero] at h
  exact h
theorem allLoop {α : Type} (l : List α) (F : Nat → Int → Option Bool) (one : Nat → α → Option Bool) (p : α → Bool)
    (hend : ∀ k, F (k + 1) (l.length : Int) = some true)
    (hstep : ∀ k (i : Nat) (h : i < l.length), F (k + 1) (i : Int) = (one k l[i]).bind fun t => if t = true then F k ((i + 1 : Nat) : Int) else some false)
    (hone : ∀ x ∈ l, Ev (fun k => one k x) (p x)) : ∀ (d i : Nat), d = l.length - i → i ≤ l.length → Ev (fun k => F k (i : Int)) ((l.drop i).all p) := by
  intro d
  induction d with
  | zero =>
    intro i hd hi
    have e : i = l.length := by omega
    subst e
    refine Ev.step (fun k => hend k) ?_
    simp only [List.drop_length, List.all_nil]
    exact Ev.now true
  | succ d ihd =>
    intro i hd hi
    have hlt : i < l.length := by omega
    rw [drop_tk l i hlt, List.all_cons]
    refine Ev.step (fun k => hstep k i hlt) ?_
    refine Ev.bind (hone _ (List.getElem_mem hlt)) ?_
    cases hp : p l[i] with
    | true => simp only [if_true, Bool.true_and]; exact ihd (i + 1) (by omega) (by omega)
    | false => simp only [Bool.false_eq_true, if_false, Bool.false_and]; exact Ev.now false
theorem eqLoop {α : Type} (l : List α) (F : Nat → Int → Option Bool) (one : Nat → α → Option Bool)
    (hend : ∀ k, F (k + 1) (l.length : Int) = some true)
    (hstep : ∀ k (i : Nat) (h : i < l.length), F (k + 1) (i : Int) = (one k l[i]).bind fun t => if t = true then F k ((i + 1 : Nat) : Int) else some false)
    (hone : ∀ x ∈ l, Ev (fun k => one k x) true) : Ev (fun k => F k 0) true := by
  have h := allLoop l F one (fun _ => true) hend hstep hone l.length 0 (by omega) (by omega)
  simp only [List.drop_zero, List.all_eq_true, implies_true] at h
  exact Ev.eq h (by simp)
end Go.Proofs.Ytgbjbpjmbghlbaa.G
end
section
namespace Go.Proofs.Ytgbjbpjmbghlbaa.G
open Go.RowKit Go.Proofs.YtgbjbpjmbghlbaaW.PrintWords Go.Proofs.YtgbjbpjmbghlbaaW.PrintLast Go.Proofs.YtgbjbpjmbghlbaaW.PrintMore
set_option linter.unusedVariables false
set_option linter.unusedSimpArgs false
abbrev Fk9 := S117
def mkF : List Fk9 → Int → List Fk9
  | [], _ => []
  | _ :: fs, a => ⟨a, a + 1⟩ :: mkF fs (a + 2)
theorem mkF_len (fs : List Fk9) (a : Int) : (mkF fs a).length = fs.length := by
  induction fs generalizing a with
  | nil => rfl
  | cons f fs ih => simp [mkF, ih]
theorem mkF_get (fs : List Fk9) : ∀ (a : Int) (i : Nat) (h : i < (mkF fs a).length), (mkF fs a)[i] = ⟨a + 2 * (i : Int), a + 2 * (i : Int) + 1⟩ := by
  induction fs with
  | nil => intro a i h; simp [mkF] at h
  | cons f fs ih =>
    intro a i h
    cases i with
    | zero => simp [mkF]
    | succ i =>
      simp only [mkF, List.getElem_cons_succ]
      rw [ih]
      congr 1 <;> omega
theorem mkF_take (fs : List Fk9) (a : Int) (i : Nat) (h : i < fs.length) : ((mkF fs a).take i ++ fs.drop i).set i ⟨a + 2 * (i : Int), a + 2 * (i : Int) + 1⟩ = (mkF fs a).take (i + 1) ++ fs.drop (i + 1) := by
  have hl : ((mkF fs a).take i).length = i := by rw [List.length_take, mkF_len]; omega
  rw [List.set_append_right _ _ (by omega), hl, Nat.sub_self, List.drop_eq_getElem_cons h, List.set_cons_zero, List.take_succ_eq_append_getElem (by rw [mkF_len]; exact h), mkF_get]
  simp
theorem rd_fk9 (l : List Fk9) (i : Nat) (h : i < l.length) : rd_T117 l (i : Int) = l[i] := by
  simp only [rd_T117, Int.toNat_natCast, List.getD_eq_getElem?_getD, List.getElem?_eq_getElem h, Option.getD_some]
theorem markF_loop (fs : List Fk9) (a : Int) (h0 : 0 ≤ a) (h1 : a + 2 * (fs.length : Int) ≤ 4611686018427387904) : ∀ (d i : Nat), d = fs.length - i → i ≤ fs.length → Ev (fun k => laws_markFetchS.l0 k ((mkF fs a).take i ++ fs.drop i) (a + 2 * (i : Int)) (i : Int)) (a + 2 * (fs.length : Int), mkF fs a) := by
  intro d
  induction d with
  | zero =>
    intro i hd hi
    have e : i = fs.length := by omega
    subst e
    refine Ev.step (fun k => by rw [laws_markFetchS.l0]) ?_
    have hl : (mkF fs a).take fs.length ++ fs.drop fs.length = mkF fs a := by rw [List.drop_length, List.append_nil, List.take_of_length_le (by rw [mkF_len]; exact Nat.le_refl _)]
    rw [hl]
    simp only [mkF_len, if_neg (show ¬ ((fs.length : Int) < (fs.length : Int)) by omega)]
    exact Ev.now _
  | succ d ih =>
    intro i hd hi
    have hlt : i < fs.length := by omega
    have hll : ((mkF fs a).take i ++ fs.drop i).length = fs.length := by rw [List.length_append, List.length_take, mkF_len, List.length_drop]; omega
    refine Ev.step (fun k => by rw [laws_markFetchS.l0]) ?_
    have ew : wrap64 (a + 2 * (i : Int) + 1) = a + 2 * (i : Int) + 1 := wrap_id _ (by omega) (by omega)
    have ew2 : wrap64 (a + 2 * (i : Int) + 1 + 1) = a + 2 * ((i + 1 : Nat) : Int) := by rw [wrap_id _ (by omega) (by omega)]; omega
    simp only [hll, if_pos (show (i : Int) < (fs.length : Int) by omega), if_pos (show (0 : Int) ≤ (i : Int) by omega), ew, ew2, Int.toNat_natCast, Option.bind_some, List.set_set, wrap_nat i (by omega)]
    have e : (rd_T117 (((mkF fs a).take i ++ fs.drop i).set i ⟨a + 2 * (i : Int), (rd_T117 ((mkF fs a).take i ++ fs.drop i) (i : Int)).f1⟩) (i : Int)).f0 = a + 2 * (i : Int) := by
      rw [rd_fk9 _ i (by rw [List.length_set, hll]; exact hlt), List.getElem_set_self]
    rw [e, mkF_take fs a i hlt]
    exact ih (i + 1) (by omega) (by omega)
theorem markF_ev (fs : List Fk9) (a : Int) (h0 : 0 ≤ a) (h1 : a + 2 * (fs.length : Int) ≤ 4611686018427387904) : Ev (fun k => laws_markFetchS.f k fs a) (a + 2 * (fs.length : Int), mkF fs a) := by
  unfold laws_markFetchS.f
  have h := markF_loop fs a h0 h1 fs.length 0 (by omega) (by omega)
  simpa using h
end Go.Proofs.Ytgbjbpjmbghlbaa.G
end
section
namespace Go.Proofs.Ytgbjbpjmbghlbaa.G
open Go.RowKit Go.Proofs.YtgbjbpjmbghlbaaW.PrintWords Go.Proofs.YtgbjbpjmbghlbaaW.PrintLast Go.Proofs.YtgbjbpjmbghlbaaW.PrintMore
set_option linter.unusedVariables false
set_option linter.unusedSimpArgs false
abbrev Tr9 := S87
def cntTr (t : Tr9) : Nat := 1 + t.f1.length
def cntTrs : List Tr9 → Nat
  | [] => 0
  | t :: ts => cntTr t + cntTrs ts
def mkT (t : Tr9) (a : Int) : Tr9 := ⟨a, mkF t.f1 (a + 1), a + 1 + 2 * (t.f1.length : Int)⟩
def mkTs : List Tr9 → Int → List Tr9
  | [], _ => []
  | t :: ts, a => mkT t a :: mkTs ts (a + 2 * (cntTr t : Int))
theorem mkTs_len (ts : List Tr9) (a : Int) : (mkTs ts a).length = ts.length := by
  induction ts generalizing a with
  | nil => rfl
  | cons t ts ih => simp [mkTs, ih]
theorem cntTrs_take (ts : List Tr9) (i : Nat) (h : i < ts.length) : cntTrs (ts.take (i + 1)) = cntTrs (ts.take i) + cntTr ts[i] := by
  induction ts generalizing i with
  | nil => simp at h
  | cons s ss ih =>
    cases i with
    | zero => simp [cntTrs]
    | succ i =>
      have := ih i (by simpa using h)
      simp only [List.take_succ_cons, cntTrs, List.getElem_cons_succ, this]
      omega
theorem cntTrs_le (ts : List Tr9) (i : Nat) (h : i < ts.length) : cntTrs (ts.take i) + cntTr ts[i] ≤ cntTrs ts := by
  induction ts generalizing i with
  | nil => simp at h
  | cons s ss ih =>
    cases i with
    | zero => simp [cntTrs]
    | succ i =>
      have := ih i (by simpa using h)
      simp only [List.take_succ_cons, cntTrs, List.getElem_cons_succ]
      omega
theorem mkTs_get (ts : List Tr9) : ∀ (a : Int) (i : Nat) (h : i < ts.length), (mkTs ts a)[i]'(by rw [mkTs_len]; exact h) = mkT ts[i] (a + 2 * (cntTrs (ts.take i) : Int)) := by
  induction ts with
  | nil => intro a i h; simp at h
  | cons t ts ih =>
    intro a i h
    cases i with
    | zero => simp [mkTs, cntTrs]
    | succ i =>
      simp only [mkTs, List.getElem_cons_succ, List.take_succ_cons, cntTrs]
      rw [ih _ i (by simpa using h)]
      congr 1
      omega
theorem mkTs_step (ts : List Tr9) (a : Int) (i : Nat) (h : i < ts.length) : ((mkTs ts a).take i ++ ts.drop i).set i (mkT ts[i] (a + 2 * (cntTrs (ts.take i) : Int))) = (mkTs ts a).take (i + 1) ++ ts.drop (i + 1) := by
  have hl : ((mkTs ts a).take i).length = i := by rw [List.length_take, mkTs_len]; omega
  rw [List.set_append_right _ _ (by omega), hl, Nat.sub_self, List.drop_eq_getElem_cons h, List.set_cons_zero, List.take_succ_eq_append_getElem (by rw [mkTs_len]; exact h), mkTs_get ts a i h]
  simp
theorem mkTs_at (ts : List Tr9) (a : Int) (i : Nat) (h : i < ts.length) : ((mkTs ts a).take i ++ ts.drop i).getD i ⟨0, [], 0⟩ = ts[i] := by
  have hl : ((mkTs ts a).take i).length = i := by rw [List.length_take, mkTs_len]; omega
  rw [List.getD_eq_getElem?_getD, List.getElem?_append_right (by omega), hl, Nat.sub_self, List.getElem?_drop, Nat.add_zero, List.getElem?_eq_getElem h, Option.getD_some]
theorem mkTs_mid (ts : List Tr9) (a : Int) (i : Nat) : ((mkTs ts a).take i ++ ts.drop i).length = ts.length := by
  rw [List.length_append, List.length_take, mkTs_len, List.length_drop]; omega
end Go.Proofs.Ytgbjbpjmbghlbaa.G
end
section
namespace Go.Proofs.Ytgbjbpjmbghlbaa.G
open Go.RowKit Go.Proofs.YtgbjbpjmbghlbaaW.PrintWords Go.Proofs.YtgbjbpjmbghlbaaW.PrintLast Go.Proofs.YtgbjbpjmbghlbaaW.PrintMore
set_option linter.unusedVariables false
set_option linter.unusedSimpArgs false
theorem S_seg0 {α : Type} {d : Kd α} {e base n cap g : Nat} {ok : Nat → Prop} {W : World} {xs : List α} {i : Int} (h : Kd.S d e W base ok (.slice (some ⟨g, 0, none⟩) n cap) xs) (z : α) (h0 : 0 ≤ i) (h1 : i < n) {seg : List Value} {j : Nat} (hj : j + seg.length ≤ d.sz) (hone : ∀ q ∈ seg, q.oneCell' = true)
    {x' : α} (hx : ∀ (oki : Nat → Prop) (c : List Value), d.M W base oki (xs.getD i.toNat z) c → d.M W base oki x' (c.take j ++ seg ++ c.drop (j + seg.length))) :
    Kd.S d e (W.setCells g (i.toNat * d.sz + j) seg) base ok (.slice (some ⟨g, 0, none⟩) n cap) (xs.set i.toNat x') ∧ W.grownBy (W.setCells g (i.toNat * d.sz + j) seg) (some g) := by
  have h' : Kd.S d e W base (fun k => ok k ∧ ¬ (fun _ => False) k) (.slice (some ⟨g, 0, none⟩) n cap) xs := Kd.S_mono h (fun k hk => ⟨hk, fun f => f⟩)
  obtain ⟨oki, c, hcl, hM, hcc, hfr, hoki, hH⟩ := Kd.S_elem h' z i h0 h1
  exact Kd.S_seg (okp := oki) hH h0 h1 hj (hx oki c hM) (fun _ hk => .inl hk) (fun _ hk => hk.elim)
set_option maxHeartbeats 8000000 in
set_option maxRecDepth 100000 in
theorem markTrace_w (ts : List Tr9) (a : Int) (h0 : 0 ≤ a) (h1 : a + 2 * (cntTrs ts : Int) ≤ 4611686018427387904) (P : Nat → Prop) (u : Value) (w0 w : World) (hB : Below w0.heap.size w0 w) (ho : Kd.S k87 87 w w0.heap.size P u ts) :
    Calls Try.prog 57 #[u, .int .i64 a] w fun e w' => e = .returned (.int .i64 (a + 2 * (cntTrs ts : Int))) ∧ Kd.S k87 87 w' w0.heap.size P u (mkTs ts a) ∧ Below w0.heap.size w0 w' ∧ Kept w w' P := by
  obtain ⟨A, c, rfl⟩ := Kd.S_slice ho
  have HO0 := Aside0.mk ho
  have HB0 := Aside0.mk hB
  have H0 := Aside0.mk (And.intro h0 h1)
  clear ho hB h0 h1
  go_enter Try.func57, Try.ntmps57
  go_wp2
  go_loopg [1, 5] ts.length (fun kq v1 v5 w' => ∃ (i : Nat) (x1 x5 : Int) (xs : List Tr9), v1 = .int .i64 x1 ∧ v5 = .int .i64 x5 ∧ Aside0 (x1 = a + 2 * (cntTrs (ts.take i) : Int)) ∧ Aside0 (x5 = (i : Int)) ∧ Aside0 (i + kq = ts.length) ∧ Aside0 (xs = (mkTs ts a).take i ++ ts.drop i) ∧ Aside0 (Kd.S k87 87 w' w0.heap.size P (.slice A ts.length c) xs) ∧ Aside0 (Below w0.heap.size w0 w') ∧ Aside0 (Kept w w' P))
  case atStart => exact ⟨0, a, 0, ts, rfl, rfl, ⟨by simp [cntTrs]⟩, ⟨rfl⟩, ⟨by omega⟩, ⟨by simp⟩, HO0, HB0, ⟨Kept.refl _ _⟩⟩
  case round =>
    obtain ⟨i, x1, x5, xs, rfl, rfl, HX1, HX5, HIK, HXS, HO, HB, HK⟩ := hrel
    cases gk with
    | zero =>
      have hb : decide (x5 < (ts.length : Int)) = false := decide_eq_false (by have := HX5.out; have := HIK.out; omega)
      have HE : Aside0 (x1 = a + 2 * (cntTrs ts : Int)) := ⟨by have h1 := HX1.out; have h2 := HIK.out; rw [List.take_of_length_le (by omega)] at h1; exact h1⟩
      have HE2 : Aside0 (xs = mkTs ts a) := ⟨by have h2 := HIK.out; rw [HXS.out, List.drop_of_length_le (by omega), List.append_nil, List.take_of_length_le (by rw [mkTs_len]; omega)]⟩
      clear HX1
      go_wp2
      go_ret
      exact ⟨by rw [HE.out]; rfl, by rw [← HE2.out]; exact HO.out, HB.out, HK.out⟩
    | succ gk =>
      have HLT : Aside0 (i < ts.length) := ⟨by have := HIK.out; omega⟩
      have hb : decide (x5 < (ts.length : Int)) = true := decide_eq_true (by have := HX5.out; have := HLT.out; omega)
      have HC := Aside0.mk (cntTrs_le ts i HLT.out)
      have HC2 := Aside0.mk (cntTrs_take ts i HLT.out)
      have HAT : Aside0 (xs.getD x5.toNat ⟨0, [], 0⟩ = ts[i]'HLT.out) := ⟨by rw [HXS.out, HX5.out, Int.toNat_natCast]; exact mkTs_at ts a i HLT.out⟩
      have HLN : Aside0 (xs.length = ts.length) := ⟨by rw [HXS.out]; exact mkTs_mid ts a i⟩
      have hp : 0 ≤ x5 := by have := HX5.out; omega
      have hq : x5 < (ts.length : Int) := by have := HX5.out; have := HLT.out; omega
      have HP := Aside0.mk hp
      have HQ := Aside0.mk hq
      obtain ⟨g, cap, e, hbg, _, _, _⟩ := Kd.S_form HO.out (by have := HLT.out; have := HLN.out; omega)
      have hAe : A = some ⟨g, 0, none⟩ := by injection e
      subst hAe
      have hOKg := (Kd.S_R HO.out).1 g rfl
      have HG := Aside0.mk (And.intro hOKg hbg)
      clear hOKg hbg e
      generalize hti : ts[i]'HLT.out = ti at HAT HC HC2
      have HTI := Aside0.mk hti
      clear hti
      obtain ⟨oki, ce, hcl, hM, hcc, hfr, hoki, hH⟩ := Kd.S_elem HO.out ⟨0, [], 0⟩ x5 hp hq
      rw [HAT.out] at hM
      obtain ⟨v1, rfl, hR1⟩ := k87_openM hM
      have hx0 : wr.cell? ⟨g, x5.toNat * 3, none⟩ = some (.int .i64 ti.f0) := hcc 0 _ rfl
      have hf0 : wr.frozen? ⟨g, x5.toNat * 3, none⟩ = false := hfr 0
      clear hcl hcc hfr hM hoki hH hR1
      have hp' : (0 ≤ x5) = True := eq_true hp
      have hq' : (x5 < (ts.length : Int)) = True := eq_true hq
      clear hp hq
      have HS1 := Aside0.mk (S_seg0 (i := x5) HO.out ⟨0, [], 0⟩ HP.out HQ.out (seg := [.int .i64 x1]) (j := 0) (show 0 + 1 ≤ 3 from by decide) (by intro q hq; rw [List.mem_singleton.1 hq]; rfl) (x' := (⟨x1, ti.f1, ti.f2⟩ : Tr9)) (fun oki c hM => by rw [HAT.out] at hM; obtain ⟨v1, rfl, hR1⟩ := k87_openM hM; exact k87_mkM _ _ _ (⟨x1, ti.f1, ti.f2⟩ : Tr9) hR1))
      go_wp2_with (first
        | ((with_reducible refine gate_store (t := 3) (p := 16) rfl ?_); refine store_event (t := 3) (p := 16) (v := ?vo_1) (w1 := (wr.setCell ⟨g, x5.toNat * 3, none⟩ (.int .i64 x1))) ?hg ?ho ?hn ?hr ?_; (case ho => rfl); (case hg => rfl); (case hn => rfl); (case hr => first | (go_simp; done) | (go_simp; rfl)); intro w9 hw;
           have hg := HS1.out.2; have hs := HS1.out.1; have hw' : wr.setCells g (x5.toNat * 3 + 0) [.int .i64 x1] = w9 := hw.symm; rw [show k87.sz = 3 from rfl, hw'] at hg hs;
           have HO9 := Aside0.mk hs; have HB9 := Aside0.mk (pw_below_grown HB.out (some g) HB.out.size hg (fun k e => by injection e with e; rw [← e]; exact HG.out.2)); have HK9 := Aside0.mk (Kept.of_grown (S := P) hg HK.out (fun k e => by injection e with e; rw [← e]; exact .inl HG.out.1)); clear hw hw' hg hs HS1 hx0 hf0;
           have HAT9 : Aside0 ((xs.set x5.toNat (⟨x1, ti.f1, ti.f2⟩ : Tr9)).getD x5.toNat ⟨0, [], 0⟩ = ⟨x1, ti.f1, ti.f2⟩) := ⟨by rw [List.getD_eq_getElem?_getD, List.getElem?_set_self (by have h1 := HP.out; have h2 := HQ.out; have h3 := HLN.out; omega), Option.getD_some]⟩;
           obtain ⟨oki, ce, hcl, hM, hcc, hfr, hoki, hH⟩ := Kd.S_elem HO9.out ⟨0, [], 0⟩ x5 HP.out HQ.out; rw [HAT9.out] at hM; obtain ⟨v1, rfl, hR1⟩ := k87_openM hM; obtain ⟨Av, cv, rfl⟩ := Kd.R_slice hR1;
           have hx1 : w9.cell? ⟨g, x5.toNat * 3 + 1, none⟩ = some (.slice Av ti.f1.length cv) := hcc 1 _ rfl; have HR1 := Aside0.mk hR1; have HH := Aside0.mk hH; have HOI := Aside0.mk hoki; clear hcl hcc hfr hM hR1 hH hoki))
      have HRT := Aside0.mk (Kd.R_tight rfl HR1.out)
      obtain ⟨km, hkm⟩ := (markF_ev ti.f1 (wrap64 (x1 + 1)) (by have h1 := HX1.out; have h2 := H0.out; have h3 := HC.out; unfold wrap64; simp only [cntTr] at h3; omega) (by have h1 := HX1.out; have h2 := H0.out; have h3 := HC.out; unfold wrap64; simp only [cntTr] at h3; omega)).rounds
      have HCALL := Aside0.mk (laws_markFetchS.calls km (fun k => some k = (Value.slice Av ti.f1.length cv).ownBlock) (.slice Av ti.f1.length cv) ti.f1 (wrap64 (x1 + 1)) _ _ w0 w9 HB9.out HRT.out hkm)
      clear hkm
      with_reducible refine HCALL.out.mono ?_
      rintro e w1 ⟨rfl, hr, hb, hk⟩
      have hH2 := Kd.H_kept HH.out hk (fun k ho hn hs => hn (HR1.out.1 k hs.symm))
      have hM2 := k87_mkM w1 w0.heap.size oki (⟨x1, mkF ti.f1 (wrap64 (x1 + 1)), ti.f2⟩ : Tr9) (Kd.R_mono (Kd.R_tight rfl hr) (fun k e => HR1.out.1 k e.symm))
      have HOA := Aside0.mk (Kd.H_back hH2 hM2 (fun _ h => h))
      have HBA := Aside0.mk hb
      have HKA := Aside0.mk (HK9.out.then_ hk (fun k e => .inl (HOI.out k (HR1.out.1 k e.symm)).1))
      clear hH2 hM2 hr hb hk HCALL HRT hx1
      have HATA : Aside0 (((xs.set x5.toNat (⟨x1, ti.f1, ti.f2⟩ : Tr9)).set x5.toNat (⟨x1, mkF ti.f1 (wrap64 (x1 + 1)), ti.f2⟩ : Tr9)).getD x5.toNat ⟨0, [], 0⟩ = ⟨x1, mkF ti.f1 (wrap64 (x1 + 1)), ti.f2⟩) := ⟨by rw [List.getD_eq_getElem?_getD, List.getElem?_set_self (by rw [List.length_set]; have h1 := HP.out; have h2 := HQ.out; have h3 := HLN.out; omega), Option.getD_some]⟩
      obtain ⟨oki2, ce2, hcl2, hM2, hcc2, hfr2, hoki2, hH2⟩ := Kd.S_elem HOA.out ⟨0, [], 0⟩ x5 HP.out HQ.out
      rw [HATA.out] at hM2
      obtain ⟨v2, rfl, hR2⟩ := k87_openM hM2
      have hx2 : w1.cell? ⟨g, x5.toNat * 3 + 2, none⟩ = some (.int .i64 ti.f2) := hcc2 2 _ rfl
      have hf2 : w1.frozen? ⟨g, x5.toNat * 3 + 2, none⟩ = false := hfr2 2
      clear hcl2 hcc2 hfr2 hM2 hoki2 hH2 hR2
      have HS2 := Aside0.mk (S_seg0 (i := x5) HOA.out ⟨0, [], 0⟩ HP.out HQ.out (seg := [.int .i64 (wrap64 (x1 + 1) + 2 * (ti.f1.length : Int))]) (j := 2) (show 2 + 1 ≤ 3 from by decide) (by intro q hq; rw [List.mem_singleton.1 hq]; rfl) (x' := (⟨x1, mkF ti.f1 (wrap64 (x1 + 1)), wrap64 (x1 + 1) + 2 * (ti.f1.length : Int)⟩ : Tr9)) (fun oki c hM => by rw [HATA.out] at hM; obtain ⟨v1, rfl, hR1⟩ := k87_openM hM; exact k87_mkM _ _ _ (⟨x1, mkF ti.f1 (wrap64 (x1 + 1)), wrap64 (x1 + 1) + 2 * (ti.f1.length : Int)⟩ : Tr9) hR1))
      go_wp2_with (first
        | ((with_reducible refine gate_store (t := 3) (p := 30) rfl ?_); refine store_event (t := 3) (p := 30) (v := ?vo_3) (w1 := (w1.setCell ⟨g, x5.toNat * 3 + 2, none⟩ (.int .i64 (wrap64 (x1 + 1) + 2 * (ti.f1.length : Int))))) ?hg ?ho ?hn ?hr ?_; (case ho => rfl); (case hg => rfl); (case hn => rfl); (case hr => first | (go_simp; done) | (go_simp; rfl)); intro w12 hw;
           have hg := HS2.out.2; have hs := HS2.out.1; have hw' : w1.setCells g (x5.toNat * 3 + 2) [.int .i64 (wrap64 (x1 + 1) + 2 * (ti.f1.length : Int))] = w12 := hw.symm; rw [show k87.sz = 3 from rfl, hw'] at hg hs;
           have HOB := Aside0.mk hs; have HBB := Aside0.mk (pw_below_grown HBA.out (some g) HBA.out.size hg (fun k e => by injection e with e; rw [← e]; exact HG.out.2)); have HKB := Aside0.mk (Kept.of_grown (S := P) hg HKA.out (fun k e => by injection e with e; rw [← e]; exact .inl HG.out.1)); clear hw hw' hg hs HS2 hx2 hf2))
      go_roundg gk
      case measure => omega
      case rel => exact ⟨i + 1, _, _, _, rfl, rfl, ⟨by have h1 := HX1.out; have h2 := H0.out; have h3 := HC.out; have h4 := HC2.out; unfold wrap64; simp only [cntTr] at h3 h4; omega⟩, ⟨by have h1 := HX5.out; have h2 := HLT.out; have h3 := HLN.out; have h4 := (Kd.S_reads' HOB.out).2.2.2.1; unfold wrap64; simp only [List.length_set] at h4; omega⟩, ⟨by have := HIK.out; omega⟩, ⟨by
        have h1 := HX1.out
        have h2 := H0.out
        have h3 := HC.out
        simp only [cntTr] at h3
        have ew : wrap64 (x1 + 1) = x1 + 1 := wrap_id _ (by omega) (by omega)
        have hs := mkTs_step ts a i HLT.out
        rw [HTI.out, ← h1] at hs
        rw [List.set_set, List.set_set, HX5.out, Int.toNat_natCast, ew, HXS.out, ← hs]
        rfl⟩, HOB, HBB, HKB⟩
end Go.Proofs.Ytgbjbpjmbghlbaa.G
end
section
namespace Go.Proofs.Ytgbjbpjmbghlbaa.G
open Go.RowKit Go.Proofs.YtgbjbpjmbghlbaaW.PrintWords Go.Proofs.YtgbjbpjmbghlbaaW.PrintLast Go.Proofs.YtgbjbpjmbghlbaaW.PrintMore
set_option linter.unusedVariables false
set_option linter.unusedSimpArgs false
def laws_markTraceS.f (l : List S87) (a : Int) : Option (Int × List S87) := if 0 ≤ a ∧ a + 2 * (cntTrs l : Int) ≤ 4611686018427387904 then some (a + 2 * (cntTrs l : Int), mkTs l a) else none
theorem lwTraceS {W0 W : World} {lo hi : Nat} {v : Value} {xs ys : List S87} {a r : Int} (hB : Below W0.heap.size W0 W) (h : OwnS k87 87 W0 W lo hi v xs) (hf : laws_markTraceS.f xs a = some (r, ys)) :
    Calls Try.prog 57 #[v, .int .i64 a] W fun e W' => e = .returned (.int .i64 r) ∧ OwnS k87 87 W0 W' lo hi v ys ∧ Below W0.heap.size W0 W' ∧ Kept W W' (fun k => lo ≤ k ∧ k < hi) := by
  unfold laws_markTraceS.f at hf
  split at hf
  · rename_i hc
    injection hf with hf
    injection hf with h1 h2
    subst h1 h2
    exact (markTrace_w xs a hc.1 hc.2 _ v W0 W hB h.2.2).mono fun e W' ⟨e1, e2, e3, e4⟩ => ⟨e1, ownS_back h e4 e2, e3, e4⟩
  · cases hf
end Go.Proofs.Ytgbjbpjmbghlbaa.G
end
section
namespace Go.Proofs.Ytgbjbpjmbghlbaa.G
open Go.RowKit Go.Proofs.YtgbjbpjmbghlbaaW.PrintWords Go.Proofs.YtgbjbpjmbghlbaaW.PrintLast Go.Proofs.YtgbjbpjmbghlbaaW.PrintMore
set_option linter.unusedVariables false
set_option linter.unusedSimpArgs false
set_option maxHeartbeats 8000000 in
set_option maxRecDepth 100000 in
theorem lw_FnExactTracesPut (A0 : Option Addr) (c0 : Nat) (l0 : List (S81)) (a1_0 : Int) (A1_1 : Option Addr) (c1_1 : Nat) (l1_1 : List (S165)) (a1_2 : Int) (w : World) (hr0 : Kd.C k81 w A0 l0.length l0) (hc0 : l0.length ≤ c0) (hr1_1 : Kd.C k165 w A1_1 l1_1.length l1_1) (hc1_1 : l1_1.length ≤ c1_1)  (r1 : Int) (r2 : Int) (r3 : List (S87)) (r4 : Int) (r5 : List (S117)) (r6 : Int) (r7 : List (S87)) (r8 : Bool) (m9 : List (S87)) (k10 : Int) (m11 : List (S117)) (k12 : Int) (m13 : List (S87)) (k14 : Int) (K1 : Nat) (H1 : laws_szTraceS.f K1 l0 1048576 = some r1) (H2 : laws_szTrace.f a1_0 l1_1 a1_2 r1 = some r2) (K3 : Nat) (H3 : laws_toTraceS.f K3 l0 = some r3) (K4 : Nat) (H4 : laws_toTrace.f K4 a1_0 l1_1 a1_2 = some (r4, r5, r6)) (K5 : Nat) (H5 : spec_TracesPut.f K5 r3 r4 r5 r6 = some (r7, r8)) (K6 : Nat) (H6 : impl_TracesPut.f K6 r3 r4 r5 r6 = some (r7, r8)) (K7 : Nat) (H7 : laws_eqTraceS.f K7 r7 r7 = some true) (K8 : Nat) (H8 : laws_eqTraceS.f K8 r3 r3 = some true) (K9 : Nat) (H9 : laws_eqTrace.f K9 r4 r5 r6 r4 r5 r6 = some true) (H10 : laws_markTraceS.f r3 1 = some (k10, m9)) (K11 : Nat) (H11 : laws_markTrace.f K11 r4 r5 r6 k10 = some (k12, m11)) (H12 : laws_markTraceS.f r7 1 = some (k14, m13)) (K13 : Nat) (H13 : laws_heldTraceS.f K13 m13 1 = some k14) (hx_1 : 0 ≤ r1) (hx_2 : 0 ≤ r2) (hx_3 : 0 ≤ k10) (hx_4 : 0 ≤ k12) (hx_5 : 0 ≤ k14) :
   Calls Try.prog 12 #[.slice A0 l0.length c0, .agg #[.int .i64 a1_0, .slice A1_1 l1_1.length c1_1, .int .i64 a1_2]] w fun e w' => e = .returned (.bool true) ∧ Below w.heap.size w w' := by
 have hu81 := Try.underlying81
 have hu87 := Try.underlying87
 have HR0 := Aside0.mk hr0
 have HC0 := Aside0.mk hc0
 clear hr0 hc0
 have HR1_1 := Aside0.mk hr1_1
 have HC1_1 := Aside0.mk hc1_1
 clear hr1_1 hc1_1
 have G1 := Aside0.mk H1
 clear H1
 have G2 := Aside0.mk H2
 clear H2
 have G3 := Aside0.mk H3
 clear H3
 have G4 := Aside0.mk H4
 clear H4
 have G5 := Aside0.mk H5
 clear H5
 have G6 := Aside0.mk H6
 clear H6
 have G7 := Aside0.mk H7
 clear H7
 have G8 := Aside0.mk H8
 clear H8
 have G9 := Aside0.mk H9
 clear H9
 have G10 := Aside0.mk H10
 clear H10
 have G11 := Aside0.mk H11
 clear H11
 have G12 := Aside0.mk H12
 clear H12
 have G13 := Aside0.mk H13
 clear H13
 have HX1 := Aside0.mk hx_1
 have HX2 := Aside0.mk hx_2
 have HX3 := Aside0.mk hx_3
 have HX4 := Aside0.mk hx_4
 have HX5 := Aside0.mk hx_5
 have hd_1 : decide (r1 < 0) = false := decide_eq_false (by omega)
 have hd_2 : decide (r2 < 0) = false := decide_eq_false (by omega)
 have hd_3 : decide (k10 < 0) = false := decide_eq_false (by omega)
 have hd_4 : decide (k12 < 0) = false := decide_eq_false (by omega)
 have hd_5 : decide (k14 < 0) = false := decide_eq_false (by omega)
 clear hx_1 hx_2 hx_3 hx_4 hx_5
 have HB := Aside0.mk (Below.refl w.heap.size w)
 go_enter Try.func12, Try.ntmps12
 have CK := Aside0.mk (laws_szTraceS.calls K1 A0 c0 l0 1048576 r1 (w.alloc (.cells #[.int .i64 a1_0, .slice A1_1 l1_1.length c1_1, .int .i64 a1_2] 81)) (Kd.C_below HR0.out (below_alloc HB.out _)) HC0.out G1.out)
 go_wp2_with fail
 with_reducible refine CK.out.mono ?_
 rintro e w1 ⟨rfl, hb0⟩
 have hb := hb0
 clear CK hb0
 have hW_ : Below w.heap.size w w1 := (below_alloc (Below.refl w.heap.size w) _).trans (hb.mono (below_alloc (Below.refl w.heap.size w) _).size)
 have SZ1 := Aside0.mk (Nat.le_trans (Nat.succ_le_of_lt (blk_lt (show (w.alloc (.cells #[.int .i64 a1_0, .slice A1_1 l1_1.length c1_1, .int .i64 a1_2] 81)).heap[w.heap.size]? = some (.cells #[.int .i64 a1_0, .slice A1_1 l1_1.length c1_1, .int .i64 a1_2] 81 (0, 0)) from by have h_ := heap_alloc_new w (.cells #[.int .i64 a1_0, .slice A1_1 l1_1.length c1_1, .int .i64 a1_2] 81); simpa using h_)) : w.heap.size + 1 ≤ (w.alloc (.cells #[.int .i64 a1_0, .slice A1_1 l1_1.length c1_1, .int .i64 a1_2] 81)).heap.size) hb.size)
 have SS1 := SZ1
 clear SZ1
 have BX0 := Aside0.mk ((hb.block _ (blk_lt (show (w.alloc (.cells #[.int .i64 a1_0, .slice A1_1 l1_1.length c1_1, .int .i64 a1_2] 81)).heap[w.heap.size]? = some (.cells #[.int .i64 a1_0, .slice A1_1 l1_1.length c1_1, .int .i64 a1_2] 81 (0, 0)) from by have h_ := heap_alloc_new w (.cells #[.int .i64 a1_0, .slice A1_1 l1_1.length c1_1, .int .i64 a1_2] 81); simpa using h_))).trans (show (w.alloc (.cells #[.int .i64 a1_0, .slice A1_1 l1_1.length c1_1, .int .i64 a1_2] 81)).heap[w.heap.size]? = some (.cells #[.int .i64 a1_0, .slice A1_1 l1_1.length c1_1, .int .i64 a1_2] 81 (0, 0)) from by have h_ := heap_alloc_new w (.cells #[.int .i64 a1_0, .slice A1_1 l1_1.length c1_1, .int .i64 a1_2] 81); simpa using h_))
 replace HB := Aside0.mk (HB.out.trans (hW_.mono HB.out.size))
 clear hb hW_
 have hx2 : w1.cell? ⟨w.heap.size, 0, none⟩ = some (.int .i64 a1_0) := (blk_cell BX0.out 0).trans rfl
 have hx3 : w1.cell? ⟨w.heap.size, 1, none⟩ = some (.slice A1_1 l1_1.length c1_1) := (blk_cell BX0.out 1).trans rfl
 have hx4 : w1.cell? ⟨w.heap.size, 2, none⟩ = some (.int .i64 a1_2) := (blk_cell BX0.out 2).trans rfl
 have CK := Aside0.mk (laws_szTrace.calls a1_0 A1_1 c1_1 l1_1 a1_2 r1 r2 w1 (Kd.C_below HR1_1.out HB.out) HC1_1.out G2.out)
 go_wp2_with fail
 with_reducible refine CK.out.mono ?_
 rintro e w5 ⟨rfl, hb0⟩
 have hb := hb0
 clear CK hb0
 clear hx2 hx3 hx4
 have hW_ := hb
 have SZ2 := Aside0.mk hb.size
 have SS2 := Aside0.mk (And.intro SZ2.out SS1.out)
 clear SS1
 clear SZ2
 replace BX0 := Aside0.mk ((hb.block _ (blk_lt BX0.out)).trans BX0.out)
 replace HB := Aside0.mk (HB.out.trans (hW_.mono HB.out.size))
 clear hb hW_
 try go_wp2_with fail
 refine start_ (n := 10) (S := fun w' => w'.cell? ⟨w.heap.size, 0, none⟩ = some (.int .i64 a1_0) ∧ w'.cell? ⟨w.heap.size, 1, none⟩ = some (.slice A1_1 l1_1.length c1_1) ∧ w'.cell? ⟨w.heap.size, 2, none⟩ = some (.int .i64 a1_2)) (ds := []) #[false, false, false, false, false, false, false, false, false, false] (by kernel_rfl) rfl rfl ⟨(blk_cell (blk_drew BX0.out) 0).trans rfl, (blk_cell (blk_drew BX0.out) 1).trans rfl, (blk_cell (blk_drew BX0.out) 2).trans rfl⟩ (fun hHeld => ?_)
 have hW_ := below_drew1 (Below.refl w5.heap.size w5)
 have SZ3 := Aside0.mk (Nat.le_trans (Nat.le_refl w5.heap.size : w5.heap.size ≤ w5.heap.size) (below_drew1 (Below.refl w5.heap.size w5)).size)
 replace BX0 := Aside0.mk (blk_drew BX0.out)
 generalize w5.drew = w6 at hW_ hHeld SZ3 BX0 ⊢
 have SS3 := Aside0.mk (And.intro SZ3.out SS2.out)
 clear SS2
 clear SZ3
 replace HB := Aside0.mk (HB.out.trans (hW_.mono HB.out.size))
 clear hW_
 refine pure_ (i := 0) (N := some 28) (v := ?_) (a' := ?_) #[true, false, false, false, false, false, false, false, false, false] rfl rfl (by kernel_rfl) (fun _ _ _ h => h) (Or.inl ⟨by rfl, ?_⟩) ?_ ?_
 rotate_left
 · intro w'
   go_simp
   with_reducible rfl
 rotate_left
 · simp only [Act.put, List.setIfInBounds_toArray, List.set_cons_zero, List.set_cons_succ, i64_w, i32_w]
   rfl
 refine take_ (i := 2) (N := some 30) (v := ?_) (a' := ?_) #[true, false, true, false, false, false, false, false, false, false] rfl rfl (by kernel_rfl) (fun _ _ _ h => h) (Or.inl ⟨by rfl, ?_⟩) hHeld ?_ ?_
 rotate_left
 · rintro w' ⟨s0, s1, s2⟩
   go_simp
   with_reducible rfl
 rotate_left
 · simp only [Act.put, List.setIfInBounds_toArray, List.set_cons_zero, List.set_cons_succ, i64_w, i32_w]
   rfl
 have CK := Aside0.mk (laws_toTraceS.calls K3 A0 c0 l0 r3 w6 (Kd.C_below HR0.out HB.out) HC0.out G3.out)
 refine one_ (i := 1) (N := some 29) #[true, true, true, false, false, false, false, false, false, false] rfl rfl (by kernel_rfl) (by decide) (fun K hK => ?_)
 refine goes_ Try.func42 (by kernel_rfl) rfl #[.slice A0 l0.length c0] (by rfl) rfl rfl (by (try simp only [List.map_toArray, List.map_cons, List.map_nil]); first | done | rfl) ?_
 with_reducible refine CK.out.mono ?_
 rintro e w7 ⟨v0_, rfl, ho0, hb0⟩
 refine ⟨_, rfl, ?_⟩
 have hb := hb0
 clear CK hb0
 have hW_ := hb
 replace BX0 := Aside0.mk ((hb.block _ (blk_lt BX0.out)).trans BX0.out)
 obtain ⟨lo1, elo1⟩ : ∃ n_, w6.heap.size = n_ := ⟨_, rfl⟩
 obtain ⟨hi1, ehi1⟩ : ∃ n_, w7.heap.size = n_ := ⟨_, rfl⟩
 have hn_0 := OwnS.new (W0 := w) HB.out.size hb.size ho0
 rw [elo1, ehi1] at hn_0
 obtain ⟨Ao8, co8, rfl⟩ := hn_0.slice
 have HOo8 := Aside0.mk hn_0
 clear hn_0 ho0
 have SP1 := Aside0.mk (And.intro (by have h_ := hb.size; rw [elo1, ehi1] at h_; exact h_ : lo1 ≤ hi1) (And.intro (Nat.le_of_eq elo1 : w6.heap.size ≤ lo1) (Nat.le_of_eq ehi1.symm : hi1 ≤ w7.heap.size)))
 have SS4 := Aside0.mk (And.intro SP1.out SS3.out)
 clear SS3
 clear SP1
 replace HB := Aside0.mk (HB.out.trans (hW_.mono HB.out.size))
 clear hb hW_ elo1 ehi1
 refine hK.out _ _ ⟨(blk_cell BX0.out 0).trans rfl, (blk_cell BX0.out 1).trans rfl, (blk_cell BX0.out 2).trans rfl⟩ (fun hHeld => ?_)
 clear hK K
 refine norm_ (a' := ?_) ?_ ?_
 rotate_left
 · show Act.put _ (some 29) _ = _
   simp only [Act.put, List.setIfInBounds_toArray, List.set_cons_zero, List.set_cons_succ, i64_w, i32_w]
   rfl
 have CK := Aside0.mk (laws_toTrace.calls K4 a1_0 A1_1 c1_1 l1_1 a1_2 r4 r5 r6 w7 (Kd.C_below HR1_1.out HB.out) HC1_1.out G4.out)
 refine one_ (i := 3) (N := some 31) #[true, true, true, true, false, false, false, false, false, false] rfl rfl (by kernel_rfl) (by decide) (fun K hK => ?_)
 refine goes_ Try.func54 (by kernel_rfl) rfl #[.agg #[.int .i64 a1_0, .slice A1_1 l1_1.length c1_1, .int .i64 a1_2]] (by rfl) rfl rfl (by (try simp only [List.map_toArray, List.map_cons, List.map_nil]); first | done | rfl) ?_
 with_reducible refine CK.out.mono ?_
 rintro e w9 ⟨v1_, rfl, ho0, hb0⟩
 refine ⟨_, rfl, ?_⟩
 have hb := hb0
 clear CK hb0
 have hW_ := hb
 replace BX0 := Aside0.mk ((hb.block _ (blk_lt BX0.out)).trans BX0.out)
 replace HOo8 := Aside0.mk (HOo8.out.below hW_)
 obtain ⟨lo2, elo2⟩ : ∃ n_, w7.heap.size = n_ := ⟨_, rfl⟩
 obtain ⟨hi2, ehi2⟩ : ∃ n_, w9.heap.size = n_ := ⟨_, rfl⟩
 have hn_0 := OwnI.new (W0 := w) HB.out.size hb.size ho0
 rw [elo2, ehi2] at hn_0
 obtain ⟨Ao10, co10, rfl⟩ := hn_0.slice
 have HOo10 := Aside0.mk hn_0
 clear hn_0 ho0
 have SP2 := Aside0.mk (And.intro (by have h_ := hb.size; rw [elo2, ehi2] at h_; exact h_ : lo2 ≤ hi2) (And.intro (Nat.le_of_eq elo2 : w7.heap.size ≤ lo2) (Nat.le_of_eq ehi2.symm : hi2 ≤ w9.heap.size)))
 have SS5 := Aside0.mk (And.intro SP2.out SS4.out)
 clear SS4
 clear SP2
 replace HB := Aside0.mk (HB.out.trans (hW_.mono HB.out.size))
 clear hb hW_ elo2 ehi2
 refine hK.out _ _ ⟨(blk_cell BX0.out 0).trans rfl, (blk_cell BX0.out 1).trans rfl, (blk_cell BX0.out 2).trans rfl⟩ (fun hHeld => ?_)
 clear hK K
 refine norm_ (a' := ?_) ?_ ?_
 rotate_left
 · show Act.put _ (some 31) _ = _
   simp only [Act.put, List.setIfInBounds_toArray, List.set_cons_zero, List.set_cons_succ, i64_w, i32_w]
   rfl
 have CK := Aside0.mk (spec_TracesPut.calls K5 Ao8 co8 r3 r4 Ao10 co10 r5 r6 r7 r8 w9 HOo8.out.C HOo8.out.room HOo10.out.C HOo10.out.room G5.out)
 refine one_ (i := 4) (N := some 32) #[true, true, true, true, true, false, false, false, false, false] rfl rfl (by kernel_rfl) (by decide) (fun K hK => ?_)
 refine goes_ Try.func53 (by kernel_rfl) rfl #[.slice Ao8 r3.length co8, .agg #[.int .i64 r4, .slice Ao10 r5.length co10, .int .i64 r6]] (by rfl) rfl rfl (by (try simp only [List.map_toArray, List.map_cons, List.map_nil]); first | done | rfl) ?_
 with_reducible refine CK.out.mono ?_
 rintro e w11 ⟨v0_, rfl, ho0, hb0⟩
 refine ⟨_, rfl, ?_⟩
 have hb := hb0
 clear CK hb0
 have hW_ := hb
 replace BX0 := Aside0.mk ((hb.block _ (blk_lt BX0.out)).trans BX0.out)
 replace HOo8 := Aside0.mk (HOo8.out.below hW_)
 replace HOo10 := Aside0.mk (HOo10.out.below hW_)
 obtain ⟨lo3, elo3⟩ : ∃ n_, w9.heap.size = n_ := ⟨_, rfl⟩
 obtain ⟨hi3, ehi3⟩ : ∃ n_, w11.heap.size = n_ := ⟨_, rfl⟩
 have hn_0 := OwnS.new (W0 := w) HB.out.size hb.size ho0
 rw [elo3, ehi3] at hn_0
 obtain ⟨Ao12, co12, rfl⟩ := hn_0.slice
 have HOo12 := Aside0.mk hn_0
 clear hn_0 ho0
 have SP3 := Aside0.mk (And.intro (by have h_ := hb.size; rw [elo3, ehi3] at h_; exact h_ : lo3 ≤ hi3) (And.intro (Nat.le_of_eq elo3 : w9.heap.size ≤ lo3) (Nat.le_of_eq ehi3.symm : hi3 ≤ w11.heap.size)))
 have SS6 := Aside0.mk (And.intro SP3.out SS5.out)
 clear SS5
 clear SP3
 replace HB := Aside0.mk (HB.out.trans (hW_.mono HB.out.size))
 clear hb hW_ elo3 ehi3
 refine hK.out _ _ ⟨(blk_cell BX0.out 0).trans rfl, (blk_cell BX0.out 1).trans rfl, (blk_cell BX0.out 2).trans rfl⟩ (fun hHeld => ?_)
 clear hK K
 refine norm_ (a' := ?_) ?_ ?_
 rotate_left
 · show Act.put _ (some 32) _ = _
   simp only [Act.put, List.setIfInBounds_toArray, List.set_cons_zero, List.set_cons_succ, i64_w, i32_w]
   rfl
 refine pure_ (i := 5) (N := some 27) (v := ?_) (a' := ?_) #[true, true, true, true, true, true, false, false, false, false] rfl rfl (by kernel_rfl) (fun _ _ _ h => h) (Or.inl ⟨by rfl, ?_⟩) ?_ ?_
 rotate_left
 · intro w'
   go_simp
   with_reducible rfl
 rotate_left
 · simp only [Act.put, List.setIfInBounds_toArray, List.set_cons_zero, List.set_cons_succ, i64_w, i32_w]
   rfl
 refine pure_ (i := 6) (N := some 33) (v := ?_) (a' := ?_) #[true, true, true, true, true, true, true, false, false, false] rfl rfl (by kernel_rfl) (fun _ _ _ h => h) (Or.inl ⟨by rfl, ?_⟩) ?_ ?_
 rotate_left
 · intro w'
   go_simp
   with_reducible rfl
 rotate_left
 · simp only [Act.put, List.setIfInBounds_toArray, List.set_cons_zero, List.set_cons_succ, i64_w, i32_w]
   rfl
 refine pure_ (i := 7) (N := some 34) (v := ?_) (a' := ?_) #[true, true, true, true, true, true, true, true, false, false] rfl rfl (by kernel_rfl) (fun _ _ _ h => h) (Or.inl ⟨by rfl, ?_⟩) ?_ ?_
 rotate_left
 · intro w'
   go_simp
   with_reducible rfl
 rotate_left
 · simp only [Act.put, List.setIfInBounds_toArray, List.set_cons_zero, List.set_cons_succ, i64_w, i32_w]
   rfl
 refine pure_ (i := 8) (N := some 6) (v := ?_) (a' := ?_) #[true, true, true, true, true, true, true, true, true, false] rfl rfl (by kernel_rfl) (fun _ _ _ h => h) (Or.inl ⟨by rfl, ?_⟩) ?_ ?_
 rotate_left
 · intro w'
   go_simp
   with_reducible rfl
 rotate_left
 · simp only [Act.put, List.setIfInBounds_toArray, List.set_cons_zero, List.set_cons_succ, i64_w, i32_w]
   rfl
 refine pure_ (i := 9) (N := some 7) (v := ?_) (a' := ?_) #[true, true, true, true, true, true, true, true, true, true] rfl rfl (by kernel_rfl) (fun _ _ _ h => h) (Or.inl ⟨by rfl, ?_⟩) ?_ ?_
 rotate_left
 · intro w'
   go_simp
   with_reducible rfl
 rotate_left
 · simp only [Act.put, List.setIfInBounds_toArray, List.set_cons_zero, List.set_cons_succ, i64_w, i32_w]
   rfl
 refine done_ (by kernel_rfl) ?_
 clear hHeld
 have CK := Aside0.mk (laws_toTraceS.calls K3 A0 c0 l0 r3 w11 (Kd.C_below HR0.out HB.out) HC0.out G3.out)
 go_wp2_with fail
 with_reducible refine CK.out.mono ?_
 rintro e w13 ⟨v0_, rfl, ho0, hb0⟩
 have hb := hb0
 clear CK hb0
 have hW_ := hb
 replace BX0 := Aside0.mk ((hb.block _ (blk_lt BX0.out)).trans BX0.out)
 replace HOo8 := Aside0.mk (HOo8.out.below hW_)
 replace HOo10 := Aside0.mk (HOo10.out.below hW_)
 replace HOo12 := Aside0.mk (HOo12.out.below hW_)
 obtain ⟨lo4, elo4⟩ : ∃ n_, w11.heap.size = n_ := ⟨_, rfl⟩
 obtain ⟨hi4, ehi4⟩ : ∃ n_, w13.heap.size = n_ := ⟨_, rfl⟩
 have hn_0 := OwnS.new (W0 := w) HB.out.size hb.size ho0
 rw [elo4, ehi4] at hn_0
 obtain ⟨Ao14, co14, rfl⟩ := hn_0.slice
 have HOo14 := Aside0.mk hn_0
 clear hn_0 ho0
 have SP4 := Aside0.mk (And.intro (by have h_ := hb.size; rw [elo4, ehi4] at h_; exact h_ : lo4 ≤ hi4) (And.intro (Nat.le_of_eq elo4 : w11.heap.size ≤ lo4) (Nat.le_of_eq ehi4.symm : hi4 ≤ w13.heap.size)))
 have SS7 := Aside0.mk (And.intro SP4.out SS6.out)
 clear SS6
 clear SP4
 replace HB := Aside0.mk (HB.out.trans (hW_.mono HB.out.size))
 clear hb hW_ elo4 ehi4
 have hx15 : w13.cell? ⟨w.heap.size, 0, none⟩ = some (.int .i64 a1_0) := (blk_cell BX0.out 0).trans rfl
 have hx16 : w13.cell? ⟨w.heap.size, 1, none⟩ = some (.slice A1_1 l1_1.length c1_1) := (blk_cell BX0.out 1).trans rfl
 have hx17 : w13.cell? ⟨w.heap.size, 2, none⟩ = some (.int .i64 a1_2) := (blk_cell BX0.out 2).trans rfl
 have CK := Aside0.mk (laws_toTrace.calls K4 a1_0 A1_1 c1_1 l1_1 a1_2 r4 r5 r6 w13 (Kd.C_below HR1_1.out HB.out) HC1_1.out G4.out)
 go_wp2_with fail
 with_reducible refine CK.out.mono ?_
 rintro e w18 ⟨v1_, rfl, ho0, hb0⟩
 have hb := hb0
 clear CK hb0
 clear hx15 hx16 hx17
 have hW_ := hb
 replace BX0 := Aside0.mk ((hb.block _ (blk_lt BX0.out)).trans BX0.out)
 replace HOo8 := Aside0.mk (HOo8.out.below hW_)
 replace HOo10 := Aside0.mk (HOo10.out.below hW_)
 replace HOo12 := Aside0.mk (HOo12.out.below hW_)
 replace HOo14 := Aside0.mk (HOo14.out.below hW_)
 obtain ⟨lo5, elo5⟩ : ∃ n_, w13.heap.size = n_ := ⟨_, rfl⟩
 obtain ⟨hi5, ehi5⟩ : ∃ n_, w18.heap.size = n_ := ⟨_, rfl⟩
 have hn_0 := OwnI.new (W0 := w) HB.out.size hb.size ho0
 rw [elo5, ehi5] at hn_0
 obtain ⟨Ao19, co19, rfl⟩ := hn_0.slice
 have HOo19 := Aside0.mk hn_0
 clear hn_0 ho0
 have SP5 := Aside0.mk (And.intro (by have h_ := hb.size; rw [elo5, ehi5] at h_; exact h_ : lo5 ≤ hi5) (And.intro (Nat.le_of_eq elo5 : w13.heap.size ≤ lo5) (Nat.le_of_eq ehi5.symm : hi5 ≤ w18.heap.size)))
 have SS8 := Aside0.mk (And.intro SP5.out SS7.out)
 clear SS7
 clear SP5
 replace HB := Aside0.mk (HB.out.trans (hW_.mono HB.out.size))
 clear hb hW_ elo5 ehi5
 have hx20 : (w18.alloc (.cells #[.int .i64 r4, .slice Ao19 r5.length co19, .int .i64 r6] 87)).cell? ⟨w18.heap.size, 0, none⟩ = some (.int .i64 r4) := (blk_cell (show (w18.alloc (.cells #[.int .i64 r4, .slice Ao19 r5.length co19, .int .i64 r6] 87)).heap[w18.heap.size]? = some (.cells #[.int .i64 r4, .slice Ao19 r5.length co19, .int .i64 r6] 87 (0, 0)) from by have h_ := heap_alloc_new w18 (.cells #[.int .i64 r4, .slice Ao19 r5.length co19, .int .i64 r6] 87); simpa using h_) 0).trans rfl
 have hx21 : (w18.alloc (.cells #[.int .i64 r4, .slice Ao19 r5.length co19, .int .i64 r6] 87)).cell? ⟨w18.heap.size, 1, none⟩ = some (.slice Ao19 r5.length co19) := (blk_cell (show (w18.alloc (.cells #[.int .i64 r4, .slice Ao19 r5.length co19, .int .i64 r6] 87)).heap[w18.heap.size]? = some (.cells #[.int .i64 r4, .slice Ao19 r5.length co19, .int .i64 r6] 87 (0, 0)) from by have h_ := heap_alloc_new w18 (.cells #[.int .i64 r4, .slice Ao19 r5.length co19, .int .i64 r6] 87); simpa using h_) 1).trans rfl
 have hx22 : (w18.alloc (.cells #[.int .i64 r4, .slice Ao19 r5.length co19, .int .i64 r6] 87)).cell? ⟨w18.heap.size, 2, none⟩ = some (.int .i64 r6) := (blk_cell (show (w18.alloc (.cells #[.int .i64 r4, .slice Ao19 r5.length co19, .int .i64 r6] 87)).heap[w18.heap.size]? = some (.cells #[.int .i64 r4, .slice Ao19 r5.length co19, .int .i64 r6] 87 (0, 0)) from by have h_ := heap_alloc_new w18 (.cells #[.int .i64 r4, .slice Ao19 r5.length co19, .int .i64 r6] 87); simpa using h_) 2).trans rfl
 have CK := Aside0.mk (impl_TracesPut.calls K6 Ao14 co14 r3 r4 Ao19 co19 r5 r6 r7 r8 (w18.alloc (.cells #[.int .i64 r4, .slice Ao19 r5.length co19, .int .i64 r6] 87)) (HOo14.out.below (below_alloc (Below.refl w18.heap.size w18) _)).C HOo14.out.room (HOo19.out.below (below_alloc (Below.refl w18.heap.size w18) _)).C HOo19.out.room G6.out)
 go_wp2_with fail
 with_reducible refine CK.out.mono ?_
 rintro e w23 ⟨v0_, rfl, ho0, hb0⟩
 have hb := hb0
 clear CK hb0
 clear hx20 hx21 hx22
 have hW_ : Below w18.heap.size w18 w23 := (below_alloc (Below.refl w18.heap.size w18) _).trans (hb.mono (below_alloc (Below.refl w18.heap.size w18) _).size)
 replace BX0 := Aside0.mk ((hb.block _ (blk_lt (blk_alloc BX0.out _))).trans (blk_alloc BX0.out _))
 have BX1 := Aside0.mk ((hb.block _ (blk_lt (show (w18.alloc (.cells #[.int .i64 r4, .slice Ao19 r5.length co19, .int .i64 r6] 87)).heap[w18.heap.size]? = some (.cells #[.int .i64 r4, .slice Ao19 r5.length co19, .int .i64 r6] 87 (0, 0)) from by have h_ := heap_alloc_new w18 (.cells #[.int .i64 r4, .slice Ao19 r5.length co19, .int .i64 r6] 87); simpa using h_))).trans (show (w18.alloc (.cells #[.int .i64 r4, .slice Ao19 r5.length co19, .int .i64 r6] 87)).heap[w18.heap.size]? = some (.cells #[.int .i64 r4, .slice Ao19 r5.length co19, .int .i64 r6] 87 (0, 0)) from by have h_ := heap_alloc_new w18 (.cells #[.int .i64 r4, .slice Ao19 r5.length co19, .int .i64 r6] 87); simpa using h_))
 replace HOo8 := Aside0.mk (HOo8.out.below hW_)
 replace HOo10 := Aside0.mk (HOo10.out.below hW_)
 replace HOo12 := Aside0.mk (HOo12.out.below hW_)
 replace HOo14 := Aside0.mk (HOo14.out.below hW_)
 replace HOo19 := Aside0.mk (HOo19.out.below hW_)
 obtain ⟨lo6, elo6⟩ : ∃ n_, (w18.alloc (.cells #[.int .i64 r4, .slice Ao19 r5.length co19, .int .i64 r6] 87)).heap.size = n_ := ⟨_, rfl⟩
 obtain ⟨hi6, ehi6⟩ : ∃ n_, w23.heap.size = n_ := ⟨_, rfl⟩
 have hn_0 := OwnS.new (W0 := w) (below_alloc HB.out _).size hb.size ho0
 rw [elo6, ehi6] at hn_0
 obtain ⟨Ao24, co24, rfl⟩ := hn_0.slice
 have HOo24 := Aside0.mk hn_0
 clear hn_0 ho0
 have SP6 := Aside0.mk (And.intro (by have h_ := hb.size; rw [elo6, ehi6] at h_; exact h_ : lo6 ≤ hi6) (And.intro (by have h_ := (Nat.succ_le_of_lt (blk_lt (show (w18.alloc (.cells #[.int .i64 r4, .slice Ao19 r5.length co19, .int .i64 r6] 87)).heap[w18.heap.size]? = some (.cells #[.int .i64 r4, .slice Ao19 r5.length co19, .int .i64 r6] 87 (0, 0)) from by have h_ := heap_alloc_new w18 (.cells #[.int .i64 r4, .slice Ao19 r5.length co19, .int .i64 r6] 87); simpa using h_)) : w18.heap.size + 1 ≤ (w18.alloc (.cells #[.int .i64 r4, .slice Ao19 r5.length co19, .int .i64 r6] 87)).heap.size); rw [elo6] at h_; exact h_ : w18.heap.size + 1 ≤ lo6) (Nat.le_of_eq ehi6.symm : hi6 ≤ w23.heap.size)))
 have SS9 := Aside0.mk (And.intro SP6.out SS8.out)
 clear SS8
 clear SP6
 replace HB := Aside0.mk (HB.out.trans (hW_.mono HB.out.size))
 clear hb hW_ elo6 ehi6
 have CK := Aside0.mk (laws_eqTraceS.calls K7 Ao24 co24 r7 Ao12 co12 r7 true w23 HOo24.out.C HOo24.out.room HOo12.out.C HOo12.out.room G7.out)
 go_wp2_with fail
 with_reducible refine CK.out.mono ?_
 rintro e w25 ⟨rfl, hb0⟩
 have hb := hb0
 clear CK hb0
 have hW_ := hb
 have SZ4 := Aside0.mk hb.size
 have SS10 := Aside0.mk (And.intro SZ4.out SS9.out)
 clear SS9
 clear SZ4
 replace BX0 := Aside0.mk ((hb.block _ (blk_lt BX0.out)).trans BX0.out)
 replace BX1 := Aside0.mk ((hb.block _ (blk_lt BX1.out)).trans BX1.out)
 replace HOo8 := Aside0.mk (HOo8.out.below hW_)
 replace HOo10 := Aside0.mk (HOo10.out.below hW_)
 replace HOo12 := Aside0.mk (HOo12.out.below hW_)
 replace HOo14 := Aside0.mk (HOo14.out.below hW_)
 replace HOo19 := Aside0.mk (HOo19.out.below hW_)
 replace HOo24 := Aside0.mk (HOo24.out.below hW_)
 replace HB := Aside0.mk (HB.out.trans (hW_.mono HB.out.size))
 clear hb hW_
 have CK := Aside0.mk (laws_toTraceS.calls K3 A0 c0 l0 r3 w25 (Kd.C_below HR0.out HB.out) HC0.out G3.out)
 go_wp2_with fail
 with_reducible refine CK.out.mono ?_
 rintro e w26 ⟨v0_, rfl, ho0, hb0⟩
 have hb := hb0
 clear CK hb0
 have hW_ := hb
 replace BX0 := Aside0.mk ((hb.block _ (blk_lt BX0.out)).trans BX0.out)
 replace BX1 := Aside0.mk ((hb.block _ (blk_lt BX1.out)).trans BX1.out)
 replace HOo8 := Aside0.mk (HOo8.out.below hW_)
 replace HOo10 := Aside0.mk (HOo10.out.below hW_)
 replace HOo12 := Aside0.mk (HOo12.out.below hW_)
 replace HOo14 := Aside0.mk (HOo14.out.below hW_)
 replace HOo19 := Aside0.mk (HOo19.out.below hW_)
 replace HOo24 := Aside0.mk (HOo24.out.below hW_)
 obtain ⟨lo7, elo7⟩ : ∃ n_, w25.heap.size = n_ := ⟨_, rfl⟩
 obtain ⟨hi7, ehi7⟩ : ∃ n_, w26.heap.size = n_ := ⟨_, rfl⟩
 have hn_0 := OwnS.new (W0 := w) HB.out.size hb.size ho0
 rw [elo7, ehi7] at hn_0
 obtain ⟨Ao27, co27, rfl⟩ := hn_0.slice
 have HOo27 := Aside0.mk hn_0
 clear hn_0 ho0
 have SP7 := Aside0.mk (And.intro (by have h_ := hb.size; rw [elo7, ehi7] at h_; exact h_ : lo7 ≤ hi7) (And.intro (Nat.le_of_eq elo7 : w25.heap.size ≤ lo7) (Nat.le_of_eq ehi7.symm : hi7 ≤ w26.heap.size)))
 have SS11 := Aside0.mk (And.intro SP7.out SS10.out)
 clear SS10
 clear SP7
 replace HB := Aside0.mk (HB.out.trans (hW_.mono HB.out.size))
 clear hb hW_ elo7 ehi7
 have CK := Aside0.mk (laws_eqTraceS.calls K8 Ao14 co14 r3 Ao27 co27 r3 true w26 HOo14.out.C HOo14.out.room HOo27.out.C HOo27.out.room G8.out)
 go_wp2_with fail
 with_reducible refine CK.out.mono ?_
 rintro e w28 ⟨rfl, hb0⟩
 have hb := hb0
 clear CK hb0
 have hW_ := hb
 have SZ5 := Aside0.mk hb.size
 have SS12 := Aside0.mk (And.intro SZ5.out SS11.out)
 clear SS11
 clear SZ5
 replace BX0 := Aside0.mk ((hb.block _ (blk_lt BX0.out)).trans BX0.out)
 replace BX1 := Aside0.mk ((hb.block _ (blk_lt BX1.out)).trans BX1.out)
 replace HOo8 := Aside0.mk (HOo8.out.below hW_)
 replace HOo10 := Aside0.mk (HOo10.out.below hW_)
 replace HOo12 := Aside0.mk (HOo12.out.below hW_)
 replace HOo14 := Aside0.mk (HOo14.out.below hW_)
 replace HOo19 := Aside0.mk (HOo19.out.below hW_)
 replace HOo24 := Aside0.mk (HOo24.out.below hW_)
 replace HOo27 := Aside0.mk (HOo27.out.below hW_)
 replace HB := Aside0.mk (HB.out.trans (hW_.mono HB.out.size))
 clear hb hW_
 try go_wp2_with fail
 refine start_ (n := 5) (S := fun w' => w'.cell? ⟨w18.heap.size, 0, none⟩ = some (.int .i64 r4) ∧ w'.cell? ⟨w18.heap.size, 1, none⟩ = some (.slice Ao19 r5.length co19) ∧ w'.cell? ⟨w18.heap.size, 2, none⟩ = some (.int .i64 r6) ∧ w'.cell? ⟨w.heap.size, 0, none⟩ = some (.int .i64 a1_0) ∧ w'.cell? ⟨w.heap.size, 1, none⟩ = some (.slice A1_1 l1_1.length c1_1) ∧ w'.cell? ⟨w.heap.size, 2, none⟩ = some (.int .i64 a1_2)) (ds := []) #[false, false, false, false, false] (by kernel_rfl) rfl rfl ⟨(blk_cell (blk_drew BX1.out) 0).trans rfl, (blk_cell (blk_drew BX1.out) 1).trans rfl, (blk_cell (blk_drew BX1.out) 2).trans rfl, (blk_cell (blk_drew BX0.out) 0).trans rfl, (blk_cell (blk_drew BX0.out) 1).trans rfl, (blk_cell (blk_drew BX0.out) 2).trans rfl⟩ (fun hHeld => ?_)
 have hW_ := below_drew1 (Below.refl w28.heap.size w28)
 have SZ6 := Aside0.mk (Nat.le_trans (Nat.le_refl w28.heap.size : w28.heap.size ≤ w28.heap.size) (below_drew1 (Below.refl w28.heap.size w28)).size)
 replace BX0 := Aside0.mk (blk_drew BX0.out)
 replace BX1 := Aside0.mk (blk_drew BX1.out)
 generalize w28.drew = w29 at hW_ hHeld SZ6 BX0 BX1 ⊢
 have SS13 := Aside0.mk (And.intro SZ6.out SS12.out)
 clear SS12
 clear SZ6
 replace HOo8 := Aside0.mk (HOo8.out.below hW_)
 replace HOo10 := Aside0.mk (HOo10.out.below hW_)
 replace HOo12 := Aside0.mk (HOo12.out.below hW_)
 replace HOo14 := Aside0.mk (HOo14.out.below hW_)
 replace HOo19 := Aside0.mk (HOo19.out.below hW_)
 replace HOo24 := Aside0.mk (HOo24.out.below hW_)
 replace HOo27 := Aside0.mk (HOo27.out.below hW_)
 replace HB := Aside0.mk (HB.out.trans (hW_.mono HB.out.size))
 clear hW_
 refine take_ (i := 0) (N := some 59) (v := ?_) (a' := ?_) #[true, false, false, false, false] rfl rfl (by kernel_rfl) (fun _ _ _ h => h) (Or.inl ⟨by rfl, ?_⟩) hHeld ?_ ?_
 rotate_left
 · rintro w' ⟨s0, s1, s2, s3, s4, s5⟩
   go_simp
   with_reducible rfl
 rotate_left
 · simp only [Act.put, List.setIfInBounds_toArray, List.set_cons_zero, List.set_cons_succ, i64_w, i32_w]
   rfl
 refine take_ (i := 1) (N := some 60) (v := ?_) (a' := ?_) #[true, true, false, false, false] rfl rfl (by kernel_rfl) (fun _ _ _ h => h) (Or.inl ⟨by rfl, ?_⟩) hHeld ?_ ?_
 rotate_left
 · rintro w' ⟨s0, s1, s2, s3, s4, s5⟩
   go_simp
   with_reducible rfl
 rotate_left
 · simp only [Act.put, List.setIfInBounds_toArray, List.set_cons_zero, List.set_cons_succ, i64_w, i32_w]
   rfl
 have CK := Aside0.mk (laws_toTrace.calls K4 a1_0 A1_1 c1_1 l1_1 a1_2 r4 r5 r6 w29 (Kd.C_below HR1_1.out HB.out) HC1_1.out G4.out)
 refine one_ (i := 2) (N := some 61) #[true, true, true, false, false] rfl rfl (by kernel_rfl) (by decide) (fun K hK => ?_)
 refine goes_ Try.func54 (by kernel_rfl) rfl #[.agg #[.int .i64 a1_0, .slice A1_1 l1_1.length c1_1, .int .i64 a1_2]] (by rfl) rfl rfl (by (try simp only [List.map_toArray, List.map_cons, List.map_nil]); first | done | rfl) ?_
 with_reducible refine CK.out.mono ?_
 rintro e w30 ⟨v1_, rfl, ho0, hb0⟩
 refine ⟨_, rfl, ?_⟩
 have hb := hb0
 clear CK hb0
 have hW_ := hb
 replace BX0 := Aside0.mk ((hb.block _ (blk_lt BX0.out)).trans BX0.out)
 replace BX1 := Aside0.mk ((hb.block _ (blk_lt BX1.out)).trans BX1.out)
 replace HOo8 := Aside0.mk (HOo8.out.below hW_)
 replace HOo10 := Aside0.mk (HOo10.out.below hW_)
 replace HOo12 := Aside0.mk (HOo12.out.below hW_)
 replace HOo14 := Aside0.mk (HOo14.out.below hW_)
 replace HOo19 := Aside0.mk (HOo19.out.below hW_)
 replace HOo24 := Aside0.mk (HOo24.out.below hW_)
 replace HOo27 := Aside0.mk (HOo27.out.below hW_)
 obtain ⟨lo8, elo8⟩ : ∃ n_, w29.heap.size = n_ := ⟨_, rfl⟩
 obtain ⟨hi8, ehi8⟩ : ∃ n_, w30.heap.size = n_ := ⟨_, rfl⟩
 have hn_0 := OwnI.new (W0 := w) HB.out.size hb.size ho0
 rw [elo8, ehi8] at hn_0
 obtain ⟨Ao31, co31, rfl⟩ := hn_0.slice
 have HOo31 := Aside0.mk hn_0
 clear hn_0 ho0
 have SP8 := Aside0.mk (And.intro (by have h_ := hb.size; rw [elo8, ehi8] at h_; exact h_ : lo8 ≤ hi8) (And.intro (Nat.le_of_eq elo8 : w29.heap.size ≤ lo8) (Nat.le_of_eq ehi8.symm : hi8 ≤ w30.heap.size)))
 have SS14 := Aside0.mk (And.intro SP8.out SS13.out)
 clear SS13
 clear SP8
 replace HB := Aside0.mk (HB.out.trans (hW_.mono HB.out.size))
 clear hb hW_ elo8 ehi8
 refine hK.out _ _ ⟨(blk_cell BX1.out 0).trans rfl, (blk_cell BX1.out 1).trans rfl, (blk_cell BX1.out 2).trans rfl, (blk_cell BX0.out 0).trans rfl, (blk_cell BX0.out 1).trans rfl, (blk_cell BX0.out 2).trans rfl⟩ (fun hHeld => ?_)
 clear hK K
 refine norm_ (a' := ?_) ?_ ?_
 rotate_left
 · show Act.put _ (some 61) _ = _
   simp only [Act.put, List.setIfInBounds_toArray, List.set_cons_zero, List.set_cons_succ, i64_w, i32_w]
   rfl
 have CK := Aside0.mk (laws_eqTrace.calls K9 r4 Ao19 co19 r5 r6 r4 Ao31 co31 r5 r6 true w30 HOo19.out.C HOo19.out.room HOo31.out.C HOo31.out.room G9.out)
 refine one_ (i := 3) (N := some 62) #[true, true, true, true, false] rfl rfl (by kernel_rfl) (by decide) (fun K hK => ?_)
 refine goes_ Try.func56 (by kernel_rfl) rfl #[.agg #[.int .i64 r4, .slice Ao19 r5.length co19, .int .i64 r6], .agg #[.int .i64 r4, .slice Ao31 r5.length co31, .int .i64 r6]] (by rfl) rfl rfl (by (try simp only [List.map_toArray, List.map_cons, List.map_nil]); first | done | rfl) ?_
 with_reducible refine CK.out.mono ?_
 rintro e w32 ⟨rfl, hb0⟩
 refine ⟨_, rfl, ?_⟩
 have hb := hb0
 clear CK hb0
 have hW_ := hb
 have SZ7 := Aside0.mk hb.size
 have SS15 := Aside0.mk (And.intro SZ7.out SS14.out)
 clear SS14
 clear SZ7
 replace BX0 := Aside0.mk ((hb.block _ (blk_lt BX0.out)).trans BX0.out)
 replace BX1 := Aside0.mk ((hb.block _ (blk_lt BX1.out)).trans BX1.out)
 replace HOo8 := Aside0.mk (HOo8.out.below hW_)
 replace HOo10 := Aside0.mk (HOo10.out.below hW_)
 replace HOo12 := Aside0.mk (HOo12.out.below hW_)
 replace HOo14 := Aside0.mk (HOo14.out.below hW_)
 replace HOo19 := Aside0.mk (HOo19.out.below hW_)
 replace HOo24 := Aside0.mk (HOo24.out.below hW_)
 replace HOo27 := Aside0.mk (HOo27.out.below hW_)
 replace HOo31 := Aside0.mk (HOo31.out.below hW_)
 replace HB := Aside0.mk (HB.out.trans (hW_.mono HB.out.size))
 clear hb hW_
 refine hK.out _ _ ⟨(blk_cell BX1.out 0).trans rfl, (blk_cell BX1.out 1).trans rfl, (blk_cell BX1.out 2).trans rfl, (blk_cell BX0.out 0).trans rfl, (blk_cell BX0.out 1).trans rfl, (blk_cell BX0.out 2).trans rfl⟩ (fun hHeld => ?_)
 clear hK K
 refine norm_ (a' := ?_) ?_ ?_
 rotate_left
 · show Act.put _ (some 62) _ = _
   simp only [Act.put, List.setIfInBounds_toArray, List.set_cons_zero, List.set_cons_succ, i64_w, i32_w]
   rfl
 refine pure_ (i := 4) (N := some 63) (v := ?_) (a' := ?_) #[true, true, true, true, true] rfl rfl (by kernel_rfl) (fun _ _ _ h => h) (Or.inl ⟨by rfl, ?_⟩) ?_ ?_
 rotate_left
 · intro w'
   go_simp
   with_reducible rfl
 rotate_left
 · simp only [Act.put, List.setIfInBounds_toArray, List.set_cons_zero, List.set_cons_succ, i64_w, i32_w]
   rfl
 refine done_ (by kernel_rfl) ?_
 clear hHeld
 have CK := Aside0.mk (lwTraceS HB.out HOo14.out G10.out)
 go_wp2_with fail
 with_reducible refine CK.out.mono ?_
 rintro e w33 ⟨rfl, ho0, hb, hk⟩
 clear CK
 have SZ8 := Aside0.mk hk.1
 have SS16 := Aside0.mk (And.intro SZ8.out SS15.out)
 clear SS15
 clear SZ8
 replace BX0 := Aside0.mk (blkI BX0.out hk (by have s_ := SS16.out; omega))
 replace BX1 := Aside0.mk (blkI BX1.out hk (by have s_ := SS16.out; omega))
 replace HOo8 := Aside0.mk (HOo8.out.kept hk (by have s_ := SS16.out; omega))
 replace HOo10 := Aside0.mk (HOo10.out.kept hk (by have s_ := SS16.out; omega))
 replace HOo12 := Aside0.mk (HOo12.out.kept hk (by have s_ := SS16.out; omega))
 replace HOo19 := Aside0.mk (HOo19.out.kept hk (by have s_ := SS16.out; omega))
 replace HOo24 := Aside0.mk (HOo24.out.kept hk (by have s_ := SS16.out; omega))
 replace HOo27 := Aside0.mk (HOo27.out.kept hk (by have s_ := SS16.out; omega))
 replace HOo31 := Aside0.mk (HOo31.out.kept hk (by have s_ := SS16.out; omega))
 replace HOo14 := Aside0.mk ho0
 have HLo14 := Aside0.mk (ho0.len : m9.length = r3.length)
 replace HB := Aside0.mk hb
 clear hb hk ho0
 have hx34 : w33.cell? ⟨w18.heap.size, 0, none⟩ = some (.int .i64 r4) := (blk_cell BX1.out 0).trans rfl
 have hx35 : w33.cell? ⟨w18.heap.size, 1, none⟩ = some (.slice Ao19 r5.length co19) := (blk_cell BX1.out 1).trans rfl
 have hx36 : w33.cell? ⟨w18.heap.size, 2, none⟩ = some (.int .i64 r6) := (blk_cell BX1.out 2).trans rfl
 have CK := Aside0.mk (lwTrace K11 HB.out HOo19.out G11.out)
 go_wp2_with fail
 with_reducible refine CK.out.mono ?_
 rintro e w37 ⟨rfl, ho0, hb, hk⟩
 clear CK
 clear hx34 hx35 hx36
 have SZ9 := Aside0.mk hk.1
 have SS17 := Aside0.mk (And.intro SZ9.out SS16.out)
 clear SS16
 clear SZ9
 replace BX0 := Aside0.mk (blkI BX0.out hk (by have s_ := SS17.out; omega))
 replace BX1 := Aside0.mk (blkI BX1.out hk (by have s_ := SS17.out; omega))
 replace HOo8 := Aside0.mk (HOo8.out.kept hk (by have s_ := SS17.out; omega))
 replace HOo10 := Aside0.mk (HOo10.out.kept hk (by have s_ := SS17.out; omega))
 replace HOo12 := Aside0.mk (HOo12.out.kept hk (by have s_ := SS17.out; omega))
 replace HOo14 := Aside0.mk (HOo14.out.kept hk (by have s_ := SS17.out; omega))
 replace HOo24 := Aside0.mk (HOo24.out.kept hk (by have s_ := SS17.out; omega))
 replace HOo27 := Aside0.mk (HOo27.out.kept hk (by have s_ := SS17.out; omega))
 replace HOo31 := Aside0.mk (HOo31.out.kept hk (by have s_ := SS17.out; omega))
 replace HOo19 := Aside0.mk ho0
 have HLo19 := Aside0.mk (ho0.len : m11.length = r5.length)
 replace HB := Aside0.mk hb
 clear hb hk ho0
 have CK := Aside0.mk (laws_eqTraceS.calls K7 Ao24 co24 r7 Ao12 co12 r7 true w37 HOo24.out.C HOo24.out.room HOo12.out.C HOo12.out.room G7.out)
 go_wp2_with fail
 with_reducible refine CK.out.mono ?_
 rintro e w38 ⟨rfl, hb0⟩
 have hb := hb0
 clear CK hb0
 have hW_ := hb
 have SZ10 := Aside0.mk hb.size
 have SS18 := Aside0.mk (And.intro SZ10.out SS17.out)
 clear SS17
 clear SZ10
 replace BX0 := Aside0.mk ((hb.block _ (blk_lt BX0.out)).trans BX0.out)
 replace BX1 := Aside0.mk ((hb.block _ (blk_lt BX1.out)).trans BX1.out)
 replace HOo8 := Aside0.mk (HOo8.out.below hW_)
 replace HOo10 := Aside0.mk (HOo10.out.below hW_)
 replace HOo12 := Aside0.mk (HOo12.out.below hW_)
 replace HOo14 := Aside0.mk (HOo14.out.below hW_)
 replace HOo19 := Aside0.mk (HOo19.out.below hW_)
 replace HOo24 := Aside0.mk (HOo24.out.below hW_)
 replace HOo27 := Aside0.mk (HOo27.out.below hW_)
 replace HOo31 := Aside0.mk (HOo31.out.below hW_)
 replace HB := Aside0.mk (HB.out.trans (hW_.mono HB.out.size))
 clear hb hW_
 have CK := Aside0.mk (lwTraceS HB.out HOo24.out G12.out)
 go_wp2_with fail
 with_reducible refine CK.out.mono ?_
 rintro e w39 ⟨rfl, ho0, hb, hk⟩
 clear CK
 have SZ11 := Aside0.mk hk.1
 have SS19 := Aside0.mk (And.intro SZ11.out SS18.out)
 clear SS18
 clear SZ11
 replace BX0 := Aside0.mk (blkI BX0.out hk (by have s_ := SS19.out; omega))
 replace BX1 := Aside0.mk (blkI BX1.out hk (by have s_ := SS19.out; omega))
 replace HOo8 := Aside0.mk (HOo8.out.kept hk (by have s_ := SS19.out; omega))
 replace HOo10 := Aside0.mk (HOo10.out.kept hk (by have s_ := SS19.out; omega))
 replace HOo12 := Aside0.mk (HOo12.out.kept hk (by have s_ := SS19.out; omega))
 replace HOo14 := Aside0.mk (HOo14.out.kept hk (by have s_ := SS19.out; omega))
 replace HOo19 := Aside0.mk (HOo19.out.kept hk (by have s_ := SS19.out; omega))
 replace HOo27 := Aside0.mk (HOo27.out.kept hk (by have s_ := SS19.out; omega))
 replace HOo31 := Aside0.mk (HOo31.out.kept hk (by have s_ := SS19.out; omega))
 replace HOo24 := Aside0.mk ho0
 have HLo24 := Aside0.mk (ho0.len : m13.length = r7.length)
 replace HB := Aside0.mk hb
 clear hb hk ho0
 have CK0 := laws_heldTraceS.calls K13 Ao24 co24 m13 1 k14 w39 HOo24.out.C HOo24.out.room G13.out
 rw [HLo24.out] at CK0
 have CK := Aside0.mk CK0
 clear CK0
 go_wp2_with fail
 with_reducible refine CK.out.mono ?_
 rintro e w40 ⟨rfl, hb0⟩
 have hb := hb0.below
 clear CK hb0
 have hW_ := hb
 have SZ12 := Aside0.mk hb.size
 have SS20 := Aside0.mk (And.intro SZ12.out SS19.out)
 clear SS19
 clear SZ12
 replace BX0 := Aside0.mk ((hb.block _ (blk_lt BX0.out)).trans BX0.out)
 replace BX1 := Aside0.mk ((hb.block _ (blk_lt BX1.out)).trans BX1.out)
 replace HOo8 := Aside0.mk (HOo8.out.below hW_)
 replace HOo10 := Aside0.mk (HOo10.out.below hW_)
 replace HOo12 := Aside0.mk (HOo12.out.below hW_)
 replace HOo14 := Aside0.mk (HOo14.out.below hW_)
 replace HOo19 := Aside0.mk (HOo19.out.below hW_)
 replace HOo24 := Aside0.mk (HOo24.out.below hW_)
 replace HOo27 := Aside0.mk (HOo27.out.below hW_)
 replace HOo31 := Aside0.mk (HOo31.out.below hW_)
 replace HB := Aside0.mk (HB.out.trans (hW_.mono HB.out.size))
 clear hb hW_
 try go_wp2_with fail
 refine start_ (n := 10) (S := fun w' => w'.cell? ⟨w.heap.size, 0, none⟩ = some (.int .i64 a1_0) ∧ w'.cell? ⟨w.heap.size, 1, none⟩ = some (.slice A1_1 l1_1.length c1_1) ∧ w'.cell? ⟨w.heap.size, 2, none⟩ = some (.int .i64 a1_2)) (ds := []) #[false, false, false, false, false, false, false, false, false, false] (by kernel_rfl) rfl rfl ⟨(blk_cell (blk_drew BX0.out) 0).trans rfl, (blk_cell (blk_drew BX0.out) 1).trans rfl, (blk_cell (blk_drew BX0.out) 2).trans rfl⟩ (fun hHeld => ?_)
 have hW_ := below_drew1 (Below.refl w40.heap.size w40)
 have SZ13 := Aside0.mk (Nat.le_trans (Nat.le_refl w40.heap.size : w40.heap.size ≤ w40.heap.size) (below_drew1 (Below.refl w40.heap.size w40)).size)
 replace BX0 := Aside0.mk (blk_drew BX0.out)
 replace BX1 := Aside0.mk (blk_drew BX1.out)
 generalize w40.drew = w41 at hW_ hHeld SZ13 BX0 BX1 ⊢
 have SS21 := Aside0.mk (And.intro SZ13.out SS20.out)
 clear SS20
 clear SZ13
 replace HOo8 := Aside0.mk (HOo8.out.below hW_)
 replace HOo10 := Aside0.mk (HOo10.out.below hW_)
 replace HOo12 := Aside0.mk (HOo12.out.below hW_)
 replace HOo14 := Aside0.mk (HOo14.out.below hW_)
 replace HOo19 := Aside0.mk (HOo19.out.below hW_)
 replace HOo24 := Aside0.mk (HOo24.out.below hW_)
 replace HOo27 := Aside0.mk (HOo27.out.below hW_)
 replace HOo31 := Aside0.mk (HOo31.out.below hW_)
 replace HB := Aside0.mk (HB.out.trans (hW_.mono HB.out.size))
 clear hW_
 refine pure_ (i := 0) (N := some 95) (v := ?_) (a' := ?_) #[true, false, false, false, false, false, false, false, false, false] rfl rfl (by kernel_rfl) (fun _ _ _ h => h) (Or.inl ⟨by rfl, ?_⟩) ?_ ?_
 rotate_left
 · intro w'
   go_simp
   with_reducible rfl
 rotate_left
 · simp only [Act.put, List.setIfInBounds_toArray, List.set_cons_zero, List.set_cons_succ, i64_w, i32_w]
   rfl
 refine take_ (i := 2) (N := some 97) (v := ?_) (a' := ?_) #[true, false, true, false, false, false, false, false, false, false] rfl rfl (by kernel_rfl) (fun _ _ _ h => h) (Or.inl ⟨by rfl, ?_⟩) hHeld ?_ ?_
 rotate_left
 · rintro w' ⟨s0, s1, s2⟩
   go_simp
   with_reducible rfl
 rotate_left
 · simp only [Act.put, List.setIfInBounds_toArray, List.set_cons_zero, List.set_cons_succ, i64_w, i32_w]
   rfl
 have CK := Aside0.mk (laws_toTraceS.calls K3 A0 c0 l0 r3 w41 (Kd.C_below HR0.out HB.out) HC0.out G3.out)
 refine one_ (i := 1) (N := some 96) #[true, true, true, false, false, false, false, false, false, false] rfl rfl (by kernel_rfl) (by decide) (fun K hK => ?_)
 refine goes_ Try.func42 (by kernel_rfl) rfl #[.slice A0 l0.length c0] (by rfl) rfl rfl (by (try simp only [List.map_toArray, List.map_cons, List.map_nil]); first | done | rfl) ?_
 with_reducible refine CK.out.mono ?_
 rintro e w42 ⟨v0_, rfl, ho0, hb0⟩
 refine ⟨_, rfl, ?_⟩
 have hb := hb0
 clear CK hb0
 have hW_ := hb
 replace BX0 := Aside0.mk ((hb.block _ (blk_lt BX0.out)).trans BX0.out)
 replace BX1 := Aside0.mk ((hb.block _ (blk_lt BX1.out)).trans BX1.out)
 replace HOo8 := Aside0.mk (HOo8.out.below hW_)
 replace HOo10 := Aside0.mk (HOo10.out.below hW_)
 replace HOo12 := Aside0.mk (HOo12.out.below hW_)
 replace HOo14 := Aside0.mk (HOo14.out.below hW_)
 replace HOo19 := Aside0.mk (HOo19.out.below hW_)
 replace HOo24 := Aside0.mk (HOo24.out.below hW_)
 replace HOo27 := Aside0.mk (HOo27.out.below hW_)
 replace HOo31 := Aside0.mk (HOo31.out.below hW_)
 obtain ⟨lo9, elo9⟩ : ∃ n_, w41.heap.size = n_ := ⟨_, rfl⟩
 obtain ⟨hi9, ehi9⟩ : ∃ n_, w42.heap.size = n_ := ⟨_, rfl⟩
 have hn_0 := OwnS.new (W0 := w) HB.out.size hb.size ho0
 rw [elo9, ehi9] at hn_0
 obtain ⟨Ao43, co43, rfl⟩ := hn_0.slice
 have HOo43 := Aside0.mk hn_0
 clear hn_0 ho0
 have SP9 := Aside0.mk (And.intro (by have h_ := hb.size; rw [elo9, ehi9] at h_; exact h_ : lo9 ≤ hi9) (And.intro (Nat.le_of_eq elo9 : w41.heap.size ≤ lo9) (Nat.le_of_eq ehi9.symm : hi9 ≤ w42.heap.size)))
 have SS22 := Aside0.mk (And.intro SP9.out SS21.out)
 clear SS21
 clear SP9
 replace HB := Aside0.mk (HB.out.trans (hW_.mono HB.out.size))
 clear hb hW_ elo9 ehi9
 refine hK.out _ _ ⟨(blk_cell BX0.out 0).trans rfl, (blk_cell BX0.out 1).trans rfl, (blk_cell BX0.out 2).trans rfl⟩ (fun hHeld => ?_)
 clear hK K
 refine norm_ (a' := ?_) ?_ ?_
 rotate_left
 · show Act.put _ (some 96) _ = _
   simp only [Act.put, List.setIfInBounds_toArray, List.set_cons_zero, List.set_cons_succ, i64_w, i32_w]
   rfl
 have CK := Aside0.mk (laws_toTrace.calls K4 a1_0 A1_1 c1_1 l1_1 a1_2 r4 r5 r6 w42 (Kd.C_below HR1_1.out HB.out) HC1_1.out G4.out)
 refine one_ (i := 3) (N := some 98) #[true, true, true, true, false, false, false, false, false, false] rfl rfl (by kernel_rfl) (by decide) (fun K hK => ?_)
 refine goes_ Try.func54 (by kernel_rfl) rfl #[.agg #[.int .i64 a1_0, .slice A1_1 l1_1.length c1_1, .int .i64 a1_2]] (by rfl) rfl rfl (by (try simp only [List.map_toArray, List.map_cons, List.map_nil]); first | done | rfl) ?_
 with_reducible refine CK.out.mono ?_
 rintro e w44 ⟨v1_, rfl, ho0, hb0⟩
 refine ⟨_, rfl, ?_⟩
 have hb := hb0
 clear CK hb0
 have hW_ := hb
 replace BX0 := Aside0.mk ((hb.block _ (blk_lt BX0.out)).trans BX0.out)
 replace BX1 := Aside0.mk ((hb.block _ (blk_lt BX1.out)).trans BX1.out)
 replace HOo8 := Aside0.mk (HOo8.out.below hW_)
 replace HOo10 := Aside0.mk (HOo10.out.below hW_)
 replace HOo12 := Aside0.mk (HOo12.out.below hW_)
 replace HOo14 := Aside0.mk (HOo14.out.below hW_)
 replace HOo19 := Aside0.mk (HOo19.out.below hW_)
 replace HOo24 := Aside0.mk (HOo24.out.below hW_)
 replace HOo27 := Aside0.mk (HOo27.out.below hW_)
 replace HOo31 := Aside0.mk (HOo31.out.below hW_)
 replace HOo43 := Aside0.mk (HOo43.out.below hW_)
 obtain ⟨lo10, elo10⟩ : ∃ n_, w42.heap.size = n_ := ⟨_, rfl⟩
 obtain ⟨hi10, ehi10⟩ : ∃ n_, w44.heap.size = n_ := ⟨_, rfl⟩
 have hn_0 := OwnI.new (W0 := w) HB.out.size hb.size ho0
 rw [elo10, ehi10] at hn_0
 obtain ⟨Ao45, co45, rfl⟩ := hn_0.slice
 have HOo45 := Aside0.mk hn_0
 clear hn_0 ho0
 have SP10 := Aside0.mk (And.intro (by have h_ := hb.size; rw [elo10, ehi10] at h_; exact h_ : lo10 ≤ hi10) (And.intro (Nat.le_of_eq elo10 : w42.heap.size ≤ lo10) (Nat.le_of_eq ehi10.symm : hi10 ≤ w44.heap.size)))
 have SS23 := Aside0.mk (And.intro SP10.out SS22.out)
 clear SS22
 clear SP10
 replace HB := Aside0.mk (HB.out.trans (hW_.mono HB.out.size))
 clear hb hW_ elo10 ehi10
 refine hK.out _ _ ⟨(blk_cell BX0.out 0).trans rfl, (blk_cell BX0.out 1).trans rfl, (blk_cell BX0.out 2).trans rfl⟩ (fun hHeld => ?_)
 clear hK K
 refine norm_ (a' := ?_) ?_ ?_
 rotate_left
 · show Act.put _ (some 98) _ = _
   simp only [Act.put, List.setIfInBounds_toArray, List.set_cons_zero, List.set_cons_succ, i64_w, i32_w]
   rfl
 have CK := Aside0.mk (impl_TracesPut.calls K6 Ao43 co43 r3 r4 Ao45 co45 r5 r6 r7 r8 w44 HOo43.out.C HOo43.out.room HOo45.out.C HOo45.out.room G6.out)
 refine one_ (i := 4) (N := some 99) #[true, true, true, true, true, false, false, false, false, false] rfl rfl (by kernel_rfl) (by decide) (fun K hK => ?_)
 refine goes_ Try.func55 (by kernel_rfl) rfl #[.slice Ao43 r3.length co43, .agg #[.int .i64 r4, .slice Ao45 r5.length co45, .int .i64 r6]] (by rfl) rfl rfl (by (try simp only [List.map_toArray, List.map_cons, List.map_nil]); first | done | rfl) ?_
 with_reducible refine CK.out.mono ?_
 rintro e w46 ⟨v0_, rfl, ho0, hb0⟩
 refine ⟨_, rfl, ?_⟩
 have hb := hb0
 clear CK hb0
 have hW_ := hb
 replace BX0 := Aside0.mk ((hb.block _ (blk_lt BX0.out)).trans BX0.out)
 replace BX1 := Aside0.mk ((hb.block _ (blk_lt BX1.out)).trans BX1.out)
 replace HOo8 := Aside0.mk (HOo8.out.below hW_)
 replace HOo10 := Aside0.mk (HOo10.out.below hW_)
 replace HOo12 := Aside0.mk (HOo12.out.below hW_)
 replace HOo14 := Aside0.mk (HOo14.out.below hW_)
 replace HOo19 := Aside0.mk (HOo19.out.below hW_)
 replace HOo24 := Aside0.mk (HOo24.out.below hW_)
 replace HOo27 := Aside0.mk (HOo27.out.below hW_)
 replace HOo31 := Aside0.mk (HOo31.out.below hW_)
 replace HOo43 := Aside0.mk (HOo43.out.below hW_)
 replace HOo45 := Aside0.mk (HOo45.out.below hW_)
 obtain ⟨lo11, elo11⟩ : ∃ n_, w44.heap.size = n_ := ⟨_, rfl⟩
 obtain ⟨hi11, ehi11⟩ : ∃ n_, w46.heap.size = n_ := ⟨_, rfl⟩
 have hn_0 := OwnS.new (W0 := w) HB.out.size hb.size ho0
 rw [elo11, ehi11] at hn_0
 obtain ⟨Ao47, co47, rfl⟩ := hn_0.slice
 have HOo47 := Aside0.mk hn_0
 clear hn_0 ho0
 have SP11 := Aside0.mk (And.intro (by have h_ := hb.size; rw [elo11, ehi11] at h_; exact h_ : lo11 ≤ hi11) (And.intro (Nat.le_of_eq elo11 : w44.heap.size ≤ lo11) (Nat.le_of_eq ehi11.symm : hi11 ≤ w46.heap.size)))
 have SS24 := Aside0.mk (And.intro SP11.out SS23.out)
 clear SS23
 clear SP11
 replace HB := Aside0.mk (HB.out.trans (hW_.mono HB.out.size))
 clear hb hW_ elo11 ehi11
 refine hK.out _ _ ⟨(blk_cell BX0.out 0).trans rfl, (blk_cell BX0.out 1).trans rfl, (blk_cell BX0.out 2).trans rfl⟩ (fun hHeld => ?_)
 clear hK K
 refine norm_ (a' := ?_) ?_ ?_
 rotate_left
 · show Act.put _ (some 99) _ = _
   simp only [Act.put, List.setIfInBounds_toArray, List.set_cons_zero, List.set_cons_succ, i64_w, i32_w]
   rfl
 refine pure_ (i := 5) (N := some 94) (v := ?_) (a' := ?_) #[true, true, true, true, true, true, false, false, false, false] rfl rfl (by kernel_rfl) (fun _ _ _ h => h) (Or.inl ⟨by rfl, ?_⟩) ?_ ?_
 rotate_left
 · intro w'
   go_simp
   with_reducible rfl
 rotate_left
 · simp only [Act.put, List.setIfInBounds_toArray, List.set_cons_zero, List.set_cons_succ, i64_w, i32_w]
   rfl
 refine pure_ (i := 6) (N := some 100) (v := ?_) (a' := ?_) #[true, true, true, true, true, true, true, false, false, false] rfl rfl (by kernel_rfl) (fun _ _ _ h => h) (Or.inl ⟨by rfl, ?_⟩) ?_ ?_
 rotate_left
 · intro w'
   go_simp
   with_reducible rfl
 rotate_left
 · simp only [Act.put, List.setIfInBounds_toArray, List.set_cons_zero, List.set_cons_succ, i64_w, i32_w]
   rfl
 refine pure_ (i := 7) (N := some 101) (v := ?_) (a' := ?_) #[true, true, true, true, true, true, true, true, false, false] rfl rfl (by kernel_rfl) (fun _ _ _ h => h) (Or.inl ⟨by rfl, ?_⟩) ?_ ?_
 rotate_left
 · intro w'
   go_simp
   with_reducible rfl
 rotate_left
 · simp only [Act.put, List.setIfInBounds_toArray, List.set_cons_zero, List.set_cons_succ, i64_w, i32_w]
   rfl
 refine pure_ (i := 8) (N := some 15) (v := ?_) (a' := ?_) #[true, true, true, true, true, true, true, true, true, false] rfl rfl (by kernel_rfl) (fun _ _ _ h => h) (Or.inl ⟨by rfl, ?_⟩) ?_ ?_
 rotate_left
 · intro w'
   go_simp
   with_reducible rfl
 rotate_left
 · simp only [Act.put, List.setIfInBounds_toArray, List.set_cons_zero, List.set_cons_succ, i64_w, i32_w]
   rfl
 refine pure_ (i := 9) (N := some 16) (v := ?_) (a' := ?_) #[true, true, true, true, true, true, true, true, true, true] rfl rfl (by kernel_rfl) (fun _ _ _ h => h) (Or.inl ⟨by rfl, ?_⟩) ?_ ?_
 rotate_left
 · intro w'
   go_simp
   with_reducible rfl
 rotate_left
 · simp only [Act.put, List.setIfInBounds_toArray, List.set_cons_zero, List.set_cons_succ, i64_w, i32_w]
   rfl
 refine done_ (by kernel_rfl) ?_
 clear hHeld
 have CK := Aside0.mk (laws_eqTraceS.calls K7 Ao47 co47 r7 Ao12 co12 r7 true w46 HOo47.out.C HOo47.out.room HOo12.out.C HOo12.out.room G7.out)
 go_wp2_with fail
 with_reducible refine CK.out.mono ?_
 rintro e w48 ⟨rfl, hb0⟩
 have hb := hb0
 clear CK hb0
 have hW_ := hb
 have SZ14 := Aside0.mk hb.size
 have SS25 := Aside0.mk (And.intro SZ14.out SS24.out)
 clear SS24
 clear SZ14
 replace BX0 := Aside0.mk ((hb.block _ (blk_lt BX0.out)).trans BX0.out)
 replace BX1 := Aside0.mk ((hb.block _ (blk_lt BX1.out)).trans BX1.out)
 replace HOo8 := Aside0.mk (HOo8.out.below hW_)
 replace HOo10 := Aside0.mk (HOo10.out.below hW_)
 replace HOo12 := Aside0.mk (HOo12.out.below hW_)
 replace HOo14 := Aside0.mk (HOo14.out.below hW_)
 replace HOo19 := Aside0.mk (HOo19.out.below hW_)
 replace HOo24 := Aside0.mk (HOo24.out.below hW_)
 replace HOo27 := Aside0.mk (HOo27.out.below hW_)
 replace HOo31 := Aside0.mk (HOo31.out.below hW_)
 replace HOo43 := Aside0.mk (HOo43.out.below hW_)
 replace HOo45 := Aside0.mk (HOo45.out.below hW_)
 replace HOo47 := Aside0.mk (HOo47.out.below hW_)
 replace HB := Aside0.mk (HB.out.trans (hW_.mono HB.out.size))
 clear hb hW_
 have CK0 := laws_heldTraceS.calls K13 Ao24 co24 m13 1 k14 w48 HOo24.out.C HOo24.out.room G13.out
 rw [HLo24.out] at CK0
 have CK := Aside0.mk CK0
 clear CK0
 go_wp2_with fail
 with_reducible refine CK.out.mono ?_
 rintro e w49 ⟨rfl, hb0⟩
 have hb := hb0.below
 clear CK hb0
 have hW_ := hb
 have SZ15 := Aside0.mk hb.size
 have SS26 := Aside0.mk (And.intro SZ15.out SS25.out)
 clear SS25
 clear SZ15
 replace BX0 := Aside0.mk ((hb.block _ (blk_lt BX0.out)).trans BX0.out)
 replace BX1 := Aside0.mk ((hb.block _ (blk_lt BX1.out)).trans BX1.out)
 replace HOo8 := Aside0.mk (HOo8.out.below hW_)
 replace HOo10 := Aside0.mk (HOo10.out.below hW_)
 replace HOo12 := Aside0.mk (HOo12.out.below hW_)
 replace HOo14 := Aside0.mk (HOo14.out.below hW_)
 replace HOo19 := Aside0.mk (HOo19.out.below hW_)
 replace HOo24 := Aside0.mk (HOo24.out.below hW_)
 replace HOo27 := Aside0.mk (HOo27.out.below hW_)
 replace HOo31 := Aside0.mk (HOo31.out.below hW_)
 replace HOo43 := Aside0.mk (HOo43.out.below hW_)
 replace HOo45 := Aside0.mk (HOo45.out.below hW_)
 replace HOo47 := Aside0.mk (HOo47.out.below hW_)
 replace HB := Aside0.mk (HB.out.trans (hW_.mono HB.out.size))
 clear hb hW_
 go_wp2
 go_ret
 exact ⟨rfl, HB.out⟩
set_option maxHeartbeats 8000000 in
set_option maxRecDepth 100000 in
theorem lw_FnExactTracesPut_e0 (A0 : Option Addr) (c0 : Nat) (l0 : List (S81)) (a1_0 : Int) (A1_1 : Option Addr) (c1_1 : Nat) (l1_1 : List (S165)) (a1_2 : Int) (w : World) (hr0 : Kd.C k81 w A0 l0.length l0) (hc0 : l0.length ≤ c0) (hr1_1 : Kd.C k165 w A1_1 l1_1.length l1_1) (hc1_1 : l1_1.length ≤ c1_1)  (r1 : Int) (K1 : Nat) (H1 : laws_szTraceS.f K1 l0 1048576 = some r1) (hx_1 : r1 < 0) :
   Calls Try.prog 12 #[.slice A0 l0.length c0, .agg #[.int .i64 a1_0, .slice A1_1 l1_1.length c1_1, .int .i64 a1_2]] w fun e w' => e = .returned (.bool true) ∧ Below w.heap.size w w' := by
 have hu81 := Try.underlying81
 have hu87 := Try.underlying87
 have HR0 := Aside0.mk hr0
 have HC0 := Aside0.mk hc0
 clear hr0 hc0
 have HR1_1 := Aside0.mk hr1_1
 have HC1_1 := Aside0.mk hc1_1
 clear hr1_1 hc1_1
 have G1 := Aside0.mk H1
 clear H1
 have HX1 := Aside0.mk hx_1
 have hd_1 : decide (r1 < 0) = true := decide_eq_true (by omega)
 clear hx_1
 have HB := Aside0.mk (Below.refl w.heap.size w)
 go_enter Try.func12, Try.ntmps12
 have CK := Aside0.mk (laws_szTraceS.calls K1 A0 c0 l0 1048576 r1 (w.alloc (.cells #[.int .i64 a1_0, .slice A1_1 l1_1.length c1_1, .int .i64 a1_2] 81)) (Kd.C_below HR0.out (below_alloc HB.out _)) HC0.out G1.out)
 go_wp2_with fail
 with_reducible refine CK.out.mono ?_
 rintro e w1 ⟨rfl, hb0⟩
 have hb := hb0
 clear CK hb0
 have hW_ : Below w.heap.size w w1 := (below_alloc (Below.refl w.heap.size w) _).trans (hb.mono (below_alloc (Below.refl w.heap.size w) _).size)
 have SZ1 := Aside0.mk (Nat.le_trans (Nat.succ_le_of_lt (blk_lt (show (w.alloc (.cells #[.int .i64 a1_0, .slice A1_1 l1_1.length c1_1, .int .i64 a1_2] 81)).heap[w.heap.size]? = some (.cells #[.int .i64 a1_0, .slice A1_1 l1_1.length c1_1, .int .i64 a1_2] 81 (0, 0)) from by have h_ := heap_alloc_new w (.cells #[.int .i64 a1_0, .slice A1_1 l1_1.length c1_1, .int .i64 a1_2] 81); simpa using h_)) : w.heap.size + 1 ≤ (w.alloc (.cells #[.int .i64 a1_0, .slice A1_1 l1_1.length c1_1, .int .i64 a1_2] 81)).heap.size) hb.size)
 have SS1 := SZ1
 clear SZ1
 have BX0 := Aside0.mk ((hb.block _ (blk_lt (show (w.alloc (.cells #[.int .i64 a1_0, .slice A1_1 l1_1.length c1_1, .int .i64 a1_2] 81)).heap[w.heap.size]? = some (.cells #[.int .i64 a1_0, .slice A1_1 l1_1.length c1_1, .int .i64 a1_2] 81 (0, 0)) from by have h_ := heap_alloc_new w (.cells #[.int .i64 a1_0, .slice A1_1 l1_1.length c1_1, .int .i64 a1_2] 81); simpa using h_))).trans (show (w.alloc (.cells #[.int .i64 a1_0, .slice A1_1 l1_1.length c1_1, .int .i64 a1_2] 81)).heap[w.heap.size]? = some (.cells #[.int .i64 a1_0, .slice A1_1 l1_1.length c1_1, .int .i64 a1_2] 81 (0, 0)) from by have h_ := heap_alloc_new w (.cells #[.int .i64 a1_0, .slice A1_1 l1_1.length c1_1, .int .i64 a1_2] 81); simpa using h_))
 replace HB := Aside0.mk (HB.out.trans (hW_.mono HB.out.size))
 clear hb hW_
 go_wp2
 go_ret
 exact ⟨rfl, HB.out⟩
set_option maxHeartbeats 8000000 in
set_option maxRecDepth 100000 in
theorem lw_FnExactTracesPut_e1 (A0 : Option Addr) (c0 : Nat) (l0 : List (S81)) (a1_0 : Int) (A1_1 : Option Addr) (c1_1 : Nat) (l1_1 : List (S165)) (a1_2 : Int) (w : World) (hr0 : Kd.C k81 w A0 l0.length l0) (hc0 : l0.length ≤ c0) (hr1_1 : Kd.C k165 w A1_1 l1_1.length l1_1) (hc1_1 : l1_1.length ≤ c1_1)  (r1 : Int) (r2 : Int) (K1 : Nat) (H1 : laws_szTraceS.f K1 l0 1048576 = some r1) (H2 : laws_szTrace.f a1_0 l1_1 a1_2 r1 = some r2) (hx_1 : 0 ≤ r1) (hx_2 : r2 < 0) :
   Calls Try.prog 12 #[.slice A0 l0.length c0, .agg #[.int .i64 a1_0, .slice A1_1 l1_1.length c1_1, .int .i64 a1_2]] w fun e w' => e = .returned (.bool true) ∧ Below w.heap.size w w' := by
 have hu81 := Try.underlying81
 have hu87 := Try.underlying87
 have HR0 := Aside0.mk hr0
 have HC0 := Aside0.mk hc0
 clear hr0 hc0
 have HR1_1 := Aside0.mk hr1_1
 have HC1_1 := Aside0.mk hc1_1
 clear hr1_1 hc1_1
 have G1 := Aside0.mk H1
 clear H1
 have G2 := Aside0.mk H2
 clear H2
 have HX1 := Aside0.mk hx_1
 have HX2 := Aside0.mk hx_2
 have hd_1 : decide (r1 < 0) = false := decide_eq_false (by omega)
 have hd_2 : decide (r2 < 0) = true := decide_eq_true (by omega)
 clear hx_1 hx_2
 have HB := Aside0.mk (Below.refl w.heap.size w)
 go_enter Try.func12, Try.ntmps12
 have CK := Aside0.mk (laws_szTraceS.calls K1 A0 c0 l0 1048576 r1 (w.alloc (.cells #[.int .i64 a1_0, .slice A1_1 l1_1.length c1_1, .int .i64 a1_2] 81)) (Kd.C_below HR0.out (below_alloc HB.out _)) HC0.out G1.out)
 go_wp2_with fail
 with_reducible refine CK.out.mono ?_
 rintro e w1 ⟨rfl, hb0⟩
 have hb := hb0
 clear CK hb0
 have hW_ : Below w.heap.size w w1 := (below_alloc (Below.refl w.heap.size w) _).trans (hb.mono (below_alloc (Below.refl w.heap.size w) _).size)
 have SZ1 := Aside0.mk (Nat.le_trans (Nat.succ_le_of_lt (blk_lt (show (w.alloc (.cells #[.int .i64 a1_0, .slice A1_1 l1_1.length c1_1, .int .i64 a1_2] 81)).heap[w.heap.size]? = some (.cells #[.int .i64 a1_0, .slice A1_1 l1_1.length c1_1, .int .i64 a1_2] 81 (0, 0)) from by have h_ := heap_alloc_new w (.cells #[.int .i64 a1_0, .slice A1_1 l1_1.length c1_1, .int .i64 a1_2] 81); simpa using h_)) : w.heap.size + 1 ≤ (w.alloc (.cells #[.int .i64 a1_0, .slice A1_1 l1_1.length c1_1, .int .i64 a1_2] 81)).heap.size) hb.size)
 have SS1 := SZ1
 clear SZ1
 have BX0 := Aside0.mk ((hb.block _ (blk_lt (show (w.alloc (.cells #[.int .i64 a1_0, .slice A1_1 l1_1.length c1_1, .int .i64 a1_2] 81)).heap[w.heap.size]? = some (.cells #[.int .i64 a1_0, .slice A1_1 l1_1.length c1_1, .int .i64 a1_2] 81 (0, 0)) from by have h_ := heap_alloc_new w (.cells #[.int .i64 a1_0, .slice A1_1 l1_1.length c1_1, .int .i64 a1_2] 81); simpa using h_))).trans (show (w.alloc (.cells #[.int .i64 a1_0, .slice A1_1 l1_1.length c1_1, .int .i64 a1_2] 81)).heap[w.heap.size]? = some (.cells #[.int .i64 a1_0, .slice A1_1 l1_1.length c1_1, .int .i64 a1_2] 81 (0, 0)) from by have h_ := heap_alloc_new w (.cells #[.int .i64 a1_0, .slice A1_1 l1_1.length c1_1, .int .i64 a1_2] 81); simpa using h_))
 replace HB := Aside0.mk (HB.out.trans (hW_.mono HB.out.size))
 clear hb hW_
 have hx2 : w1.cell? ⟨w.heap.size, 0, none⟩ = some (.int .i64 a1_0) := (blk_cell BX0.out 0).trans rfl
 have hx3 : w1.cell? ⟨w.heap.size, 1, none⟩ = some (.slice A1_1 l1_1.length c1_1) := (blk_cell BX0.out 1).trans rfl
 have hx4 : w1.cell? ⟨w.heap.size, 2, none⟩ = some (.int .i64 a1_2) := (blk_cell BX0.out 2).trans rfl
 have CK := Aside0.mk (laws_szTrace.calls a1_0 A1_1 c1_1 l1_1 a1_2 r1 r2 w1 (Kd.C_below HR1_1.out HB.out) HC1_1.out G2.out)
 go_wp2_with fail
 with_reducible refine CK.out.mono ?_
 rintro e w5 ⟨rfl, hb0⟩
 have hb := hb0
 clear CK hb0
 clear hx2 hx3 hx4
 have hW_ := hb
 have SZ2 := Aside0.mk hb.size
 have SS2 := Aside0.mk (And.intro SZ2.out SS1.out)
 clear SS1
 clear SZ2
 replace BX0 := Aside0.mk ((hb.block _ (blk_lt BX0.out)).trans BX0.out)
 replace HB := Aside0.mk (HB.out.trans (hW_.mono HB.out.size))
 clear hb hW_
 go_wp2
 go_ret
 exact ⟨rfl, HB.out⟩
end Go.Proofs.Ytgbjbpjmbghlbaa.G
end
section
namespace Go.Proofs.Ytgbjbpjmbghlbaa.G
open Go.RowKit Go.Proofs.YtgbjbpjmbghlbaaW.PrintWords
set_option linter.unusedVariables false
set_option linter.unusedSimpArgs false
abbrev Trc := S87
theorem rd_fk (l : List Fk) (i : Nat) (h : i < l.length) : rd_T117 l (i : Int) = l[i] := by
  simp only [rd_T117, Int.toNat_natCast, List.getD_eq_getElem?_getD, List.getElem?_eq_getElem h, Option.getD_some]
theorem rd_trc (l : List Trc) (i : Nat) (h : i < l.length) : rd_T87 l (i : Int) = l[i] := by
  simp only [rd_T87, Int.toNat_natCast, List.getD_eq_getElem?_getD, List.getElem?_eq_getElem h, Option.getD_some]
def fkOk (f : Fk) : Bool := decide (0 ≤ f.f0 ∧ f.f0 < 10) && decide (0 ≤ f.f1 ∧ f.f1 ≤ 96)
def trOk (t : Trc) : Bool := ((decide (0 ≤ t.f0 ∧ t.f0 < 10) && decide (0 ≤ t.f2 ∧ t.f2 ≤ 96)) && decide ((onceL t.f1).length = t.f1.length)) && t.f1.all fkOk
theorem onceF_nodup (out : List Fk) (f : Fk) (h : (out.map (·.f0)).Nodup) : ((onceF out f).map (·.f0)).Nodup := by
  unfold onceF
  split
  · exact h
  · rename_i hn
    rw [List.map_append, List.map_singleton, List.nodup_append]
    refine ⟨h, by simp, ?_⟩
    intro a ha b hb
    have hb' : b = f.f0 := by simpa using hb
    subst hb'
    rintro rfl
    apply hn
    obtain ⟨g, hg, he⟩ := List.mem_map.1 ha
    exact List.any_eq_true.2 ⟨g, hg, by simp [he]⟩
theorem onceF_mem (out : List Fk) (f g : Fk) (h : g ∈ onceF out f) : g ∈ out ∨ g = f := by
  unfold onceF at h
  split at h
  · exact .inl h
  · simpa using h
theorem fold_once (l : List Fk) : ∀ out : List Fk, (out.map (·.f0)).Nodup → ((l.foldl onceF out).map (·.f0)).Nodup ∧ ∀ g ∈ l.foldl onceF out, g ∈ out ∨ g ∈ l := by
  induction l with
  | nil => intro out h; exact ⟨h, fun g hg => .inl hg⟩
  | cons f l ih =>
    intro out h
    obtain ⟨h1, h2⟩ := ih (onceF out f) (onceF_nodup out f h)
    refine ⟨h1, fun g hg => ?_⟩
    rcases h2 g hg with h3 | h3
    · rcases onceF_mem out f g h3 with h4 | h4
      · exact .inl h4
      · exact .inr (by simp [h4])
    · exact .inr (by simp [h3])
theorem onceL_nodup (l : List Fk) : ((onceL l).map (·.f0)).Nodup := (fold_once l [] (by simp)).1
theorem onceL_mem (l : List Fk) : ∀ g ∈ onceL l, g ∈ l := by
  intro g hg
  rcases (fold_once l [] (by simp)).2 g hg with h | h
  · cases h
  · exact h
theorem few_keys : ∀ (n : Nat) (l : List Int), l.Nodup → (∀ x ∈ l, 0 ≤ x ∧ x < (n : Int)) → l.length ≤ n := by
  intro n
  induction n with
  | zero =>
    intro l _ h
    cases l with
    | nil => simp
    | cons x xs => have := h x (by simp); omega
  | succ n ih =>
    intro l hn h
    by_cases hm : (n : Int) ∈ l
    · have h1 := List.length_erase_of_mem hm
      have h2 : ∀ x ∈ l.erase (n : Int), 0 ≤ x ∧ x < (n : Int) := by
        intro x hx
        have h3 := (List.Nodup.mem_erase_iff hn).1 hx
        have h4 := h x h3.2
        have h5 := h3.1
        omega
      have h6 := ih _ (hn.erase (n : Int)) h2
      have h7 : 0 < l.length := List.length_pos_of_mem hm
      omega
    · have h2 : ∀ x ∈ l, 0 ≤ x ∧ x < (n : Int) := by
        intro x hx
        have h4 := h x hx
        have h5 : x ≠ (n : Int) := fun e => hm (e ▸ hx)
        omega
      have := ih l hn h2
      omega
theorem trOk_len {t : Trc} (h : trOk t = true) : t.f1.length ≤ 10 := by
  simp only [trOk, Bool.and_eq_true, decide_eq_true_eq] at h
  have h1 := few_keys 10 ((onceL t.f1).map (·.f0)) (onceL_nodup t.f1) (fun x hx => by
    obtain ⟨g, hg, rfl⟩ := List.mem_map.1 hx
    have h2 := List.all_eq_true.1 h.2 g (onceL_mem t.f1 g hg)
    simp only [fkOk, Bool.and_eq_true, decide_eq_true_eq] at h2
    exact h2.1)
  rw [List.length_map] at h1
  omega
theorem implFk_ev (a b : Int) : impl_Trace_ok_1.f a b = some (!fkOk ⟨a, b⟩) := by
  unfold impl_Trace_ok_1.f fkOk
  simp only [isKey_ev, isValue_ev, Option.bind_some]
  by_cases h : 0 ≤ a ∧ a < 10
  · simp [h]
  · simp [h]
theorem implFks_ev (l : List Fk) : impl_Trace_ok_1_any.f l = some (!(l.all fkOk)) := by
  unfold impl_Trace_ok_1_any.f
  rw [if_pos (fun x _ => by rw [implFk_ev]; rfl)]
  congr 1
  rw [List.all_eq_not_any_not, Bool.not_not]
  congr 1
  funext x
  rw [implFk_ev]
  rfl
theorem implTr_ev (t : Trc) (h : t.f1.length < 8796093022208) : impl_Trace_ok.f t.f0 t.f1 t.f2 = some (trOk t) := by
  unfold impl_Trace_ok.f trOk
  simp only [isKey_ev, isValue_ev, Option.bind_some, impl_once.f, if_pos h, implFks_ev, Bool.not_not]
  have e : ((onceL t.f1).length : Int) = (t.f1.length : Int) ↔ (onceL t.f1).length = t.f1.length := by omega
  simp only [e]
  by_cases h1 : 0 ≤ t.f0 ∧ t.f0 < 10
  · by_cases h2 : 0 ≤ t.f2 ∧ t.f2 ≤ 96
    · by_cases h3 : (onceL t.f1).length = t.f1.length
      · simp [h1, h2, h3]
      · simp [h1, h2, h3]
    · simp [h1, h2]
  · simp [h1]
def trsOk (l : List Trc) : Bool := decide (l.length ≤ 60) && l.all trOk
theorem implTrs_ev (l : List Trc) (h : ∀ t ∈ l, t.f1.length < 8796093022208) : impl_TracesOk.f l = some (trsOk l) := by
  have h1 : ∀ t ∈ l, impl_TracesOk_1.f t.f0 t.f1 t.f2 = some (!trOk t) := by
    intro t ht
    unfold impl_TracesOk_1.f
    rw [implTr_ev t (h t ht), Option.bind_some]
  have h2 : impl_TracesOk_1_any.f l = some (!(l.all trOk)) := by
    unfold impl_TracesOk_1_any.f
    rw [if_pos (fun x hx => by rw [h1 x hx]; rfl)]
    congr 1
    rw [List.all_eq_not_any_not, Bool.not_not]
    clear h
    induction l with
    | nil => rfl
    | cons t l ih =>
      simp only [List.any_cons]
      rw [h1 t (by simp), ih (fun x hx => h1 x (by simp [hx]))]
      rfl
  unfold impl_TracesOk.f trsOk
  by_cases hl : l.length ≤ 60
  · rw [if_pos (by omega), h2]
    simp [hl]
  · rw [if_neg (by omega)]
    simp [hl]
theorem l5Once_inner (l out : List Fk) (i : Nat) (hi : i < l.length) (hol : out.length ≤ 4000000000) (rest : Ev (fun k => spec_l5Once.l0 k l (onceF out l[i]) (wrap64 ((i : Int) + 1))) (onceL l)) :
    ∀ (d j : Nat) (b : Bool), d = out.length - j → j ≤ out.length → (b || (out.drop j).any fun g => g.f0 == l[i].f0) = (out.any fun g => g.f0 == l[i].f0) → Ev (fun k => spec_l5Once.l1 k l out (i : Int) b (j : Int)) (onceL l) := by
  intro d
  induction d with
  | zero =>
    intro j b hd hj hb
    have e : j = out.length := by omega
    subst e
    rw [List.drop_length, List.any_nil, Bool.or_false] at hb
    refine Ev.step (fun k => by rw [spec_l5Once.l1]) ?_
    simp only [if_neg (show ¬ ((out.length : Int) < (out.length : Int)) by omega)]
    unfold onceF at rest
    cases b with
    | true =>
      rw [if_pos hb.symm] at rest
      simp only [if_true]
      exact rest
    | false =>
      rw [if_neg (by rw [← hb]; decide)] at rest
      simp only [Bool.false_eq_true, if_false, if_pos (show (0 : Int) ≤ (i : Int) by omega), if_pos (show (i : Int) < (l.length : Int) by omega), if_pos (show out.length < 8796093022208 by omega), rd_fk l i hi]
      exact rest
  | succ d ihd =>
    intro j b hd hj hb
    have hlt : j < out.length := by omega
    refine Ev.step (fun k => by rw [spec_l5Once.l1]) ?_
    rw [drop_tk out j hlt, List.any_cons] at hb
    simp only [if_pos (show (j : Int) < (out.length : Int) by omega), wrap_nat j (by omega)]
    cases b with
    | true =>
      simp only [if_true]
      exact ihd (j + 1) true (by omega) (by omega) (by rw [← hb]; simp)
    | false =>
      simp only [Bool.false_eq_true, if_false, if_pos (show (0 : Int) ≤ (j : Int) by omega), if_pos (show (0 : Int) ≤ (i : Int) by omega), if_pos (show (i : Int) < (l.length : Int) by omega), rd_fk l i hi, rd_fk out j hlt]
      exact ihd (j + 1) _ (by omega) (by omega) (by rw [← hb, Bool.false_or])
theorem l5Once_loop (l : List Fk) (hl : l.length ≤ 4000000000) : ∀ (d i : Nat), d = l.length - i → i ≤ l.length → Ev (fun k => spec_l5Once.l0 k l ((l.take i).foldl onceF []) (i : Int)) (onceL l) := by
  intro d
  induction d with
  | zero =>
    intro i hd hi
    have e : i = l.length := by omega
    subst e
    refine Ev.step (fun k => by rw [spec_l5Once.l0]) ?_
    simp only [if_neg (show ¬ ((l.length : Int) < (l.length : Int)) by omega), List.take_length]
    exact Ev.now _
  | succ d ihd =>
    intro i hd hi
    have hlt : i < l.length := by omega
    refine Ev.step (fun k => by rw [spec_l5Once.l0]) ?_
    simp only [if_pos (show (i : Int) < (l.length : Int) by omega)]
    have h := ihd (i + 1) (by omega) (by omega)
    rw [onceL_take l i hlt] at h
    have hol := onceL_len l i (by omega)
    refine l5Once_inner l _ i hlt (by omega) (by rw [wrap_nat i (by omega)]; exact h) _ 0 false rfl (by omega) ?_
    rw [List.drop_zero, Bool.false_or]
theorem l5Once_ev (l : List Fk) (hl : l.length ≤ 4000000000) : Ev (fun k => spec_l5Once.f k l) (onceL l) := by
  unfold spec_l5Once.f
  exact l5Once_loop l hl l.length 0 (by omega) (by omega)
theorem l5One_loop (t : Trc) (hl : t.f1.length ≤ 10) : ∀ (d i : Nat), d = t.f1.length - i → i ≤ t.f1.length → Ev (fun k => spec_l5One.l0 k (i : Int) t.f0 t.f1 t.f2) ((t.f1.drop i).all fkOk && decide ((onceL t.f1).length = t.f1.length)) := by
  intro d
  induction d with
  | zero =>
    intro i hd hi
    have e : i = t.f1.length := by omega
    subst e
    refine Ev.step (fun k => by rw [spec_l5One.l0]) ?_
    simp only [if_neg (show ¬ ((t.f1.length : Int) < (t.f1.length : Int)) by omega), List.drop_length, List.all_nil, Bool.true_and]
    refine Ev.bind (l5Once_ev t.f1 (by omega)) ?_
    refine Ev.of_eq ?_
    congr 1
    rw [Bool.eq_iff_iff]
    simp only [beq_iff_eq, decide_eq_true_eq]
    omega
  | succ d ihd =>
    intro i hd hi
    have hlt : i < t.f1.length := by omega
    refine Ev.step (fun k => by rw [spec_l5One.l0]) ?_
    rw [drop_tk t.f1 i hlt, List.all_cons]
    simp only [if_pos (show (i : Int) < (t.f1.length : Int) by omega), if_pos (show (0 : Int) ≤ (i : Int) by omega), rd_fk t.f1 i hlt, l6In_ev, Option.bind_some, wrap_nat i (by omega)]
    have e9 : (0 ≤ t.f1[i].f0 ∧ t.f1[i].f0 ≤ 9) ↔ (0 ≤ t.f1[i].f0 ∧ t.f1[i].f0 < 10) := by omega
    simp only [fkOk, decide_eq_true_eq, e9]
    by_cases h1 : 0 ≤ t.f1[i].f0 ∧ t.f1[i].f0 < 10
    · by_cases h2 : 0 ≤ t.f1[i].f1 ∧ t.f1[i].f1 ≤ 96
      · simp only [if_pos h1, if_pos h2, decide_eq_true h1, decide_eq_true h2, Bool.true_and]
        exact ihd (i + 1) (by omega) (by omega)
      · simp only [if_pos h1, if_neg h2, decide_eq_true h1, decide_eq_false h2, Bool.and_false, Bool.false_and]
        exact Ev.now false
    · simp only [if_neg h1, decide_eq_false h1, Bool.false_and]
      exact Ev.now false
theorem l5One_ev (t : Trc) : Ev (fun k => spec_l5One.f k t.f0 t.f1 t.f2) (trOk t) := by
  unfold spec_l5One.f
  have bad : Ev (fun k => spec_l5One.j0 k true t.f0 t.f1 t.f2) false := by
    refine Ev.step (fun k => by rw [spec_l5One.j0]) ?_
    simp only [if_true]
    exact Ev.now false
  by_cases hl : t.f1.length ≤ 10
  · simp only [if_neg (show ¬ ((t.f1.length : Int) > 10) by omega), l6In_ev, Option.bind_some]
    have e9 : (0 ≤ t.f0 ∧ t.f0 ≤ 9) ↔ (0 ≤ t.f0 ∧ t.f0 < 10) := by omega
    simp only [decide_eq_true_eq, e9]
    by_cases h1 : 0 ≤ t.f0 ∧ t.f0 < 10
    · simp only [if_pos h1]
      refine Ev.step (fun k => by rw [spec_l5One.j0]) ?_
      by_cases h2 : 0 ≤ t.f2 ∧ t.f2 ≤ 96
      · simp only [decide_eq_true h2, Bool.not_true, Bool.false_eq_true, if_false]
        refine Ev.eq (l5One_loop t hl t.f1.length 0 (by omega) (by omega)) ?_
        rw [List.drop_zero, trOk, decide_eq_true h1, decide_eq_true h2, Bool.and_comm]
        simp
      · simp only [decide_eq_false h2, Bool.not_false, if_true]
        exact Ev.eq (Ev.now false) (by rw [trOk, decide_eq_false h2]; simp)
    · simp only [if_neg h1]
      exact Ev.eq bad (by rw [trOk, decide_eq_false h1]; simp)
  · simp only [if_pos (show ((t.f1.length : Int) > 10) by omega)]
    refine Ev.eq bad ?_
    cases h : trOk t with
    | false => rfl
    | true => exact absurd (trOk_len h) hl
theorem specTrs_loop (l : List Trc) (hl : l.length ≤ 60) : ∀ (d i : Nat), d = l.length - i → i ≤ l.length → Ev (fun k => spec_TracesOk.l0 k l (i : Int)) ((l.drop i).all trOk) := by
  intro d
  induction d with
  | zero =>
    intro i hd hi
    have e : i = l.length := by omega
    subst e
    refine Ev.step (fun k => by rw [spec_TracesOk.l0]) ?_
    simp only [if_neg (show ¬ ((l.length : Int) < (l.length : Int)) by omega), List.drop_length, List.all_nil]
    exact Ev.now true
  | succ d ihd =>
    intro i hd hi
    have hlt : i < l.length := by omega
    refine Ev.step (fun k => by rw [spec_TracesOk.l0]) ?_
    rw [drop_tk l i hlt, List.all_cons]
    simp only [if_pos (show (i : Int) < (l.length : Int) by omega), if_pos (show (0 : Int) ≤ (i : Int) by omega), rd_trc l i hlt]
    refine Ev.bind (l5One_ev _) ?_
    cases h : trOk l[i] with
    | true =>
      simp only [if_true, Bool.true_and, wrap_nat i (by omega)]
      exact ihd (i + 1) (by omega) (by omega)
    | false =>
      simp only [Bool.false_eq_true, if_false, Bool.false_and]
      exact Ev.now false
theorem specTrs_ev (l : List Trc) : Ev (fun k => spec_TracesOk.f k l) (trsOk l) := by
  unfold spec_TracesOk.f trsOk
  by_cases hl : l.length ≤ 60
  · simp only [if_neg (show ¬ ((l.length : Int) > 60) by omega), decide_eq_true hl, Bool.true_and]
    exact specTrs_loop l hl l.length 0 (by omega) (by omega)
  · simp only [if_pos (show ((l.length : Int) > 60) by omega), decide_eq_false hl, Bool.false_and]
    exact Ev.now false
end Go.Proofs.Ytgbjbpjmbghlbaa.G
end
section
namespace Go.Proofs.Ytgbjbpjmbghlbaa.G
open Go.RowKit Go.Proofs.YtgbjbpjmbghlbaaW.PrintWords
set_option linter.unusedVariables false
set_option linter.unusedSimpArgs false
abbrev Lf := S165
abbrev Ltr := S81
theorem rd_lf (l : List Lf) (i : Nat) (h : i < l.length) : rd_T165 l (i : Int) = l[i] := by
  simp only [rd_T165, Int.toNat_natCast, List.getD_eq_getElem?_getD, List.getElem?_eq_getElem h, Option.getD_some]
theorem rd_ltr (l : List Ltr) (i : Nat) (h : i < l.length) : rd_T81 l (i : Int) = l[i] := by
  simp only [rd_T81, Int.toNat_natCast, List.getD_eq_getElem?_getD, List.getElem?_eq_getElem h, Option.getD_some]
def cvF (f : Lf) : Fk := ⟨f.f0, f.f1⟩
def cvTr (t : Ltr) : Trc := ⟨t.f0, t.f1.map cvF, t.f2⟩
def szTrs (l : List Ltr) : Nat := l.length + sumL (fun t => t.f1.length) l
theorem szFs_ev (l : List Lf) (hl : l.length ≤ 9223372036854775807) (left : Int) (h0 : 0 ≤ left) (h1 : left ≤ 1048576) : laws_szFetchS.f l left = some (leftOf l.length left) := by
  unfold laws_szFetchS.f
  simp only [wrap_id (left - (l.length : Int)) (by omega) (by omega)]
  by_cases hc : left - (l.length : Int) < 0
  · simp only [if_pos hc]; rw [leftOf_no (by omega)]
  · simp only [if_neg hc]; rw [leftOf_yes (by omega)]
theorem szTr_ev (t : Ltr) (hl : t.f1.length ≤ 9223372036854775807) (left : Int) (h0 : 0 ≤ left) (h1 : left ≤ 1048576) : laws_szTrace.f t.f0 t.f1 t.f2 left = some (leftOf t.f1.length left) := by
  unfold laws_szTrace.f
  rw [szFs_ev t.f1 hl left h0 h1, Option.bind_some]
  by_cases hc : leftOf t.f1.length left < 0
  · rw [if_pos hc, leftOf_no ((leftOf_neg h0).1 hc)]
  · rw [if_neg hc]
theorem szTrs_ev (l : List Ltr) (hl : l.length ≤ 9223372036854775807) (hb : ∀ t ∈ l, t.f1.length ≤ 9223372036854775807) (left : Int) (h0 : 0 ≤ left) (h1 : left ≤ 1048576) :
    Ev (fun k => laws_szTraceS.f k l left) (leftOf (szTrs l) left) := by
  unfold laws_szTraceS.f
  simp only [wrap_id (left - (l.length : Int)) (by omega) (by omega)]
  by_cases hc : left - (l.length : Int) < 0
  · simp only [if_pos hc]
    exact Ev.eq (Ev.now (-1)) (leftOf_no (by unfold szTrs; omega)).symm
  · simp only [if_neg hc]
    have h := szLoop l (fun k lf i => laws_szTraceS.l0 k l lf i) (fun _ t lf => laws_szTrace.f t.f0 t.f1 t.f2 lf) (fun t => t.f1.length)
      (fun k lf => by simp only [laws_szTraceS.l0, if_neg (show ¬ ((l.length : Int) < (l.length : Int)) by omega)])
      (fun k lf i hi => by simp only [laws_szTraceS.l0, if_pos (show (i : Int) < (l.length : Int) by omega), if_pos (show (0 : Int) ≤ (i : Int) by omega), rd_ltr l i hi, wrap_nat i (by omega)])
      (fun t ht lf g0 g1 => Ev.of_eq (szTr_ev t (hb t ht) lf g0 g1))
      l.length 0 (left - l.length) (by omega) (by omega) (by omega) (by omega)
    refine Ev.eq h ?_
    rw [List.drop_zero]
    exact leftOf_add (by omega)
theorem toFs_ev (l : List Lf) (hl : l.length ≤ 1048576) : Ev (fun k => laws_toFetchS.f k l) (l.map cvF) := by
  unfold laws_toFetchS.f
  simp only [if_pos (show (0 : Int) ≤ (l.length : Int) by omega), Int.toNat_natCast, if_pos (show l.length ≤ 17592186044416 by omega)]
  refine toLoop l (fun k out i => laws_toFetchS.l0 k l out i) (fun _ f => laws_toFetch.f f.f0 f.f1) (fun c => (⟨c.1, c.2⟩ : Fk)) cvF z117
    (fun k out => by simp only [laws_toFetchS.l0, if_neg (show ¬ ((l.length : Int) < (l.length : Int)) by omega)])
    (fun k out i hi ho => by simp only [laws_toFetchS.l0, ho, if_pos (show (i : Int) < (l.length : Int) by omega), if_pos (show (0 : Int) ≤ (i : Int) by omega), rd_lf l i hi, wrap_nat i (by omega), Int.toNat_natCast])
    (fun f hf => ⟨(f.f0, f.f1), Ev.of_eq rfl, rfl⟩)
theorem toTr_ev (t : Ltr) (hl : t.f1.length ≤ 1048576) : Ev (fun k => laws_toTrace.f k t.f0 t.f1 t.f2) (t.f0, t.f1.map cvF, t.f2) := by
  unfold laws_toTrace.f
  exact Ev.bind (toFs_ev t.f1 hl) (Ev.now _)
theorem toTrs_ev (l : List Ltr) (hl : szTrs l ≤ 1048576) : Ev (fun k => laws_toTraceS.f k l) (l.map cvTr) := by
  unfold szTrs at hl
  unfold laws_toTraceS.f
  simp only [if_pos (show (0 : Int) ≤ (l.length : Int) by omega), Int.toNat_natCast, if_pos (show l.length ≤ 7036874417766 by omega)]
  refine toLoop l (fun k out i => laws_toTraceS.l0 k l out i) (fun k t => laws_toTrace.f k t.f0 t.f1 t.f2) (fun c => (⟨c.1, c.2.1, c.2.2⟩ : Trc)) cvTr z87
    (fun k out => by simp only [laws_toTraceS.l0, if_neg (show ¬ ((l.length : Int) < (l.length : Int)) by omega)])
    (fun k out i hi ho => by simp only [laws_toTraceS.l0, ho, if_pos (show (i : Int) < (l.length : Int) by omega), if_pos (show (0 : Int) ≤ (i : Int) by omega), rd_ltr l i hi, wrap_nat i (by omega), Int.toNat_natCast])
    (fun t ht => ⟨_, toTr_ev t (by have := sumL_mem (fun t : Ltr => t.f1.length) t ht; (try dsimp only at this); omega), rfl⟩)
theorem eqFs_ev (l : List Fk) (hl : l.length ≤ 4000000000) : Ev (fun k => laws_eqFetchS.f k l l) true := by
  unfold laws_eqFetchS.f
  simp only [if_true]
  exact eqLoop l (fun k i => laws_eqFetchS.l0 k l l i) (fun _ f => laws_eqFetch.f f.f0 f.f1 f.f0 f.f1)
    (fun k => by simp only [laws_eqFetchS.l0, if_neg (show ¬ ((l.length : Int) < (l.length : Int)) by omega)])
    (fun k i hi => by simp only [laws_eqFetchS.l0, if_pos (show (i : Int) < (l.length : Int) by omega), if_pos (show (0 : Int) ≤ (i : Int) by omega), rd_fk l i hi, wrap_nat i (by omega)])
    (fun f hf => Ev.of_eq (by simp [laws_eqFetch.f]))
theorem eqTr_ev (t : Trc) (hl : t.f1.length ≤ 4000000000) : Ev (fun k => laws_eqTrace.f k t.f0 t.f1 t.f2 t.f0 t.f1 t.f2) true := by
  unfold laws_eqTrace.f
  simp only [if_true]
  refine Ev.bind (eqFs_ev t.f1 hl) ?_
  simp only [if_true]
  exact Ev.now true
theorem eqTrs_ev (l : List Trc) (hl : l.length ≤ 4000000000) (hb : ∀ t ∈ l, t.f1.length ≤ 4000000000) : Ev (fun k => laws_eqTraceS.f k l l) true := by
  unfold laws_eqTraceS.f
  simp only [if_true]
  exact eqLoop l (fun k i => laws_eqTraceS.l0 k l l i) (fun k t => laws_eqTrace.f k t.f0 t.f1 t.f2 t.f0 t.f1 t.f2)
    (fun k => by simp only [laws_eqTraceS.l0, if_neg (show ¬ ((l.length : Int) < (l.length : Int)) by omega)])
    (fun k i hi => by simp only [laws_eqTraceS.l0, if_pos (show (i : Int) < (l.length : Int) by omega), if_pos (show (0 : Int) ≤ (i : Int) by omega), rd_trc l i hi, wrap_nat i (by omega)])
    (fun t ht => eqTr_ev t (hb t ht))
theorem cvTrs_len {l : List Ltr} (hl : szTrs l ≤ 1048576) : ∀ t ∈ l.map cvTr, t.f1.length ≤ 1048576 := by
  intro t ht
  obtain ⟨u, hu, rfl⟩ := List.mem_map.1 ht
  have := sumL_mem (fun t : Ltr => t.f1.length) u hu
  (try dsimp only at this)
  unfold szTrs at hl
  simp only [cvTr, List.length_map]
  omega
end Go.Proofs.Ytgbjbpjmbghlbaa.G
end
section
namespace Go.Proofs.Ytgbjbpjmbghlbaa.G
open Go.RowKit Go.Proofs.YtgbjbpjmbghlbaaW.PrintWords
set_option linter.unusedVariables false
set_option linter.unusedSimpArgs false
theorem rd_fkH (l : List Fk) (i : Nat) (h : i < l.length) : rd_T117 l (i : Int) = l[i] := by
  simp only [rd_T117, Int.toNat_natCast, List.getD_eq_getElem?_getD, List.getElem?_eq_getElem h, Option.getD_some]
def eqU : List Fk → List Fk → Bool
  | [], [] => true
  | f :: fs, g :: gs => (f.f0 == g.f0 && f.f1 == g.f1) && eqU fs gs
  | _, _ => false
theorem eqU_len : ∀ {a b : List Fk}, eqU a b = true → a.length = b.length
  | [], [], _ => rfl
  | [], _ :: _, h => by simp [eqU] at h
  | _ :: _, [], h => by simp [eqU] at h
  | f :: fs, g :: gs, h => by
    simp only [eqU, Bool.and_eq_true] at h
    simp only [List.length_cons, eqU_len h.2]
def sameTr (a : Int) (u : List Fk) (b : Int) (c : Int) (v : List Fk) (d : Int) : Bool := (decide (a = c) && decide (b = d)) && eqU u v
theorem ne_or (a b c d : Int) : ((!(a == b)) || (!(c == d))) = !((a == b) && (c == d)) := by cases (a == b) <;> cases (c == d) <;> rfl
theorem equal_loop (u v : List Fk) (hl : u.length ≤ 4000000000) (he : u.length = v.length) : ∀ (d i : Nat), d = u.length - i → i ≤ u.length → Ev (fun k => slices_Equal_Fetch.l0 k u v (u.length : Int) (i : Int)) (eqU (u.drop i) (v.drop i)) := by
  intro d
  induction d with
  | zero =>
    intro i hd hi
    have e : i = u.length := by omega
    refine Ev.step (fun k => by rw [slices_Equal_Fetch.l0]) ?_
    simp only [if_neg (show ¬ ((i : Int) < (u.length : Int)) by omega)]
    refine Ev.eq (Ev.now true) ?_
    rw [List.drop_of_length_le (by omega), List.drop_of_length_le (by omega)]
    rfl
  | succ d ih =>
    intro i hd hi
    have hlt : i < u.length := by omega
    have h := ih (i + 1) (by omega) (by omega)
    refine Ev.step (fun k => by rw [slices_Equal_Fetch.l0]) ?_
    simp only [if_pos (show (i : Int) < (u.length : Int) by omega), if_pos (show (0 : Int) ≤ (i : Int) by omega), if_pos (show (i : Int) < (v.length : Int) by omega), rd_fkH u i hlt, rd_fkH v i (by omega), wrap_nat i (by omega), ne_or]
    rw [List.drop_eq_getElem_cons hlt, List.drop_eq_getElem_cons (show i < v.length by omega), eqU]
    cases hc : ((u[i].f0 == v[i].f0) && (u[i].f1 == v[i].f1)) with
    | true => simp only [Bool.not_true, Bool.false_eq_true, if_false, Bool.true_and]; exact h
    | false => simp only [Bool.not_false, if_true, Bool.false_and]; exact Ev.now _
theorem equal_ev (u v : List Fk) (hl : u.length ≤ 4000000000) : Ev (fun k => slices_Equal_Fetch.f k u v) (eqU u v) := by
  unfold slices_Equal_Fetch.f
  by_cases he : u.length = v.length
  · simp only [if_pos (show (u.length : Int) = (v.length : Int) by omega)]
    have h := equal_loop u v hl he u.length 0 (by omega) (by omega)
    rw [List.drop_zero, List.drop_zero] at h
    exact h
  · simp only [if_neg (show ¬ ((u.length : Int) = (v.length : Int)) by omega)]
    refine Ev.eq (Ev.now _) ?_
    cases h : eqU u v with
    | true => exact absurd (eqU_len h) he
    | false => rfl
theorem implSameTr_ev (a : Int) (u : List Fk) (b : Int) (c : Int) (v : List Fk) (d : Int) (hl : u.length ≤ 4000000000) : Ev (fun k => impl_Trace_same.f k a u b c v d) (sameTr a u b c v d) := by
  unfold impl_Trace_same.f sameTr
  by_cases h1 : a = c
  · simp only [if_pos h1, decide_eq_true h1]
    by_cases h2 : b = d
    · simp only [if_pos h2, decide_eq_true h2, Bool.and_self, Bool.true_and]
      exact Ev.bind (equal_ev u v hl) (Ev.now _)
    · simp only [if_neg h2, decide_eq_false h2, Bool.and_false, Bool.false_and]
      exact Ev.now _
  · simp only [if_neg h1, decide_eq_false h1, Bool.false_and]
    exact Ev.now _
theorem specSame_loop (a : Int) (u : List Fk) (b : Int) (c : Int) (v : List Fk) (d : Int) (hl : u.length ≤ 4000000000) (he : u.length = v.length) : ∀ (m i : Nat), m = u.length - i → i ≤ u.length → Ev (fun k => spec_l5Same.l0 k (i : Int) a u b c v d) (eqU (u.drop i) (v.drop i)) := by
  intro m
  induction m with
  | zero =>
    intro i hd hi
    refine Ev.step (fun k => by rw [spec_l5Same.l0]) ?_
    simp only [if_neg (show ¬ ((i : Int) < (u.length : Int)) by omega)]
    refine Ev.eq (Ev.now true) ?_
    rw [List.drop_of_length_le (by omega), List.drop_of_length_le (by omega)]
    rfl
  | succ m ih =>
    intro i hd hi
    have hlt : i < u.length := by omega
    have h := ih (i + 1) (by omega) (by omega)
    refine Ev.step (fun k => by rw [spec_l5Same.l0]) ?_
    simp only [if_pos (show (i : Int) < (u.length : Int) by omega), if_pos (show (0 : Int) ≤ (i : Int) by omega), if_pos (show (i : Int) < (v.length : Int) by omega), rd_fkH u i hlt, rd_fkH v i (by omega), wrap_nat i (by omega), ne_or]
    rw [List.drop_eq_getElem_cons hlt, List.drop_eq_getElem_cons (show i < v.length by omega), eqU]
    cases hc : ((u[i].f0 == v[i].f0) && (u[i].f1 == v[i].f1)) with
    | true => simp only [Bool.not_true, Bool.false_eq_true, if_false, Bool.true_and]; exact h
    | false => simp only [Bool.not_false, if_true, Bool.false_and]; exact Ev.now _
theorem specSameTr_ev (a : Int) (u : List Fk) (b : Int) (c : Int) (v : List Fk) (d : Int) (hl : u.length ≤ 4000000000) : Ev (fun k => spec_l5Same.f k a u b c v d) (sameTr a u b c v d) := by
  have bad : sameTr a u b c v d = false → Ev (fun k => spec_l5Same.j0 k true a u b c v d) (sameTr a u b c v d) := fun e => by
    refine Ev.step (fun k => by rw [spec_l5Same.j0]) ?_
    simp only [if_true]
    exact Ev.eq (Ev.now _) e.symm
  unfold spec_l5Same.f
  by_cases h1 : a = c
  · simp only [if_pos h1]
    by_cases h2 : b = d
    · simp only [if_pos h2]
      by_cases he : u.length = v.length
      · have e0 : ((u.length : Int) != (v.length : Int)) = false := by simp [he]
        rw [e0]
        refine Ev.step (fun k => by rw [spec_l5Same.j0]) ?_
        simp only [Bool.false_eq_true, if_false]
        have h := specSame_loop a u b c v d hl he u.length 0 (by omega) (by omega)
        rw [List.drop_zero, List.drop_zero] at h
        exact Ev.eq h (by simp [sameTr, h1, h2])
      · have e0 : ((u.length : Int) != (v.length : Int)) = true := by simp; omega
        rw [e0]
        refine bad ?_
        unfold sameTr
        cases h : eqU u v with
        | true => exact absurd (eqU_len h) he
        | false => simp
    · simp only [if_neg h2]
      exact bad (by simp [sameTr, h2])
  · simp only [if_neg h1]
    exact bad (by simp [sameTr, h1])
end Go.Proofs.Ytgbjbpjmbghlbaa.G
end
section
namespace Go.Proofs.Ytgbjbpjmbghlbaa.G
open Go.RowKit Go.Proofs.YtgbjbpjmbghlbaaW.PrintWords Go.Proofs.YtgbjbpjmbghlbaaW.PrintMore
set_option linter.unusedVariables false
set_option linter.unusedSimpArgs false
theorem beqI (a b : Int) : (a == b) = (b == a) := by
  by_cases h : a = b
  · subst h; rfl
  · have h2 : ¬ b = a := fun e => h e.symm
    rw [beq_eq_false_iff_ne.2 h, beq_eq_false_iff_ne.2 h2]
theorem eqU_symm : ∀ a b : List Fk, eqU a b = eqU b a
  | [], [] => rfl
  | [], _ :: _ => rfl
  | _ :: _, [] => rfl
  | f :: fs, g :: gs => by
    show ((f.f0 == g.f0 && f.f1 == g.f1) && eqU fs gs) = ((g.f0 == f.f0 && g.f1 == f.f1) && eqU gs fs)
    rw [eqU_symm fs gs, beqI f.f0, beqI f.f1]
theorem sameTr_symm (a : Int) (u : List Fk) (b : Int) (c : Int) (v : List Fk) (d : Int) : sameTr a u b c v d = sameTr c v d a u b := by
  unfold sameTr
  rw [eqU_symm u v]
  congr 2
  · exact decide_eq_decide.2 eq_comm
  · exact decide_eq_decide.2 eq_comm
def hasTr (l : List Trc) (t : Trc) : Bool := l.any fun x => sameTr x.f0 x.f1 x.f2 t.f0 t.f1 t.f2
def putL (l : List Trc) (t : Trc) : List Trc := if hasTr l t = true then l else (l ++ [t]).drop ((l ++ [t]).length - 60)
def putF (l : List Trc) (t : Trc) : List Trc × Bool := if (trsOk l && trOk t) = true then (putL l t, true) else ([], false)
theorem putL_ok {l : List Trc} {t : Trc} (hl : l.length ≤ 60) (hu : ∀ x ∈ l, x.f1.length ≤ 10) (ht : t.f1.length ≤ 10) : (putL l t).length ≤ 60 ∧ ∀ x ∈ putL l t, x.f1.length ≤ 10 := by
  unfold putL
  split
  · exact ⟨hl, hu⟩
  · refine ⟨?_, fun x hx => ?_⟩
    · rw [List.length_drop, List.length_append, List.length_singleton]; omega
    · rcases List.mem_append.1 (List.mem_of_mem_drop hx) with h | h
      · exact hu x h
      · rw [List.mem_singleton] at h; subst h; exact ht
theorem sameAny_ev (l : List Trc) (t : Trc) (ht : t.f1.length ≤ 10) : Ev (fun k => impl_Trace_same_any.f k l t.f0 t.f1 t.f2) (hasTr l t) := by
  have h : ∃ K, ∀ k, K ≤ k → ∀ x ∈ l, impl_Trace_same.f k t.f0 t.f1 t.f2 x.f0 x.f1 x.f2 = some (sameTr x.f0 x.f1 x.f2 t.f0 t.f1 t.f2) := by
    induction l with
    | nil => exact ⟨0, fun k _ x hx => by cases hx⟩
    | cons y ys ih =>
      obtain ⟨K1, h1⟩ := ih
      obtain ⟨K2, h2⟩ := implSameTr_ev t.f0 t.f1 t.f2 y.f0 y.f1 y.f2 (by omega)
      refine ⟨K1 + K2, fun k hk x hx => ?_⟩
      rcases List.mem_cons.1 hx with rfl | hx
      · rw [sameTr_symm]; exact h2 k (by omega)
      · exact h1 k (by omega) x hx
  obtain ⟨K, h⟩ := h
  refine ⟨K, fun k hk => ?_⟩
  have hh := h k hk
  show impl_Trace_same_any.f k l t.f0 t.f1 t.f2 = _
  unfold impl_Trace_same_any.f
  rw [if_pos (fun x hx => by rw [hh x hx]; rfl)]
  unfold hasTr
  congr 1
  clear h
  induction l with
  | nil => rfl
  | cons y ys ih => rw [List.any_cons, List.any_cons, hh y (by simp), ih (fun x hx => hh x (by simp [hx])), Option.getD_some]
theorem mx60 (n : Nat) (hn : n ≤ 100) : mx 0 (wrap64 ((n : Int) - 60)) = ((n - 60 : Nat) : Int) := by
  rw [wrap_id _ (by omega) (by omega)]
  unfold mx
  split <;> omega
theorem implPut_ev (l : List Trc) (t : Trc) (hl : l.length ≤ 60) (ht : t.f1.length ≤ 10) : Ev (fun k => impl_put.f k l t.f0 t.f1 t.f2) (putL l t) := by
  unfold impl_put.f
  refine Ev.bind (sameAny_ev l t ht) ?_
  unfold putL
  cases hasTr l t with
  | true => simp only [if_true]; exact Ev.now _
  | false =>
    simp only [Bool.false_eq_true, if_false, slices_Clone_Trace.f, if_pos (show l.length < 3518437208883 by omega), Option.bind_some, List.length_singleton, if_pos (show l.length + 1 < 3518437208883 by omega)]
    have e : (⟨t.f0, t.f1, t.f2⟩ : Trc) = t := rfl
    rw [e]
    have hn : (l ++ [t]).length ≤ 100 := by rw [List.length_append, List.length_singleton]; omega
    generalize l ++ [t] = y at hn ⊢
    simp only [mx60 y.length hn, if_pos (show (0 : Int) ≤ ((y.length - 60 : Nat) : Int) by omega), if_pos (show ((y.length - 60 : Nat) : Int) ≤ (y.length : Int) by omega), Int.toNat_natCast]
    exact Ev.now _
theorem implCopy_loop (l : List Trc) (hl : l.length ≤ 60) (hu : ∀ x ∈ l, x.f1.length ≤ 10) : ∀ (d i : Nat), d = l.length - i → i ≤ l.length → Ev (fun k => impl_copyTraces.l0 k (l.take i) l (l.length : Int) (i : Int)) l := by
  intro d
  induction d with
  | zero =>
    intro i hd hi
    refine Ev.step (fun k => by rw [impl_copyTraces.l0]) ?_
    simp only [if_neg (show ¬ ((i : Int) < (l.length : Int)) by omega)]
    exact Ev.eq (Ev.now _) (List.take_of_length_le (by omega))
  | succ d ih =>
    intro i hd hi
    have hlt : i < l.length := by omega
    have h := ih (i + 1) (by omega) (by omega)
    have h10 := hu _ (List.getElem_mem hlt)
    have hlen : (l.take i).length = i := by rw [List.length_take]; omega
    rw [List.take_succ_eq_append_getElem hlt] at h
    refine Ev.step (fun k => by rw [impl_copyTraces.l0]) ?_
    simp only [if_pos (show (i : Int) < (l.length : Int) by omega), if_pos (show (0 : Int) ≤ (i : Int) by omega), rd_trc l i hlt, impl_Trace_copy.f, slices_Clone_Fetch.f, if_pos (show (l[i]).f1.length < 8796093022208 by omega), Option.bind_some, hlen, if_pos (show i < 3518437208883 by omega), wrap_nat i (by omega)]
    exact h
theorem implCopy_ev (l : List Trc) (hl : l.length ≤ 60) (hu : ∀ x ∈ l, x.f1.length ≤ 10) : Ev (fun k => impl_copyTraces.f k l) l := by
  unfold impl_copyTraces.f
  have h := implCopy_loop l hl hu l.length 0 (by omega) (by omega)
  rw [List.take_zero] at h
  exact h
theorem specAll_loop (l : List Trc) (hl : l.length ≤ 60) (hu : ∀ x ∈ l, x.f1.length ≤ 10) : ∀ (d i : Nat), d = l.length - i → i ≤ l.length → Ev (fun k => spec_l5All.l0 k l (l.take i) (i : Int)) l := by
  intro d
  induction d with
  | zero =>
    intro i hd hi
    refine Ev.step (fun k => by rw [spec_l5All.l0]) ?_
    simp only [if_neg (show ¬ ((i : Int) < (l.length : Int)) by omega)]
    exact Ev.eq (Ev.now _) (List.take_of_length_le (by omega))
  | succ d ih =>
    intro i hd hi
    have hlt : i < l.length := by omega
    have h := ih (i + 1) (by omega) (by omega)
    have h10 := hu _ (List.getElem_mem hlt)
    have hlen : (l.take i).length = i := by rw [List.length_take]; omega
    rw [List.take_succ_eq_append_getElem hlt] at h
    refine Ev.step (fun k => by rw [spec_l5All.l0]) ?_
    simp only [if_pos (show (i : Int) < (l.length : Int) by omega), if_pos (show (0 : Int) ≤ (i : Int) by omega), rd_trc l i hlt, spec_l5Copy.f, Option.bind_some, List.length_nil, Nat.zero_add, List.nil_append, if_pos (show (l[i]).f1.length < 8796093022208 by omega), hlen, if_pos (show i < 3518437208883 by omega), wrap_nat i (by omega)]
    exact h
theorem specAll_ev (l : List Trc) (hl : l.length ≤ 60) (hu : ∀ x ∈ l, x.f1.length ≤ 10) : Ev (fun k => spec_l5All.f k l) l := by
  unfold spec_l5All.f
  have h := specAll_loop l hl hu l.length 0 (by omega) (by omega)
  rw [List.take_zero] at h
  exact h
theorem specPut_loop (l : List Trc) (t : Trc) (hl : l.length ≤ 60) (hu : ∀ x ∈ l, x.f1.length ≤ 10) : ∀ (d i : Nat), d = l.length - i → i ≤ l.length → Ev (fun k => spec_l5Put.l0 k l (i : Int) t.f0 t.f1 t.f2) (if hasTr (l.drop i) t = true then l else (l ++ [t]).drop ((l ++ [t]).length - 60)) := by
  intro d
  induction d with
  | zero =>
    intro i hd hi
    have e0 : hasTr (l.drop i) t = false := by rw [List.drop_of_length_le (by omega)]; rfl
    rw [e0]
    refine Ev.step (fun k => by rw [spec_l5Put.l0]) ?_
    have e : (⟨t.f0, t.f1, t.f2⟩ : Trc) = t := rfl
    simp only [if_neg (show ¬ ((i : Int) < (l.length : Int)) by omega), Option.bind_some, List.length_nil, Nat.zero_add, List.nil_append, if_pos (show l.length < 3518437208883 by omega), List.length_singleton, if_pos (show l.length + 1 < 3518437208883 by omega), Bool.false_eq_true, if_false, e]
    have hn : (l ++ [t]).length ≤ 61 := by rw [List.length_append, List.length_singleton]; omega
    generalize l ++ [t] = y at hn ⊢
    by_cases h60 : (y.length : Int) > 60
    · simp only [if_pos h60, if_pos (show (1 : Int) ≤ (y.length : Int) by omega)]
      refine Ev.eq (Ev.now _) ?_
      rw [show y.length - 60 = 1 by omega]
    · simp only [if_neg h60]
      refine Ev.eq (Ev.now _) ?_
      rw [show y.length - 60 = 0 by omega, List.drop_zero]
  | succ d ih =>
    intro i hd hi
    have hlt : i < l.length := by omega
    have h := ih (i + 1) (by omega) (by omega)
    have h10 := hu _ (List.getElem_mem hlt)
    refine Ev.step (fun k => by rw [spec_l5Put.l0]) ?_
    simp only [if_pos (show (i : Int) < (l.length : Int) by omega), if_pos (show (0 : Int) ≤ (i : Int) by omega), rd_trc l i hlt, wrap_nat i (by omega)]
    refine Ev.bind (specSameTr_ev _ _ _ _ _ _ (by omega)) ?_
    have e : hasTr (l.drop i) t = (sameTr (l[i]).f0 (l[i]).f1 (l[i]).f2 t.f0 t.f1 t.f2 || hasTr (l.drop (i + 1)) t) := by
      rw [List.drop_eq_getElem_cons hlt]; rfl
    rw [e]
    cases sameTr (l[i]).f0 (l[i]).f1 (l[i]).f2 t.f0 t.f1 t.f2 with
    | true => simp only [if_true, Bool.true_or]; exact Ev.now _
    | false => simp only [Bool.false_eq_true, if_false, Bool.false_or]; exact h
theorem specPut_ev (l : List Trc) (t : Trc) (hl : l.length ≤ 60) (hu : ∀ x ∈ l, x.f1.length ≤ 10) : Ev (fun k => spec_l5Put.f k l t.f0 t.f1 t.f2) (putL l t) := by
  unfold spec_l5Put.f putL
  have h := specPut_loop l t hl hu l.length 0 (by omega) (by omega)
  rw [List.drop_zero] at h
  exact h
theorem trsOk_parts {l : List Trc} (h : trsOk l = true) : l.length ≤ 60 ∧ ∀ x ∈ l, x.f1.length ≤ 10 := by
  simp only [trsOk, Bool.and_eq_true, decide_eq_true_eq] at h
  exact ⟨h.1, fun x hx => trOk_len (List.all_eq_true.1 h.2 x hx)⟩
theorem putF_ok (l : List Trc) (t : Trc) : (putF l t).1.length ≤ 60 ∧ ∀ x ∈ (putF l t).1, x.f1.length ≤ 10 := by
  unfold putF
  split
  · rename_i h
    rw [Bool.and_eq_true] at h
    obtain ⟨h1, h2⟩ := trsOk_parts h.1
    exact putL_ok h1 h2 (trOk_len h.2)
  · exact ⟨by simp, fun x hx => by cases hx⟩
theorem implPuts_ev (l : List Trc) (t : Trc) (hl : ∀ x ∈ l, x.f1.length < 8796093022208) (ht : t.f1.length < 8796093022208) : Ev (fun k => impl_TracesPut.f k l t.f0 t.f1 t.f2) (putF l t) := by
  have bad : (trsOk l && trOk t) = false → Ev (fun k => impl_TracesPut.j0 k l true t.f0 t.f1 t.f2) (putF l t) := fun e => by
    refine Ev.step (fun k => by rw [impl_TracesPut.j0]) ?_
    simp only [if_true]
    exact Ev.eq (Ev.now _) (by simp [putF, e])
  unfold impl_TracesPut.f
  simp only [implTrs_ev l hl, Option.bind_some]
  cases h1 : trsOk l with
  | false => simp only [Bool.false_eq_true, if_false]; exact bad (by simp [h1])
  | true =>
    simp only [if_true, implTr_ev t ht, Option.bind_some]
    cases h2 : trOk t with
    | false => simp only [Bool.not_false]; exact bad (by simp [h2])
    | true =>
      simp only [Bool.not_true]
      obtain ⟨h3, h4⟩ := trsOk_parts h1
      have h5 := putL_ok h3 h4 (trOk_len h2)
      refine Ev.step (fun k => by rw [impl_TracesPut.j0]) ?_
      simp only [Bool.false_eq_true, if_false]
      refine Ev.bind (implPut_ev l t h3 (trOk_len h2)) ?_
      refine Ev.bind (implCopy_ev _ h5.1 h5.2) ?_
      exact Ev.eq (Ev.now _) (by simp [putF, h1, h2])
theorem specPuts_ev (l : List Trc) (t : Trc) : Ev (fun k => spec_TracesPut.f k l t.f0 t.f1 t.f2) (putF l t) := by
  have bad : (trsOk l && trOk t) = false → Ev (fun k => spec_TracesPut.j0 k l true t.f0 t.f1 t.f2) (putF l t) := fun e => by
    refine Ev.step (fun k => by rw [spec_TracesPut.j0]) ?_
    simp only [if_true]
    exact Ev.eq (Ev.now _) (by simp [putF, e])
  unfold spec_TracesPut.f
  refine Ev.bind (specTrs_ev l) ?_
  cases h1 : trsOk l with
  | false => simp only [Bool.false_eq_true, if_false]; exact bad (by simp [h1])
  | true =>
    simp only [if_true]
    refine Ev.bind (l5One_ev t) ?_
    cases h2 : trOk t with
    | false => simp only [Bool.not_false]; exact bad (by simp [h2])
    | true =>
      simp only [Bool.not_true]
      obtain ⟨h3, h4⟩ := trsOk_parts h1
      have h5 := putL_ok h3 h4 (trOk_len h2)
      refine Ev.step (fun k => by rw [spec_TracesPut.j0]) ?_
      simp only [Bool.false_eq_true, if_false]
      refine Ev.bind (specPut_ev l t h3 h4) ?_
      refine Ev.bind (specAll_ev _ h5.1 h5.2) ?_
      exact Ev.eq (Ev.now _) (by simp [putF, h1, h2])
end Go.Proofs.Ytgbjbpjmbghlbaa.G
end
section
namespace Go.Proofs.Ytgbjbpjmbghlbaa.G
open Go.RowKit Go.Proofs.YtgbjbpjmbghlbaaW.PrintWords
set_option linter.unusedVariables false
set_option linter.unusedSimpArgs false
theorem heldF_loop (fs : List Fk9) (a : Int) (h0 : 0 ≤ a) (h1 : a + 2 * (fs.length : Int) ≤ 4611686018427387904) : ∀ (d i : Nat), d = fs.length - i → i ≤ fs.length → Ev (fun k => laws_heldFetchS.l0 k (mkF fs a) (a + 2 * (i : Int)) (i : Int)) (a + 2 * (fs.length : Int)) := by
  intro d
  induction d with
  | zero =>
    intro i hd hi
    have e : i = fs.length := by omega
    subst e
    refine Ev.step (fun k => by rw [laws_heldFetchS.l0]) ?_
    simp only [mkF_len, if_neg (show ¬ ((fs.length : Int) < (fs.length : Int)) by omega)]
    exact Ev.now _
  | succ d ih =>
    intro i hd hi
    have hlt : i < fs.length := by omega
    refine Ev.step (fun k => by rw [laws_heldFetchS.l0]) ?_
    have ew : wrap64 (a + 2 * (i : Int) + 1) = a + 2 * (i : Int) + 1 := wrap_id _ (by omega) (by omega)
    have ew2 : wrap64 (a + 2 * (i : Int) + 1 + 1) = a + 2 * ((i + 1 : Nat) : Int) := by rw [wrap_id _ (by omega) (by omega)]; omega
    have e : rd_T117 (mkF fs a) (i : Int) = ⟨a + 2 * (i : Int), a + 2 * (i : Int) + 1⟩ := by rw [rd_fk9 _ i (by rw [mkF_len]; exact hlt), mkF_get]
    simp only [mkF_len, if_pos (show (i : Int) < (fs.length : Int) by omega), if_pos (show (0 : Int) ≤ (i : Int) by omega), ew, ew2, e, if_true, wrap_nat i (by omega)]
    exact ih (i + 1) (by omega) (by omega)
theorem heldF_ev (fs : List Fk9) (a : Int) (h0 : 0 ≤ a) (h1 : a + 2 * (fs.length : Int) ≤ 4611686018427387904) : Ev (fun k => laws_heldFetchS.f k (mkF fs a) a) (a + 2 * (fs.length : Int)) := by
  unfold laws_heldFetchS.f
  have h := heldF_loop fs a h0 h1 fs.length 0 (by omega) (by omega)
  simpa using h
end Go.Proofs.Ytgbjbpjmbghlbaa.G
end
section
namespace Go.Proofs.Ytgbjbpjmbghlbaa.G
open Go.RowKit Go.Proofs.YtgbjbpjmbghlbaaW.PrintWords
set_option linter.unusedVariables false
set_option linter.unusedSimpArgs false
theorem heldT_loop (ts : List Tr9) (a : Int) (h0 : 0 ≤ a) (h1 : a + 2 * (cntTrs ts : Int) ≤ 4611686018427387904) (hn : ts.length ≤ 4000000000) : ∀ (d i : Nat), d = ts.length - i → i ≤ ts.length → Ev (fun k => laws_heldTraceS.l0 k (mkTs ts a) (a + 2 * (cntTrs (ts.take i) : Int)) (i : Int)) (a + 2 * (cntTrs ts : Int)) := by
  intro d
  induction d with
  | zero =>
    intro i hd hi
    have e : i = ts.length := by omega
    subst e
    refine Ev.step (fun k => by rw [laws_heldTraceS.l0]) ?_
    simp only [mkTs_len, if_neg (show ¬ ((ts.length : Int) < (ts.length : Int)) by omega), List.take_length]
    exact Ev.now _
  | succ d ih =>
    intro i hd hi
    have hlt : i < ts.length := by omega
    have h := ih (i + 1) (by omega) (by omega)
    have hle := cntTrs_le ts i hlt
    rw [cntTrs_take ts i hlt] at h
    have hc : cntTr ts[i] = 1 + (ts[i]).f1.length := rfl
    rw [hc] at h hle
    obtain ⟨b, hb⟩ : ∃ b : Int, b = a + 2 * (cntTrs (ts.take i) : Int) := ⟨_, rfl⟩
    have e : rd_T87 (mkTs ts a) (i : Int) = mkT ts[i] b := by rw [rd_trc _ i (by rw [mkTs_len]; exact hlt), mkTs_get ts a i hlt, hb]
    rw [← hb]
    refine Ev.step (fun k => by rw [laws_heldTraceS.l0]) ?_
    have ew : wrap64 (b + 1) = b + 1 := wrap_id _ (by omega) (by omega)
    simp only [mkTs_len, if_pos (show (i : Int) < (ts.length : Int) by omega), if_pos (show (0 : Int) ≤ (i : Int) by omega), e, mkT, if_true, ew, wrap_nat i (by omega)]
    refine Ev.bind (heldF_ev (ts[i]).f1 (b + 1) (by omega) (by omega)) ?_
    have ew2 : wrap64 (b + 1 + 2 * ((ts[i]).f1.length : Int) + 1) = a + 2 * ((cntTrs (ts.take i) + (1 + (ts[i]).f1.length) : Nat) : Int) := by rw [wrap_id _ (by omega) (by omega)]; omega
    simp only [if_neg (show ¬ (b + 1 + 2 * ((ts[i]).f1.length : Int) < 0) by omega), if_true, ew2]
    exact h
theorem heldT_ev (ts : List Tr9) (a : Int) (h0 : 0 ≤ a) (h1 : a + 2 * (cntTrs ts : Int) ≤ 4611686018427387904) (hn : ts.length ≤ 4000000000) : Ev (fun k => laws_heldTraceS.f k (mkTs ts a) a) (a + 2 * (cntTrs ts : Int)) := by
  unfold laws_heldTraceS.f
  have h := heldT_loop ts a h0 h1 hn ts.length 0 (by omega) (by omega)
  have e : cntTrs (ts.take 0) = 0 := rfl
  rw [e] at h
  simpa using h
theorem cntTrs_small (ts : List Tr9) (n : Nat) (h : ∀ t ∈ ts, t.f1.length ≤ n) : cntTrs ts ≤ ts.length * (n + 1) := by
  induction ts with
  | nil => simp [cntTrs]
  | cons t ts ih =>
    have h1 := ih (fun x hx => h x (by simp [hx]))
    have h2 := h t (by simp)
    simp only [cntTrs, cntTr, List.length_cons, Nat.add_mul]
    omega
end Go.Proofs.Ytgbjbpjmbghlbaa.G
end
section
namespace Go.Proofs.Ytgbjbpjmbghlbaa.G
open Go.RowKit Go.Proofs.YtgbjbpjmbghlbaaW.PrintWords
set_option linter.unusedVariables false
set_option linter.unusedSimpArgs false
theorem cntTrs_sz (l : List Ltr) : cntTrs (l.map cvTr) = szTrs l := by
  unfold szTrs
  induction l with
  | nil => rfl
  | cons t ts ih =>
    simp only [List.map_cons, cntTrs, cntTr, cvTr, List.length_map, ih, List.length_cons, sumL]
    omega
open Classical in
noncomputable def laws_FnExactTracesPut.f (k : Nat) (l0 : List S81) (a1_0 : Int) (l1_1 : List S165) (a1_2 : Int) : Option Bool := if l0.length ≤ 9223372036854775807 ∧ (∀ t ∈ l0, t.f1.length ≤ 9223372036854775807) ∧ l1_1.length ≤ 9223372036854775807 then some true else none
theorem laws_FnExactTracesPut.calls (k : Nat) (A0 : Option Addr) (c0 : Nat) (l0 : List S81) (a1_0 : Int) (A1_1 : Option Addr) (c1_1 : Nat) (l1_1 : List S165) (a1_2 : Int) (r : Bool) (w : World) (hr0 : Kd.C k81 w A0 l0.length l0) (hc0 : l0.length ≤ c0) (hr1_1 : Kd.C k165 w A1_1 l1_1.length l1_1) (hc1_1 : l1_1.length ≤ c1_1) (h : laws_FnExactTracesPut.f k l0 a1_0 l1_1 a1_2 = some r) :
    Calls Try.prog 12 #[.slice A0 l0.length c0, .agg #[.int .i64 a1_0, .slice A1_1 l1_1.length c1_1, .int .i64 a1_2]] w fun e w' => e = .returned (.bool r) ∧ Below w.heap.size w w' := by
  unfold laws_FnExactTracesPut.f at h
  split at h
  · rename_i hb
    obtain rfl := Option.some.inj h
    obtain ⟨K1, H1⟩ := (szTrs_ev l0 hb.1 hb.2.1 1048576 (by omega) (by omega)).rounds
    by_cases hc : ((szTrs l0 : Nat) : Int) ≤ 1048576
    · rw [leftOf_yes hc] at H1
      have hs : szTrs l0 ≤ 1048576 := by omega
      have H2 := szTr_ev ⟨a1_0, l1_1, a1_2⟩ hb.2.2 (1048576 - (szTrs l0 : Int)) (by omega) (by omega)
      by_cases hd : ((l1_1.length : Nat) : Int) ≤ 1048576 - (szTrs l0 : Int)
      · rw [leftOf_yes hd] at H2
        have hlen := cvTrs_len (l := l0) (by omega)
        have hll : (l0.map cvTr).length ≤ 1048576 := by rw [List.length_map]; unfold szTrs at hs; omega
        have htl : (cvTr ⟨a1_0, l1_1, a1_2⟩).f1.length ≤ 1048576 := by simp only [cvTr, List.length_map]; omega
        obtain ⟨K3, H3⟩ := (toTrs_ev l0 hs).rounds
        obtain ⟨K4, H4⟩ := (toTr_ev ⟨a1_0, l1_1, a1_2⟩ (show l1_1.length ≤ 1048576 by omega)).rounds
        have hcnt : cntTrs (l0.map cvTr) ≤ 1048576 := by rw [cntTrs_sz]; exact hs
        have e4 : (a1_0, l1_1.map cvF, a1_2) = ((cvTr ⟨a1_0, l1_1, a1_2⟩).f0, (cvTr ⟨a1_0, l1_1, a1_2⟩).f1, (cvTr ⟨a1_0, l1_1, a1_2⟩).f2) := rfl
        replace H4 : laws_toTrace.f K4 a1_0 l1_1 a1_2 = some ((cvTr ⟨a1_0, l1_1, a1_2⟩).f0, (cvTr ⟨a1_0, l1_1, a1_2⟩).f1, (cvTr ⟨a1_0, l1_1, a1_2⟩).f2) := H4
        generalize cvTr ⟨a1_0, l1_1, a1_2⟩ = T at H4 htl
        generalize l0.map cvTr = L at H3 hlen hll hcnt
        obtain ⟨K5, H5⟩ := (specPuts_ev L T).rounds
        obtain ⟨K6, H6⟩ := (implPuts_ev L T (fun t ht => by have := hlen t ht; omega) (by omega)).rounds
        obtain ⟨hp1, hp2⟩ := putF_ok L T
        have hp3 := cntTrs_small (putF L T).1 10 hp2
        generalize putF L T = R at H5 H6 hp1 hp2 hp3
        obtain ⟨r7, r8⟩ := R
        simp only at hp1 hp2 hp3
        obtain ⟨K7, H7⟩ := (eqTrs_ev r7 (by omega) (fun t ht => by have := hp2 t ht; omega)).rounds
        obtain ⟨K8, H8⟩ := (eqTrs_ev L (by omega) (fun t ht => by have := hlen t ht; omega)).rounds
        obtain ⟨K9, H9⟩ := (eqTr_ev T (by omega)).rounds
        have hp4 : cntTrs r7 ≤ 660 := by omega
        have H10 : laws_markTraceS.f L 1 = some (1 + 2 * (cntTrs L : Int), mkTs L 1) := if_pos ⟨by omega, by omega⟩
        obtain ⟨K11, H11'⟩ := (markF_ev T.f1 (1 + 2 * (cntTrs L : Int)) (by omega) (by omega)).rounds
        have H11 : laws_markTrace.f K11 T.f0 T.f1 T.f2 (1 + 2 * (cntTrs L : Int)) = some (1 + 2 * (cntTrs L : Int) + 2 * (T.f1.length : Int), mkF T.f1 (1 + 2 * (cntTrs L : Int))) := by
          unfold laws_markTrace.f
          rw [H11', Option.bind_some]
        have H12 : laws_markTraceS.f r7 1 = some (1 + 2 * (cntTrs r7 : Int), mkTs r7 1) := if_pos ⟨by omega, by omega⟩
        obtain ⟨K13, H13⟩ := (heldT_ev r7 1 (by omega) (by omega) (by omega)).rounds
        exact lw_FnExactTracesPut A0 c0 l0 a1_0 A1_1 c1_1 l1_1 a1_2 w hr0 hc0 hr1_1 hc1_1 _ _ _ _ _ _ _ _ _ _ _ _ _ _ K1 H1 H2 K3 H3 K4 H4 K5 H5 K6 H6 K7 H7 K8 H8 K9 H9 H10 K11 H11 H12 K13 H13 (by omega) (by omega) (by omega) (by omega) (by omega)
      · rw [leftOf_no hd] at H2
        exact lw_FnExactTracesPut_e1 A0 c0 l0 a1_0 A1_1 c1_1 l1_1 a1_2 w hr0 hc0 hr1_1 hc1_1 _ _ K1 H1 H2 (by omega) (by omega)
    · rw [leftOf_no hc] at H1
      exact lw_FnExactTracesPut_e0 A0 c0 l0 a1_0 A1_1 c1_1 l1_1 a1_2 w hr0 hc0 hr1_1 hc1_1 _ K1 H1 (by omega)
  · cases h
theorem pure_FnExactTracesPut (l : List Ltr) (hl : l.length ≤ 9223372036854775807 ∧ ∀ x ∈ l, ex_t81 x) (a : Int) (ha : (Lit.int .i64 a).wf = true) (u : List Lf) (hu : u.length ≤ 9223372036854775807 ∧ ∀ x ∈ u, ex_t165 x) (b : Int) (hb : (Lit.int .i64 b).wf = true) : ∃ k, laws_FnExactTracesPut.f k l a u b = some true :=
  ⟨0, if_pos ⟨hl.1, fun t h => (hl.2 t h).2.1.1, hu.1⟩⟩
end Go.Proofs.Ytgbjbpjmbghlbaa.G
end
