-- Written by pack.py (ours): the claim's texts, cut down to what its theorem reaches.
import Derived.ChangeArms
import Derived.DataReads
import Derived.Lib.SmallJoins
import Derived.Deep.Slices
import Derived.Deep.Strs
import Derived.Test.YtofieekbhbkliaaKFnExactTracesFind5
section
namespace Go.Proofs.YtofieekbhbkliaaW.OpenData
open Go.RowKit Go.Proofs.YtofieekbhbkliaaW.PrintWords
set_option linter.unusedVariables false
set_option linter.unusedSimpArgs false
def Opens (P : Program) (t : TypeId) {α : Type} (d : Kd α) (ex : α → Prop) (n : Nat) : Prop :=
  ∀ {H : Type} (enc : TypeId × Value → H) (w : World) (fuel : Nat) (cs : List Value) (x : DataW H × List MemPlace), fuel ≤ n →
    DataW.trod enc P w 0 (fun _ => true) true fuel t cs = some x → ∃ a, d.K w a cs ∧ ex a
theorem opens_int {P : Program} {t : TypeId} {k : IntKind} (ht : P.underlying t = some (.int k)) (n : Nat) : Opens P t (Kd.int k) (fun x => (Lit.int k x).wf = true) n := by
  intro H enc w fuel cs x _ h
  obtain ⟨m, rfl, _, hw⟩ := DataW.trod_int ht h
  exact ⟨m, rfl, hw⟩
theorem list_of {α : Type} (p : Nat → α → Prop) (n : Nat) (h : ∀ i, i < n → ∃ x, p i x) : ∃ l : List α, l.length = n ∧ ∀ i x, l[i]? = some x → p i x := by
  induction n with
  | zero => exact ⟨[], rfl, fun i x h => by simp at h⟩
  | succ n ih =>
    obtain ⟨l, hl, hp⟩ := ih (fun i hi => h i (by omega))
    obtain ⟨y, hy⟩ := h n (by omega)
    refine ⟨l ++ [y], by simp [hl], fun i x hx => ?_⟩
    rcases Nat.lt_or_ge i l.length with hi | hi
    · rw [List.getElem?_append_left hi] at hx
      exact hp i x hx
    · have hi' : i = l.length := by
        have := (List.getElem?_eq_some_iff.1 hx).1
        simp at this
        omega
      subst hi'
      have : y = x := by simpa using hx
      subst this
      rw [hl]
      exact hy
theorem add_add_ (a : Addr) (i j : Nat) : (a.add i).add j = a.add (i + j) := Go.Deep.add_add a i j
theorem opens_slice {P : Program} {t e : TypeId} {α : Type} {d : Kd α} {ex : α → Prop} {n : Nat} (ht : P.underlying t = some (.slice e)) (hc : P.cellsOf e = d.sz) (h : Opens P e d ex n) :
    Opens P t (Kd.slice e d) (fun xs => xs.length ≤ maxLen ∧ ∀ x ∈ xs, ex x) (n + 1) := by
  intro H enc w fuel cs x hfu hr
  rcases DataW.trod_slice ht hr with ⟨rfl, _⟩ | ⟨a, len, cap, elems, rest, m, rfl, rfl, _, _, hl, hm, hlen, hel, _⟩
  · exact ⟨[], ⟨none, 0, rfl, Nat.le_refl _, rfl, by simp, fun h => absurd h (by simp)⟩, by simp, by simp⟩
  · have key : ∀ i, i < len → ∃ y : α, ex y ∧ ∃ c : List Value, c.length = d.sz ∧ d.K w y c ∧ ∀ j u, c[j]? = some u → w.cell? (a.add (i * d.sz + j)) = some u := by
      intro i hi
      have h1 := hel i hi
      rw [List.getElem?_eq_getElem (by omega)] at h1
      obtain ⟨cs', h2, h3⟩ := Option.bind_eq_some_iff.1 h1
      obtain ⟨y, hy, he⟩ := h enc w m cs' _ (by omega) h3
      obtain ⟨_, h4, h5⟩ := World.cells?_some h2
      refine ⟨y, he, cs', by rw [h4, hc], hy, fun j u hu => ?_⟩
      have hj : j < P.cellsOf e := by rw [← h4]; exact (List.getElem?_eq_some_iff.1 hu).1
      have h6 := h5 j hj
      rw [hu, add_add_, hc] at h6
      exact h6
    obtain ⟨xs, hxl, hxs⟩ := list_of (fun i y => ex y ∧ ∃ c : List Value, c.length = d.sz ∧ d.K w y c ∧ ∀ j u, c[j]? = some u → w.cell? (a.add (i * d.sz + j)) = some u) len key
    subst hxl
    refine ⟨xs, ⟨some a, cap, rfl, hl, rfl, ?_, fun _ => ⟨a, rfl, fun j p hj => (hxs j p hj).2⟩⟩, by omega, fun x hx => ?_⟩
    · have : maxLen = 9223372036854775807 := by decide
      omega
    · obtain ⟨i, hi, rfl⟩ := List.mem_iff_getElem.1 hx
      exact (hxs i _ (List.getElem?_eq_getElem hi)).1
theorem opens_imp {P : Program} {t : TypeId} {α : Type} {d : Kd α} {ex ex' : α → Prop} {n m : Nat} (h : Opens P t d ex n) (hm : m ≤ n) (hex : ∀ x, ex x → ex' x) : Opens P t d ex' m := by
  intro H enc w fuel cs x hfu hr
  obtain ⟨a, hK, he⟩ := h enc w fuel cs x (by omega) hr
  exact ⟨a, hK, hex a he⟩
theorem opens_struct3 {P : Program} {t : TypeId} {f0 f1 f2 : Field} {α β γ δ : Type} {d0 : Kd α} {d1 : Kd β} {d2 : Kd γ} {e0 : α → Prop} {e1 : β → Prop} {e2 : γ → Prop} {n : Nat} (g : δ → α × β × γ) (gi : α → β → γ → δ) (hg : ∀ a b c, g (gi a b c) = (a, b, c))
    (ht : P.underlying t = some (.struct #[f0, f1, f2])) (hs : P.cellsOf t = d0.sz + d1.sz + d2.sz) (o0 : f0.offset = 0) (o1 : f1.offset = d0.sz) (o2 : f2.offset = d0.sz + d1.sz) (c0 : P.cellsOf f0.type = d0.sz) (c1 : P.cellsOf f1.type = d1.sz) (c2 : P.cellsOf f2.type = d2.sz)
    (h0 : Opens P f0.type d0 e0 n) (h1 : Opens P f1.type d1 e1 n) (h2 : Opens P f2.type d2 e2 n) :
    Opens P t (Kd.iso (Kd.pair d0 (Kd.pair d1 d2)) g) (fun x => e0 (g x).1 ∧ e1 (g x).2.1 ∧ e2 (g x).2.2) (n + 1) := by
  intro H enc w fuel cs x hfu hr
  obtain ⟨xs, m, rfl, _, hl, hlen, hf⟩ := DataW.trod_struct ht hr
  match xs, hlen with
  | [y0, y1, y2], _ =>
    have r0 := hf 0 f0 rfl
    have r1 := hf 1 f1 rfl
    have r2 := hf 2 f2 rfl
    rw [o0, c0] at r0
    rw [o1, c1] at r1
    rw [o2, c2] at r2
    obtain ⟨a, hK0, he0⟩ := h0 enc w m _ _ (by omega) r0
    obtain ⟨b, hK1, he1⟩ := h1 enc w m _ _ (by omega) r1
    obtain ⟨c, hK2, he2⟩ := h2 enc w m _ _ (by omega) r2
    refine ⟨gi a b c, ?_, by simp only [hg]; exact ⟨he0, he1, he2⟩⟩
    show ∃ k0 k1, cs = k0 ++ k1 ∧ d0.K w (g (gi a b c)).1 k0 ∧ ∃ k2 k3, k1 = k2 ++ k3 ∧ d1.K w (g (gi a b c)).2.1 k2 ∧ d2.K w (g (gi a b c)).2.2 k3
    rw [hg]
    rw [List.drop_zero] at hK0
    refine ⟨cs.take d0.sz, cs.drop d0.sz, (List.take_append_drop _ _).symm, hK0, (cs.drop d0.sz).take d1.sz, (cs.drop d0.sz).drop d1.sz, (List.take_append_drop _ _).symm, hK1, ?_⟩
    rw [List.drop_drop]
    rw [List.take_of_length_le (by rw [List.length_drop]; omega)] at hK2
    exact hK2
theorem opens_struct2 {P : Program} {t : TypeId} {f0 f1 : Field} {α β δ : Type} {d0 : Kd α} {d1 : Kd β} {e0 : α → Prop} {e1 : β → Prop} {n : Nat} (g : δ → α × β) (gi : α → β → δ) (hg : ∀ a b, g (gi a b) = (a, b))
    (ht : P.underlying t = some (.struct #[f0, f1])) (hs : P.cellsOf t = d0.sz + d1.sz) (o0 : f0.offset = 0) (o1 : f1.offset = d0.sz) (c0 : P.cellsOf f0.type = d0.sz) (c1 : P.cellsOf f1.type = d1.sz)
    (h0 : Opens P f0.type d0 e0 n) (h1 : Opens P f1.type d1 e1 n) :
    Opens P t (Kd.iso (Kd.pair d0 d1) g) (fun x => e0 (g x).1 ∧ e1 (g x).2) (n + 1) := by
  intro H enc w fuel cs x hfu hr
  obtain ⟨xs, m, rfl, _, hl, hlen, hf⟩ := DataW.trod_struct ht hr
  match xs, hlen with
  | [y0, y1], _ =>
    have r0 := hf 0 f0 rfl
    have r1 := hf 1 f1 rfl
    rw [o0, c0] at r0
    rw [o1, c1] at r1
    obtain ⟨a, hK0, he0⟩ := h0 enc w m _ _ (by omega) r0
    obtain ⟨b, hK1, he1⟩ := h1 enc w m _ _ (by omega) r1
    refine ⟨gi a b, ?_, by simp only [hg]; exact ⟨he0, he1⟩⟩
    show ∃ k0 k1, cs = k0 ++ k1 ∧ d0.K w (g (gi a b)).1 k0 ∧ d1.K w (g (gi a b)).2 k1
    rw [hg]
    rw [List.drop_zero] at hK0
    refine ⟨cs.take d0.sz, cs.drop d0.sz, (List.take_append_drop _ _).symm, hK0, ?_⟩
    rw [List.take_of_length_le (by rw [List.length_drop]; omega)] at hK1
    exact hK1
theorem open_row {P : Program} {t e : TypeId} {α : Type} {d : Kd α} {ex : List α → Prop} (h : ∀ n, Opens P t (Kd.slice e d) ex n) {H : Type} {enc : TypeId × Value → H} {w : World} {v : Value} {x : DataW H} {p : List MemPlace} {r : Reach} {b0 : Nat} (ht : P.underlying t = some (.slice e)) (hv : Value.okWide P w r b0 t v)
    (hr : DataW.Trod enc P w 0 (fun _ => true) true t v x p) : ∃ A c xs, v = .slice A xs.length c ∧ xs.length ≤ c ∧ d.C w A xs.length xs ∧ ex xs := by
  obtain ⟨a0, l0, c0, rfl⟩ := Go.WideShapes.okWide_slice ht hv
  obtain ⟨fuel, hf⟩ := hr
  obtain ⟨xs, ⟨A, c, e1, hl, hC⟩, he⟩ := h fuel enc w fuel _ _ (Nat.le_refl _) hf
  simp only [Value.cells, List.cons.injEq, and_true] at e1
  exact ⟨A, c, xs, e1, hl, hC, he⟩
end Go.Proofs.YtofieekbhbkliaaW.OpenData
end
section
namespace Go.Proofs.Ytofieekbhbkliaa.G
open Go.RowKit Go.Proofs.YtofieekbhbkliaaW.PrintWords Go.Proofs.YtofieekbhbkliaaW.OpenData
set_option linter.unusedVariables false
def ex_t148 (x : S148) : Prop := (fun x : Int => (Lit.int .i64 x).wf = true) x.f0 ∧ (fun x : Int => (Lit.int .i64 x).wf = true) x.f1
theorem opens_t148 : ∀ n, Opens Try.prog 148 k148 ex_t148 n := fun n => opens_imp (opens_struct2 (fun x : S148 => (x.f0, x.f1)) S148.mk (fun _ _  => rfl) Try.underlying148 (by kernel_rfl) rfl rfl (by kernel_rfl) (by kernel_rfl) ((fun n => opens_int Try.underlying3 n) n) ((fun n => opens_int Try.underlying3 n) n)) (Nat.le_succ n) (fun _ h => h)
def ex_sl148 (xs : List (S148)) : Prop := xs.length ≤ 9223372036854775807 ∧ ∀ x ∈ xs, (ex_t148) x
theorem opens_sl148 : ∀ n, Opens Try.prog 35 (Kd.slice 148 k148) ex_sl148 n := fun n => opens_imp (opens_slice Try.underlying35 (by kernel_rfl) ((opens_t148) n)) (Nat.le_succ n) (fun _ h => h)
def ex_t37 (x : S37) : Prop := (fun x : Int => (Lit.int .i64 x).wf = true) x.f0 ∧ (ex_sl148) x.f1 ∧ (fun x : Int => (Lit.int .i64 x).wf = true) x.f2
theorem opens_t37 : ∀ n, Opens Try.prog 37 k37 ex_t37 n := fun n => opens_imp (opens_struct3 (fun x : S37 => (x.f0, x.f1, x.f2)) S37.mk (fun _ _ _  => rfl) Try.underlying37 (by kernel_rfl) rfl rfl rfl (by kernel_rfl) (by kernel_rfl) (by kernel_rfl) ((fun n => opens_int Try.underlying3 n) n) ((opens_sl148) n) ((fun n => opens_int Try.underlying3 n) n)) (Nat.le_succ n) (fun _ h => h)
def ex_sl37 (xs : List (S37)) : Prop := xs.length ≤ 9223372036854775807 ∧ ∀ x ∈ xs, (ex_t37) x
theorem opens_sl37 : ∀ n, Opens Try.prog 34 (Kd.slice 37 k37) ex_sl37 n := fun n => opens_imp (opens_slice Try.underlying34 (by kernel_rfl) ((opens_t37) n)) (Nat.le_succ n) (fun _ h => h)
def ex_sl3 (xs : List (Int)) : Prop := xs.length ≤ 9223372036854775807 ∧ ∀ x ∈ xs, (fun x : Int => (Lit.int .i64 x).wf = true) x
theorem opens_sl3 : ∀ n, Opens Try.prog 30 (Kd.slice 3 (Kd.int .i64)) ex_sl3 n := fun n => opens_imp (opens_slice Try.underlying30 (by kernel_rfl) ((fun n => opens_int Try.underlying3 n) n)) (Nat.le_succ n) (fun _ h => h)
end Go.Proofs.Ytofieekbhbkliaa.G
end
section
namespace Go.Proofs.Ytofieekbhbkliaa.G
open Go.RowKit Go.Proofs.YtofieekbhbkliaaW.PrintWords
set_option linter.unusedVariables false
set_option linter.unusedSimpArgs false
def leftOf (n : Nat) (left : Int) : Int := if (n : Int) ≤ left then left - n else -1
theorem leftOf_yes {n : Nat} {left : Int} (h : (n : Int) ≤ left) : leftOf n left = left - n := if_pos h
theorem leftOf_no {n : Nat} {left : Int} (h : ¬ (n : Int) ≤ left) : leftOf n left = -1 := if_neg h
theorem leftOf_add {a b : Nat} {left : Int} (h : (a : Int) ≤ left) : leftOf b (left - a) = leftOf (a + b) left := by
  unfold leftOf
  split <;> split <;> omega
theorem leftOf_zero {left : Int} (h : 0 ≤ left) : leftOf 0 left = left := by unfold leftOf; split <;> omega
theorem leftOf_neg {n : Nat} {left : Int} (h0 : 0 ≤ left) : leftOf n left < 0 ↔ ¬ (n : Int) ≤ left := by unfold leftOf; split <;> omega
end Go.Proofs.Ytofieekbhbkliaa.G
end
section
namespace Go.Proofs.Ytofieekbhbkliaa.G
open Go.RowKit Go.Proofs.YtofieekbhbkliaaW.PrintWords
set_option linter.unusedVariables false
set_option linter.unusedSimpArgs false
def sumL {α : Type} (sz : α → Nat) : List α → Nat
  | [] => 0
  | x :: xs => sz x + sumL sz xs
theorem sumL_mem {α : Type} (sz : α → Nat) {l : List α} : ∀ x ∈ l, sz x ≤ sumL sz l := by
  induction l with
  | nil => intro x hx; cases hx
  | cons y ys ih =>
    intro x hx
    simp only [sumL]
    rcases List.mem_cons.1 hx with rfl | hx
    · omega
    · have := ih x hx; omega
theorem szLoop {α : Type} (l : List α) (F : Nat → Int → Int → Option Int) (one : Nat → α → Int → Option Int) (sz : α → Nat)
    (hend : ∀ k lf, F (k + 1) lf (l.length : Int) = some lf)
    (hstep : ∀ k lf (i : Nat) (h : i < l.length), F (k + 1) lf (i : Int) = (one k l[i] lf).bind fun t => if t < 0 then some (-1) else F k t ((i + 1 : Nat) : Int))
    (hone : ∀ x ∈ l, ∀ lf : Int, 0 ≤ lf → lf ≤ 1048576 → Ev (fun k => one k x lf) (leftOf (sz x) lf)) :
    ∀ (d i : Nat) (lf : Int), d = l.length - i → i ≤ l.length → 0 ≤ lf → lf ≤ 1048576 → Ev (fun k => F k lf (i : Int)) (leftOf (sumL sz (l.drop i)) lf) := by
  intro d
  induction d with
  | zero =>
    intro i lf hd hi g0 g1
    have e : i = l.length := by omega
    subst e
    refine Ev.step (fun k => hend k lf) ?_
    simp only [List.drop_length, sumL]
    exact Ev.eq (Ev.now lf) (leftOf_zero g0).symm
  | succ d ihd =>
    intro i lf hd hi g0 g1
    have hlt : i < l.length := by omega
    rw [drop_tk l i hlt, sumL]
    refine Ev.step (fun k => hstep k lf i hlt) ?_
    refine Ev.bind (hone _ (List.getElem_mem hlt) lf g0 g1) ?_
    by_cases hc : (sz l[i] : Int) ≤ lf
    · rw [leftOf_yes hc]
      simp only [if_neg (show ¬ (lf - (sz l[i] : Int) < 0) by omega)]
      exact Ev.eq (ihd (i + 1) (lf - sz l[i]) (by omega) (by omega) (by omega) (by omega)) (leftOf_add hc)
    · rw [leftOf_no hc]
      simp only [if_pos (show (-1 : Int) < 0 by omega)]
      exact Ev.eq (Ev.now (-1)) (leftOf_no (by omega)).symm
theorem toLoop {α β γ : Type} (l : List α) (F : Nat → List β → Int → Option (List β)) (one : Nat → α → Option γ) (mk : γ → β) (cv : α → β) (z : β)
    (hend : ∀ k out, F (k + 1) out (l.length : Int) = some out)
    (hstep : ∀ k out (i : Nat) (h : i < l.length), out.length = l.length → F (k + 1) out (i : Int) = (one k l[i]).bind fun t => F k (out.set i (mk t)) ((i + 1 : Nat) : Int))
    (hone : ∀ x ∈ l, ∃ c, Ev (fun k => one k x) c ∧ mk c = cv x) : Ev (fun k => F k (List.replicate l.length z) 0) (l.map cv) := by
  have loop : ∀ (d i : Nat), d = l.length - i → i ≤ l.length → Ev (fun k => F k ((l.take i).map cv ++ List.replicate (l.length - i) z) (i : Int)) (l.map cv) := by
    intro d
    induction d with
    | zero =>
      intro i hd hi
      have e : i = l.length := by omega
      subst e
      refine Ev.step (fun k => hend k _) ?_
      simp only [Nat.sub_self, List.replicate_zero, List.append_nil, List.take_length]
      exact Ev.now _
    | succ d ihd =>
      intro i hd hi
      have hlt : i < l.length := by omega
      have hl : ((l.take i).map cv ++ List.replicate (l.length - i) z).length = l.length := by simp; omega
      refine Ev.step (fun k => hstep k _ i hlt hl) ?_
      obtain ⟨c, hc, hm⟩ := hone _ (List.getElem_mem hlt)
      refine Ev.bind hc ?_
      rw [hm]
      have e : ((l.take i).map cv ++ List.replicate (l.length - i) z).set i (cv l[i]) = (l.take (i + 1)).map cv ++ List.replicate (l.length - (i + 1)) z := by
        rw [List.set_append_right _ _ (by rw [List.length_map, List.length_take]; omega), List.length_map, List.length_take, Nat.min_eq_left (by omega), Nat.sub_self]
        rw [show l.length - i = (l.length - (i + 1)) + 1 by omega, List.replicate_succ, List.set_cons_zero, List.take_succ_eq_append_getElem hlt]
        rw [List.map_append, List.map_singleton, List.append_assoc, List.singleton_append]
      rw [e]
      exact ihd (i + 1) (by omega) (by omega)
  have h := loop l.length 0 (by omega) (by omega)
  simp only [List.take_zero, List.map_nil, List.nil_append, Nat.sub_zero, Int.natCast_zero, Int.ofNat_zero] at h
  exact h
theorem allLoop {α : Type} (l : List α) (F : Nat → Int → Option Bool) (one : Nat → α → Option Bool) (p : α → Bool)
    (hend : ∀ k, F (k + 1) (l.length : Int) = some true)
    (hstep : ∀ k (i : Nat) (h : i < l.length), F (k + 1) (i : Int) = (one k l[i]).bind fun t => if t = true then F k ((i + 1 : Nat) : Int) else some false)
    (hone : ∀ x ∈ l, Ev (fun k => one k x) (p x)) : ∀ (d i : Nat), d = l.length - i → i ≤ l.length → Ev (fun k => F k (i : Int)) ((l.drop i).all p) := by
  intro d
  induction d with
  | zero =>
    intro i hd hi
    have e : i = l.length := by omega
    subst e
    refine Ev.step (fun k => hend k) ?_
    simp only [List.drop_length, List.all_nil]
    exact Ev.now true
  | succ d ihd =>
    intro i hd hi
    have hlt : i < l.length := by omega
    rw [drop_tk l i hlt, List.all_cons]
    refine Ev.step (fun k => hstep k i hlt) ?_
    refine Ev.bind (hone _ (List.getElem_mem hlt)) ?_
    cases hp : p l[i] with
    | true => simp only [if_true, Bool.true_and]; exact ihd (i + 1) (by omega) (by omega)
    | false => simp only [Bool.false_eq_true, if_false, Bool.false_and]; exact Ev.now false
theorem eqLoop {α : Type} (l : List α) (F : Nat → Int → Option Bool) (one : Nat → α → Option Bool)
    (hend : ∀ k, F (k + 1) (l.length : Int) = some true)
    (hstep : ∀ k (i : Nat) (h : i < l.length), F (k + 1) (i : Int) = (one k l[i]).bind fun t => if t = true then F k ((i + 1 : Nat) : Int) else some false)
    (hone : ∀ x ∈ l, Ev (fun k => one k x) true) : Ev (fun k => F k 0) true := by
  have h := allLoop l F one (fun _ => true) hend hstep hone l.length 0 (by omega) (by omega)
  simp only [List.drop_zero, List.all_eq_true, implies_true] at h
  exact Ev.eq h (by simp)
end Go.Proofs.Ytofieekbhbkliaa.G
end
section
namespace Go.Proofs.Ytofieekbhbkliaa.G
open Go.RowKit Go.Proofs.YtofieekbhbkliaaW.PrintWords Go.Proofs.YtofieekbhbkliaaW.PrintLast Go.Proofs.YtofieekbhbkliaaW.PrintMore
set_option linter.unusedVariables false
set_option linter.unusedSimpArgs false
abbrev Fk9 := S108
abbrev Tr9 := S29
def mkF : List Fk9 → Int → List Fk9
  | [], _ => []
  | _ :: fs, a => ⟨a, a + 1⟩ :: mkF fs (a + 2)
theorem mkF_len (fs : List Fk9) (a : Int) : (mkF fs a).length = fs.length := by
  induction fs generalizing a with
  | nil => rfl
  | cons f fs ih => simp [mkF, ih]
theorem mkF_get (fs : List Fk9) : ∀ (a : Int) (i : Nat) (h : i < (mkF fs a).length), (mkF fs a)[i] = ⟨a + 2 * (i : Int), a + 2 * (i : Int) + 1⟩ := by
  induction fs with
  | nil => intro a i h; simp [mkF] at h
  | cons f fs ih =>
    intro a i h
    cases i with
    | zero => simp [mkF]
    | succ i =>
      simp only [mkF, List.getElem_cons_succ]
      rw [ih]
      congr 1 <;> omega
theorem mkF_take (fs : List Fk9) (a : Int) (i : Nat) (h : i < fs.length) : ((mkF fs a).take i ++ fs.drop i).set i ⟨a + 2 * (i : Int), a + 2 * (i : Int) + 1⟩ = (mkF fs a).take (i + 1) ++ fs.drop (i + 1) := by
  have hl : ((mkF fs a).take i).length = i := by rw [List.length_take, mkF_len]; omega
  rw [List.set_append_right _ _ (by omega), hl, Nat.sub_self, List.drop_eq_getElem_cons h, List.set_cons_zero, List.take_succ_eq_append_getElem (by rw [mkF_len]; exact h), mkF_get]
  simp
theorem rd_fk9 (l : List Fk9) (i : Nat) (h : i < l.length) : rd_T108 l (i : Int) = l[i] := by
  simp only [rd_T108, Int.toNat_natCast, List.getD_eq_getElem?_getD, List.getElem?_eq_getElem h, Option.getD_some]
theorem markF_loop (fs : List Fk9) (a : Int) (h0 : 0 ≤ a) (h1 : a + 2 * (fs.length : Int) ≤ 4611686018427387904) : ∀ (d i : Nat), d = fs.length - i → i ≤ fs.length → Ev (fun k => laws_markFetchS.l0 k ((mkF fs a).take i ++ fs.drop i) (a + 2 * (i : Int)) (i : Int)) (a + 2 * (fs.length : Int), mkF fs a) := by
  intro d
  induction d with
  | zero =>
    intro i hd hi
    have e : i = fs.length := by omega
    subst e
    refine Ev.step (fun k => by rw [laws_markFetchS.l0]) ?_
    have hl : (mkF fs a).take fs.length ++ fs.drop fs.length = mkF fs a := by rw [List.drop_length, List.append_nil, List.take_of_length_le (by rw [mkF_len]; exact Nat.le_refl _)]
    rw [hl]
    simp only [mkF_len, if_neg (show ¬ ((fs.length : Int) < (fs.length : Int)) by omega)]
    exact Ev.now _
  | succ d ih =>
    intro i hd hi
    have hlt : i < fs.length := by omega
    have hll : ((mkF fs a).take i ++ fs.drop i).length = fs.length := by rw [List.length_append, List.length_take, mkF_len, List.length_drop]; omega
    refine Ev.step (fun k => by rw [laws_markFetchS.l0]) ?_
    have ew : wrap64 (a + 2 * (i : Int) + 1) = a + 2 * (i : Int) + 1 := wrap_id _ (by omega) (by omega)
    have ew2 : wrap64 (a + 2 * (i : Int) + 1 + 1) = a + 2 * ((i + 1 : Nat) : Int) := by rw [wrap_id _ (by omega) (by omega)]; omega
    simp only [hll, if_pos (show (i : Int) < (fs.length : Int) by omega), if_pos (show (0 : Int) ≤ (i : Int) by omega), ew, ew2, Int.toNat_natCast, Option.bind_some, List.set_set, wrap_nat i (by omega)]
    have e : (rd_T108 (((mkF fs a).take i ++ fs.drop i).set i ⟨a + 2 * (i : Int), (rd_T108 ((mkF fs a).take i ++ fs.drop i) (i : Int)).f1⟩) (i : Int)).f0 = a + 2 * (i : Int) := by
      rw [rd_fk9 _ i (by rw [List.length_set, hll]; exact hlt), List.getElem_set_self]
    rw [e, mkF_take fs a i hlt]
    exact ih (i + 1) (by omega) (by omega)
theorem markF_ev (fs : List Fk9) (a : Int) (h0 : 0 ≤ a) (h1 : a + 2 * (fs.length : Int) ≤ 4611686018427387904) : Ev (fun k => laws_markFetchS.f k fs a) (a + 2 * (fs.length : Int), mkF fs a) := by
  unfold laws_markFetchS.f
  have h := markF_loop fs a h0 h1 fs.length 0 (by omega) (by omega)
  simpa using h
def cntTr (t : Tr9) : Nat := 1 + t.f1.length
def cntTrs : List Tr9 → Nat
  | [] => 0
  | t :: ts => cntTr t + cntTrs ts
def mkT (t : Tr9) (a : Int) : Tr9 := ⟨a, mkF t.f1 (a + 1), a + 1 + 2 * (t.f1.length : Int)⟩
def mkTs : List Tr9 → Int → List Tr9
  | [], _ => []
  | t :: ts, a => mkT t a :: mkTs ts (a + 2 * (cntTr t : Int))
theorem mkTs_len (ts : List Tr9) (a : Int) : (mkTs ts a).length = ts.length := by
  induction ts generalizing a with
  | nil => rfl
  | cons t ts ih => simp [mkTs, ih]
theorem cntTrs_take (ts : List Tr9) (i : Nat) (h : i < ts.length) : cntTrs (ts.take (i + 1)) = cntTrs (ts.take i) + cntTr ts[i] := by
  induction ts generalizing i with
  | nil => simp at h
  | cons s ss ih =>
    cases i with
    | zero => simp [cntTrs]
    | succ i =>
      have := ih i (by simpa using h)
      simp only [List.take_succ_cons, cntTrs, List.getElem_cons_succ, this]
      omega
theorem cntTrs_le (ts : List Tr9) (i : Nat) (h : i < ts.length) : cntTrs (ts.take i) + cntTr ts[i] ≤ cntTrs ts := by
  induction ts generalizing i with
  | nil => simp at h
  | cons s ss ih =>
    cases i with
    | zero => simp [cntTrs]
    | succ i =>
      have := ih i (by simpa using h)
      simp only [List.take_succ_cons, cntTrs, List.getElem_cons_succ]
      omega
theorem mkTs_get (ts : List Tr9) : ∀ (a : Int) (i : Nat) (h : i < ts.length), (mkTs ts a)[i]'(by rw [mkTs_len]; exact h) = mkT ts[i] (a + 2 * (cntTrs (ts.take i) : Int)) := by
  induction ts with
  | nil => intro a i h; simp at h
  | cons t ts ih =>
    intro a i h
    cases i with
    | zero => simp [mkTs, cntTrs]
    | succ i =>
      simp only [mkTs, List.getElem_cons_succ, List.take_succ_cons, cntTrs]
      rw [ih _ i (by simpa using h)]
      congr 1
      omega
theorem mkTs_step (ts : List Tr9) (a : Int) (i : Nat) (h : i < ts.length) : ((mkTs ts a).take i ++ ts.drop i).set i (mkT ts[i] (a + 2 * (cntTrs (ts.take i) : Int))) = (mkTs ts a).take (i + 1) ++ ts.drop (i + 1) := by
  have hl : ((mkTs ts a).take i).length = i := by rw [List.length_take, mkTs_len]; omega
  rw [List.set_append_right _ _ (by omega), hl, Nat.sub_self, List.drop_eq_getElem_cons h, List.set_cons_zero, List.take_succ_eq_append_getElem (by rw [mkTs_len]; exact h), mkTs_get ts a i h]
  simp
theorem mkTs_at (ts : List Tr9) (a : Int) (i : Nat) (h : i < ts.length) : ((mkTs ts a).take i ++ ts.drop i).getD i ⟨0, [], 0⟩ = ts[i] := by
  have hl : ((mkTs ts a).take i).length = i := by rw [List.length_take, mkTs_len]; omega
  rw [List.getD_eq_getElem?_getD, List.getElem?_append_right (by omega), hl, Nat.sub_self, List.getElem?_drop, Nat.add_zero, List.getElem?_eq_getElem h, Option.getD_some]
theorem mkTs_mid (ts : List Tr9) (a : Int) (i : Nat) : ((mkTs ts a).take i ++ ts.drop i).length = ts.length := by
  rw [List.length_append, List.length_take, mkTs_len, List.length_drop]; omega
end Go.Proofs.Ytofieekbhbkliaa.G
end
section
namespace Go.Proofs.Ytofieekbhbkliaa.G
open Go.RowKit Go.Proofs.YtofieekbhbkliaaW.PrintWords Go.Proofs.YtofieekbhbkliaaW.PrintLast Go.Proofs.YtofieekbhbkliaaW.PrintMore
set_option linter.unusedVariables false
set_option linter.unusedSimpArgs false
theorem S_seg0 {α : Type} {d : Kd α} {e base n cap g : Nat} {ok : Nat → Prop} {W : World} {xs : List α} {i : Int} (h : Kd.S d e W base ok (.slice (some ⟨g, 0, none⟩) n cap) xs) (z : α) (h0 : 0 ≤ i) (h1 : i < n) {seg : List Value} {j : Nat} (hj : j + seg.length ≤ d.sz) (hone : ∀ q ∈ seg, q.oneCell' = true)
    {x' : α} (hx : ∀ (oki : Nat → Prop) (c : List Value), d.M W base oki (xs.getD i.toNat z) c → d.M W base oki x' (c.take j ++ seg ++ c.drop (j + seg.length))) :
    Kd.S d e (W.setCells g (i.toNat * d.sz + j) seg) base ok (.slice (some ⟨g, 0, none⟩) n cap) (xs.set i.toNat x') ∧ W.grownBy (W.setCells g (i.toNat * d.sz + j) seg) (some g) := by
  have h' : Kd.S d e W base (fun k => ok k ∧ ¬ (fun _ => False) k) (.slice (some ⟨g, 0, none⟩) n cap) xs := Kd.S_mono h (fun k hk => ⟨hk, fun f => f⟩)
  obtain ⟨oki, c, hcl, hM, hcc, hfr, hoki, hH⟩ := Kd.S_elem h' z i h0 h1
  exact Kd.S_seg (okp := oki) hH h0 h1 hj (hx oki c hM) (fun _ hk => .inl hk) (fun _ hk => hk.elim)
set_option maxHeartbeats 8000000 in
set_option maxRecDepth 100000 in
theorem markTrace_w (ts : List Tr9) (a : Int) (h0 : 0 ≤ a) (h1 : a + 2 * (cntTrs ts : Int) ≤ 4611686018427387904) (P : Nat → Prop) (u : Value) (w0 w : World) (hB : Below w0.heap.size w0 w) (ho : Kd.S k29 29 w w0.heap.size P u ts) :
    Calls Try.prog 28 #[u, .int .i64 a] w fun e w' => e = .returned (.int .i64 (a + 2 * (cntTrs ts : Int))) ∧ Kd.S k29 29 w' w0.heap.size P u (mkTs ts a) ∧ Below w0.heap.size w0 w' ∧ Kept w w' P := by
  obtain ⟨A, c, rfl⟩ := Kd.S_slice ho
  have HO0 := Aside0.mk ho
  have HB0 := Aside0.mk hB
  have H0 := Aside0.mk (And.intro h0 h1)
  clear ho hB h0 h1
  go_enter Try.func28, Try.ntmps28
  go_wp2
  go_loopg [1, 5] ts.length (fun kq v1 v5 w' => ∃ (i : Nat) (x1 x5 : Int) (xs : List Tr9), v1 = .int .i64 x1 ∧ v5 = .int .i64 x5 ∧ Aside0 (x1 = a + 2 * (cntTrs (ts.take i) : Int)) ∧ Aside0 (x5 = (i : Int)) ∧ Aside0 (i + kq = ts.length) ∧ Aside0 (xs = (mkTs ts a).take i ++ ts.drop i) ∧ Aside0 (Kd.S k29 29 w' w0.heap.size P (.slice A ts.length c) xs) ∧ Aside0 (Below w0.heap.size w0 w') ∧ Aside0 (Kept w w' P))
  case atStart => exact ⟨0, a, 0, ts, rfl, rfl, ⟨by simp [cntTrs]⟩, ⟨rfl⟩, ⟨by omega⟩, ⟨by simp⟩, HO0, HB0, ⟨Kept.refl _ _⟩⟩
  case round =>
    obtain ⟨i, x1, x5, xs, rfl, rfl, HX1, HX5, HIK, HXS, HO, HB, HK⟩ := hrel
    cases gk with
    | zero =>
      have hb : decide (x5 < (ts.length : Int)) = false := decide_eq_false (by have := HX5.out; have := HIK.out; omega)
      have HE : Aside0 (x1 = a + 2 * (cntTrs ts : Int)) := ⟨by have h1 := HX1.out; have h2 := HIK.out; rw [List.take_of_length_le (by omega)] at h1; exact h1⟩
      have HE2 : Aside0 (xs = mkTs ts a) := ⟨by have h2 := HIK.out; rw [HXS.out, List.drop_of_length_le (by omega), List.append_nil, List.take_of_length_le (by rw [mkTs_len]; omega)]⟩
      clear HX1
      go_wp2
      go_ret
      exact ⟨by rw [HE.out]; rfl, by rw [← HE2.out]; exact HO.out, HB.out, HK.out⟩
    | succ gk =>
      have HLT : Aside0 (i < ts.length) := ⟨by have := HIK.out; omega⟩
      have hb : decide (x5 < (ts.length : Int)) = true := decide_eq_true (by have := HX5.out; have := HLT.out; omega)
      have HC := Aside0.mk (cntTrs_le ts i HLT.out)
      have HC2 := Aside0.mk (cntTrs_take ts i HLT.out)
      have HAT : Aside0 (xs.getD x5.toNat ⟨0, [], 0⟩ = ts[i]'HLT.out) := ⟨by rw [HXS.out, HX5.out, Int.toNat_natCast]; exact mkTs_at ts a i HLT.out⟩
      have HLN : Aside0 (xs.length = ts.length) := ⟨by rw [HXS.out]; exact mkTs_mid ts a i⟩
      have hp : 0 ≤ x5 := by have := HX5.out; omega
      have hq : x5 < (ts.length : Int) := by have := HX5.out; have := HLT.out; omega
      have HP := Aside0.mk hp
      have HQ := Aside0.mk hq
      obtain ⟨g, cap, e, hbg, _, _, _⟩ := Kd.S_form HO.out (by have := HLT.out; have := HLN.out; omega)
      have hAe : A = some ⟨g, 0, none⟩ := by injection e
      subst hAe
      have hOKg := (Kd.S_R HO.out).1 g rfl
      have HG := Aside0.mk (And.intro hOKg hbg)
      clear hOKg hbg e
      generalize hti : ts[i]'HLT.out = ti at HAT HC HC2
      have HTI := Aside0.mk hti
      clear hti
      obtain ⟨oki, ce, hcl, hM, hcc, hfr, hoki, hH⟩ := Kd.S_elem HO.out ⟨0, [], 0⟩ x5 hp hq
      rw [HAT.out] at hM
      obtain ⟨v1, rfl, hR1⟩ := k29_openM hM
      have hx0 : wr.cell? ⟨g, x5.toNat * 3, none⟩ = some (.int .i64 ti.f0) := hcc 0 _ rfl
      have hf0 : wr.frozen? ⟨g, x5.toNat * 3, none⟩ = false := hfr 0
      clear hcl hcc hfr hM hoki hH hR1
      have hp' : (0 ≤ x5) = True := eq_true hp
      have hq' : (x5 < (ts.length : Int)) = True := eq_true hq
      clear hp hq
      have HS1 := Aside0.mk (S_seg0 (i := x5) HO.out ⟨0, [], 0⟩ HP.out HQ.out (seg := [.int .i64 x1]) (j := 0) (show 0 + 1 ≤ 3 from by decide) (by intro q hq; rw [List.mem_singleton.1 hq]; rfl) (x' := (⟨x1, ti.f1, ti.f2⟩ : Tr9)) (fun oki c hM => by rw [HAT.out] at hM; obtain ⟨v1, rfl, hR1⟩ := k29_openM hM; exact k29_mkM _ _ _ (⟨x1, ti.f1, ti.f2⟩ : Tr9) hR1))
      go_wp2_with (first
        | ((with_reducible refine gate_store (t := 3) (p := 16) rfl ?_); refine store_event (t := 3) (p := 16) (v := ?vo_1) (w1 := (wr.setCell ⟨g, x5.toNat * 3, none⟩ (.int .i64 x1))) ?hg ?ho ?hn ?hr ?_; (case ho => rfl); (case hg => rfl); (case hn => rfl); (case hr => first | (go_simp; done) | (go_simp; rfl)); intro w9 hw;
           have hg := HS1.out.2; have hs := HS1.out.1; have hw' : wr.setCells g (x5.toNat * 3 + 0) [.int .i64 x1] = w9 := hw.symm; rw [show k29.sz = 3 from rfl, hw'] at hg hs;
           have HO9 := Aside0.mk hs; have HB9 := Aside0.mk (pw_below_grown HB.out (some g) HB.out.size hg (fun k e => by injection e with e; rw [← e]; exact HG.out.2)); have HK9 := Aside0.mk (Kept.of_grown (S := P) hg HK.out (fun k e => by injection e with e; rw [← e]; exact .inl HG.out.1)); clear hw hw' hg hs HS1 hx0 hf0;
           have HAT9 : Aside0 ((xs.set x5.toNat (⟨x1, ti.f1, ti.f2⟩ : Tr9)).getD x5.toNat ⟨0, [], 0⟩ = ⟨x1, ti.f1, ti.f2⟩) := ⟨by rw [List.getD_eq_getElem?_getD, List.getElem?_set_self (by have h1 := HP.out; have h2 := HQ.out; have h3 := HLN.out; omega), Option.getD_some]⟩;
           obtain ⟨oki, ce, hcl, hM, hcc, hfr, hoki, hH⟩ := Kd.S_elem HO9.out ⟨0, [], 0⟩ x5 HP.out HQ.out; rw [HAT9.out] at hM; obtain ⟨v1, rfl, hR1⟩ := k29_openM hM; obtain ⟨Av, cv, rfl⟩ := Kd.R_slice hR1;
           have hx1 : w9.cell? ⟨g, x5.toNat * 3 + 1, none⟩ = some (.slice Av ti.f1.length cv) := hcc 1 _ rfl; have HR1 := Aside0.mk hR1; have HH := Aside0.mk hH; have HOI := Aside0.mk hoki; clear hcl hcc hfr hM hR1 hH hoki))
      have HRT := Aside0.mk (Kd.R_tight rfl HR1.out)
      obtain ⟨km, hkm⟩ := (markF_ev ti.f1 (wrap64 (x1 + 1)) (by have h1 := HX1.out; have h2 := H0.out; have h3 := HC.out; unfold wrap64; simp only [cntTr] at h3; omega) (by have h1 := HX1.out; have h2 := H0.out; have h3 := HC.out; unfold wrap64; simp only [cntTr] at h3; omega)).rounds
      have HCALL := Aside0.mk (laws_markFetchS.calls km (fun k => some k = (Value.slice Av ti.f1.length cv).ownBlock) (.slice Av ti.f1.length cv) ti.f1 (wrap64 (x1 + 1)) _ _ w0 w9 HB9.out HRT.out hkm)
      clear hkm
      with_reducible refine HCALL.out.mono ?_
      rintro e w1 ⟨rfl, hr, hb, hk⟩
      have hH2 := Kd.H_kept HH.out hk (fun k ho hn hs => hn (HR1.out.1 k hs.symm))
      have hM2 := k29_mkM w1 w0.heap.size oki (⟨x1, mkF ti.f1 (wrap64 (x1 + 1)), ti.f2⟩ : Tr9) (Kd.R_mono (Kd.R_tight rfl hr) (fun k e => HR1.out.1 k e.symm))
      have HOA := Aside0.mk (Kd.H_back hH2 hM2 (fun _ h => h))
      have HBA := Aside0.mk hb
      have HKA := Aside0.mk (HK9.out.then_ hk (fun k e => .inl (HOI.out k (HR1.out.1 k e.symm)).1))
      clear hH2 hM2 hr hb hk HCALL HRT hx1
      have HATA : Aside0 (((xs.set x5.toNat (⟨x1, ti.f1, ti.f2⟩ : Tr9)).set x5.toNat (⟨x1, mkF ti.f1 (wrap64 (x1 + 1)), ti.f2⟩ : Tr9)).getD x5.toNat ⟨0, [], 0⟩ = ⟨x1, mkF ti.f1 (wrap64 (x1 + 1)), ti.f2⟩) := ⟨by rw [List.getD_eq_getElem?_getD, List.getElem?_set_self (by rw [List.length_set]; have h1 := HP.out; have h2 := HQ.out; have h3 := HLN.out; omega), Option.getD_some]⟩
      obtain ⟨oki2, ce2, hcl2, hM2, hcc2, hfr2, hoki2, hH2⟩ := Kd.S_elem HOA.out ⟨0, [], 0⟩ x5 HP.out HQ.out
      rw [HATA.out] at hM2
      obtain ⟨v2, rfl, hR2⟩ := k29_openM hM2
      have hx2 : w1.cell? ⟨g, x5.toNat * 3 + 2, none⟩ = some (.int .i64 ti.f2) := hcc2 2 _ rfl
      have hf2 : w1.frozen? ⟨g, x5.toNat * 3 + 2, none⟩ = false := hfr2 2
      clear hcl2 hcc2 hfr2 hM2 hoki2 hH2 hR2
      have HS2 := Aside0.mk (S_seg0 (i := x5) HOA.out ⟨0, [], 0⟩ HP.out HQ.out (seg := [.int .i64 (wrap64 (x1 + 1) + 2 * (ti.f1.length : Int))]) (j := 2) (show 2 + 1 ≤ 3 from by decide) (by intro q hq; rw [List.mem_singleton.1 hq]; rfl) (x' := (⟨x1, mkF ti.f1 (wrap64 (x1 + 1)), wrap64 (x1 + 1) + 2 * (ti.f1.length : Int)⟩ : Tr9)) (fun oki c hM => by rw [HATA.out] at hM; obtain ⟨v1, rfl, hR1⟩ := k29_openM hM; exact k29_mkM _ _ _ (⟨x1, mkF ti.f1 (wrap64 (x1 + 1)), wrap64 (x1 + 1) + 2 * (ti.f1.length : Int)⟩ : Tr9) hR1))
      go_wp2_with (first
        | ((with_reducible refine gate_store (t := 3) (p := 30) rfl ?_); refine store_event (t := 3) (p := 30) (v := ?vo_3) (w1 := (w1.setCell ⟨g, x5.toNat * 3 + 2, none⟩ (.int .i64 (wrap64 (x1 + 1) + 2 * (ti.f1.length : Int))))) ?hg ?ho ?hn ?hr ?_; (case ho => rfl); (case hg => rfl); (case hn => rfl); (case hr => first | (go_simp; done) | (go_simp; rfl)); intro w12 hw;
           have hg := HS2.out.2; have hs := HS2.out.1; have hw' : w1.setCells g (x5.toNat * 3 + 2) [.int .i64 (wrap64 (x1 + 1) + 2 * (ti.f1.length : Int))] = w12 := hw.symm; rw [show k29.sz = 3 from rfl, hw'] at hg hs;
           have HOB := Aside0.mk hs; have HBB := Aside0.mk (pw_below_grown HBA.out (some g) HBA.out.size hg (fun k e => by injection e with e; rw [← e]; exact HG.out.2)); have HKB := Aside0.mk (Kept.of_grown (S := P) hg HKA.out (fun k e => by injection e with e; rw [← e]; exact .inl HG.out.1)); clear hw hw' hg hs HS2 hx2 hf2))
      go_roundg gk
      case measure => omega
      case rel => exact ⟨i + 1, _, _, _, rfl, rfl, ⟨by have h1 := HX1.out; have h2 := H0.out; have h3 := HC.out; have h4 := HC2.out; unfold wrap64; simp only [cntTr] at h3 h4; omega⟩, ⟨by have h1 := HX5.out; have h2 := HLT.out; have h3 := HLN.out; have h4 := (Kd.S_reads' HOB.out).2.2.2.1; unfold wrap64; simp only [List.length_set] at h4; omega⟩, ⟨by have := HIK.out; omega⟩, ⟨by
        have h1 := HX1.out
        have h2 := H0.out
        have h3 := HC.out
        simp only [cntTr] at h3
        have ew : wrap64 (x1 + 1) = x1 + 1 := wrap_id _ (by omega) (by omega)
        have hs := mkTs_step ts a i HLT.out
        rw [HTI.out, ← h1] at hs
        rw [List.set_set, List.set_set, HX5.out, Int.toNat_natCast, ew, HXS.out, ← hs]
        rfl⟩, HOB, HBB, HKB⟩
end Go.Proofs.Ytofieekbhbkliaa.G
end
section
namespace Go.Proofs.Ytofieekbhbkliaa.G
open Go.RowKit Go.Proofs.YtofieekbhbkliaaW.PrintWords Go.Proofs.YtofieekbhbkliaaW.PrintLast Go.Proofs.YtofieekbhbkliaaW.PrintMore
set_option linter.unusedVariables false
set_option linter.unusedSimpArgs false
def laws_markTraceS.f (l : List S29) (a : Int) : Option (Int × List S29) := if 0 ≤ a ∧ a + 2 * (cntTrs l : Int) ≤ 4611686018427387904 then some (a + 2 * (cntTrs l : Int), mkTs l a) else none
theorem lwTraceS {W0 W : World} {lo hi : Nat} {v : Value} {xs ys : List S29} {a r : Int} (hB : Below W0.heap.size W0 W) (h : OwnS k29 29 W0 W lo hi v xs) (hf : laws_markTraceS.f xs a = some (r, ys)) :
    Calls Try.prog 28 #[v, .int .i64 a] W fun e W' => e = .returned (.int .i64 r) ∧ OwnS k29 29 W0 W' lo hi v ys ∧ Below W0.heap.size W0 W' ∧ Kept W W' (fun k => lo ≤ k ∧ k < hi) := by
  unfold laws_markTraceS.f at hf
  split at hf
  · rename_i hc
    injection hf with hf
    injection hf with h1 h2
    subst h1 h2
    exact (markTrace_w xs a hc.1 hc.2 _ v W0 W hB h.2.2).mono fun e W' ⟨e1, e2, e3, e4⟩ => ⟨e1, ownS_back h e4 e2, e3, e4⟩
  · cases hf
theorem lwTrace (k : Nat) {W0 W : World} {lo hi : Nat} {v : Value} {x y : Int} {xs ys : List S108} {a r : Int} (hB : Below W0.heap.size W0 W) (h : OwnI k108 108 W0 W lo hi v xs) (hf : laws_markTrace.f k x xs y a = some (r, ys)) :
    Calls Try.prog 29 #[.agg #[.int .i64 x, v, .int .i64 y], .int .i64 a] W fun e W' => e = .returned (.int .i64 r) ∧ OwnI k108 108 W0 W' lo hi v ys ∧ Below W0.heap.size W0 W' ∧ Kept W W' (fun k => lo ≤ k ∧ k < hi) :=
  (laws_markTrace.calls k x _ v xs y a r ys W0 W hB h.2.2 hf).mono fun e W' ⟨h1, h2, h3, h4⟩ => ⟨h1, own_back rfl h h4 h2, h3, h4⟩
end Go.Proofs.Ytofieekbhbkliaa.G
end
section
namespace Go.Proofs.Ytofieekbhbkliaa.G
open Go.RowKit Go.Proofs.YtofieekbhbkliaaW.PrintWords Go.Proofs.YtofieekbhbkliaaW.PrintLast Go.Proofs.YtofieekbhbkliaaW.PrintMore
set_option linter.unusedVariables false
set_option linter.unusedSimpArgs false
set_option maxHeartbeats 8000000 in
set_option maxRecDepth 100000 in
theorem lw_FnExactTracesFind (A0 : Option Addr) (c0 : Nat) (l0 : List (S37)) (a1 : Int) (A2 : Option Addr) (c2 : Nat) (l2 : List (Int)) (w : World) (hr0 : Kd.C k37 w A0 l0.length l0) (hc0 : l0.length ≤ c0) (hr2 : Kd.C (Kd.int .i64) w A2 l2.length l2) (hc2 : l2.length ≤ c2) (hl_l2 : (l2.length : Int) ≤ 1048576) (r1 : Int) (r2 : List (S29)) (r3 : List Int) (r4 : Int) (r5 : List (S108)) (r6 : Int) (r7 : Bool) (m8 : List (S29)) (k9 : Int) (m10 : List (Int)) (k11 : Int) (m12 : List (S108)) (k13 : Int) (K1 : Nat) (H1 : laws_szTraceS.f K1 l0 1048576 = some r1) (K2 : Nat) (H2 : laws_toTraceS.f K2 l0 = some r2) (K3 : Nat) (H3 : laws_toIntS.f K3 l2 = some r3) (K4 : Nat) (H4 : spec_TracesFind.f K4 r2 a1 r3 = some (r4, r5, r6, r7)) (K5 : Nat) (H5 : impl_TracesFind.f K5 r2 a1 r3 = some (r4, r5, r6, r7)) (K6 : Nat) (H6 : laws_eqTrace.f K6 r4 r5 r6 r4 r5 r6 = some true) (K7 : Nat) (H7 : laws_eqTraceS.f K7 r2 r2 = some true) (K8 : Nat) (H8 : laws_eqIntS.f K8 r3 r3 = some true) (H9 : laws_markTraceS.f r2 1 = some (k9, m8)) (K10 : Nat) (H10 : laws_markIntS.f K10 r3 k9 = some (k11, m10)) (K11 : Nat) (H11 : laws_markTrace.f K11 r4 r5 r6 1 = some (k13, m12)) (K12 : Nat) (H12 : laws_heldTrace.f K12 r4 m12 r6 1 = some k13) (hx_1 : 0 ≤ r1) (hx_2 : 0 ≤ k9) (hx_3 : 0 ≤ k11) (hx_4 : 0 ≤ k13) :
    Calls Try.prog 7 #[.slice A0 l0.length c0, .int .i64 a1, .slice A2 l2.length c2] w fun e w' => e = .returned (.bool true) ∧ Below w.heap.size w w' := by
  have hu29 := Try.underlying29
  have HR0 := Aside0.mk hr0
  have HC0 := Aside0.mk hc0
  clear hr0 hc0
  have HR2 := Aside0.mk hr2
  have HC2 := Aside0.mk hc2
  clear hr2 hc2
  have G1 := Aside0.mk H1
  clear H1
  have G2 := Aside0.mk H2
  clear H2
  have G3 := Aside0.mk H3
  clear H3
  have G4 := Aside0.mk H4
  clear H4
  have G5 := Aside0.mk H5
  clear H5
  have G6 := Aside0.mk H6
  clear H6
  have G7 := Aside0.mk H7
  clear H7
  have G8 := Aside0.mk H8
  clear H8
  have G9 := Aside0.mk H9
  clear H9
  have G10 := Aside0.mk H10
  clear H10
  have G11 := Aside0.mk H11
  clear H11
  have G12 := Aside0.mk H12
  clear H12
  have HX1 := Aside0.mk hx_1
  have HX2 := Aside0.mk hx_2
  have HX3 := Aside0.mk hx_3
  have HX4 := Aside0.mk hx_4
  have hd_1 : decide (r1 < 0) = false := decide_eq_false (by omega)
  have hd_2 : decide (k9 < 0) = false := decide_eq_false (by omega)
  have hd_3 : decide (k11 < 0) = false := decide_eq_false (by omega)
  have hd_4 : decide (k13 < 0) = false := decide_eq_false (by omega)
  have hdl_l2 : decide ((l2.length : Int) > 1048576) = false := decide_eq_false (by omega)
  clear hx_1 hx_2 hx_3 hx_4 hl_l2
  have HB := Aside0.mk (Below.refl w.heap.size w)
  go_enter Try.func7, Try.ntmps7
  have CK := Aside0.mk (laws_szTraceS.calls K1 A0 c0 l0 1048576 r1 w (Kd.C_below HR0.out HB.out) HC0.out G1.out)
  go_wp2_with fail
  with_reducible refine CK.out.mono ?_
  rintro e w1 ⟨rfl, hb0⟩
  have hb := hb0
  clear CK hb0
  have hW_ : Below w.heap.size w w1 := (Below.refl w.heap.size w).trans (hb.mono (Below.refl w.heap.size w).size)
  have SZ1 := Aside0.mk (Nat.le_trans (Nat.le_refl w.heap.size : w.heap.size ≤ w.heap.size) hb.size)
  have NHB := Aside0.mk (HB.out.trans (hW_.mono HB.out.size))
  clear hb hW_
  clear HB
  have HB := NHB
  clear NHB
  have CK := Aside0.mk (laws_toTraceS.calls K2 A0 c0 l0 r2 w1 (Kd.C_below HR0.out HB.out) HC0.out G2.out)
  go_wp2_with fail
  with_reducible refine CK.out.mono ?_
  rintro e w2 ⟨v0_, rfl, ho0, hb0⟩
  have hb := hb0
  clear CK hb0
  have hW_ : Below w1.heap.size w1 w2 := (Below.refl w1.heap.size w1).trans (hb.mono (Below.refl w1.heap.size w1).size)
  have NHB := Aside0.mk (HB.out.trans (hW_.mono HB.out.size))
  obtain ⟨lo1, elo1⟩ : ∃ n_, w1.heap.size = n_ := ⟨_, rfl⟩
  obtain ⟨hi1, ehi1⟩ : ∃ n_, w2.heap.size = n_ := ⟨_, rfl⟩
  have hn_0 := OwnS.new (W0 := w) HB.out.size hb.size ho0
  rw [elo1, ehi1] at hn_0
  obtain ⟨Ao3, co3, rfl⟩ := hn_0.slice
  have HOo3 := Aside0.mk hn_0
  clear hn_0 ho0
  have SP1 := Aside0.mk (And.intro (by have h_ := hb.size; rw [elo1, ehi1] at h_; exact h_ : lo1 ≤ hi1) (And.intro (Nat.le_of_eq elo1 : w1.heap.size ≤ lo1) (Nat.le_of_eq ehi1.symm : hi1 ≤ w2.heap.size)))
  clear hb hW_ elo1 ehi1
  clear HB
  have HB := NHB
  clear NHB
  have CK := Aside0.mk (laws_toIntS.calls K3 A2 c2 l2 r3 w2 (Kd.C_below HR2.out HB.out) HC2.out G3.out)
  go_wp2_with fail
  with_reducible refine CK.out.mono ?_
  rintro e w4 ⟨v0_, rfl, ho0, hb0⟩
  have hb := hb0
  clear CK hb0
  have hW_ : Below w2.heap.size w2 w4 := (Below.refl w2.heap.size w2).trans (hb.mono (Below.refl w2.heap.size w2).size)
  have NHOo3 := Aside0.mk (HOo3.out.below hW_)
  have NHB := Aside0.mk (HB.out.trans (hW_.mono HB.out.size))
  obtain ⟨lo2, elo2⟩ : ∃ n_, w2.heap.size = n_ := ⟨_, rfl⟩
  obtain ⟨hi2, ehi2⟩ : ∃ n_, w4.heap.size = n_ := ⟨_, rfl⟩
  have hn_0 := OwnI.new (W0 := w) HB.out.size hb.size ho0
  rw [elo2, ehi2] at hn_0
  obtain ⟨Ao5, co5, rfl⟩ := hn_0.slice
  have HOo5 := Aside0.mk hn_0
  clear hn_0 ho0
  have SP2 := Aside0.mk (And.intro (by have h_ := hb.size; rw [elo2, ehi2] at h_; exact h_ : lo2 ≤ hi2) (And.intro (Nat.le_of_eq elo2 : w2.heap.size ≤ lo2) (Nat.le_of_eq ehi2.symm : hi2 ≤ w4.heap.size)))
  clear hb hW_ elo2 ehi2
  clear HOo3
  have HOo3 := NHOo3
  clear NHOo3
  clear HB
  have HB := NHB
  clear NHB
  have CK := Aside0.mk (spec_TracesFind.calls K4 Ao3 co3 r2 a1 Ao5 co5 r3 r4 r5 r6 r7 w4 (HOo3.out.below (Below.refl w4.heap.size w4)).C HOo3.out.room (HOo5.out.below (Below.refl w4.heap.size w4)).C HOo5.out.room G4.out)
  go_wp2_with fail
  with_reducible refine CK.out.mono ?_
  rintro e w6 ⟨v1_, rfl, ho0, hb0⟩
  have hb := hb0
  clear CK hb0
  have hW_ : Below w4.heap.size w4 w6 := (Below.refl w4.heap.size w4).trans (hb.mono (Below.refl w4.heap.size w4).size)
  have NHOo3 := Aside0.mk (HOo3.out.below hW_)
  have NHOo5 := Aside0.mk (HOo5.out.below hW_)
  have NHB := Aside0.mk (HB.out.trans (hW_.mono HB.out.size))
  obtain ⟨lo3, elo3⟩ : ∃ n_, w4.heap.size = n_ := ⟨_, rfl⟩
  obtain ⟨hi3, ehi3⟩ : ∃ n_, w6.heap.size = n_ := ⟨_, rfl⟩
  have hn_0 := OwnI.new (W0 := w) HB.out.size hb.size ho0
  rw [elo3, ehi3] at hn_0
  obtain ⟨Ao7, co7, rfl⟩ := hn_0.slice
  have HOo7 := Aside0.mk hn_0
  clear hn_0 ho0
  have SP3 := Aside0.mk (And.intro (by have h_ := hb.size; rw [elo3, ehi3] at h_; exact h_ : lo3 ≤ hi3) (And.intro (Nat.le_of_eq elo3 : w4.heap.size ≤ lo3) (Nat.le_of_eq ehi3.symm : hi3 ≤ w6.heap.size)))
  clear hb hW_ elo3 ehi3
  clear HOo3
  have HOo3 := NHOo3
  clear NHOo3
  clear HOo5
  have HOo5 := NHOo5
  clear NHOo5
  clear HB
  have HB := NHB
  clear NHB
  have CK := Aside0.mk (laws_toTraceS.calls K2 A0 c0 l0 r2 (w6.alloc (.cells #[.int .i64 r4, .slice Ao7 r5.length co7, .int .i64 r6] 29)) (Kd.C_below HR0.out (below_alloc HB.out _)) HC0.out G2.out)
  go_wp2_with fail
  with_reducible refine CK.out.mono ?_
  rintro e w8 ⟨v0_, rfl, ho0, hb0⟩
  have hb := hb0
  clear CK hb0
  have hW_ : Below w6.heap.size w6 w8 := (below_alloc (Below.refl w6.heap.size w6) _).trans (hb.mono (below_alloc (Below.refl w6.heap.size w6) _).size)
  have NB0 := Aside0.mk ((hb.block _ (blk_lt (show (w6.alloc (.cells #[.int .i64 r4, .slice Ao7 r5.length co7, .int .i64 r6] 29)).heap[w6.heap.size]? = some (.cells #[.int .i64 r4, .slice Ao7 r5.length co7, .int .i64 r6] 29 (0, 0)) from by have h_ := heap_alloc_new w6 (.cells #[.int .i64 r4, .slice Ao7 r5.length co7, .int .i64 r6] 29); simpa using h_))).trans (show (w6.alloc (.cells #[.int .i64 r4, .slice Ao7 r5.length co7, .int .i64 r6] 29)).heap[w6.heap.size]? = some (.cells #[.int .i64 r4, .slice Ao7 r5.length co7, .int .i64 r6] 29 (0, 0)) from by have h_ := heap_alloc_new w6 (.cells #[.int .i64 r4, .slice Ao7 r5.length co7, .int .i64 r6] 29); simpa using h_))
  have NHOo3 := Aside0.mk (HOo3.out.below hW_)
  have NHOo5 := Aside0.mk (HOo5.out.below hW_)
  have NHOo7 := Aside0.mk (HOo7.out.below hW_)
  have NHB := Aside0.mk (HB.out.trans (hW_.mono HB.out.size))
  obtain ⟨lo4, elo4⟩ : ∃ n_, (w6.alloc (.cells #[.int .i64 r4, .slice Ao7 r5.length co7, .int .i64 r6] 29)).heap.size = n_ := ⟨_, rfl⟩
  obtain ⟨hi4, ehi4⟩ : ∃ n_, w8.heap.size = n_ := ⟨_, rfl⟩
  have hn_0 := OwnS.new (W0 := w) (below_alloc HB.out _).size hb.size ho0
  rw [elo4, ehi4] at hn_0
  obtain ⟨Ao9, co9, rfl⟩ := hn_0.slice
  have HOo9 := Aside0.mk hn_0
  clear hn_0 ho0
  have SP4 := Aside0.mk (And.intro (by have h_ := hb.size; rw [elo4, ehi4] at h_; exact h_ : lo4 ≤ hi4) (And.intro (by have h_ := (Nat.succ_le_of_lt (blk_lt (show (w6.alloc (.cells #[.int .i64 r4, .slice Ao7 r5.length co7, .int .i64 r6] 29)).heap[w6.heap.size]? = some (.cells #[.int .i64 r4, .slice Ao7 r5.length co7, .int .i64 r6] 29 (0, 0)) from by have h_ := heap_alloc_new w6 (.cells #[.int .i64 r4, .slice Ao7 r5.length co7, .int .i64 r6] 29); simpa using h_)) : w6.heap.size + 1 ≤ (w6.alloc (.cells #[.int .i64 r4, .slice Ao7 r5.length co7, .int .i64 r6] 29)).heap.size); rw [elo4] at h_; exact h_ : w6.heap.size + 1 ≤ lo4) (Nat.le_of_eq ehi4.symm : hi4 ≤ w8.heap.size)))
  clear hb hW_ elo4 ehi4
  skip
  have BX0 := NB0
  clear NB0
  clear HOo3
  have HOo3 := NHOo3
  clear NHOo3
  clear HOo5
  have HOo5 := NHOo5
  clear NHOo5
  clear HOo7
  have HOo7 := NHOo7
  clear NHOo7
  clear HB
  have HB := NHB
  clear NHB
  have CK := Aside0.mk (laws_toIntS.calls K3 A2 c2 l2 r3 w8 (Kd.C_below HR2.out HB.out) HC2.out G3.out)
  go_wp2_with fail
  with_reducible refine CK.out.mono ?_
  rintro e w10 ⟨v0_, rfl, ho0, hb0⟩
  have hb := hb0
  clear CK hb0
  have hW_ : Below w8.heap.size w8 w10 := (Below.refl w8.heap.size w8).trans (hb.mono (Below.refl w8.heap.size w8).size)
  have NB0 := Aside0.mk ((hb.block _ (blk_lt BX0.out)).trans BX0.out)
  have NHOo3 := Aside0.mk (HOo3.out.below hW_)
  have NHOo5 := Aside0.mk (HOo5.out.below hW_)
  have NHOo7 := Aside0.mk (HOo7.out.below hW_)
  have NHOo9 := Aside0.mk (HOo9.out.below hW_)
  have NHB := Aside0.mk (HB.out.trans (hW_.mono HB.out.size))
  obtain ⟨lo5, elo5⟩ : ∃ n_, w8.heap.size = n_ := ⟨_, rfl⟩
  obtain ⟨hi5, ehi5⟩ : ∃ n_, w10.heap.size = n_ := ⟨_, rfl⟩
  have hn_0 := OwnI.new (W0 := w) HB.out.size hb.size ho0
  rw [elo5, ehi5] at hn_0
  obtain ⟨Ao11, co11, rfl⟩ := hn_0.slice
  have HOo11 := Aside0.mk hn_0
  clear hn_0 ho0
  have SP5 := Aside0.mk (And.intro (by have h_ := hb.size; rw [elo5, ehi5] at h_; exact h_ : lo5 ≤ hi5) (And.intro (Nat.le_of_eq elo5 : w8.heap.size ≤ lo5) (Nat.le_of_eq ehi5.symm : hi5 ≤ w10.heap.size)))
  clear hb hW_ elo5 ehi5
  clear BX0
  have BX0 := NB0
  clear NB0
  clear HOo3
  have HOo3 := NHOo3
  clear NHOo3
  clear HOo5
  have HOo5 := NHOo5
  clear NHOo5
  clear HOo7
  have HOo7 := NHOo7
  clear NHOo7
  clear HOo9
  have HOo9 := NHOo9
  clear NHOo9
  clear HB
  have HB := NHB
  clear NHB
  have CK := Aside0.mk (impl_TracesFind.calls K5 Ao9 co9 r2 a1 Ao11 co11 r3 r4 r5 r6 r7 w10 (HOo9.out.below (Below.refl w10.heap.size w10)).C HOo9.out.room (HOo11.out.below (Below.refl w10.heap.size w10)).C HOo11.out.room G5.out)
  go_wp2_with fail
  with_reducible refine CK.out.mono ?_
  rintro e w12 ⟨v1_, rfl, ho0, hb0⟩
  have hb := hb0
  clear CK hb0
  have hW_ : Below w10.heap.size w10 w12 := (Below.refl w10.heap.size w10).trans (hb.mono (Below.refl w10.heap.size w10).size)
  have NB0 := Aside0.mk ((hb.block _ (blk_lt BX0.out)).trans BX0.out)
  have NHOo3 := Aside0.mk (HOo3.out.below hW_)
  have NHOo5 := Aside0.mk (HOo5.out.below hW_)
  have NHOo7 := Aside0.mk (HOo7.out.below hW_)
  have NHOo9 := Aside0.mk (HOo9.out.below hW_)
  have NHOo11 := Aside0.mk (HOo11.out.below hW_)
  have NHB := Aside0.mk (HB.out.trans (hW_.mono HB.out.size))
  obtain ⟨lo6, elo6⟩ : ∃ n_, w10.heap.size = n_ := ⟨_, rfl⟩
  obtain ⟨hi6, ehi6⟩ : ∃ n_, w12.heap.size = n_ := ⟨_, rfl⟩
  have hn_0 := OwnI.new (W0 := w) HB.out.size hb.size ho0
  rw [elo6, ehi6] at hn_0
  obtain ⟨Ao13, co13, rfl⟩ := hn_0.slice
  have HOo13 := Aside0.mk hn_0
  clear hn_0 ho0
  have SP6 := Aside0.mk (And.intro (by have h_ := hb.size; rw [elo6, ehi6] at h_; exact h_ : lo6 ≤ hi6) (And.intro (Nat.le_of_eq elo6 : w10.heap.size ≤ lo6) (Nat.le_of_eq ehi6.symm : hi6 ≤ w12.heap.size)))
  clear hb hW_ elo6 ehi6
  clear BX0
  have BX0 := NB0
  clear NB0
  clear HOo3
  have HOo3 := NHOo3
  clear NHOo3
  clear HOo5
  have HOo5 := NHOo5
  clear NHOo5
  clear HOo7
  have HOo7 := NHOo7
  clear NHOo7
  clear HOo9
  have HOo9 := NHOo9
  clear NHOo9
  clear HOo11
  have HOo11 := NHOo11
  clear NHOo11
  clear HB
  have HB := NHB
  clear NHB
  have hx14 : (w12.alloc (.cells #[.int .i64 r4, .slice Ao13 r5.length co13, .int .i64 r6] 29)).cell? ⟨w12.heap.size, 0, none⟩ = some (.int .i64 r4) := (blk_cell (show (w12.alloc (.cells #[.int .i64 r4, .slice Ao13 r5.length co13, .int .i64 r6] 29)).heap[w12.heap.size]? = some (.cells #[.int .i64 r4, .slice Ao13 r5.length co13, .int .i64 r6] 29 (0, 0)) from by have h_ := heap_alloc_new w12 (.cells #[.int .i64 r4, .slice Ao13 r5.length co13, .int .i64 r6] 29); simpa using h_) 0).trans rfl
  have hx15 : (w12.alloc (.cells #[.int .i64 r4, .slice Ao13 r5.length co13, .int .i64 r6] 29)).cell? ⟨w12.heap.size, 1, none⟩ = some (.slice Ao13 r5.length co13) := (blk_cell (show (w12.alloc (.cells #[.int .i64 r4, .slice Ao13 r5.length co13, .int .i64 r6] 29)).heap[w12.heap.size]? = some (.cells #[.int .i64 r4, .slice Ao13 r5.length co13, .int .i64 r6] 29 (0, 0)) from by have h_ := heap_alloc_new w12 (.cells #[.int .i64 r4, .slice Ao13 r5.length co13, .int .i64 r6] 29); simpa using h_) 1).trans rfl
  have hx16 : (w12.alloc (.cells #[.int .i64 r4, .slice Ao13 r5.length co13, .int .i64 r6] 29)).cell? ⟨w12.heap.size, 2, none⟩ = some (.int .i64 r6) := (blk_cell (show (w12.alloc (.cells #[.int .i64 r4, .slice Ao13 r5.length co13, .int .i64 r6] 29)).heap[w12.heap.size]? = some (.cells #[.int .i64 r4, .slice Ao13 r5.length co13, .int .i64 r6] 29 (0, 0)) from by have h_ := heap_alloc_new w12 (.cells #[.int .i64 r4, .slice Ao13 r5.length co13, .int .i64 r6] 29); simpa using h_) 2).trans rfl
  have hx17 : (w12.alloc (.cells #[.int .i64 r4, .slice Ao13 r5.length co13, .int .i64 r6] 29)).cell? ⟨w6.heap.size, 0, none⟩ = some (.int .i64 r4) := (blk_cell (blk_alloc BX0.out _) 0).trans rfl
  have hx18 : (w12.alloc (.cells #[.int .i64 r4, .slice Ao13 r5.length co13, .int .i64 r6] 29)).cell? ⟨w6.heap.size, 1, none⟩ = some (.slice Ao7 r5.length co7) := (blk_cell (blk_alloc BX0.out _) 1).trans rfl
  have hx19 : (w12.alloc (.cells #[.int .i64 r4, .slice Ao13 r5.length co13, .int .i64 r6] 29)).cell? ⟨w6.heap.size, 2, none⟩ = some (.int .i64 r6) := (blk_cell (blk_alloc BX0.out _) 2).trans rfl
  have CK := Aside0.mk (laws_eqTrace.calls K6 r4 Ao13 co13 r5 r6 r4 Ao7 co7 r5 r6 true (w12.alloc (.cells #[.int .i64 r4, .slice Ao13 r5.length co13, .int .i64 r6] 29)) (HOo13.out.below (below_alloc (Below.refl w12.heap.size w12) _)).C HOo13.out.room (HOo7.out.below (below_alloc (Below.refl w12.heap.size w12) _)).C HOo7.out.room G6.out)
  go_wp2_with fail
  with_reducible refine CK.out.mono ?_
  rintro e w20 ⟨rfl, hb0⟩
  have hb := hb0
  clear CK hb0
  clear hx14 hx15 hx16 hx17 hx18 hx19
  have hW_ : Below w12.heap.size w12 w20 := (below_alloc (Below.refl w12.heap.size w12) _).trans (hb.mono (below_alloc (Below.refl w12.heap.size w12) _).size)
  have SZ2 := Aside0.mk (Nat.le_trans (Nat.succ_le_of_lt (blk_lt (show (w12.alloc (.cells #[.int .i64 r4, .slice Ao13 r5.length co13, .int .i64 r6] 29)).heap[w12.heap.size]? = some (.cells #[.int .i64 r4, .slice Ao13 r5.length co13, .int .i64 r6] 29 (0, 0)) from by have h_ := heap_alloc_new w12 (.cells #[.int .i64 r4, .slice Ao13 r5.length co13, .int .i64 r6] 29); simpa using h_)) : w12.heap.size + 1 ≤ (w12.alloc (.cells #[.int .i64 r4, .slice Ao13 r5.length co13, .int .i64 r6] 29)).heap.size) hb.size)
  have NB0 := Aside0.mk ((hb.block _ (blk_lt (blk_alloc BX0.out _))).trans (blk_alloc BX0.out _))
  have NB1 := Aside0.mk ((hb.block _ (blk_lt (show (w12.alloc (.cells #[.int .i64 r4, .slice Ao13 r5.length co13, .int .i64 r6] 29)).heap[w12.heap.size]? = some (.cells #[.int .i64 r4, .slice Ao13 r5.length co13, .int .i64 r6] 29 (0, 0)) from by have h_ := heap_alloc_new w12 (.cells #[.int .i64 r4, .slice Ao13 r5.length co13, .int .i64 r6] 29); simpa using h_))).trans (show (w12.alloc (.cells #[.int .i64 r4, .slice Ao13 r5.length co13, .int .i64 r6] 29)).heap[w12.heap.size]? = some (.cells #[.int .i64 r4, .slice Ao13 r5.length co13, .int .i64 r6] 29 (0, 0)) from by have h_ := heap_alloc_new w12 (.cells #[.int .i64 r4, .slice Ao13 r5.length co13, .int .i64 r6] 29); simpa using h_))
  have NHOo3 := Aside0.mk (HOo3.out.below hW_)
  have NHOo5 := Aside0.mk (HOo5.out.below hW_)
  have NHOo7 := Aside0.mk (HOo7.out.below hW_)
  have NHOo9 := Aside0.mk (HOo9.out.below hW_)
  have NHOo11 := Aside0.mk (HOo11.out.below hW_)
  have NHOo13 := Aside0.mk (HOo13.out.below hW_)
  have NHB := Aside0.mk (HB.out.trans (hW_.mono HB.out.size))
  clear hb hW_
  clear BX0
  have BX0 := NB0
  clear NB0
  skip
  have BX1 := NB1
  clear NB1
  clear HOo3
  have HOo3 := NHOo3
  clear NHOo3
  clear HOo5
  have HOo5 := NHOo5
  clear NHOo5
  clear HOo7
  have HOo7 := NHOo7
  clear NHOo7
  clear HOo9
  have HOo9 := NHOo9
  clear NHOo9
  clear HOo11
  have HOo11 := NHOo11
  clear NHOo11
  clear HOo13
  have HOo13 := NHOo13
  clear NHOo13
  clear HB
  have HB := NHB
  clear NHB
  have CK := Aside0.mk (laws_toTraceS.calls K2 A0 c0 l0 r2 w20 (Kd.C_below HR0.out HB.out) HC0.out G2.out)
  go_wp2_with fail
  with_reducible refine CK.out.mono ?_
  rintro e w21 ⟨v0_, rfl, ho0, hb0⟩
  have hb := hb0
  clear CK hb0
  have hW_ : Below w20.heap.size w20 w21 := (Below.refl w20.heap.size w20).trans (hb.mono (Below.refl w20.heap.size w20).size)
  have NB0 := Aside0.mk ((hb.block _ (blk_lt BX0.out)).trans BX0.out)
  have NB1 := Aside0.mk ((hb.block _ (blk_lt BX1.out)).trans BX1.out)
  have NHOo3 := Aside0.mk (HOo3.out.below hW_)
  have NHOo5 := Aside0.mk (HOo5.out.below hW_)
  have NHOo7 := Aside0.mk (HOo7.out.below hW_)
  have NHOo9 := Aside0.mk (HOo9.out.below hW_)
  have NHOo11 := Aside0.mk (HOo11.out.below hW_)
  have NHOo13 := Aside0.mk (HOo13.out.below hW_)
  have NHB := Aside0.mk (HB.out.trans (hW_.mono HB.out.size))
  obtain ⟨lo7, elo7⟩ : ∃ n_, w20.heap.size = n_ := ⟨_, rfl⟩
  obtain ⟨hi7, ehi7⟩ : ∃ n_, w21.heap.size = n_ := ⟨_, rfl⟩
  have hn_0 := OwnS.new (W0 := w) HB.out.size hb.size ho0
  rw [elo7, ehi7] at hn_0
  obtain ⟨Ao22, co22, rfl⟩ := hn_0.slice
  have HOo22 := Aside0.mk hn_0
  clear hn_0 ho0
  have SP7 := Aside0.mk (And.intro (by have h_ := hb.size; rw [elo7, ehi7] at h_; exact h_ : lo7 ≤ hi7) (And.intro (Nat.le_of_eq elo7 : w20.heap.size ≤ lo7) (Nat.le_of_eq ehi7.symm : hi7 ≤ w21.heap.size)))
  clear hb hW_ elo7 ehi7
  clear BX0
  have BX0 := NB0
  clear NB0
  clear BX1
  have BX1 := NB1
  clear NB1
  clear HOo3
  have HOo3 := NHOo3
  clear NHOo3
  clear HOo5
  have HOo5 := NHOo5
  clear NHOo5
  clear HOo7
  have HOo7 := NHOo7
  clear NHOo7
  clear HOo9
  have HOo9 := NHOo9
  clear NHOo9
  clear HOo11
  have HOo11 := NHOo11
  clear NHOo11
  clear HOo13
  have HOo13 := NHOo13
  clear NHOo13
  clear HB
  have HB := NHB
  clear NHB
  have CK := Aside0.mk (laws_eqTraceS.calls K7 Ao9 co9 r2 Ao22 co22 r2 true w21 (HOo9.out.below (Below.refl w21.heap.size w21)).C HOo9.out.room (HOo22.out.below (Below.refl w21.heap.size w21)).C HOo22.out.room G7.out)
  go_wp2_with fail
  with_reducible refine CK.out.mono ?_
  rintro e w23 ⟨rfl, hb0⟩
  have hb := hb0
  clear CK hb0
  have hW_ : Below w21.heap.size w21 w23 := (Below.refl w21.heap.size w21).trans (hb.mono (Below.refl w21.heap.size w21).size)
  have SZ3 := Aside0.mk (Nat.le_trans (Nat.le_refl w21.heap.size : w21.heap.size ≤ w21.heap.size) hb.size)
  have NB0 := Aside0.mk ((hb.block _ (blk_lt BX0.out)).trans BX0.out)
  have NB1 := Aside0.mk ((hb.block _ (blk_lt BX1.out)).trans BX1.out)
  have NHOo3 := Aside0.mk (HOo3.out.below hW_)
  have NHOo5 := Aside0.mk (HOo5.out.below hW_)
  have NHOo7 := Aside0.mk (HOo7.out.below hW_)
  have NHOo9 := Aside0.mk (HOo9.out.below hW_)
  have NHOo11 := Aside0.mk (HOo11.out.below hW_)
  have NHOo13 := Aside0.mk (HOo13.out.below hW_)
  have NHOo22 := Aside0.mk (HOo22.out.below hW_)
  have NHB := Aside0.mk (HB.out.trans (hW_.mono HB.out.size))
  clear hb hW_
  clear BX0
  have BX0 := NB0
  clear NB0
  clear BX1
  have BX1 := NB1
  clear NB1
  clear HOo3
  have HOo3 := NHOo3
  clear NHOo3
  clear HOo5
  have HOo5 := NHOo5
  clear NHOo5
  clear HOo7
  have HOo7 := NHOo7
  clear NHOo7
  clear HOo9
  have HOo9 := NHOo9
  clear NHOo9
  clear HOo11
  have HOo11 := NHOo11
  clear NHOo11
  clear HOo13
  have HOo13 := NHOo13
  clear NHOo13
  clear HOo22
  have HOo22 := NHOo22
  clear NHOo22
  clear HB
  have HB := NHB
  clear NHB
  have CK := Aside0.mk (laws_toIntS.calls K3 A2 c2 l2 r3 w23 (Kd.C_below HR2.out HB.out) HC2.out G3.out)
  go_wp2_with fail
  with_reducible refine CK.out.mono ?_
  rintro e w24 ⟨v0_, rfl, ho0, hb0⟩
  have hb := hb0
  clear CK hb0
  have hW_ : Below w23.heap.size w23 w24 := (Below.refl w23.heap.size w23).trans (hb.mono (Below.refl w23.heap.size w23).size)
  have NB0 := Aside0.mk ((hb.block _ (blk_lt BX0.out)).trans BX0.out)
  have NB1 := Aside0.mk ((hb.block _ (blk_lt BX1.out)).trans BX1.out)
  have NHOo3 := Aside0.mk (HOo3.out.below hW_)
  have NHOo5 := Aside0.mk (HOo5.out.below hW_)
  have NHOo7 := Aside0.mk (HOo7.out.below hW_)
  have NHOo9 := Aside0.mk (HOo9.out.below hW_)
  have NHOo11 := Aside0.mk (HOo11.out.below hW_)
  have NHOo13 := Aside0.mk (HOo13.out.below hW_)
  have NHOo22 := Aside0.mk (HOo22.out.below hW_)
  have NHB := Aside0.mk (HB.out.trans (hW_.mono HB.out.size))
  obtain ⟨lo8, elo8⟩ : ∃ n_, w23.heap.size = n_ := ⟨_, rfl⟩
  obtain ⟨hi8, ehi8⟩ : ∃ n_, w24.heap.size = n_ := ⟨_, rfl⟩
  have hn_0 := OwnI.new (W0 := w) HB.out.size hb.size ho0
  rw [elo8, ehi8] at hn_0
  obtain ⟨Ao25, co25, rfl⟩ := hn_0.slice
  have HOo25 := Aside0.mk hn_0
  clear hn_0 ho0
  have SP8 := Aside0.mk (And.intro (by have h_ := hb.size; rw [elo8, ehi8] at h_; exact h_ : lo8 ≤ hi8) (And.intro (Nat.le_of_eq elo8 : w23.heap.size ≤ lo8) (Nat.le_of_eq ehi8.symm : hi8 ≤ w24.heap.size)))
  clear hb hW_ elo8 ehi8
  clear BX0
  have BX0 := NB0
  clear NB0
  clear BX1
  have BX1 := NB1
  clear NB1
  clear HOo3
  have HOo3 := NHOo3
  clear NHOo3
  clear HOo5
  have HOo5 := NHOo5
  clear NHOo5
  clear HOo7
  have HOo7 := NHOo7
  clear NHOo7
  clear HOo9
  have HOo9 := NHOo9
  clear NHOo9
  clear HOo11
  have HOo11 := NHOo11
  clear NHOo11
  clear HOo13
  have HOo13 := NHOo13
  clear NHOo13
  clear HOo22
  have HOo22 := NHOo22
  clear NHOo22
  clear HB
  have HB := NHB
  clear NHB
  have CK := Aside0.mk (laws_eqIntS.calls K8 Ao11 co11 r3 Ao25 co25 r3 true w24 (HOo11.out.below (Below.refl w24.heap.size w24)).C HOo11.out.room (HOo25.out.below (Below.refl w24.heap.size w24)).C HOo25.out.room G8.out)
  go_wp2_with fail
  with_reducible refine CK.out.mono ?_
  rintro e w26 ⟨rfl, hb0⟩
  have hb := hb0.below
  clear CK hb0
  have hW_ : Below w24.heap.size w24 w26 := (Below.refl w24.heap.size w24).trans (hb.mono (Below.refl w24.heap.size w24).size)
  have SZ4 := Aside0.mk (Nat.le_trans (Nat.le_refl w24.heap.size : w24.heap.size ≤ w24.heap.size) hb.size)
  have NB0 := Aside0.mk ((hb.block _ (blk_lt BX0.out)).trans BX0.out)
  have NB1 := Aside0.mk ((hb.block _ (blk_lt BX1.out)).trans BX1.out)
  have NHOo3 := Aside0.mk (HOo3.out.below hW_)
  have NHOo5 := Aside0.mk (HOo5.out.below hW_)
  have NHOo7 := Aside0.mk (HOo7.out.below hW_)
  have NHOo9 := Aside0.mk (HOo9.out.below hW_)
  have NHOo11 := Aside0.mk (HOo11.out.below hW_)
  have NHOo13 := Aside0.mk (HOo13.out.below hW_)
  have NHOo22 := Aside0.mk (HOo22.out.below hW_)
  have NHOo25 := Aside0.mk (HOo25.out.below hW_)
  have NHB := Aside0.mk (HB.out.trans (hW_.mono HB.out.size))
  clear hb hW_
  clear BX0
  have BX0 := NB0
  clear NB0
  clear BX1
  have BX1 := NB1
  clear NB1
  clear HOo3
  have HOo3 := NHOo3
  clear NHOo3
  clear HOo5
  have HOo5 := NHOo5
  clear NHOo5
  clear HOo7
  have HOo7 := NHOo7
  clear NHOo7
  clear HOo9
  have HOo9 := NHOo9
  clear NHOo9
  clear HOo11
  have HOo11 := NHOo11
  clear NHOo11
  clear HOo13
  have HOo13 := NHOo13
  clear NHOo13
  clear HOo22
  have HOo22 := NHOo22
  clear NHOo22
  clear HOo25
  have HOo25 := NHOo25
  clear NHOo25
  clear HB
  have HB := NHB
  clear NHB
  have CK := Aside0.mk (lwTraceS HB.out (HOo9.out.below (Below.refl w26.heap.size w26)) G9.out)
  go_wp2_with fail
  with_reducible refine CK.out.mono ?_
  rintro e w27 ⟨rfl, ho, hb, hk⟩
  clear CK
  have hK_ := (Kept.of_below (Below.refl w26.heap.size w26) (fun k => lo4 ≤ k ∧ k < hi4)).then_ hk (fun _ h_ => .inl h_)
  have SZ5 := Aside0.mk (Nat.le_trans (Nat.le_refl w26.heap.size : w26.heap.size ≤ w26.heap.size) hk.1)
  have NB0 := Aside0.mk (blkI BX0.out hk (by have s0_ := SZ1.out; have s1_ := SP1.out; have s2_ := SP2.out; have s3_ := SP3.out; have s4_ := SP4.out; have s5_ := SP5.out; have s6_ := SP6.out; have s7_ := SZ2.out; have s8_ := SP7.out; have s9_ := SZ3.out; have s10_ := SP8.out; have s11_ := SZ4.out; have s12_ := SZ5.out; omega))
  have NB1 := Aside0.mk (blkI BX1.out hk (by have s0_ := SZ1.out; have s1_ := SP1.out; have s2_ := SP2.out; have s3_ := SP3.out; have s4_ := SP4.out; have s5_ := SP5.out; have s6_ := SP6.out; have s7_ := SZ2.out; have s8_ := SP7.out; have s9_ := SZ3.out; have s10_ := SP8.out; have s11_ := SZ4.out; have s12_ := SZ5.out; omega))
  have NHOo3 := Aside0.mk ((HOo3.out.below (Below.refl w26.heap.size w26)).kept hk (by have s0_ := SZ1.out; have s1_ := SP1.out; have s2_ := SP2.out; have s3_ := SP3.out; have s4_ := SP4.out; have s5_ := SP5.out; have s6_ := SP6.out; have s7_ := SZ2.out; have s8_ := SP7.out; have s9_ := SZ3.out; have s10_ := SP8.out; have s11_ := SZ4.out; have s12_ := SZ5.out; omega))
  have NHOo5 := Aside0.mk ((HOo5.out.below (Below.refl w26.heap.size w26)).kept hk (by have s0_ := SZ1.out; have s1_ := SP1.out; have s2_ := SP2.out; have s3_ := SP3.out; have s4_ := SP4.out; have s5_ := SP5.out; have s6_ := SP6.out; have s7_ := SZ2.out; have s8_ := SP7.out; have s9_ := SZ3.out; have s10_ := SP8.out; have s11_ := SZ4.out; have s12_ := SZ5.out; omega))
  have NHOo7 := Aside0.mk ((HOo7.out.below (Below.refl w26.heap.size w26)).kept hk (by have s0_ := SZ1.out; have s1_ := SP1.out; have s2_ := SP2.out; have s3_ := SP3.out; have s4_ := SP4.out; have s5_ := SP5.out; have s6_ := SP6.out; have s7_ := SZ2.out; have s8_ := SP7.out; have s9_ := SZ3.out; have s10_ := SP8.out; have s11_ := SZ4.out; have s12_ := SZ5.out; omega))
  have NHOo11 := Aside0.mk ((HOo11.out.below (Below.refl w26.heap.size w26)).kept hk (by have s0_ := SZ1.out; have s1_ := SP1.out; have s2_ := SP2.out; have s3_ := SP3.out; have s4_ := SP4.out; have s5_ := SP5.out; have s6_ := SP6.out; have s7_ := SZ2.out; have s8_ := SP7.out; have s9_ := SZ3.out; have s10_ := SP8.out; have s11_ := SZ4.out; have s12_ := SZ5.out; omega))
  have NHOo13 := Aside0.mk ((HOo13.out.below (Below.refl w26.heap.size w26)).kept hk (by have s0_ := SZ1.out; have s1_ := SP1.out; have s2_ := SP2.out; have s3_ := SP3.out; have s4_ := SP4.out; have s5_ := SP5.out; have s6_ := SP6.out; have s7_ := SZ2.out; have s8_ := SP7.out; have s9_ := SZ3.out; have s10_ := SP8.out; have s11_ := SZ4.out; have s12_ := SZ5.out; omega))
  have NHOo22 := Aside0.mk ((HOo22.out.below (Below.refl w26.heap.size w26)).kept hk (by have s0_ := SZ1.out; have s1_ := SP1.out; have s2_ := SP2.out; have s3_ := SP3.out; have s4_ := SP4.out; have s5_ := SP5.out; have s6_ := SP6.out; have s7_ := SZ2.out; have s8_ := SP7.out; have s9_ := SZ3.out; have s10_ := SP8.out; have s11_ := SZ4.out; have s12_ := SZ5.out; omega))
  have NHOo25 := Aside0.mk ((HOo25.out.below (Below.refl w26.heap.size w26)).kept hk (by have s0_ := SZ1.out; have s1_ := SP1.out; have s2_ := SP2.out; have s3_ := SP3.out; have s4_ := SP4.out; have s5_ := SP5.out; have s6_ := SP6.out; have s7_ := SZ2.out; have s8_ := SP7.out; have s9_ := SZ3.out; have s10_ := SP8.out; have s11_ := SZ4.out; have s12_ := SZ5.out; omega))
  have NHOo9 := Aside0.mk ho
  have NHB := Aside0.mk hb
  clear BX0
  have BX0 := NB0
  clear NB0
  clear BX1
  have BX1 := NB1
  clear NB1
  clear HOo3
  have HOo3 := NHOo3
  clear NHOo3
  clear HOo5
  have HOo5 := NHOo5
  clear NHOo5
  clear HOo7
  have HOo7 := NHOo7
  clear NHOo7
  clear HOo9
  have HOo9 := NHOo9
  clear NHOo9
  clear HOo11
  have HOo11 := NHOo11
  clear NHOo11
  clear HOo13
  have HOo13 := NHOo13
  clear NHOo13
  clear HOo22
  have HOo22 := NHOo22
  clear NHOo22
  clear HOo25
  have HOo25 := NHOo25
  clear NHOo25
  have HLo9 := Aside0.mk (ho.len : m8.length = r2.length)
  clear HB
  have HB := NHB
  clear NHB hk hb hK_ ho
  have CK := Aside0.mk (lwInt K10 HB.out (HOo11.out.below (Below.refl w27.heap.size w27)) G10.out)
  go_wp2_with fail
  with_reducible refine CK.out.mono ?_
  rintro e w28 ⟨rfl, ho, hb, hk⟩
  clear CK
  have hK_ := (Kept.of_below (Below.refl w27.heap.size w27) (fun k => lo5 ≤ k ∧ k < hi5)).then_ hk (fun _ h_ => .inl h_)
  have SZ6 := Aside0.mk (Nat.le_trans (Nat.le_refl w27.heap.size : w27.heap.size ≤ w27.heap.size) hk.1)
  have NB0 := Aside0.mk (blkI BX0.out hk (by have s0_ := SZ1.out; have s1_ := SP1.out; have s2_ := SP2.out; have s3_ := SP3.out; have s4_ := SP4.out; have s5_ := SP5.out; have s6_ := SP6.out; have s7_ := SZ2.out; have s8_ := SP7.out; have s9_ := SZ3.out; have s10_ := SP8.out; have s11_ := SZ4.out; have s12_ := SZ5.out; have s13_ := SZ6.out; omega))
  have NB1 := Aside0.mk (blkI BX1.out hk (by have s0_ := SZ1.out; have s1_ := SP1.out; have s2_ := SP2.out; have s3_ := SP3.out; have s4_ := SP4.out; have s5_ := SP5.out; have s6_ := SP6.out; have s7_ := SZ2.out; have s8_ := SP7.out; have s9_ := SZ3.out; have s10_ := SP8.out; have s11_ := SZ4.out; have s12_ := SZ5.out; have s13_ := SZ6.out; omega))
  have NHOo3 := Aside0.mk ((HOo3.out.below (Below.refl w27.heap.size w27)).kept hk (by have s0_ := SZ1.out; have s1_ := SP1.out; have s2_ := SP2.out; have s3_ := SP3.out; have s4_ := SP4.out; have s5_ := SP5.out; have s6_ := SP6.out; have s7_ := SZ2.out; have s8_ := SP7.out; have s9_ := SZ3.out; have s10_ := SP8.out; have s11_ := SZ4.out; have s12_ := SZ5.out; have s13_ := SZ6.out; omega))
  have NHOo5 := Aside0.mk ((HOo5.out.below (Below.refl w27.heap.size w27)).kept hk (by have s0_ := SZ1.out; have s1_ := SP1.out; have s2_ := SP2.out; have s3_ := SP3.out; have s4_ := SP4.out; have s5_ := SP5.out; have s6_ := SP6.out; have s7_ := SZ2.out; have s8_ := SP7.out; have s9_ := SZ3.out; have s10_ := SP8.out; have s11_ := SZ4.out; have s12_ := SZ5.out; have s13_ := SZ6.out; omega))
  have NHOo7 := Aside0.mk ((HOo7.out.below (Below.refl w27.heap.size w27)).kept hk (by have s0_ := SZ1.out; have s1_ := SP1.out; have s2_ := SP2.out; have s3_ := SP3.out; have s4_ := SP4.out; have s5_ := SP5.out; have s6_ := SP6.out; have s7_ := SZ2.out; have s8_ := SP7.out; have s9_ := SZ3.out; have s10_ := SP8.out; have s11_ := SZ4.out; have s12_ := SZ5.out; have s13_ := SZ6.out; omega))
  have NHOo9 := Aside0.mk ((HOo9.out.below (Below.refl w27.heap.size w27)).kept hk (by have s0_ := SZ1.out; have s1_ := SP1.out; have s2_ := SP2.out; have s3_ := SP3.out; have s4_ := SP4.out; have s5_ := SP5.out; have s6_ := SP6.out; have s7_ := SZ2.out; have s8_ := SP7.out; have s9_ := SZ3.out; have s10_ := SP8.out; have s11_ := SZ4.out; have s12_ := SZ5.out; have s13_ := SZ6.out; omega))
  have NHOo13 := Aside0.mk ((HOo13.out.below (Below.refl w27.heap.size w27)).kept hk (by have s0_ := SZ1.out; have s1_ := SP1.out; have s2_ := SP2.out; have s3_ := SP3.out; have s4_ := SP4.out; have s5_ := SP5.out; have s6_ := SP6.out; have s7_ := SZ2.out; have s8_ := SP7.out; have s9_ := SZ3.out; have s10_ := SP8.out; have s11_ := SZ4.out; have s12_ := SZ5.out; have s13_ := SZ6.out; omega))
  have NHOo22 := Aside0.mk ((HOo22.out.below (Below.refl w27.heap.size w27)).kept hk (by have s0_ := SZ1.out; have s1_ := SP1.out; have s2_ := SP2.out; have s3_ := SP3.out; have s4_ := SP4.out; have s5_ := SP5.out; have s6_ := SP6.out; have s7_ := SZ2.out; have s8_ := SP7.out; have s9_ := SZ3.out; have s10_ := SP8.out; have s11_ := SZ4.out; have s12_ := SZ5.out; have s13_ := SZ6.out; omega))
  have NHOo25 := Aside0.mk ((HOo25.out.below (Below.refl w27.heap.size w27)).kept hk (by have s0_ := SZ1.out; have s1_ := SP1.out; have s2_ := SP2.out; have s3_ := SP3.out; have s4_ := SP4.out; have s5_ := SP5.out; have s6_ := SP6.out; have s7_ := SZ2.out; have s8_ := SP7.out; have s9_ := SZ3.out; have s10_ := SP8.out; have s11_ := SZ4.out; have s12_ := SZ5.out; have s13_ := SZ6.out; omega))
  have NHOo11 := Aside0.mk ho
  have NHB := Aside0.mk hb
  clear BX0
  have BX0 := NB0
  clear NB0
  clear BX1
  have BX1 := NB1
  clear NB1
  clear HOo3
  have HOo3 := NHOo3
  clear NHOo3
  clear HOo5
  have HOo5 := NHOo5
  clear NHOo5
  clear HOo7
  have HOo7 := NHOo7
  clear NHOo7
  clear HOo9
  have HOo9 := NHOo9
  clear NHOo9
  clear HOo11
  have HOo11 := NHOo11
  clear NHOo11
  clear HOo13
  have HOo13 := NHOo13
  clear NHOo13
  clear HOo22
  have HOo22 := NHOo22
  clear NHOo22
  clear HOo25
  have HOo25 := NHOo25
  clear NHOo25
  have HLo11 := Aside0.mk (ho.len : m10.length = r3.length)
  clear HB
  have HB := NHB
  clear NHB hk hb hK_ ho
  have hx29 : w28.cell? ⟨w12.heap.size, 0, none⟩ = some (.int .i64 r4) := (blk_cell BX1.out 0).trans rfl
  have hx30 : w28.cell? ⟨w12.heap.size, 1, none⟩ = some (.slice Ao13 r5.length co13) := (blk_cell BX1.out 1).trans rfl
  have hx31 : w28.cell? ⟨w12.heap.size, 2, none⟩ = some (.int .i64 r6) := (blk_cell BX1.out 2).trans rfl
  have hx32 : w28.cell? ⟨w6.heap.size, 0, none⟩ = some (.int .i64 r4) := (blk_cell BX0.out 0).trans rfl
  have hx33 : w28.cell? ⟨w6.heap.size, 1, none⟩ = some (.slice Ao7 r5.length co7) := (blk_cell BX0.out 1).trans rfl
  have hx34 : w28.cell? ⟨w6.heap.size, 2, none⟩ = some (.int .i64 r6) := (blk_cell BX0.out 2).trans rfl
  have CK := Aside0.mk (laws_eqTrace.calls K6 r4 Ao13 co13 r5 r6 r4 Ao7 co7 r5 r6 true w28 (HOo13.out.below (Below.refl w28.heap.size w28)).C HOo13.out.room (HOo7.out.below (Below.refl w28.heap.size w28)).C HOo7.out.room G6.out)
  go_wp2_with fail
  with_reducible refine CK.out.mono ?_
  rintro e w35 ⟨rfl, hb0⟩
  have hb := hb0
  clear CK hb0
  clear hx29 hx30 hx31 hx32 hx33 hx34
  have hW_ : Below w28.heap.size w28 w35 := (Below.refl w28.heap.size w28).trans (hb.mono (Below.refl w28.heap.size w28).size)
  have SZ7 := Aside0.mk (Nat.le_trans (Nat.le_refl w28.heap.size : w28.heap.size ≤ w28.heap.size) hb.size)
  have NB0 := Aside0.mk ((hb.block _ (blk_lt BX0.out)).trans BX0.out)
  have NB1 := Aside0.mk ((hb.block _ (blk_lt BX1.out)).trans BX1.out)
  have NHOo3 := Aside0.mk (HOo3.out.below hW_)
  have NHOo5 := Aside0.mk (HOo5.out.below hW_)
  have NHOo7 := Aside0.mk (HOo7.out.below hW_)
  have NHOo9 := Aside0.mk (HOo9.out.below hW_)
  have NHOo11 := Aside0.mk (HOo11.out.below hW_)
  have NHOo13 := Aside0.mk (HOo13.out.below hW_)
  have NHOo22 := Aside0.mk (HOo22.out.below hW_)
  have NHOo25 := Aside0.mk (HOo25.out.below hW_)
  have NHB := Aside0.mk (HB.out.trans (hW_.mono HB.out.size))
  clear hb hW_
  clear BX0
  have BX0 := NB0
  clear NB0
  clear BX1
  have BX1 := NB1
  clear NB1
  clear HOo3
  have HOo3 := NHOo3
  clear NHOo3
  clear HOo5
  have HOo5 := NHOo5
  clear NHOo5
  clear HOo7
  have HOo7 := NHOo7
  clear NHOo7
  clear HOo9
  have HOo9 := NHOo9
  clear NHOo9
  clear HOo11
  have HOo11 := NHOo11
  clear NHOo11
  clear HOo13
  have HOo13 := NHOo13
  clear NHOo13
  clear HOo22
  have HOo22 := NHOo22
  clear NHOo22
  clear HOo25
  have HOo25 := NHOo25
  clear NHOo25
  clear HB
  have HB := NHB
  clear NHB
  have hx36 : w35.cell? ⟨w12.heap.size, 0, none⟩ = some (.int .i64 r4) := (blk_cell BX1.out 0).trans rfl
  have hx37 : w35.cell? ⟨w12.heap.size, 1, none⟩ = some (.slice Ao13 r5.length co13) := (blk_cell BX1.out 1).trans rfl
  have hx38 : w35.cell? ⟨w12.heap.size, 2, none⟩ = some (.int .i64 r6) := (blk_cell BX1.out 2).trans rfl
  have CK := Aside0.mk (lwTrace K11 HB.out (HOo13.out.below (Below.refl w35.heap.size w35)) G11.out)
  go_wp2_with fail
  with_reducible refine CK.out.mono ?_
  rintro e w39 ⟨rfl, ho, hb, hk⟩
  clear CK
  clear hx36 hx37 hx38
  have hK_ := (Kept.of_below (Below.refl w35.heap.size w35) (fun k => lo6 ≤ k ∧ k < hi6)).then_ hk (fun _ h_ => .inl h_)
  have SZ8 := Aside0.mk (Nat.le_trans (Nat.le_refl w35.heap.size : w35.heap.size ≤ w35.heap.size) hk.1)
  have NB0 := Aside0.mk (blkI BX0.out hk (by have s0_ := SZ1.out; have s1_ := SP1.out; have s2_ := SP2.out; have s3_ := SP3.out; have s4_ := SP4.out; have s5_ := SP5.out; have s6_ := SP6.out; have s7_ := SZ2.out; have s8_ := SP7.out; have s9_ := SZ3.out; have s10_ := SP8.out; have s11_ := SZ4.out; have s12_ := SZ5.out; have s13_ := SZ6.out; have s14_ := SZ7.out; have s15_ := SZ8.out; omega))
  have NB1 := Aside0.mk (blkI BX1.out hk (by have s0_ := SZ1.out; have s1_ := SP1.out; have s2_ := SP2.out; have s3_ := SP3.out; have s4_ := SP4.out; have s5_ := SP5.out; have s6_ := SP6.out; have s7_ := SZ2.out; have s8_ := SP7.out; have s9_ := SZ3.out; have s10_ := SP8.out; have s11_ := SZ4.out; have s12_ := SZ5.out; have s13_ := SZ6.out; have s14_ := SZ7.out; have s15_ := SZ8.out; omega))
  have NHOo3 := Aside0.mk ((HOo3.out.below (Below.refl w35.heap.size w35)).kept hk (by have s0_ := SZ1.out; have s1_ := SP1.out; have s2_ := SP2.out; have s3_ := SP3.out; have s4_ := SP4.out; have s5_ := SP5.out; have s6_ := SP6.out; have s7_ := SZ2.out; have s8_ := SP7.out; have s9_ := SZ3.out; have s10_ := SP8.out; have s11_ := SZ4.out; have s12_ := SZ5.out; have s13_ := SZ6.out; have s14_ := SZ7.out; have s15_ := SZ8.out; omega))
  have NHOo5 := Aside0.mk ((HOo5.out.below (Below.refl w35.heap.size w35)).kept hk (by have s0_ := SZ1.out; have s1_ := SP1.out; have s2_ := SP2.out; have s3_ := SP3.out; have s4_ := SP4.out; have s5_ := SP5.out; have s6_ := SP6.out; have s7_ := SZ2.out; have s8_ := SP7.out; have s9_ := SZ3.out; have s10_ := SP8.out; have s11_ := SZ4.out; have s12_ := SZ5.out; have s13_ := SZ6.out; have s14_ := SZ7.out; have s15_ := SZ8.out; omega))
  have NHOo7 := Aside0.mk ((HOo7.out.below (Below.refl w35.heap.size w35)).kept hk (by have s0_ := SZ1.out; have s1_ := SP1.out; have s2_ := SP2.out; have s3_ := SP3.out; have s4_ := SP4.out; have s5_ := SP5.out; have s6_ := SP6.out; have s7_ := SZ2.out; have s8_ := SP7.out; have s9_ := SZ3.out; have s10_ := SP8.out; have s11_ := SZ4.out; have s12_ := SZ5.out; have s13_ := SZ6.out; have s14_ := SZ7.out; have s15_ := SZ8.out; omega))
  have NHOo9 := Aside0.mk ((HOo9.out.below (Below.refl w35.heap.size w35)).kept hk (by have s0_ := SZ1.out; have s1_ := SP1.out; have s2_ := SP2.out; have s3_ := SP3.out; have s4_ := SP4.out; have s5_ := SP5.out; have s6_ := SP6.out; have s7_ := SZ2.out; have s8_ := SP7.out; have s9_ := SZ3.out; have s10_ := SP8.out; have s11_ := SZ4.out; have s12_ := SZ5.out; have s13_ := SZ6.out; have s14_ := SZ7.out; have s15_ := SZ8.out; omega))
  have NHOo11 := Aside0.mk ((HOo11.out.below (Below.refl w35.heap.size w35)).kept hk (by have s0_ := SZ1.out; have s1_ := SP1.out; have s2_ := SP2.out; have s3_ := SP3.out; have s4_ := SP4.out; have s5_ := SP5.out; have s6_ := SP6.out; have s7_ := SZ2.out; have s8_ := SP7.out; have s9_ := SZ3.out; have s10_ := SP8.out; have s11_ := SZ4.out; have s12_ := SZ5.out; have s13_ := SZ6.out; have s14_ := SZ7.out; have s15_ := SZ8.out; omega))
  have NHOo22 := Aside0.mk ((HOo22.out.below (Below.refl w35.heap.size w35)).kept hk (by have s0_ := SZ1.out; have s1_ := SP1.out; have s2_ := SP2.out; have s3_ := SP3.out; have s4_ := SP4.out; have s5_ := SP5.out; have s6_ := SP6.out; have s7_ := SZ2.out; have s8_ := SP7.out; have s9_ := SZ3.out; have s10_ := SP8.out; have s11_ := SZ4.out; have s12_ := SZ5.out; have s13_ := SZ6.out; have s14_ := SZ7.out; have s15_ := SZ8.out; omega))
  have NHOo25 := Aside0.mk ((HOo25.out.below (Below.refl w35.heap.size w35)).kept hk (by have s0_ := SZ1.out; have s1_ := SP1.out; have s2_ := SP2.out; have s3_ := SP3.out; have s4_ := SP4.out; have s5_ := SP5.out; have s6_ := SP6.out; have s7_ := SZ2.out; have s8_ := SP7.out; have s9_ := SZ3.out; have s10_ := SP8.out; have s11_ := SZ4.out; have s12_ := SZ5.out; have s13_ := SZ6.out; have s14_ := SZ7.out; have s15_ := SZ8.out; omega))
  have NHOo13 := Aside0.mk ho
  have NHB := Aside0.mk hb
  clear BX0
  have BX0 := NB0
  clear NB0
  clear BX1
  have BX1 := NB1
  clear NB1
  clear HOo3
  have HOo3 := NHOo3
  clear NHOo3
  clear HOo5
  have HOo5 := NHOo5
  clear NHOo5
  clear HOo7
  have HOo7 := NHOo7
  clear NHOo7
  clear HOo9
  have HOo9 := NHOo9
  clear NHOo9
  clear HOo11
  have HOo11 := NHOo11
  clear NHOo11
  clear HOo13
  have HOo13 := NHOo13
  clear NHOo13
  clear HOo22
  have HOo22 := NHOo22
  clear NHOo22
  clear HOo25
  have HOo25 := NHOo25
  clear NHOo25
  have HLo13 := Aside0.mk (ho.len : m12.length = r5.length)
  clear HB
  have HB := NHB
  clear NHB hk hb hK_ ho
  have hx40 : w39.cell? ⟨w12.heap.size, 0, none⟩ = some (.int .i64 r4) := (blk_cell BX1.out 0).trans rfl
  have hx41 : w39.cell? ⟨w12.heap.size, 1, none⟩ = some (.slice Ao13 r5.length co13) := (blk_cell BX1.out 1).trans rfl
  have hx42 : w39.cell? ⟨w12.heap.size, 2, none⟩ = some (.int .i64 r6) := (blk_cell BX1.out 2).trans rfl
  have CK0 := laws_heldTrace.calls K12 r4 Ao13 co13 m12 r6 1 k13 w39 (HOo13.out.below (Below.refl w39.heap.size w39)).C HOo13.out.room G12.out
  rw [HLo13.out] at CK0
  have CK := Aside0.mk CK0
  clear CK0
  go_wp2_with fail
  with_reducible refine CK.out.mono ?_
  rintro e w43 ⟨rfl, hb0⟩
  have hb := hb0
  clear CK hb0
  clear hx40 hx41 hx42
  have hW_ : Below w39.heap.size w39 w43 := (Below.refl w39.heap.size w39).trans (hb.mono (Below.refl w39.heap.size w39).size)
  have SZ9 := Aside0.mk (Nat.le_trans (Nat.le_refl w39.heap.size : w39.heap.size ≤ w39.heap.size) hb.size)
  have NB0 := Aside0.mk ((hb.block _ (blk_lt BX0.out)).trans BX0.out)
  have NB1 := Aside0.mk ((hb.block _ (blk_lt BX1.out)).trans BX1.out)
  have NHOo3 := Aside0.mk (HOo3.out.below hW_)
  have NHOo5 := Aside0.mk (HOo5.out.below hW_)
  have NHOo7 := Aside0.mk (HOo7.out.below hW_)
  have NHOo9 := Aside0.mk (HOo9.out.below hW_)
  have NHOo11 := Aside0.mk (HOo11.out.below hW_)
  have NHOo13 := Aside0.mk (HOo13.out.below hW_)
  have NHOo22 := Aside0.mk (HOo22.out.below hW_)
  have NHOo25 := Aside0.mk (HOo25.out.below hW_)
  have NHB := Aside0.mk (HB.out.trans (hW_.mono HB.out.size))
  clear hb hW_
  clear BX0
  have BX0 := NB0
  clear NB0
  clear BX1
  have BX1 := NB1
  clear NB1
  clear HOo3
  have HOo3 := NHOo3
  clear NHOo3
  clear HOo5
  have HOo5 := NHOo5
  clear NHOo5
  clear HOo7
  have HOo7 := NHOo7
  clear NHOo7
  clear HOo9
  have HOo9 := NHOo9
  clear NHOo9
  clear HOo11
  have HOo11 := NHOo11
  clear NHOo11
  clear HOo13
  have HOo13 := NHOo13
  clear NHOo13
  clear HOo22
  have HOo22 := NHOo22
  clear NHOo22
  clear HOo25
  have HOo25 := NHOo25
  clear NHOo25
  clear HB
  have HB := NHB
  clear NHB
  have CK := Aside0.mk (laws_toTraceS.calls K2 A0 c0 l0 r2 w43 (Kd.C_below HR0.out HB.out) HC0.out G2.out)
  go_wp2_with fail
  with_reducible refine CK.out.mono ?_
  rintro e w44 ⟨v0_, rfl, ho0, hb0⟩
  have hb := hb0
  clear CK hb0
  have hW_ : Below w43.heap.size w43 w44 := (Below.refl w43.heap.size w43).trans (hb.mono (Below.refl w43.heap.size w43).size)
  have NB0 := Aside0.mk ((hb.block _ (blk_lt BX0.out)).trans BX0.out)
  have NB1 := Aside0.mk ((hb.block _ (blk_lt BX1.out)).trans BX1.out)
  have NHOo3 := Aside0.mk (HOo3.out.below hW_)
  have NHOo5 := Aside0.mk (HOo5.out.below hW_)
  have NHOo7 := Aside0.mk (HOo7.out.below hW_)
  have NHOo9 := Aside0.mk (HOo9.out.below hW_)
  have NHOo11 := Aside0.mk (HOo11.out.below hW_)
  have NHOo13 := Aside0.mk (HOo13.out.below hW_)
  have NHOo22 := Aside0.mk (HOo22.out.below hW_)
  have NHOo25 := Aside0.mk (HOo25.out.below hW_)
  have NHB := Aside0.mk (HB.out.trans (hW_.mono HB.out.size))
  obtain ⟨lo9, elo9⟩ : ∃ n_, w43.heap.size = n_ := ⟨_, rfl⟩
  obtain ⟨hi9, ehi9⟩ : ∃ n_, w44.heap.size = n_ := ⟨_, rfl⟩
  have hn_0 := OwnS.new (W0 := w) HB.out.size hb.size ho0
  rw [elo9, ehi9] at hn_0
  obtain ⟨Ao45, co45, rfl⟩ := hn_0.slice
  have HOo45 := Aside0.mk hn_0
  clear hn_0 ho0
  have SP9 := Aside0.mk (And.intro (by have h_ := hb.size; rw [elo9, ehi9] at h_; exact h_ : lo9 ≤ hi9) (And.intro (Nat.le_of_eq elo9 : w43.heap.size ≤ lo9) (Nat.le_of_eq ehi9.symm : hi9 ≤ w44.heap.size)))
  clear hb hW_ elo9 ehi9
  clear BX0
  have BX0 := NB0
  clear NB0
  clear BX1
  have BX1 := NB1
  clear NB1
  clear HOo3
  have HOo3 := NHOo3
  clear NHOo3
  clear HOo5
  have HOo5 := NHOo5
  clear NHOo5
  clear HOo7
  have HOo7 := NHOo7
  clear NHOo7
  clear HOo9
  have HOo9 := NHOo9
  clear NHOo9
  clear HOo11
  have HOo11 := NHOo11
  clear NHOo11
  clear HOo13
  have HOo13 := NHOo13
  clear NHOo13
  clear HOo22
  have HOo22 := NHOo22
  clear NHOo22
  clear HOo25
  have HOo25 := NHOo25
  clear NHOo25
  clear HB
  have HB := NHB
  clear NHB
  have CK := Aside0.mk (laws_toIntS.calls K3 A2 c2 l2 r3 w44 (Kd.C_below HR2.out HB.out) HC2.out G3.out)
  go_wp2_with fail
  with_reducible refine CK.out.mono ?_
  rintro e w46 ⟨v0_, rfl, ho0, hb0⟩
  have hb := hb0
  clear CK hb0
  have hW_ : Below w44.heap.size w44 w46 := (Below.refl w44.heap.size w44).trans (hb.mono (Below.refl w44.heap.size w44).size)
  have NB0 := Aside0.mk ((hb.block _ (blk_lt BX0.out)).trans BX0.out)
  have NB1 := Aside0.mk ((hb.block _ (blk_lt BX1.out)).trans BX1.out)
  have NHOo3 := Aside0.mk (HOo3.out.below hW_)
  have NHOo5 := Aside0.mk (HOo5.out.below hW_)
  have NHOo7 := Aside0.mk (HOo7.out.below hW_)
  have NHOo9 := Aside0.mk (HOo9.out.below hW_)
  have NHOo11 := Aside0.mk (HOo11.out.below hW_)
  have NHOo13 := Aside0.mk (HOo13.out.below hW_)
  have NHOo22 := Aside0.mk (HOo22.out.below hW_)
  have NHOo25 := Aside0.mk (HOo25.out.below hW_)
  have NHOo45 := Aside0.mk (HOo45.out.below hW_)
  have NHB := Aside0.mk (HB.out.trans (hW_.mono HB.out.size))
  obtain ⟨lo10, elo10⟩ : ∃ n_, w44.heap.size = n_ := ⟨_, rfl⟩
  obtain ⟨hi10, ehi10⟩ : ∃ n_, w46.heap.size = n_ := ⟨_, rfl⟩
  have hn_0 := OwnI.new (W0 := w) HB.out.size hb.size ho0
  rw [elo10, ehi10] at hn_0
  obtain ⟨Ao47, co47, rfl⟩ := hn_0.slice
  have HOo47 := Aside0.mk hn_0
  clear hn_0 ho0
  have SP10 := Aside0.mk (And.intro (by have h_ := hb.size; rw [elo10, ehi10] at h_; exact h_ : lo10 ≤ hi10) (And.intro (Nat.le_of_eq elo10 : w44.heap.size ≤ lo10) (Nat.le_of_eq ehi10.symm : hi10 ≤ w46.heap.size)))
  clear hb hW_ elo10 ehi10
  clear BX0
  have BX0 := NB0
  clear NB0
  clear BX1
  have BX1 := NB1
  clear NB1
  clear HOo3
  have HOo3 := NHOo3
  clear NHOo3
  clear HOo5
  have HOo5 := NHOo5
  clear NHOo5
  clear HOo7
  have HOo7 := NHOo7
  clear NHOo7
  clear HOo9
  have HOo9 := NHOo9
  clear NHOo9
  clear HOo11
  have HOo11 := NHOo11
  clear NHOo11
  clear HOo13
  have HOo13 := NHOo13
  clear NHOo13
  clear HOo22
  have HOo22 := NHOo22
  clear NHOo22
  clear HOo25
  have HOo25 := NHOo25
  clear NHOo25
  clear HOo45
  have HOo45 := NHOo45
  clear NHOo45
  clear HB
  have HB := NHB
  clear NHB
  have CK := Aside0.mk (impl_TracesFind.calls K5 Ao45 co45 r2 a1 Ao47 co47 r3 r4 r5 r6 r7 w46 (HOo45.out.below (Below.refl w46.heap.size w46)).C HOo45.out.room (HOo47.out.below (Below.refl w46.heap.size w46)).C HOo47.out.room G5.out)
  go_wp2_with fail
  with_reducible refine CK.out.mono ?_
  rintro e w48 ⟨v1_, rfl, ho0, hb0⟩
  have hb := hb0
  clear CK hb0
  have hW_ : Below w46.heap.size w46 w48 := (Below.refl w46.heap.size w46).trans (hb.mono (Below.refl w46.heap.size w46).size)
  have NB0 := Aside0.mk ((hb.block _ (blk_lt BX0.out)).trans BX0.out)
  have NB1 := Aside0.mk ((hb.block _ (blk_lt BX1.out)).trans BX1.out)
  have NHOo3 := Aside0.mk (HOo3.out.below hW_)
  have NHOo5 := Aside0.mk (HOo5.out.below hW_)
  have NHOo7 := Aside0.mk (HOo7.out.below hW_)
  have NHOo9 := Aside0.mk (HOo9.out.below hW_)
  have NHOo11 := Aside0.mk (HOo11.out.below hW_)
  have NHOo13 := Aside0.mk (HOo13.out.below hW_)
  have NHOo22 := Aside0.mk (HOo22.out.below hW_)
  have NHOo25 := Aside0.mk (HOo25.out.below hW_)
  have NHOo45 := Aside0.mk (HOo45.out.below hW_)
  have NHOo47 := Aside0.mk (HOo47.out.below hW_)
  have NHB := Aside0.mk (HB.out.trans (hW_.mono HB.out.size))
  obtain ⟨lo11, elo11⟩ : ∃ n_, w46.heap.size = n_ := ⟨_, rfl⟩
  obtain ⟨hi11, ehi11⟩ : ∃ n_, w48.heap.size = n_ := ⟨_, rfl⟩
  have hn_0 := OwnI.new (W0 := w) HB.out.size hb.size ho0
  rw [elo11, ehi11] at hn_0
  obtain ⟨Ao49, co49, rfl⟩ := hn_0.slice
  have HOo49 := Aside0.mk hn_0
  clear hn_0 ho0
  have SP11 := Aside0.mk (And.intro (by have h_ := hb.size; rw [elo11, ehi11] at h_; exact h_ : lo11 ≤ hi11) (And.intro (Nat.le_of_eq elo11 : w46.heap.size ≤ lo11) (Nat.le_of_eq ehi11.symm : hi11 ≤ w48.heap.size)))
  clear hb hW_ elo11 ehi11
  clear BX0
  have BX0 := NB0
  clear NB0
  clear BX1
  have BX1 := NB1
  clear NB1
  clear HOo3
  have HOo3 := NHOo3
  clear NHOo3
  clear HOo5
  have HOo5 := NHOo5
  clear NHOo5
  clear HOo7
  have HOo7 := NHOo7
  clear NHOo7
  clear HOo9
  have HOo9 := NHOo9
  clear NHOo9
  clear HOo11
  have HOo11 := NHOo11
  clear NHOo11
  clear HOo13
  have HOo13 := NHOo13
  clear NHOo13
  clear HOo22
  have HOo22 := NHOo22
  clear NHOo22
  clear HOo25
  have HOo25 := NHOo25
  clear NHOo25
  clear HOo45
  have HOo45 := NHOo45
  clear NHOo45
  clear HOo47
  have HOo47 := NHOo47
  clear NHOo47
  clear HB
  have HB := NHB
  clear NHB
  have hx50 : (w48.alloc (.cells #[.int .i64 r4, .slice Ao49 r5.length co49, .int .i64 r6] 29)).cell? ⟨w48.heap.size, 0, none⟩ = some (.int .i64 r4) := (blk_cell (show (w48.alloc (.cells #[.int .i64 r4, .slice Ao49 r5.length co49, .int .i64 r6] 29)).heap[w48.heap.size]? = some (.cells #[.int .i64 r4, .slice Ao49 r5.length co49, .int .i64 r6] 29 (0, 0)) from by have h_ := heap_alloc_new w48 (.cells #[.int .i64 r4, .slice Ao49 r5.length co49, .int .i64 r6] 29); simpa using h_) 0).trans rfl
  have hx51 : (w48.alloc (.cells #[.int .i64 r4, .slice Ao49 r5.length co49, .int .i64 r6] 29)).cell? ⟨w48.heap.size, 1, none⟩ = some (.slice Ao49 r5.length co49) := (blk_cell (show (w48.alloc (.cells #[.int .i64 r4, .slice Ao49 r5.length co49, .int .i64 r6] 29)).heap[w48.heap.size]? = some (.cells #[.int .i64 r4, .slice Ao49 r5.length co49, .int .i64 r6] 29 (0, 0)) from by have h_ := heap_alloc_new w48 (.cells #[.int .i64 r4, .slice Ao49 r5.length co49, .int .i64 r6] 29); simpa using h_) 1).trans rfl
  have hx52 : (w48.alloc (.cells #[.int .i64 r4, .slice Ao49 r5.length co49, .int .i64 r6] 29)).cell? ⟨w48.heap.size, 2, none⟩ = some (.int .i64 r6) := (blk_cell (show (w48.alloc (.cells #[.int .i64 r4, .slice Ao49 r5.length co49, .int .i64 r6] 29)).heap[w48.heap.size]? = some (.cells #[.int .i64 r4, .slice Ao49 r5.length co49, .int .i64 r6] 29 (0, 0)) from by have h_ := heap_alloc_new w48 (.cells #[.int .i64 r4, .slice Ao49 r5.length co49, .int .i64 r6] 29); simpa using h_) 2).trans rfl
  have hx53 : (w48.alloc (.cells #[.int .i64 r4, .slice Ao49 r5.length co49, .int .i64 r6] 29)).cell? ⟨w6.heap.size, 0, none⟩ = some (.int .i64 r4) := (blk_cell (blk_alloc BX0.out _) 0).trans rfl
  have hx54 : (w48.alloc (.cells #[.int .i64 r4, .slice Ao49 r5.length co49, .int .i64 r6] 29)).cell? ⟨w6.heap.size, 1, none⟩ = some (.slice Ao7 r5.length co7) := (blk_cell (blk_alloc BX0.out _) 1).trans rfl
  have hx55 : (w48.alloc (.cells #[.int .i64 r4, .slice Ao49 r5.length co49, .int .i64 r6] 29)).cell? ⟨w6.heap.size, 2, none⟩ = some (.int .i64 r6) := (blk_cell (blk_alloc BX0.out _) 2).trans rfl
  have CK := Aside0.mk (laws_eqTrace.calls K6 r4 Ao49 co49 r5 r6 r4 Ao7 co7 r5 r6 true (w48.alloc (.cells #[.int .i64 r4, .slice Ao49 r5.length co49, .int .i64 r6] 29)) (HOo49.out.below (below_alloc (Below.refl w48.heap.size w48) _)).C HOo49.out.room (HOo7.out.below (below_alloc (Below.refl w48.heap.size w48) _)).C HOo7.out.room G6.out)
  go_wp2_with fail
  with_reducible refine CK.out.mono ?_
  rintro e w56 ⟨rfl, hb0⟩
  have hb := hb0
  clear CK hb0
  clear hx50 hx51 hx52 hx53 hx54 hx55
  have hW_ : Below w48.heap.size w48 w56 := (below_alloc (Below.refl w48.heap.size w48) _).trans (hb.mono (below_alloc (Below.refl w48.heap.size w48) _).size)
  have SZ10 := Aside0.mk (Nat.le_trans (Nat.succ_le_of_lt (blk_lt (show (w48.alloc (.cells #[.int .i64 r4, .slice Ao49 r5.length co49, .int .i64 r6] 29)).heap[w48.heap.size]? = some (.cells #[.int .i64 r4, .slice Ao49 r5.length co49, .int .i64 r6] 29 (0, 0)) from by have h_ := heap_alloc_new w48 (.cells #[.int .i64 r4, .slice Ao49 r5.length co49, .int .i64 r6] 29); simpa using h_)) : w48.heap.size + 1 ≤ (w48.alloc (.cells #[.int .i64 r4, .slice Ao49 r5.length co49, .int .i64 r6] 29)).heap.size) hb.size)
  have NB0 := Aside0.mk ((hb.block _ (blk_lt (blk_alloc BX0.out _))).trans (blk_alloc BX0.out _))
  have NB1 := Aside0.mk ((hb.block _ (blk_lt (blk_alloc BX1.out _))).trans (blk_alloc BX1.out _))
  have NB2 := Aside0.mk ((hb.block _ (blk_lt (show (w48.alloc (.cells #[.int .i64 r4, .slice Ao49 r5.length co49, .int .i64 r6] 29)).heap[w48.heap.size]? = some (.cells #[.int .i64 r4, .slice Ao49 r5.length co49, .int .i64 r6] 29 (0, 0)) from by have h_ := heap_alloc_new w48 (.cells #[.int .i64 r4, .slice Ao49 r5.length co49, .int .i64 r6] 29); simpa using h_))).trans (show (w48.alloc (.cells #[.int .i64 r4, .slice Ao49 r5.length co49, .int .i64 r6] 29)).heap[w48.heap.size]? = some (.cells #[.int .i64 r4, .slice Ao49 r5.length co49, .int .i64 r6] 29 (0, 0)) from by have h_ := heap_alloc_new w48 (.cells #[.int .i64 r4, .slice Ao49 r5.length co49, .int .i64 r6] 29); simpa using h_))
  have NHOo3 := Aside0.mk (HOo3.out.below hW_)
  have NHOo5 := Aside0.mk (HOo5.out.below hW_)
  have NHOo7 := Aside0.mk (HOo7.out.below hW_)
  have NHOo9 := Aside0.mk (HOo9.out.below hW_)
  have NHOo11 := Aside0.mk (HOo11.out.below hW_)
  have NHOo13 := Aside0.mk (HOo13.out.below hW_)
  have NHOo22 := Aside0.mk (HOo22.out.below hW_)
  have NHOo25 := Aside0.mk (HOo25.out.below hW_)
  have NHOo45 := Aside0.mk (HOo45.out.below hW_)
  have NHOo47 := Aside0.mk (HOo47.out.below hW_)
  have NHOo49 := Aside0.mk (HOo49.out.below hW_)
  have NHB := Aside0.mk (HB.out.trans (hW_.mono HB.out.size))
  clear hb hW_
  clear BX0
  have BX0 := NB0
  clear NB0
  clear BX1
  have BX1 := NB1
  clear NB1
  skip
  have BX2 := NB2
  clear NB2
  clear HOo3
  have HOo3 := NHOo3
  clear NHOo3
  clear HOo5
  have HOo5 := NHOo5
  clear NHOo5
  clear HOo7
  have HOo7 := NHOo7
  clear NHOo7
  clear HOo9
  have HOo9 := NHOo9
  clear NHOo9
  clear HOo11
  have HOo11 := NHOo11
  clear NHOo11
  clear HOo13
  have HOo13 := NHOo13
  clear NHOo13
  clear HOo22
  have HOo22 := NHOo22
  clear NHOo22
  clear HOo25
  have HOo25 := NHOo25
  clear NHOo25
  clear HOo45
  have HOo45 := NHOo45
  clear NHOo45
  clear HOo47
  have HOo47 := NHOo47
  clear NHOo47
  clear HOo49
  have HOo49 := NHOo49
  clear NHOo49
  clear HB
  have HB := NHB
  clear NHB
  have hx57 : w56.cell? ⟨w12.heap.size, 0, none⟩ = some (.int .i64 r4) := (blk_cell BX1.out 0).trans rfl
  have hx58 : w56.cell? ⟨w12.heap.size, 1, none⟩ = some (.slice Ao13 r5.length co13) := (blk_cell BX1.out 1).trans rfl
  have hx59 : w56.cell? ⟨w12.heap.size, 2, none⟩ = some (.int .i64 r6) := (blk_cell BX1.out 2).trans rfl
  have CK0 := laws_heldTrace.calls K12 r4 Ao13 co13 m12 r6 1 k13 w56 (HOo13.out.below (Below.refl w56.heap.size w56)).C HOo13.out.room G12.out
  rw [HLo13.out] at CK0
  have CK := Aside0.mk CK0
  clear CK0
  go_wp2_with fail
  with_reducible refine CK.out.mono ?_
  rintro e w60 ⟨rfl, hb0⟩
  have hb := hb0
  clear CK hb0
  clear hx57 hx58 hx59
  have hW_ : Below w56.heap.size w56 w60 := (Below.refl w56.heap.size w56).trans (hb.mono (Below.refl w56.heap.size w56).size)
  have SZ11 := Aside0.mk (Nat.le_trans (Nat.le_refl w56.heap.size : w56.heap.size ≤ w56.heap.size) hb.size)
  have NB0 := Aside0.mk ((hb.block _ (blk_lt BX0.out)).trans BX0.out)
  have NB1 := Aside0.mk ((hb.block _ (blk_lt BX1.out)).trans BX1.out)
  have NB2 := Aside0.mk ((hb.block _ (blk_lt BX2.out)).trans BX2.out)
  have NHOo3 := Aside0.mk (HOo3.out.below hW_)
  have NHOo5 := Aside0.mk (HOo5.out.below hW_)
  have NHOo7 := Aside0.mk (HOo7.out.below hW_)
  have NHOo9 := Aside0.mk (HOo9.out.below hW_)
  have NHOo11 := Aside0.mk (HOo11.out.below hW_)
  have NHOo13 := Aside0.mk (HOo13.out.below hW_)
  have NHOo22 := Aside0.mk (HOo22.out.below hW_)
  have NHOo25 := Aside0.mk (HOo25.out.below hW_)
  have NHOo45 := Aside0.mk (HOo45.out.below hW_)
  have NHOo47 := Aside0.mk (HOo47.out.below hW_)
  have NHOo49 := Aside0.mk (HOo49.out.below hW_)
  have NHB := Aside0.mk (HB.out.trans (hW_.mono HB.out.size))
  clear hb hW_
  clear BX0
  have BX0 := NB0
  clear NB0
  clear BX1
  have BX1 := NB1
  clear NB1
  clear BX2
  have BX2 := NB2
  clear NB2
  clear HOo3
  have HOo3 := NHOo3
  clear NHOo3
  clear HOo5
  have HOo5 := NHOo5
  clear NHOo5
  clear HOo7
  have HOo7 := NHOo7
  clear NHOo7
  clear HOo9
  have HOo9 := NHOo9
  clear NHOo9
  clear HOo11
  have HOo11 := NHOo11
  clear NHOo11
  clear HOo13
  have HOo13 := NHOo13
  clear NHOo13
  clear HOo22
  have HOo22 := NHOo22
  clear NHOo22
  clear HOo25
  have HOo25 := NHOo25
  clear NHOo25
  clear HOo45
  have HOo45 := NHOo45
  clear NHOo45
  clear HOo47
  have HOo47 := NHOo47
  clear NHOo47
  clear HOo49
  have HOo49 := NHOo49
  clear NHOo49
  clear HB
  have HB := NHB
  clear NHB
  go_wp2
  go_ret
  exact ⟨rfl, HB.out⟩
set_option maxHeartbeats 8000000 in
set_option maxRecDepth 100000 in
theorem lw_FnExactTracesFind_e0 (A0 : Option Addr) (c0 : Nat) (l0 : List (S37)) (a1 : Int) (A2 : Option Addr) (c2 : Nat) (l2 : List (Int)) (w : World) (hr0 : Kd.C k37 w A0 l0.length l0) (hc0 : l0.length ≤ c0) (hr2 : Kd.C (Kd.int .i64) w A2 l2.length l2) (hc2 : l2.length ≤ c2) (hl_l2 : (l2.length : Int) > 1048576)   :
    Calls Try.prog 7 #[.slice A0 l0.length c0, .int .i64 a1, .slice A2 l2.length c2] w fun e w' => e = .returned (.bool true) ∧ Below w.heap.size w w' := by
  have hu29 := Try.underlying29
  have HR0 := Aside0.mk hr0
  have HC0 := Aside0.mk hc0
  clear hr0 hc0
  have HR2 := Aside0.mk hr2
  have HC2 := Aside0.mk hc2
  clear hr2 hc2
  have hdl_l2 : decide ((l2.length : Int) > 1048576) = true := decide_eq_true (by omega)
  clear hl_l2
  have HB := Aside0.mk (Below.refl w.heap.size w)
  go_enter Try.func7, Try.ntmps7
  go_wp2
  go_ret
  exact ⟨rfl, HB.out⟩
set_option maxHeartbeats 8000000 in
set_option maxRecDepth 100000 in
theorem lw_FnExactTracesFind_e1 (A0 : Option Addr) (c0 : Nat) (l0 : List (S37)) (a1 : Int) (A2 : Option Addr) (c2 : Nat) (l2 : List (Int)) (w : World) (hr0 : Kd.C k37 w A0 l0.length l0) (hc0 : l0.length ≤ c0) (hr2 : Kd.C (Kd.int .i64) w A2 l2.length l2) (hc2 : l2.length ≤ c2) (hl_l2 : (l2.length : Int) ≤ 1048576) (r1 : Int) (K1 : Nat) (H1 : laws_szTraceS.f K1 l0 1048576 = some r1) (hx_1 : r1 < 0) :
    Calls Try.prog 7 #[.slice A0 l0.length c0, .int .i64 a1, .slice A2 l2.length c2] w fun e w' => e = .returned (.bool true) ∧ Below w.heap.size w w' := by
  have hu29 := Try.underlying29
  have HR0 := Aside0.mk hr0
  have HC0 := Aside0.mk hc0
  clear hr0 hc0
  have HR2 := Aside0.mk hr2
  have HC2 := Aside0.mk hc2
  clear hr2 hc2
  have G1 := Aside0.mk H1
  clear H1
  have HX1 := Aside0.mk hx_1
  have hd_1 : decide (r1 < 0) = true := decide_eq_true (by omega)
  have hdl_l2 : decide ((l2.length : Int) > 1048576) = false := decide_eq_false (by omega)
  clear hx_1 hl_l2
  have HB := Aside0.mk (Below.refl w.heap.size w)
  go_enter Try.func7, Try.ntmps7
  have CK := Aside0.mk (laws_szTraceS.calls K1 A0 c0 l0 1048576 r1 w (Kd.C_below HR0.out HB.out) HC0.out G1.out)
  go_wp2_with fail
  with_reducible refine CK.out.mono ?_
  rintro e w1 ⟨rfl, hb0⟩
  have hb := hb0
  clear CK hb0
  have hW_ : Below w.heap.size w w1 := (Below.refl w.heap.size w).trans (hb.mono (Below.refl w.heap.size w).size)
  have SZ1 := Aside0.mk (Nat.le_trans (Nat.le_refl w.heap.size : w.heap.size ≤ w.heap.size) hb.size)
  have NHB := Aside0.mk (HB.out.trans (hW_.mono HB.out.size))
  clear hb hW_
  clear HB
  have HB := NHB
  clear NHB
  go_wp2
  go_ret
  exact ⟨rfl, HB.out⟩
end Go.Proofs.Ytofieekbhbkliaa.G
end
section
namespace Go.Proofs.Ytofieekbhbkliaa.G
open Go.RowKit Go.Proofs.YtofieekbhbkliaaW.PrintWords
set_option linter.unusedVariables false
set_option linter.unusedSimpArgs false
abbrev Trc := S29
theorem rd_fk (l : List Fk) (i : Nat) (h : i < l.length) : rd_T108 l (i : Int) = l[i] := by
  simp only [rd_T108, Int.toNat_natCast, List.getD_eq_getElem?_getD, List.getElem?_eq_getElem h, Option.getD_some]
theorem rd_trc (l : List Trc) (i : Nat) (h : i < l.length) : rd_T29 l (i : Int) = l[i] := by
  simp only [rd_T29, Int.toNat_natCast, List.getD_eq_getElem?_getD, List.getElem?_eq_getElem h, Option.getD_some]
def fkOk (f : Fk) : Bool := decide (0 ≤ f.f0 ∧ f.f0 < 10) && decide (0 ≤ f.f1 ∧ f.f1 ≤ 96)
def trOk (t : Trc) : Bool := ((decide (0 ≤ t.f0 ∧ t.f0 < 10) && decide (0 ≤ t.f2 ∧ t.f2 ≤ 96)) && decide ((onceL t.f1).length = t.f1.length)) && t.f1.all fkOk
theorem onceF_nodup (out : List Fk) (f : Fk) (h : (out.map (·.f0)).Nodup) : ((onceF out f).map (·.f0)).Nodup := by
  unfold onceF
  split
  · exact h
  · rename_i hn
    rw [List.map_append, List.map_singleton, List.nodup_append]
    refine ⟨h, by simp, ?_⟩
    intro a ha b hb
    have hb' : b = f.f0 := by simpa using hb
    subst hb'
    rintro rfl
    apply hn
    obtain ⟨g, hg, he⟩ := List.mem_map.1 ha
    exact List.any_eq_true.2 ⟨g, hg, by simp [he]⟩
theorem onceF_mem (out : List Fk) (f g : Fk) (h : g ∈ onceF out f) : g ∈ out ∨ g = f := by
  unfold onceF at h
  split at h
  · exact .inl h
  · simpa using h
theorem fold_once (l : List Fk) : ∀ out : List Fk, (out.map (·.f0)).Nodup → ((l.foldl onceF out).map (·.f0)).Nodup ∧ ∀ g ∈ l.foldl onceF out, g ∈ out ∨ g ∈ l := by
  induction l with
  | nil => intro out h; exact ⟨h, fun g hg => .inl hg⟩
  | cons f l ih =>
    intro out h
    obtain ⟨h1, h2⟩ := ih (onceF out f) (onceF_nodup out f h)
    refine ⟨h1, fun g hg => ?_⟩
    rcases h2 g hg with h3 | h3
    · rcases onceF_mem out f g h3 with h4 | h4
      · exact .inl h4
      · exact .inr (by simp [h4])
    · exact .inr (by simp [h3])
theorem onceL_nodup (l : List Fk) : ((onceL l).map (·.f0)).Nodup := (fold_once l [] (by simp)).1
theorem onceL_mem (l : List Fk) : ∀ g ∈ onceL l, g ∈ l := by
  intro g hg
  rcases (fold_once l [] (by simp)).2 g hg with h | h
  · cases h
  · exact h
theorem few_keys : ∀ (n : Nat) (l : List Int), l.Nodup → (∀ x ∈ l, 0 ≤ x ∧ x < (n : Int)) → l.length ≤ n := by
  intro n
  induction n with
  | zero =>
    intro l _ h
    cases l with
    | nil => simp
    | cons x xs => have := h x (by simp); omega
  | succ n ih =>
    intro l hn h
    by_cases hm : (n : Int) ∈ l
    · have h1 := List.length_erase_of_mem hm
      have h2 : ∀ x ∈ l.erase (n : Int), 0 ≤ x ∧ x < (n : Int) := by
        intro x hx
        have h3 := (List.Nodup.mem_erase_iff hn).1 hx
        have h4 := h x h3.2
        have h5 := h3.1
        omega
      have h6 := ih _ (hn.erase (n : Int)) h2
      have h7 : 0 < l.length := List.length_pos_of_mem hm
      omega
    · have h2 : ∀ x ∈ l, 0 ≤ x ∧ x < (n : Int) := by
        intro x hx
        have h4 := h x hx
        have h5 : x ≠ (n : Int) := fun e => hm (e ▸ hx)
        omega
      have := ih l hn h2
      omega
theorem trOk_len {t : Trc} (h : trOk t = true) : t.f1.length ≤ 10 := by
  simp only [trOk, Bool.and_eq_true, decide_eq_true_eq] at h
  have h1 := few_keys 10 ((onceL t.f1).map (·.f0)) (onceL_nodup t.f1) (fun x hx => by
    obtain ⟨g, hg, rfl⟩ := List.mem_map.1 hx
    have h2 := List.all_eq_true.1 h.2 g (onceL_mem t.f1 g hg)
    simp only [fkOk, Bool.and_eq_true, decide_eq_true_eq] at h2
    exact h2.1)
  rw [List.length_map] at h1
  omega
theorem implFk_ev (a b : Int) : impl_Trace_ok_1.f a b = some (!fkOk ⟨a, b⟩) := by
  unfold impl_Trace_ok_1.f fkOk
  simp only [isKey_ev, isValue_ev, Option.bind_some]
  by_cases h : 0 ≤ a ∧ a < 10
  · simp [h]
  · simp [h]
theorem implFks_ev (l : List Fk) : impl_Trace_ok_1_any.f l = some (!(l.all fkOk)) := by
  unfold impl_Trace_ok_1_any.f
  rw [if_pos (fun x _ => by rw [implFk_ev]; rfl)]
  congr 1
  rw [List.all_eq_not_any_not, Bool.not_not]
  congr 1
  funext x
  rw [implFk_ev]
  rfl
theorem implTr_ev (t : Trc) (h : t.f1.length < 8796093022208) : impl_Trace_ok.f t.f0 t.f1 t.f2 = some (trOk t) := by
  unfold impl_Trace_ok.f trOk
  simp only [isKey_ev, isValue_ev, Option.bind_some, impl_once.f, if_pos h, implFks_ev, Bool.not_not]
  have e : ((onceL t.f1).length : Int) = (t.f1.length : Int) ↔ (onceL t.f1).length = t.f1.length := by omega
  simp only [e]
  by_cases h1 : 0 ≤ t.f0 ∧ t.f0 < 10
  · by_cases h2 : 0 ≤ t.f2 ∧ t.f2 ≤ 96
    · by_cases h3 : (onceL t.f1).length = t.f1.length
      · simp [h1, h2, h3]
      · simp [h1, h2, h3]
    · simp [h1, h2]
  · simp [h1]
def trsOk (l : List Trc) : Bool := decide (l.length ≤ 60) && l.all trOk
theorem implTrs_ev (l : List Trc) (h : ∀ t ∈ l, t.f1.length < 8796093022208) : impl_TracesOk.f l = some (trsOk l) := by
  have h1 : ∀ t ∈ l, impl_TracesOk_1.f t.f0 t.f1 t.f2 = some (!trOk t) := by
    intro t ht
    unfold impl_TracesOk_1.f
    rw [implTr_ev t (h t ht), Option.bind_some]
  have h2 : impl_TracesOk_1_any.f l = some (!(l.all trOk)) := by
    unfold impl_TracesOk_1_any.f
    rw [if_pos (fun x hx => by rw [h1 x hx]; rfl)]
    congr 1
    rw [List.all_eq_not_any_not, Bool.not_not]
    clear h
    induction l with
    | nil => rfl
    | cons t l ih =>
      simp only [List.any_cons]
      rw [h1 t (by simp), ih (fun x hx => h1 x (by simp [hx]))]
      rfl
  unfold impl_TracesOk.f trsOk
  by_cases hl : l.length ≤ 60
  · rw [if_pos (by omega), h2]
    simp [hl]
  · rw [if_neg (by omega)]
    simp [hl]
theorem l5Once_inner (l out : List Fk) (i : Nat) (hi : i < l.length) (hol : out.length ≤ 4000000000) (rest : Ev (fun k => spec_l5Once.l0 k l (onceF out l[i]) (wrap64 ((i : Int) + 1))) (onceL l)) :
    ∀ (d j : Nat) (b : Bool), d = out.length - j → j ≤ out.length → (b || (out.drop j).any fun g => g.f0 == l[i].f0) = (out.any fun g => g.f0 == l[i].f0) → Ev (fun k => spec_l5Once.l1 k l out (i : Int) b (j : Int)) (onceL l) := by
  intro d
  induction d with
  | zero =>
    intro j b hd hj hb
    have e : j = out.length := by omega
    subst e
    rw [List.drop_length, List.any_nil, Bool.or_false] at hb
    refine Ev.step (fun k => by rw [spec_l5Once.l1]) ?_
    simp only [if_neg (show ¬ ((out.length : Int) < (out.length : Int)) by omega)]
    unfold onceF at rest
    cases b with
    | true =>
      rw [if_pos hb.symm] at rest
      simp only [if_true]
      exact rest
    | false =>
      rw [if_neg (by rw [← hb]; decide)] at rest
      simp only [Bool.false_eq_true, if_false, if_pos (show (0 : Int) ≤ (i : Int) by omega), if_pos (show (i : Int) < (l.length : Int) by omega), if_pos (show out.length < 8796093022208 by omega), rd_fk l i hi]
      exact rest
  | succ d ihd =>
    intro j b hd hj hb
    have hlt : j < out.length := by omega
    refine Ev.step (fun k => by rw [spec_l5Once.l1]) ?_
    rw [drop_tk out j hlt, List.any_cons] at hb
    simp only [if_pos (show (j : Int) < (out.length : Int) by omega), wrap_nat j (by omega)]
    cases b with
    | true =>
      simp only [if_true]
      exact ihd (j + 1) true (by omega) (by omega) (by rw [← hb]; simp)
    | false =>
      simp only [Bool.false_eq_true, if_false, if_pos (show (0 : Int) ≤ (j : Int) by omega), if_pos (show (0 : Int) ≤ (i : Int) by omega), if_pos (show (i : Int) < (l.length : Int) by omega), rd_fk l i hi, rd_fk out j hlt]
      exact ihd (j + 1) _ (by omega) (by omega) (by rw [← hb, Bool.false_or])
theorem l5Once_loop (l : List Fk) (hl : l.length ≤ 4000000000) : ∀ (d i : Nat), d = l.length - i → i ≤ l.length → Ev (fun k => spec_l5Once.l0 k l ((l.take i).foldl onceF []) (i : Int)) (onceL l) := by
  intro d
  induction d with
  | zero =>
    intro i hd hi
    have e : i = l.length := by omega
    subst e
    refine Ev.step (fun k => by rw [spec_l5Once.l0]) ?_
    simp only [if_neg (show ¬ ((l.length : Int) < (l.length : Int)) by omega), List.take_length]
    exact Ev.now _
  | succ d ihd =>
    intro i hd hi
    have hlt : i < l.length := by omega
    refine Ev.step (fun k => by rw [spec_l5Once.l0]) ?_
    simp only [if_pos (show (i : Int) < (l.length : Int) by omega)]
    have h := ihd (i + 1) (by omega) (by omega)
    rw [onceL_take l i hlt] at h
    have hol := onceL_len l i (by omega)
    refine l5Once_inner l _ i hlt (by omega) (by rw [wrap_nat i (by omega)]; exact h) _ 0 false rfl (by omega) ?_
    rw [List.drop_zero, Bool.false_or]
theorem l5Once_ev (l : List Fk) (hl : l.length ≤ 4000000000) : Ev (fun k => spec_l5Once.f k l) (onceL l) := by
  unfold spec_l5Once.f
  exact l5Once_loop l hl l.length 0 (by omega) (by omega)
theorem l5One_loop (t : Trc) (hl : t.f1.length ≤ 10) : ∀ (d i : Nat), d = t.f1.length - i → i ≤ t.f1.length → Ev (fun k => spec_l5One.l0 k (i : Int) t.f0 t.f1 t.f2) ((t.f1.drop i).all fkOk && decide ((onceL t.f1).length = t.f1.length)) := by
  intro d
  induction d with
  | zero =>
    intro i hd hi
    have e : i = t.f1.length := by omega
    subst e
    refine Ev.step (fun k => by rw [spec_l5One.l0]) ?_
    simp only [if_neg (show ¬ ((t.f1.length : Int) < (t.f1.length : Int)) by omega), List.drop_length, List.all_nil, Bool.true_and]
    refine Ev.bind (l5Once_ev t.f1 (by omega)) ?_
    refine Ev.of_eq ?_
    congr 1
    rw [Bool.eq_iff_iff]
    simp only [beq_iff_eq, decide_eq_true_eq]
    omega
  | succ d ihd =>
    intro i hd hi
    have hlt : i < t.f1.length := by omega
    refine Ev.step (fun k => by rw [spec_l5One.l0]) ?_
    rw [drop_tk t.f1 i hlt, List.all_cons]
    simp only [if_pos (show (i : Int) < (t.f1.length : Int) by omega), if_pos (show (0 : Int) ≤ (i : Int) by omega), rd_fk t.f1 i hlt, l6In_ev, Option.bind_some, wrap_nat i (by omega)]
    have e9 : (0 ≤ t.f1[i].f0 ∧ t.f1[i].f0 ≤ 9) ↔ (0 ≤ t.f1[i].f0 ∧ t.f1[i].f0 < 10) := by omega
    simp only [fkOk, decide_eq_true_eq, e9]
    by_cases h1 : 0 ≤ t.f1[i].f0 ∧ t.f1[i].f0 < 10
    · by_cases h2 : 0 ≤ t.f1[i].f1 ∧ t.f1[i].f1 ≤ 96
      · simp only [if_pos h1, if_pos h2, decide_eq_true h1, decide_eq_true h2, Bool.true_and]
        exact ihd (i + 1) (by omega) (by omega)
      · simp only [if_pos h1, if_neg h2, decide_eq_true h1, decide_eq_false h2, Bool.and_false, Bool.false_and]
        exact Ev.now false
    · simp only [if_neg h1, decide_eq_false h1, Bool.false_and]
      exact Ev.now false
theorem l5One_ev (t : Trc) : Ev (fun k => spec_l5One.f k t.f0 t.f1 t.f2) (trOk t) := by
  unfold spec_l5One.f
  have bad : Ev (fun k => spec_l5One.j0 k true t.f0 t.f1 t.f2) false := by
    refine Ev.step (fun k => by rw [spec_l5One.j0]) ?_
    simp only [if_true]
    exact Ev.now false
  by_cases hl : t.f1.length ≤ 10
  · simp only [if_neg (show ¬ ((t.f1.length : Int) > 10) by omega), l6In_ev, Option.bind_some]
    have e9 : (0 ≤ t.f0 ∧ t.f0 ≤ 9) ↔ (0 ≤ t.f0 ∧ t.f0 < 10) := by omega
    simp only [decide_eq_true_eq, e9]
    by_cases h1 : 0 ≤ t.f0 ∧ t.f0 < 10
    · simp only [if_pos h1]
      refine Ev.step (fun k => by rw [spec_l5One.j0]) ?_
      by_cases h2 : 0 ≤ t.f2 ∧ t.f2 ≤ 96
      · simp only [decide_eq_true h2, Bool.not_true, Bool.false_eq_true, if_false]
        refine Ev.eq (l5One_loop t hl t.f1.length 0 (by omega) (by omega)) ?_
        rw [List.drop_zero, trOk, decide_eq_true h1, decide_eq_true h2, Bool.and_comm]
        simp
      · simp only [decide_eq_false h2, Bool.not_false, if_true]
        exact Ev.eq (Ev.now false) (by rw [trOk, decide_eq_false h2]; simp)
    · simp only [if_neg h1]
      exact Ev.eq bad (by rw [trOk, decide_eq_false h1]; simp)
  · simp only [if_pos (show ((t.f1.length : Int) > 10) by omega)]
    refine Ev.eq bad ?_
    cases h : trOk t with
    | false => rfl
    | true => exact absurd (trOk_len h) hl
theorem specTrs_loop (l : List Trc) (hl : l.length ≤ 60) : ∀ (d i : Nat), d = l.length - i → i ≤ l.length → Ev (fun k => spec_TracesOk.l0 k l (i : Int)) ((l.drop i).all trOk) := by
  intro d
  induction d with
  | zero =>
    intro i hd hi
    have e : i = l.length := by omega
    subst e
    refine Ev.step (fun k => by rw [spec_TracesOk.l0]) ?_
    simp only [if_neg (show ¬ ((l.length : Int) < (l.length : Int)) by omega), List.drop_length, List.all_nil]
    exact Ev.now true
  | succ d ihd =>
    intro i hd hi
    have hlt : i < l.length := by omega
    refine Ev.step (fun k => by rw [spec_TracesOk.l0]) ?_
    rw [drop_tk l i hlt, List.all_cons]
    simp only [if_pos (show (i : Int) < (l.length : Int) by omega), if_pos (show (0 : Int) ≤ (i : Int) by omega), rd_trc l i hlt]
    refine Ev.bind (l5One_ev _) ?_
    cases h : trOk l[i] with
    | true =>
      simp only [if_true, Bool.true_and, wrap_nat i (by omega)]
      exact ihd (i + 1) (by omega) (by omega)
    | false =>
      simp only [Bool.false_eq_true, if_false, Bool.false_and]
      exact Ev.now false
theorem specTrs_ev (l : List Trc) : Ev (fun k => spec_TracesOk.f k l) (trsOk l) := by
  unfold spec_TracesOk.f trsOk
  by_cases hl : l.length ≤ 60
  · simp only [if_neg (show ¬ ((l.length : Int) > 60) by omega), decide_eq_true hl, Bool.true_and]
    exact specTrs_loop l hl l.length 0 (by omega) (by omega)
  · simp only [if_pos (show ((l.length : Int) > 60) by omega), decide_eq_false hl, Bool.false_and]
    exact Ev.now false
end Go.Proofs.Ytofieekbhbkliaa.G
end
section
namespace Go.Proofs.Ytofieekbhbkliaa.G
open Go.RowKit Go.Proofs.YtofieekbhbkliaaW.PrintWords
set_option linter.unusedVariables false
set_option linter.unusedSimpArgs false
theorem rd_intH (l : List Int) (i : Nat) (h : i < l.length) : rd l (i : Int) = l[i] := by
  simp only [rd, Int.toNat_natCast, List.getD_eq_getElem?_getD, List.getElem?_eq_getElem h, Option.getD_some]
def valsOk (l : List Int) : Bool := decide (l.length ≤ 10) && l.all isVal
theorem implVals_ev (l : List Int) : impl_valuesOk.f l = some (valsOk l) := by
  unfold impl_valuesOk.f valsOk impl_areValues.f
  by_cases h : l.length ≤ 10
  · rw [if_pos (by omega)]; simp [h]
  · rw [if_neg (by omega)]; simp [h]
theorem specVals_ev (l : List Int) : Ev (fun k => spec_l2Values.f k l) (valsOk l) := by
  unfold spec_l2Values.f valsOk
  by_cases h : l.length ≤ 10
  · simp only [if_neg (show ¬ ((l.length : Int) > 10) by omega)]
    have h1 := allLoop l (fun k i => spec_l2Values.l0 k l i) (fun _ x => spec_l6In.f x 0 96) isVal
      (fun k => by simp only [spec_l2Values.l0, if_neg (show ¬ ((l.length : Int) < (l.length : Int)) by omega)])
      (fun k i hi => by simp only [spec_l2Values.l0, if_pos (show (i : Int) < (l.length : Int) by omega), if_pos (show (0 : Int) ≤ (i : Int) by omega), rd_intH l i hi, wrap_nat i (by omega)])
      (fun x hx => Ev.of_eq (by
        unfold spec_l6In.f isVal
        by_cases g : x ≥ 0
        · rw [if_pos g]; simp only [ge_iff_le] at g; simp [g]
        · rw [if_neg g]; simp only [ge_iff_le] at g; simp [g]))
      l.length 0 (by omega) (by omega)
    refine Ev.eq h1 ?_
    simp [h]
  · simp only [if_pos (show (l.length : Int) > 10 by omega)]
    refine Ev.eq (Ev.now false) ?_
    simp [h]
theorem l2Of_ev (l : List Int) (k : Int) (h : 0 ≤ k) : spec_l2Of.f l k = some (atV l k) := by
  unfold spec_l2Of.f atV
  by_cases h2 : k < (l.length : Int)
  · rw [if_pos h2, if_pos h, if_pos ⟨h, h2⟩]
  · rw [if_neg h2, if_neg (by omega)]
theorem trOk_keys {t : Trc} (h : trOk t = true) : ∀ f ∈ t.f1, 0 ≤ f.f0 ∧ f.f0 < 10 := by
  simp only [trOk, Bool.and_eq_true, decide_eq_true_eq] at h
  intro f hf
  have h2 := List.all_eq_true.1 h.2 f hf
  simp only [fkOk, Bool.and_eq_true, decide_eq_true_eq] at h2
  exact h2.1
theorem specHolds_ev (t : Trc) (l : List Int) (h : ∀ f ∈ t.f1, 0 ≤ f.f0) (hl : t.f1.length ≤ 4000000000) : Ev (fun k => spec_l5Holds.f k t.f0 t.f1 t.f2 l) (holdsL t.f1 l) := by
  unfold spec_l5Holds.f
  have h1 := allLoop t.f1 (fun k i => spec_l5Holds.l0 k l i t.f0 t.f1 t.f2) (fun _ f => (spec_l2Of.f l f.f0).bind fun v => some (decide (v = f.f1))) (fun f => decide (atV l f.f0 = f.f1))
      (fun k => by simp only [spec_l5Holds.l0, if_neg (show ¬ ((t.f1.length : Int) < (t.f1.length : Int)) by omega)])
      (fun k i hi => by simp only [spec_l5Holds.l0, if_pos (show (i : Int) < (t.f1.length : Int) by omega), if_pos (show (0 : Int) ≤ (i : Int) by omega), rd_fk t.f1 i hi, wrap_nat i (by omega), Option.bind_assoc, Option.bind_some, decide_eq_true_eq])
      (fun f hf => Ev.of_eq (by rw [l2Of_ev l f.f0 (h f hf)]; rfl))
      t.f1.length 0 (by omega) (by omega)
  refine Ev.eq h1 ?_
  rw [List.drop_zero, holdsL, List.all_eq_not_any_not]
  congr 1
end Go.Proofs.Ytofieekbhbkliaa.G
end
section
namespace Go.Proofs.Ytofieekbhbkliaa.G
open Go.RowKit Go.Proofs.YtofieekbhbkliaaW.PrintWords
set_option linter.unusedVariables false
set_option linter.unusedSimpArgs false
def firstT (l : List Trc) (key : Int) (vs : List Int) : Option Trc := l.find? fun t => decide (t.f0 = key) && holdsL t.f1 vs
def findR (l : List Trc) (key : Int) (vs : List Int) : Int × List Fk × Int × Bool :=
  if trsOk l = true ∧ valsOk vs = true then
    match firstT l key vs with
    | some t => (t.f0, t.f1, t.f2, true)
    | none => (0, [], 0, false)
  else (0, [], 0, false)
theorem trsOk_len {l : List Trc} (h : trsOk l = true) : l.length ≤ 60 := by
  simp only [trsOk, Bool.and_eq_true, decide_eq_true_eq] at h
  exact h.1
theorem trsOk_mem {l : List Trc} (h : trsOk l = true) : ∀ t ∈ l, trOk t = true := by
  simp only [trsOk, Bool.and_eq_true] at h
  exact List.all_eq_true.1 h.2
theorem find_loop (l : List Trc) (key : Int) (vs : List Int) (ho : trsOk l = true) : ∀ (d i : Nat), d = l.length - i → i ≤ l.length →
    ∃ r, Ev (fun k => spec_l5Find.l0 k l key vs (i : Int)) r ∧ ((r = -1 ∧ firstT (l.drop i) key vs = none) ∨ ∃ (j : Nat) (h : j < l.length), r = (j : Int) ∧ firstT (l.drop i) key vs = some l[j]) := by
  intro d
  induction d with
  | zero =>
    intro i hd hi
    have e : i = l.length := by omega
    subst e
    refine ⟨-1, ?_, .inl ⟨rfl, by rw [List.drop_length]; rfl⟩⟩
    refine Ev.step (fun k => by rw [spec_l5Find.l0]) ?_
    simp only [if_neg (show ¬ ((l.length : Int) < (l.length : Int)) by omega)]
    exact Ev.now _
  | succ d ih =>
    intro i hd hi
    have hlt : i < l.length := by omega
    have hmem := trsOk_mem ho _ (List.getElem_mem hlt)
    have hll := trsOk_len ho
    obtain ⟨r, hr, hc⟩ := ih (i + 1) (by omega) (by omega)
    have hdrop : firstT (l.drop i) key vs = if (decide (l[i].f0 = key) && holdsL l[i].f1 vs) = true then some l[i] else firstT (l.drop (i + 1)) key vs := by
      rw [drop_tk l i hlt, firstT, List.find?_cons]
      cases decide (l[i].f0 = key) && holdsL l[i].f1 vs <;> rfl
    by_cases hk : l[i].f0 = key
    · cases hh : holdsL l[i].f1 vs with
      | true =>
        refine ⟨(i : Int), ?_, .inr ⟨i, hlt, rfl, by rw [hdrop, if_pos (by simp [hk, hh])]⟩⟩
        refine Ev.step (fun k => by rw [spec_l5Find.l0]) ?_
        simp only [if_pos (show (i : Int) < (l.length : Int) by omega), if_pos (show (0 : Int) ≤ (i : Int) by omega), rd_trc l i hlt, if_pos hk]
        refine Ev.bind (specHolds_ev l[i] vs (fun f hf => (trOk_keys hmem f hf).1) (by have := trOk_len hmem; omega)) ?_
        rw [hh]
        simp only [if_true]
        exact Ev.now _
      | false =>
        refine ⟨r, ?_, by rw [hdrop, if_neg (by simp [hh])]; exact hc⟩
        refine Ev.step (fun k => by rw [spec_l5Find.l0]) ?_
        simp only [if_pos (show (i : Int) < (l.length : Int) by omega), if_pos (show (0 : Int) ≤ (i : Int) by omega), rd_trc l i hlt, if_pos hk]
        refine Ev.bind (specHolds_ev l[i] vs (fun f hf => (trOk_keys hmem f hf).1) (by have := trOk_len hmem; omega)) ?_
        rw [hh]
        simp only [Bool.false_eq_true, if_false, wrap_nat i (by omega)]
        exact hr
    · refine ⟨r, ?_, by rw [hdrop, if_neg (by simp [hk])]; exact hc⟩
      refine Ev.step (fun k => by rw [spec_l5Find.l0]) ?_
      simp only [if_pos (show (i : Int) < (l.length : Int) by omega), if_pos (show (0 : Int) ≤ (i : Int) by omega), rd_trc l i hlt, if_neg hk, wrap_nat i (by omega)]
      exact hr
theorem specFind_ev (l : List Trc) (key : Int) (vs : List Int) : Ev (fun k => spec_TracesFind.f k l key vs) (findR l key vs) := by
  unfold spec_TracesFind.f
  refine Ev.bind (specTrs_ev l) ?_
  have bad : ¬ (trsOk l = true ∧ valsOk vs = true) → Ev (fun k => spec_TracesFind.j0 k l key vs true) (findR l key vs) := by
    intro hn
    refine Ev.step (fun k => by rw [spec_TracesFind.j0]) ?_
    simp only [if_true]
    exact Ev.eq (Ev.now _) (by rw [findR, if_neg hn])
  cases ht : trsOk l with
  | false =>
    simp only [Bool.false_eq_true, if_false]
    exact bad (by simp [ht])
  | true =>
    simp only [if_true]
    refine Ev.bind (specVals_ev vs) ?_
    cases hv : valsOk vs with
    | false => exact bad (by simp [hv])
    | true =>
      simp only [Bool.not_true]
      refine Ev.step (fun k => by rw [spec_TracesFind.j0]) ?_
      simp only [Bool.false_eq_true, if_false]
      obtain ⟨r, hr, hc⟩ := find_loop l key vs ht l.length 0 (by omega) (by omega)
      have hf : Ev (fun k => spec_l5Find.f k l key vs) r := by unfold spec_l5Find.f; exact hr
      refine Ev.bind hf ?_
      rw [List.drop_zero] at hc
      rcases hc with ⟨rfl, hn⟩ | ⟨j, hj, rfl, hs⟩
      · simp only [if_pos (show (-1 : Int) < 0 by omega)]
        exact Ev.eq (Ev.now _) (by rw [findR, if_pos ⟨ht, hv⟩, hn])
      · have hlen := trOk_len (trsOk_mem ht _ (List.getElem_mem hj))
        simp only [if_neg (show ¬ ((j : Int) < 0) by omega), if_pos (show (0 : Int) ≤ (j : Int) by omega), if_pos (show (j : Int) < (l.length : Int) by omega), rd_trc l j hj, spec_l5Copy.f, Option.bind_some, List.length_nil, Nat.zero_add, if_pos (show l[j].f1.length < 8796093022208 by omega), List.nil_append]
        exact Ev.eq (Ev.now _) (by rw [findR, if_pos ⟨ht, hv⟩, hs])
theorem findI_loop (l : List Trc) (key : Int) (vs : List Int) (hl : l.length ≤ 60) (hT : ∀ t ∈ l, t.f1.length < 8796093022208) : ∀ (d i : Nat), d = l.length - i → i ≤ l.length →
    Ev (fun k => impl_TracesFind.l0 k key vs l (l.length : Int) (i : Int)) (match firstT (l.drop i) key vs with | some t => (t.f0, t.f1, t.f2, true) | none => (0, [], 0, false)) := by
  intro d
  induction d with
  | zero =>
    intro i hd hi
    have e : i = l.length := by omega
    subst e
    refine Ev.step (fun k => by rw [impl_TracesFind.l0]) ?_
    simp only [if_neg (show ¬ ((l.length : Int) < (l.length : Int)) by omega)]
    exact Ev.eq (Ev.now _) (by rw [List.drop_length]; rfl)
  | succ d ih =>
    intro i hd hi
    have hlt : i < l.length := by omega
    have hll := hT _ (List.getElem_mem hlt)
    have hr := ih (i + 1) (by omega) (by omega)
    have hdrop : firstT (l.drop i) key vs = if (decide (l[i].f0 = key) && holdsL l[i].f1 vs) = true then some l[i] else firstT (l.drop (i + 1)) key vs := by
      rw [drop_tk l i hlt, firstT, List.find?_cons]
      cases decide (l[i].f0 = key) && holdsL l[i].f1 vs <;> rfl
    refine Ev.step (fun k => by rw [impl_TracesFind.l0]) ?_
    simp only [if_pos (show (i : Int) < (l.length : Int) by omega), if_pos (show (0 : Int) ≤ (i : Int) by omega), rd_trc l i hlt, wrap_nat i (by omega)]
    by_cases hk : l[i].f0 = key
    · simp only [if_pos hk, impl_Trace_holds.f, Option.bind_some]
      cases hh : holdsL l[i].f1 vs with
      | true =>
        simp only [if_true, impl_Trace_copy.f, slices_Clone_Fetch.f, if_pos hll, Option.bind_some]
        exact Ev.eq (Ev.now _) (by rw [hdrop, if_pos (by simp [hk, hh])])
      | false =>
        simp only [Bool.false_eq_true, if_false]
        exact Ev.eq hr (by rw [hdrop, if_neg (by simp [hh])])
    · simp only [if_neg hk]
      exact Ev.eq hr (by rw [hdrop, if_neg (by simp [hk])])
theorem implFind_ev (l : List Trc) (key : Int) (vs : List Int) (hT : ∀ t ∈ l, t.f1.length < 8796093022208) : Ev (fun k => impl_TracesFind.f k l key vs) (findR l key vs) := by
  unfold impl_TracesFind.f
  refine Ev.bind (Ev.of_eq (implTrs_ev l hT)) ?_
  have bad : ¬ (trsOk l = true ∧ valsOk vs = true) → Ev (fun k => impl_TracesFind.j0 k l key vs true) (findR l key vs) := by
    intro hn
    refine Ev.step (fun k => by rw [impl_TracesFind.j0]) ?_
    simp only [if_true]
    exact Ev.eq (Ev.now _) (by rw [findR, if_neg hn])
  cases ht : trsOk l with
  | false =>
    simp only [Bool.false_eq_true, if_false]
    exact bad (by simp [ht])
  | true =>
    simp only [if_true, implVals_ev, Option.bind_some]
    cases hv : valsOk vs with
    | false => exact bad (by simp [hv])
    | true =>
      simp only [Bool.not_true]
      refine Ev.step (fun k => by rw [impl_TracesFind.j0]) ?_
      simp only [Bool.false_eq_true, if_false]
      have h := findI_loop l key vs (trsOk_len ht) hT l.length 0 (by omega) (by omega)
      refine Ev.eq h ?_
      rw [findR, if_pos ⟨ht, hv⟩, List.drop_zero]
theorem findR_len (l : List Trc) (key : Int) (vs : List Int) : (findR l key vs).2.1.length ≤ 10 := by
  unfold findR
  split
  · rename_i h
    cases hf : firstT l key vs with
    | none => simp
    | some t =>
      have hm : t ∈ l := List.mem_of_find?_eq_some hf
      exact trOk_len (trsOk_mem h.1 t hm)
  · simp
end Go.Proofs.Ytofieekbhbkliaa.G
end
section
namespace Go.Proofs.Ytofieekbhbkliaa.G
open Go.RowKit Go.Proofs.YtofieekbhbkliaaW.PrintWords
set_option linter.unusedVariables false
set_option linter.unusedSimpArgs false
abbrev Lf := S148
abbrev Ltr := S37
theorem rd_lf (l : List Lf) (i : Nat) (h : i < l.length) : rd_T148 l (i : Int) = l[i] := by
  simp only [rd_T148, Int.toNat_natCast, List.getD_eq_getElem?_getD, List.getElem?_eq_getElem h, Option.getD_some]
theorem rd_ltr (l : List Ltr) (i : Nat) (h : i < l.length) : rd_T37 l (i : Int) = l[i] := by
  simp only [rd_T37, Int.toNat_natCast, List.getD_eq_getElem?_getD, List.getElem?_eq_getElem h, Option.getD_some]
def cvF (f : Lf) : Fk := ⟨f.f0, f.f1⟩
def cvTr (t : Ltr) : Trc := ⟨t.f0, t.f1.map cvF, t.f2⟩
def szTrs (l : List Ltr) : Nat := l.length + sumL (fun t => t.f1.length) l
theorem szFs_ev (l : List Lf) (hl : l.length ≤ 9223372036854775807) (left : Int) (h0 : 0 ≤ left) (h1 : left ≤ 1048576) : laws_szFetchS.f l left = some (leftOf l.length left) := by
  unfold laws_szFetchS.f
  simp only [wrap_id (left - (l.length : Int)) (by omega) (by omega)]
  by_cases hc : left - (l.length : Int) < 0
  · simp only [if_pos hc]; rw [leftOf_no (by omega)]
  · simp only [if_neg hc]; rw [leftOf_yes (by omega)]
theorem szTr_ev (t : Ltr) (hl : t.f1.length ≤ 9223372036854775807) (left : Int) (h0 : 0 ≤ left) (h1 : left ≤ 1048576) : laws_szTrace.f t.f0 t.f1 t.f2 left = some (leftOf t.f1.length left) := by
  unfold laws_szTrace.f
  rw [szFs_ev t.f1 hl left h0 h1, Option.bind_some]
  by_cases hc : leftOf t.f1.length left < 0
  · rw [if_pos hc, leftOf_no ((leftOf_neg h0).1 hc)]
  · rw [if_neg hc]
theorem szTrs_ev (l : List Ltr) (hl : l.length ≤ 9223372036854775807) (hb : ∀ t ∈ l, t.f1.length ≤ 9223372036854775807) (left : Int) (h0 : 0 ≤ left) (h1 : left ≤ 1048576) :
    Ev (fun k => laws_szTraceS.f k l left) (leftOf (szTrs l) left) := by
  unfold laws_szTraceS.f
  simp only [wrap_id (left - (l.length : Int)) (by omega) (by omega)]
  by_cases hc : left - (l.length : Int) < 0
  · simp only [if_pos hc]
    exact Ev.eq (Ev.now (-1)) (leftOf_no (by unfold szTrs; omega)).symm
  · simp only [if_neg hc]
    have h := szLoop l (fun k lf i => laws_szTraceS.l0 k l lf i) (fun _ t lf => laws_szTrace.f t.f0 t.f1 t.f2 lf) (fun t => t.f1.length)
      (fun k lf => by simp only [laws_szTraceS.l0, if_neg (show ¬ ((l.length : Int) < (l.length : Int)) by omega)])
      (fun k lf i hi => by simp only [laws_szTraceS.l0, if_pos (show (i : Int) < (l.length : Int) by omega), if_pos (show (0 : Int) ≤ (i : Int) by omega), rd_ltr l i hi, wrap_nat i (by omega)])
      (fun t ht lf g0 g1 => Ev.of_eq (szTr_ev t (hb t ht) lf g0 g1))
      l.length 0 (left - l.length) (by omega) (by omega) (by omega) (by omega)
    refine Ev.eq h ?_
    rw [List.drop_zero]
    exact leftOf_add (by omega)
theorem toFs_ev (l : List Lf) (hl : l.length ≤ 1048576) : Ev (fun k => laws_toFetchS.f k l) (l.map cvF) := by
  unfold laws_toFetchS.f
  simp only [if_pos (show (0 : Int) ≤ (l.length : Int) by omega), Int.toNat_natCast, if_pos (show l.length ≤ 17592186044416 by omega)]
  refine toLoop l (fun k out i => laws_toFetchS.l0 k l out i) (fun _ f => laws_toFetch.f f.f0 f.f1) (fun c => (⟨c.1, c.2⟩ : Fk)) cvF z108
    (fun k out => by simp only [laws_toFetchS.l0, if_neg (show ¬ ((l.length : Int) < (l.length : Int)) by omega)])
    (fun k out i hi ho => by simp only [laws_toFetchS.l0, ho, if_pos (show (i : Int) < (l.length : Int) by omega), if_pos (show (0 : Int) ≤ (i : Int) by omega), rd_lf l i hi, wrap_nat i (by omega), Int.toNat_natCast])
    (fun f hf => ⟨(f.f0, f.f1), Ev.of_eq rfl, rfl⟩)
theorem toTr_ev (t : Ltr) (hl : t.f1.length ≤ 1048576) : Ev (fun k => laws_toTrace.f k t.f0 t.f1 t.f2) (t.f0, t.f1.map cvF, t.f2) := by
  unfold laws_toTrace.f
  exact Ev.bind (toFs_ev t.f1 hl) (Ev.now _)
theorem toTrs_ev (l : List Ltr) (hl : szTrs l ≤ 1048576) : Ev (fun k => laws_toTraceS.f k l) (l.map cvTr) := by
  unfold szTrs at hl
  unfold laws_toTraceS.f
  simp only [if_pos (show (0 : Int) ≤ (l.length : Int) by omega), Int.toNat_natCast, if_pos (show l.length ≤ 7036874417766 by omega)]
  refine toLoop l (fun k out i => laws_toTraceS.l0 k l out i) (fun k t => laws_toTrace.f k t.f0 t.f1 t.f2) (fun c => (⟨c.1, c.2.1, c.2.2⟩ : Trc)) cvTr z29
    (fun k out => by simp only [laws_toTraceS.l0, if_neg (show ¬ ((l.length : Int) < (l.length : Int)) by omega)])
    (fun k out i hi ho => by simp only [laws_toTraceS.l0, ho, if_pos (show (i : Int) < (l.length : Int) by omega), if_pos (show (0 : Int) ≤ (i : Int) by omega), rd_ltr l i hi, wrap_nat i (by omega), Int.toNat_natCast])
    (fun t ht => ⟨_, toTr_ev t (by have := sumL_mem (fun t : Ltr => t.f1.length) t ht; (try dsimp only at this); omega), rfl⟩)
theorem eqFs_ev (l : List Fk) (hl : l.length ≤ 4000000000) : Ev (fun k => laws_eqFetchS.f k l l) true := by
  unfold laws_eqFetchS.f
  simp only [if_true]
  exact eqLoop l (fun k i => laws_eqFetchS.l0 k l l i) (fun _ f => laws_eqFetch.f f.f0 f.f1 f.f0 f.f1)
    (fun k => by simp only [laws_eqFetchS.l0, if_neg (show ¬ ((l.length : Int) < (l.length : Int)) by omega)])
    (fun k i hi => by simp only [laws_eqFetchS.l0, if_pos (show (i : Int) < (l.length : Int) by omega), if_pos (show (0 : Int) ≤ (i : Int) by omega), rd_fk l i hi, wrap_nat i (by omega)])
    (fun f hf => Ev.of_eq (by simp [laws_eqFetch.f]))
theorem eqTr_ev (t : Trc) (hl : t.f1.length ≤ 4000000000) : Ev (fun k => laws_eqTrace.f k t.f0 t.f1 t.f2 t.f0 t.f1 t.f2) true := by
  unfold laws_eqTrace.f
  simp only [if_true]
  refine Ev.bind (eqFs_ev t.f1 hl) ?_
  simp only [if_true]
  exact Ev.now true
theorem eqTrs_ev (l : List Trc) (hl : l.length ≤ 4000000000) (hb : ∀ t ∈ l, t.f1.length ≤ 4000000000) : Ev (fun k => laws_eqTraceS.f k l l) true := by
  unfold laws_eqTraceS.f
  simp only [if_true]
  exact eqLoop l (fun k i => laws_eqTraceS.l0 k l l i) (fun k t => laws_eqTrace.f k t.f0 t.f1 t.f2 t.f0 t.f1 t.f2)
    (fun k => by simp only [laws_eqTraceS.l0, if_neg (show ¬ ((l.length : Int) < (l.length : Int)) by omega)])
    (fun k i hi => by simp only [laws_eqTraceS.l0, if_pos (show (i : Int) < (l.length : Int) by omega), if_pos (show (0 : Int) ≤ (i : Int) by omega), rd_trc l i hi, wrap_nat i (by omega)])
    (fun t ht => eqTr_ev t (hb t ht))
theorem cvTrs_len {l : List Ltr} (hl : szTrs l ≤ 1048576) : ∀ t ∈ l.map cvTr, t.f1.length ≤ 1048576 := by
  intro t ht
  obtain ⟨u, hu, rfl⟩ := List.mem_map.1 ht
  have := sumL_mem (fun t : Ltr => t.f1.length) u hu
  (try dsimp only at this)
  unfold szTrs at hl
  simp only [cvTr, List.length_map]
  omega
end Go.Proofs.Ytofieekbhbkliaa.G
end
section
namespace Go.Proofs.Ytofieekbhbkliaa.G
open Go.RowKit Go.Proofs.YtofieekbhbkliaaW.PrintWords
set_option linter.unusedVariables false
set_option linter.unusedSimpArgs false
theorem rd_int (l : List Int) (i : Nat) (h : i < l.length) : rd l (i : Int) = l[i] := by
  simp only [rd, Int.toNat_natCast, List.getD_eq_getElem?_getD, List.getElem?_eq_getElem h, Option.getD_some]
theorem toIs_ev (l : List Int) (hl : l.length ≤ 1048576) : Ev (fun k => laws_toIntS.f k l) l := by
  unfold laws_toIntS.f
  simp only [if_pos (show (0 : Int) ≤ (l.length : Int) by omega), Int.toNat_natCast, if_pos (show l.length ≤ 35184372088832 by omega)]
  have h := toLoop l (fun k out i => laws_toIntS.l0 k l out i) (fun _ x => some x) (fun c => c) (fun c => c) (0 : Int)
    (fun k out => by simp only [laws_toIntS.l0, if_neg (show ¬ ((l.length : Int) < (l.length : Int)) by omega)])
    (fun k out i hi ho => by simp only [laws_toIntS.l0, ho, if_pos (show (i : Int) < (l.length : Int) by omega), if_pos (show (0 : Int) ≤ (i : Int) by omega), rd_int l i hi, wrap_nat i (by omega), Int.toNat_natCast, Option.bind_some])
    (fun x hx => ⟨x, Ev.of_eq rfl, rfl⟩)
  rw [List.map_id'] at h
  exact h
theorem eqIs_ev (l : List Int) (hl : l.length ≤ 4000000000) : Ev (fun k => laws_eqIntS.f k l l) true := by
  unfold laws_eqIntS.f
  simp only [if_true]
  exact eqLoop l (fun k i => laws_eqIntS.l0 k l l i) (fun _ x => some true)
    (fun k => by simp only [laws_eqIntS.l0, if_neg (show ¬ ((l.length : Int) < (l.length : Int)) by omega)])
    (fun k i hi => by simp only [laws_eqIntS.l0, if_pos (show (i : Int) < (l.length : Int) by omega), if_pos (show (0 : Int) ≤ (i : Int) by omega), rd_int l i hi, wrap_nat i (by omega), Option.bind_some, if_true])
    (fun x hx => Ev.of_eq rfl)
end Go.Proofs.Ytofieekbhbkliaa.G
end
section
namespace Go.Proofs.Ytofieekbhbkliaa.G
open Go.RowKit Go.Proofs.YtofieekbhbkliaaW.PrintWords
set_option linter.unusedVariables false
set_option linter.unusedSimpArgs false
def mkI : List Int → Int → List Int
  | [], _ => []
  | _ :: fs, a => a :: mkI fs (a + 1)
theorem mkI_len (fs : List Int) (a : Int) : (mkI fs a).length = fs.length := by
  induction fs generalizing a with
  | nil => rfl
  | cons f fs ih => simp [mkI, ih]
theorem mkI_get (fs : List Int) : ∀ (a : Int) (i : Nat) (h : i < (mkI fs a).length), (mkI fs a)[i] = a + (i : Int) := by
  induction fs with
  | nil => intro a i h; simp [mkI] at h
  | cons f fs ih =>
    intro a i h
    cases i with
    | zero => simp [mkI]
    | succ i =>
      simp only [mkI, List.getElem_cons_succ]
      rw [ih]
      omega
theorem mkI_take (fs : List Int) (a : Int) (i : Nat) (h : i < fs.length) : ((mkI fs a).take i ++ fs.drop i).set i (a + (i : Int)) = (mkI fs a).take (i + 1) ++ fs.drop (i + 1) := by
  have hl : ((mkI fs a).take i).length = i := by rw [List.length_take, mkI_len]; omega
  rw [List.set_append_right _ _ (by omega), hl, Nat.sub_self, List.drop_eq_getElem_cons h, List.set_cons_zero, List.take_succ_eq_append_getElem (by rw [mkI_len]; exact h), mkI_get]
  simp
theorem markI_loop (fs : List Int) (a : Int) (h0 : 0 ≤ a) (h1 : a + (fs.length : Int) ≤ 4611686018427387904) : ∀ (d i : Nat), d = fs.length - i → i ≤ fs.length → Ev (fun k => laws_markIntS.l0 k ((mkI fs a).take i ++ fs.drop i) (a + (i : Int)) (i : Int)) (a + (fs.length : Int), mkI fs a) := by
  intro d
  induction d with
  | zero =>
    intro i hd hi
    have e : i = fs.length := by omega
    subst e
    refine Ev.step (fun k => by rw [laws_markIntS.l0]) ?_
    have hl : (mkI fs a).take fs.length ++ fs.drop fs.length = mkI fs a := by rw [List.drop_length, List.append_nil, List.take_of_length_le (by rw [mkI_len]; exact Nat.le_refl _)]
    rw [hl]
    simp only [mkI_len, if_neg (show ¬ ((fs.length : Int) < (fs.length : Int)) by omega)]
    exact Ev.now _
  | succ d ih =>
    intro i hd hi
    have hlt : i < fs.length := by omega
    have hll : ((mkI fs a).take i ++ fs.drop i).length = fs.length := by rw [List.length_append, List.length_take, mkI_len, List.length_drop]; omega
    refine Ev.step (fun k => by rw [laws_markIntS.l0]) ?_
    have ew : wrap64 (a + (i : Int) + 1) = a + ((i + 1 : Nat) : Int) := by rw [wrap_id _ (by omega) (by omega)]; omega
    simp only [hll, if_pos (show (i : Int) < (fs.length : Int) by omega), if_pos (show (0 : Int) ≤ (i : Int) by omega), ew, Int.toNat_natCast, wrap_nat i (by omega)]
    rw [mkI_take fs a i hlt]
    exact ih (i + 1) (by omega) (by omega)
theorem markI_ev (fs : List Int) (a : Int) (h0 : 0 ≤ a) (h1 : a + (fs.length : Int) ≤ 4611686018427387904) : Ev (fun k => laws_markIntS.f k fs a) (a + (fs.length : Int), mkI fs a) := by
  unfold laws_markIntS.f
  have h := markI_loop fs a h0 h1 fs.length 0 (by omega) (by omega)
  simpa using h
end Go.Proofs.Ytofieekbhbkliaa.G
end
section
namespace Go.Proofs.Ytofieekbhbkliaa.G
open Go.RowKit Go.Proofs.YtofieekbhbkliaaW.PrintWords
set_option linter.unusedVariables false
set_option linter.unusedSimpArgs false
theorem heldF_loop (fs : List Fk9) (a : Int) (h0 : 0 ≤ a) (h1 : a + 2 * (fs.length : Int) ≤ 4611686018427387904) : ∀ (d i : Nat), d = fs.length - i → i ≤ fs.length → Ev (fun k => laws_heldFetchS.l0 k (mkF fs a) (a + 2 * (i : Int)) (i : Int)) (a + 2 * (fs.length : Int)) := by
  intro d
  induction d with
  | zero =>
    intro i hd hi
    have e : i = fs.length := by omega
    subst e
    refine Ev.step (fun k => by rw [laws_heldFetchS.l0]) ?_
    simp only [mkF_len, if_neg (show ¬ ((fs.length : Int) < (fs.length : Int)) by omega)]
    exact Ev.now _
  | succ d ih =>
    intro i hd hi
    have hlt : i < fs.length := by omega
    refine Ev.step (fun k => by rw [laws_heldFetchS.l0]) ?_
    have ew : wrap64 (a + 2 * (i : Int) + 1) = a + 2 * (i : Int) + 1 := wrap_id _ (by omega) (by omega)
    have ew2 : wrap64 (a + 2 * (i : Int) + 1 + 1) = a + 2 * ((i + 1 : Nat) : Int) := by rw [wrap_id _ (by omega) (by omega)]; omega
    have e : rd_T108 (mkF fs a) (i : Int) = ⟨a + 2 * (i : Int), a + 2 * (i : Int) + 1⟩ := by rw [rd_fk9 _ i (by rw [mkF_len]; exact hlt), mkF_get]
    simp only [mkF_len, if_pos (show (i : Int) < (fs.length : Int) by omega), if_pos (show (0 : Int) ≤ (i : Int) by omega), ew, ew2, e, if_true, wrap_nat i (by omega)]
    exact ih (i + 1) (by omega) (by omega)
theorem heldF_ev (fs : List Fk9) (a : Int) (h0 : 0 ≤ a) (h1 : a + 2 * (fs.length : Int) ≤ 4611686018427387904) : Ev (fun k => laws_heldFetchS.f k (mkF fs a) a) (a + 2 * (fs.length : Int)) := by
  unfold laws_heldFetchS.f
  have h := heldF_loop fs a h0 h1 fs.length 0 (by omega) (by omega)
  simpa using h
end Go.Proofs.Ytofieekbhbkliaa.G
end
section
namespace Go.Proofs.Ytofieekbhbkliaa.G
open Go.RowKit Go.Proofs.YtofieekbhbkliaaW.PrintWords
set_option linter.unusedVariables false
set_option linter.unusedSimpArgs false
def laws_FnExactTracesFind.f (k : Nat) (l0 : List S37) (a1 : Int) (l2 : List Int) : Option Bool := if l0.length ≤ 9223372036854775807 ∧ (∀ t ∈ l0, t.f1.length ≤ 9223372036854775807) then some true else none
theorem cnt_cv (l : List Ltr) : cntTrs (l.map cvTr) = szTrs l := by
  have h : cntTrs (l.map cvTr) = l.length + sumL (fun t => t.f1.length) l := by
    induction l with
    | nil => rfl
    | cons t ts ih =>
      simp only [List.map_cons, cntTrs, cntTr, cvTr, List.length_map, ih, sumL, List.length_cons]
      omega
  rw [h, szTrs]
theorem laws_FnExactTracesFind.calls (k : Nat) (A0 : Option Addr) (c0 : Nat) (l0 : List S37) (a1 : Int) (A2 : Option Addr) (c2 : Nat) (l2 : List Int) (r : Bool) (w : World) (hr0 : Kd.C k37 w A0 l0.length l0) (hc0 : l0.length ≤ c0) (hr2 : Kd.C (Kd.int .i64) w A2 l2.length l2) (hc2 : l2.length ≤ c2) (h : laws_FnExactTracesFind.f k l0 a1 l2 = some r) :
    Calls Try.prog 7 #[.slice A0 l0.length c0, .int .i64 a1, .slice A2 l2.length c2] w fun e w' => e = .returned (.bool r) ∧ Below w.heap.size w w' := by
  unfold laws_FnExactTracesFind.f at h
  split at h
  · rename_i hb
    obtain rfl := Option.some.inj h
    by_cases h20 : (l2.length : Int) > 1048576
    · exact lw_FnExactTracesFind_e0 A0 c0 l0 a1 A2 c2 l2 w hr0 hc0 hr2 hc2 h20
    · obtain ⟨K1, H1⟩ := (szTrs_ev l0 hb.1 hb.2 1048576 (by omega) (by omega)).rounds
      by_cases hs : (szTrs l0 : Int) ≤ 1048576
      · have hs' : szTrs l0 ≤ 1048576 := by omega
        rw [leftOf_yes hs] at H1
        obtain ⟨K2, H2⟩ := (toTrs_ev l0 hs').rounds
        obtain ⟨K3, H3⟩ := (toIs_ev l2 (by omega)).rounds
        have hlen := cvTrs_len hs'
        have hll : (l0.map cvTr).length ≤ 1048576 := by rw [List.length_map]; unfold szTrs at hs'; omega
        obtain ⟨K4, H4⟩ := (specFind_ev (l0.map cvTr) a1 l2).rounds
        obtain ⟨K5, H5⟩ := (implFind_ev (l0.map cvTr) a1 l2 (fun t ht => by have := hlen t ht; omega)).rounds
        have hfl := findR_len (l0.map cvTr) a1 l2
        generalize findR (l0.map cvTr) a1 l2 = R at H4 H5 hfl
        obtain ⟨x, u, y, b⟩ := R
        simp only at hfl
        obtain ⟨K6, H6⟩ := (eqTr_ev ⟨x, u, y⟩ (show u.length ≤ 4000000000 by omega)).rounds
        obtain ⟨K7, H7⟩ := (eqTrs_ev (l0.map cvTr) (by omega) (fun t ht => by have := hlen t ht; omega)).rounds
        obtain ⟨K8, H8⟩ := (eqIs_ev l2 (by omega)).rounds
        have hcnt : (cntTrs (l0.map cvTr) : Int) ≤ 1048576 := by rw [cnt_cv]; exact hs
        have H9 : laws_markTraceS.f (l0.map cvTr) 1 = some (1 + 2 * (cntTrs (l0.map cvTr) : Int), mkTs (l0.map cvTr) 1) := by
          unfold laws_markTraceS.f
          rw [if_pos ⟨by omega, by omega⟩]
        obtain ⟨K10, H10⟩ := (markI_ev l2 (1 + 2 * (cntTrs (l0.map cvTr) : Int)) (by omega) (by omega)).rounds
        obtain ⟨K11, H11⟩ := (markF_ev u 1 (by omega) (by omega)).rounds
        obtain ⟨K12, H12⟩ := (heldF_ev u 1 (by omega) (by omega)).rounds
        have H11' : laws_markTrace.f K11 x u y 1 = some (1 + 2 * (u.length : Int), mkF u 1) := by
          unfold laws_markTrace.f
          rw [H11]
          rfl
        have H12' : laws_heldTrace.f K12 x (mkF u 1) y 1 = some (1 + 2 * (u.length : Int)) := by
          unfold laws_heldTrace.f
          rw [H12, Option.bind_some, if_neg (by omega)]
        exact lw_FnExactTracesFind A0 c0 l0 a1 A2 c2 l2 w hr0 hc0 hr2 hc2 (by omega) _ _ _ _ _ _ _ _ _ _ _ _ _ K1 H1 K2 H2 K3 H3 K4 H4 K5 H5 K6 H6 K7 H7 K8 H8 H9 K10 H10 K11 H11' K12 H12' (by omega) (by omega) (by omega) (by omega)
      · rw [leftOf_no hs] at H1
        exact lw_FnExactTracesFind_e1 A0 c0 l0 a1 A2 c2 l2 w hr0 hc0 hr2 hc2 (by omega) _ K1 H1 (by omega)
  · cases h
theorem pure_FnExactTracesFind (l : List Ltr) (hl : l.length ≤ 9223372036854775807 ∧ ∀ x ∈ l, ex_t37 x) (a : Int) (ha : (Lit.int .i64 a).wf = true) (vs : List Int) (hv : vs.length ≤ 9223372036854775807 ∧ ∀ x ∈ vs, (Lit.int .i64 x).wf = true) : ∃ k, laws_FnExactTracesFind.f k l a vs = some true :=
  ⟨0, if_pos ⟨hl.1, fun t ht => (hl.2 t ht).2.1.1⟩⟩
end Go.Proofs.Ytofieekbhbkliaa.G
end
