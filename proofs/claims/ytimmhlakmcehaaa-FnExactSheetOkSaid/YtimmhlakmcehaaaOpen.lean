import Derived.Test.YtimmhlakmcehaaaProg
import Derived.ChangeArms
import Derived.DataReads
import Derived.Lib.SmallJoins
import Derived.Deep.Slices
import Derived.Deep.Strs
import Derived.Test.YtimmhlakmcehaaaWMore
/- What a reading as data tells of a value's cells, kind by kind: each reading gives a plain value that the cells stand for. -/
namespace Go.Proofs.YtimmhlakmcehaaaW.OpenData
open Go.RowKit Go.Proofs.YtimmhlakmcehaaaW.PrintWords
set_option linter.unusedVariables false
set_option linter.unusedSimpArgs false

/-- Every reading of type t, of fuel at most n, tells a plain value of kind d, of which ex holds. -/
def Opens (P : Program) (t : TypeId) {α : Type} (d : Kd α) (ex : α → Prop) (n : Nat) : Prop :=
  ∀ {H : Type} (enc : TypeId × Value → H) (w : World) (fuel : Nat) (cs : List Value) (x : DataW H × List MemPlace), fuel ≤ n →
    DataW.trod enc P w 0 (fun _ => true) true fuel t cs = some x → ∃ a, d.K w a cs ∧ ex a

theorem opens_int {P : Program} {t : TypeId} {k : IntKind} (ht : P.underlying t = some (.int k)) (n : Nat) : Opens P t (Kd.int k) (fun x => (Lit.int k x).wf = true) n := by
  intro H enc w fuel cs x _ h
  obtain ⟨m, rfl, _, hw⟩ := DataW.trod_int ht h
  exact ⟨m, rfl, hw⟩
theorem opens_bool {P : Program} {t : TypeId} (ht : P.underlying t = some .bool) (n : Nat) : Opens P t Kd.bool (fun _ => True) n := by
  intro H enc w fuel cs x _ h
  obtain ⟨m, rfl, _⟩ := DataW.trod_bool ht h
  exact ⟨m, rfl, trivial⟩
theorem list_of {α : Type} (p : Nat → α → Prop) (n : Nat) (h : ∀ i, i < n → ∃ x, p i x) : ∃ l : List α, l.length = n ∧ ∀ i x, l[i]? = some x → p i x := by
  induction n with
  | zero => exact ⟨[], rfl, fun i x h => by simp at h⟩
  | succ n ih =>
    obtain ⟨l, hl, hp⟩ := ih (fun i hi => h i (by omega))
    obtain ⟨y, hy⟩ := h n (by omega)
    refine ⟨l ++ [y], by simp [hl], fun i x hx => ?_⟩
    rcases Nat.lt_or_ge i l.length with hi | hi
    · rw [List.getElem?_append_left hi] at hx
      exact hp i x hx
    · have hi' : i = l.length := by
        have := (List.getElem?_eq_some_iff.1 hx).1
        simp at this
        omega
      subst hi'
      have : y = x := by simpa using hx
      subst this
      rw [hl]
      exact hy
theorem add_add_ (a : Addr) (i j : Nat) : (a.add i).add j = a.add (i + j) := Go.Deep.add_add a i j
theorem opens_slice {P : Program} {t e : TypeId} {α : Type} {d : Kd α} {ex : α → Prop} {n : Nat} (ht : P.underlying t = some (.slice e)) (hc : P.cellsOf e = d.sz) (h : Opens P e d ex n) :
    Opens P t (Kd.slice e d) (fun xs => xs.length ≤ maxLen ∧ ∀ x ∈ xs, ex x) (n + 1) := by
  intro H enc w fuel cs x hfu hr
  rcases DataW.trod_slice ht hr with ⟨rfl, _⟩ | ⟨a, len, cap, elems, rest, m, rfl, rfl, _, _, hl, hm, hlen, hel, _⟩
  · exact ⟨[], ⟨none, 0, rfl, Nat.le_refl _, rfl, by simp, fun h => absurd h (by simp)⟩, by simp, by simp⟩
  · have key : ∀ i, i < len → ∃ y : α, ex y ∧ ∃ c : List Value, c.length = d.sz ∧ d.K w y c ∧ ∀ j u, c[j]? = some u → w.cell? (a.add (i * d.sz + j)) = some u := by
      intro i hi
      have h1 := hel i hi
      rw [List.getElem?_eq_getElem (by omega)] at h1
      obtain ⟨cs', h2, h3⟩ := Option.bind_eq_some_iff.1 h1
      obtain ⟨y, hy, he⟩ := h enc w m cs' _ (by omega) h3
      obtain ⟨_, h4, h5⟩ := World.cells?_some h2
      refine ⟨y, he, cs', by rw [h4, hc], hy, fun j u hu => ?_⟩
      have hj : j < P.cellsOf e := by rw [← h4]; exact (List.getElem?_eq_some_iff.1 hu).1
      have h6 := h5 j hj
      rw [hu, add_add_, hc] at h6
      exact h6
    obtain ⟨xs, hxl, hxs⟩ := list_of (fun i y => ex y ∧ ∃ c : List Value, c.length = d.sz ∧ d.K w y c ∧ ∀ j u, c[j]? = some u → w.cell? (a.add (i * d.sz + j)) = some u) len key
    subst hxl
    refine ⟨xs, ⟨some a, cap, rfl, hl, rfl, ?_, fun _ => ⟨a, rfl, fun j p hj => (hxs j p hj).2⟩⟩, by omega, fun x hx => ?_⟩
    · have : maxLen = 9223372036854775807 := by decide
      omega
    · obtain ⟨i, hi, rfl⟩ := List.mem_iff_getElem.1 hx
      exact (hxs i _ (List.getElem?_eq_getElem hi)).1
theorem opens_imp {P : Program} {t : TypeId} {α : Type} {d : Kd α} {ex ex' : α → Prop} {n m : Nat} (h : Opens P t d ex n) (hm : m ≤ n) (hex : ∀ x, ex x → ex' x) : Opens P t d ex' m := by
  intro H enc w fuel cs x hfu hr
  obtain ⟨a, hK, he⟩ := h enc w fuel cs x (by omega) hr
  exact ⟨a, hK, hex a he⟩
/-- A struct of three fields: two of one cell, one behind them. -/
theorem opens_struct3 {P : Program} {t : TypeId} {f0 f1 f2 : Field} {α β γ δ : Type} {d0 : Kd α} {d1 : Kd β} {d2 : Kd γ} {e0 : α → Prop} {e1 : β → Prop} {e2 : γ → Prop} {n : Nat} (g : δ → α × β × γ) (gi : α → β → γ → δ) (hg : ∀ a b c, g (gi a b c) = (a, b, c))
    (ht : P.underlying t = some (.struct #[f0, f1, f2])) (hs : P.cellsOf t = d0.sz + d1.sz + d2.sz) (o0 : f0.offset = 0) (o1 : f1.offset = d0.sz) (o2 : f2.offset = d0.sz + d1.sz) (c0 : P.cellsOf f0.type = d0.sz) (c1 : P.cellsOf f1.type = d1.sz) (c2 : P.cellsOf f2.type = d2.sz)
    (h0 : Opens P f0.type d0 e0 n) (h1 : Opens P f1.type d1 e1 n) (h2 : Opens P f2.type d2 e2 n) :
    Opens P t (Kd.iso (Kd.pair d0 (Kd.pair d1 d2)) g) (fun x => e0 (g x).1 ∧ e1 (g x).2.1 ∧ e2 (g x).2.2) (n + 1) := by
  intro H enc w fuel cs x hfu hr
  obtain ⟨xs, m, rfl, _, hl, hlen, hf⟩ := DataW.trod_struct ht hr
  match xs, hlen with
  | [y0, y1, y2], _ =>
    have r0 := hf 0 f0 rfl
    have r1 := hf 1 f1 rfl
    have r2 := hf 2 f2 rfl
    rw [o0, c0] at r0
    rw [o1, c1] at r1
    rw [o2, c2] at r2
    obtain ⟨a, hK0, he0⟩ := h0 enc w m _ _ (by omega) r0
    obtain ⟨b, hK1, he1⟩ := h1 enc w m _ _ (by omega) r1
    obtain ⟨c, hK2, he2⟩ := h2 enc w m _ _ (by omega) r2
    refine ⟨gi a b c, ?_, by simp only [hg]; exact ⟨he0, he1, he2⟩⟩
    show ∃ k0 k1, cs = k0 ++ k1 ∧ d0.K w (g (gi a b c)).1 k0 ∧ ∃ k2 k3, k1 = k2 ++ k3 ∧ d1.K w (g (gi a b c)).2.1 k2 ∧ d2.K w (g (gi a b c)).2.2 k3
    rw [hg]
    rw [List.drop_zero] at hK0
    refine ⟨cs.take d0.sz, cs.drop d0.sz, (List.take_append_drop _ _).symm, hK0, (cs.drop d0.sz).take d1.sz, (cs.drop d0.sz).drop d1.sz, (List.take_append_drop _ _).symm, hK1, ?_⟩
    rw [List.drop_drop]
    rw [List.take_of_length_le (by rw [List.length_drop]; omega)] at hK2
    exact hK2
/-- A struct of two fields. -/
theorem opens_struct2 {P : Program} {t : TypeId} {f0 f1 : Field} {α β δ : Type} {d0 : Kd α} {d1 : Kd β} {e0 : α → Prop} {e1 : β → Prop} {n : Nat} (g : δ → α × β) (gi : α → β → δ) (hg : ∀ a b, g (gi a b) = (a, b))
    (ht : P.underlying t = some (.struct #[f0, f1])) (hs : P.cellsOf t = d0.sz + d1.sz) (o0 : f0.offset = 0) (o1 : f1.offset = d0.sz) (c0 : P.cellsOf f0.type = d0.sz) (c1 : P.cellsOf f1.type = d1.sz)
    (h0 : Opens P f0.type d0 e0 n) (h1 : Opens P f1.type d1 e1 n) :
    Opens P t (Kd.iso (Kd.pair d0 d1) g) (fun x => e0 (g x).1 ∧ e1 (g x).2) (n + 1) := by
  intro H enc w fuel cs x hfu hr
  obtain ⟨xs, m, rfl, _, hl, hlen, hf⟩ := DataW.trod_struct ht hr
  match xs, hlen with
  | [y0, y1], _ =>
    have r0 := hf 0 f0 rfl
    have r1 := hf 1 f1 rfl
    rw [o0, c0] at r0
    rw [o1, c1] at r1
    obtain ⟨a, hK0, he0⟩ := h0 enc w m _ _ (by omega) r0
    obtain ⟨b, hK1, he1⟩ := h1 enc w m _ _ (by omega) r1
    refine ⟨gi a b, ?_, by simp only [hg]; exact ⟨he0, he1⟩⟩
    show ∃ k0 k1, cs = k0 ++ k1 ∧ d0.K w (g (gi a b)).1 k0 ∧ d1.K w (g (gi a b)).2 k1
    rw [hg]
    rw [List.drop_zero] at hK0
    refine ⟨cs.take d0.sz, cs.drop d0.sz, (List.take_append_drop _ _).symm, hK0, ?_⟩
    rw [List.take_of_length_le (by rw [List.length_drop]; omega)] at hK1
    exact hK1
/-- A kind nested in itself: by its depth. -/
theorem opens_fix {P : Program} {t : TypeId} {α : Type} {F : Kd α → Kd α} {sz : Nat} {E : List Nat} {hs : ∀ n, (Kd.upto F sz E n).sz = sz} {hE : ∀ n q, q ∈ (Kd.upto F sz E n).E → q ∈ E} {ex : α → Prop}
    (step : ∀ (d : Kd α) (n : Nat), d.sz = sz → Opens P t d ex n → Opens P t (F d) ex (n + 1)) (n : Nat) : Opens P t (Kd.fix F sz E hs hE) ex n := by
  have key : ∀ n, Opens P t (Kd.upto F sz E (n + 1)) ex n := by
    intro n
    induction n with
    | zero =>
      intro H enc w fuel cs x hfu hr
      obtain rfl : fuel = 0 := by omega
      simp [DataW.trod] at hr
    | succ n ih => exact step _ n (hs _) ih
  intro H enc w fuel cs x hfu hr
  obtain ⟨a, hK, he⟩ := key n enc w fuel cs x hfu hr
  exact ⟨a, ⟨_, hK⟩, he⟩
/-- A slice that is an argument: its value laid open. -/
theorem open_row {P : Program} {t e : TypeId} {α : Type} {d : Kd α} {ex : List α → Prop} (h : ∀ n, Opens P t (Kd.slice e d) ex n) {H : Type} {enc : TypeId × Value → H} {w : World} {v : Value} {x : DataW H} {p : List MemPlace} {r : Reach} {b0 : Nat} (ht : P.underlying t = some (.slice e)) (hv : Value.okWide P w r b0 t v)
    (hr : DataW.Trod enc P w 0 (fun _ => true) true t v x p) : ∃ A c xs, v = .slice A xs.length c ∧ xs.length ≤ c ∧ d.C w A xs.length xs ∧ ex xs := by
  obtain ⟨a0, l0, c0, rfl⟩ := Go.WideShapes.okWide_slice ht hv
  obtain ⟨fuel, hf⟩ := hr
  obtain ⟨xs, ⟨A, c, e1, hl, hC⟩, he⟩ := h fuel enc w fuel _ _ (Nat.le_refl _) hf
  simp only [Value.cells, List.cons.injEq, and_true] at e1
  exact ⟨A, c, xs, e1, hl, hC, he⟩
end Go.Proofs.YtimmhlakmcehaaaW.OpenData
