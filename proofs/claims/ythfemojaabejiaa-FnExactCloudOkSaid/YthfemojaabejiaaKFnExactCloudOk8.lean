-- Written by pack.py (ours): the claim's texts, cut down to what its theorem reaches.
import Derived.ChangeArms
import Derived.DataReads
import Derived.Lib.SmallJoins
import Derived.Deep.Slices
import Derived.Deep.Strs
import Derived.Test.YthfemojaabejiaaKFnExactCloudOk7
section
namespace Go.Proofs.YthfemojaabejiaaW.OpenData
open Go.RowKit Go.Proofs.YthfemojaabejiaaW.PrintWords
set_option linter.unusedVariables false
set_option linter.unusedSimpArgs false
def Opens (P : Program) (t : TypeId) {α : Type} (d : Kd α) (ex : α → Prop) (n : Nat) : Prop :=
  ∀ {H : Type} (enc : TypeId × Value → H) (w : World) (fuel : Nat) (cs : List Value) (x : DataW H × List MemPlace), fuel ≤ n →
    DataW.trod enc P w 0 (fun _ => true) true fuel t cs = some x → ∃ a, d.K w a cs ∧ ex a
theorem opens_int {P : Program} {t : TypeId} {k : IntKind} (ht : P.underlying t = some (.int k)) (n : Nat) : Opens P t (Kd.int k) (fun x => (Lit.int k x).wf = true) n := by
  intro H enc w fuel cs x _ h
  obtain ⟨m, rfl, _, hw⟩ := DataW.trod_int ht h
  exact ⟨m, rfl, hw⟩
theorem opens_bool {P : Program} {t : TypeId} (ht : P.underlying t = some .bool) (n : Nat) : Opens P t Kd.bool (fun _ => True) n := by
  intro H enc w fuel cs x _ h
  obtain ⟨m, rfl, _⟩ := DataW.trod_bool ht h
  exact ⟨m, rfl, trivial⟩
theorem list_of {α : Type} (p : Nat → α → Prop) (n : Nat) (h : ∀ i, i < n → ∃ x, p i x) : ∃ l : List α, l.length = n ∧ ∀ i x, l[i]? = some x → p i x := by
  induction n with
  | zero => exact ⟨[], rfl, fun i x h => by simp at h⟩
  | succ n ih =>
    obtain ⟨l, hl, hp⟩ := ih (fun i hi => h i (by omega))
    obtain ⟨y, hy⟩ := h n (by omega)
    refine ⟨l ++ [y], by simp [hl], fun i x hx => ?_⟩
    rcases Nat.lt_or_ge i l.length with hi | hi
    · rw [List.getElem?_append_left hi] at hx
      exact hp i x hx
    · have hi' : i = l.length := by
        have := (List.getElem?_eq_some_iff.1 hx).1
        simp at this
        omega
      subst hi'
      have : y = x := by simpa using hx
      subst this
      rw [hl]
      exact hy
theorem add_add_ (a : Addr) (i j : Nat) : (a.add i).add j = a.add (i + j) := Go.Deep.add_add a i j
theorem opens_slice {P : Program} {t e : TypeId} {α : Type} {d : Kd α} {ex : α → Prop} {n : Nat} (ht : P.underlying t = some (.slice e)) (hc : P.cellsOf e = d.sz) (h : Opens P e d ex n) :
    Opens P t (Kd.slice e d) (fun xs => xs.length ≤ maxLen ∧ ∀ x ∈ xs, ex x) (n + 1) := by
  intro H enc w fuel cs x hfu hr
  rcases DataW.trod_slice ht hr with ⟨rfl, _⟩ | ⟨a, len, cap, elems, rest, m, rfl, rfl, _, _, hl, hm, hlen, hel, _⟩
  · exact ⟨[], ⟨none, 0, rfl, Nat.le_refl _, rfl, by simp, fun h => absurd h (by simp)⟩, by simp, by simp⟩
  · have key : ∀ i, i < len → ∃ y : α, ex y ∧ ∃ c : List Value, c.length = d.sz ∧ d.K w y c ∧ ∀ j u, c[j]? = some u → w.cell? (a.add (i * d.sz + j)) = some u := by
      intro i hi
      have h1 := hel i hi
      rw [List.getElem?_eq_getElem (by omega)] at h1
      obtain ⟨cs', h2, h3⟩ := Option.bind_eq_some_iff.1 h1
      obtain ⟨y, hy, he⟩ := h enc w m cs' _ (by omega) h3
      obtain ⟨_, h4, h5⟩ := World.cells?_some h2
      refine ⟨y, he, cs', by rw [h4, hc], hy, fun j u hu => ?_⟩
      have hj : j < P.cellsOf e := by rw [← h4]; exact (List.getElem?_eq_some_iff.1 hu).1
      have h6 := h5 j hj
      rw [hu, add_add_, hc] at h6
      exact h6
    obtain ⟨xs, hxl, hxs⟩ := list_of (fun i y => ex y ∧ ∃ c : List Value, c.length = d.sz ∧ d.K w y c ∧ ∀ j u, c[j]? = some u → w.cell? (a.add (i * d.sz + j)) = some u) len key
    subst hxl
    refine ⟨xs, ⟨some a, cap, rfl, hl, rfl, ?_, fun _ => ⟨a, rfl, fun j p hj => (hxs j p hj).2⟩⟩, by omega, fun x hx => ?_⟩
    · have : maxLen = 9223372036854775807 := by decide
      omega
    · obtain ⟨i, hi, rfl⟩ := List.mem_iff_getElem.1 hx
      exact (hxs i _ (List.getElem?_eq_getElem hi)).1
theorem opens_imp {P : Program} {t : TypeId} {α : Type} {d : Kd α} {ex ex' : α → Prop} {n m : Nat} (h : Opens P t d ex n) (hm : m ≤ n) (hex : ∀ x, ex x → ex' x) : Opens P t d ex' m := by
  intro H enc w fuel cs x hfu hr
  obtain ⟨a, hK, he⟩ := h enc w fuel cs x (by omega) hr
  exact ⟨a, hK, hex a he⟩
theorem opens_struct3 {P : Program} {t : TypeId} {f0 f1 f2 : Field} {α β γ δ : Type} {d0 : Kd α} {d1 : Kd β} {d2 : Kd γ} {e0 : α → Prop} {e1 : β → Prop} {e2 : γ → Prop} {n : Nat} (g : δ → α × β × γ) (gi : α → β → γ → δ) (hg : ∀ a b c, g (gi a b c) = (a, b, c))
    (ht : P.underlying t = some (.struct #[f0, f1, f2])) (hs : P.cellsOf t = d0.sz + d1.sz + d2.sz) (o0 : f0.offset = 0) (o1 : f1.offset = d0.sz) (o2 : f2.offset = d0.sz + d1.sz) (c0 : P.cellsOf f0.type = d0.sz) (c1 : P.cellsOf f1.type = d1.sz) (c2 : P.cellsOf f2.type = d2.sz)
    (h0 : Opens P f0.type d0 e0 n) (h1 : Opens P f1.type d1 e1 n) (h2 : Opens P f2.type d2 e2 n) :
    Opens P t (Kd.iso (Kd.pair d0 (Kd.pair d1 d2)) g) (fun x => e0 (g x).1 ∧ e1 (g x).2.1 ∧ e2 (g x).2.2) (n + 1) := by
  intro H enc w fuel cs x hfu hr
  obtain ⟨xs, m, rfl, _, hl, hlen, hf⟩ := DataW.trod_struct ht hr
  match xs, hlen with
  | [y0, y1, y2], _ =>
    have r0 := hf 0 f0 rfl
    have r1 := hf 1 f1 rfl
    have r2 := hf 2 f2 rfl
    rw [o0, c0] at r0
    rw [o1, c1] at r1
    rw [o2, c2] at r2
    obtain ⟨a, hK0, he0⟩ := h0 enc w m _ _ (by omega) r0
    obtain ⟨b, hK1, he1⟩ := h1 enc w m _ _ (by omega) r1
    obtain ⟨c, hK2, he2⟩ := h2 enc w m _ _ (by omega) r2
    refine ⟨gi a b c, ?_, by simp only [hg]; exact ⟨he0, he1, he2⟩⟩
    show ∃ k0 k1, cs = k0 ++ k1 ∧ d0.K w (g (gi a b c)).1 k0 ∧ ∃ k2 k3, k1 = k2 ++ k3 ∧ d1.K w (g (gi a b c)).2.1 k2 ∧ d2.K w (g (gi a b c)).2.2 k3
    rw [hg]
    rw [List.drop_zero] at hK0
    refine ⟨cs.take d0.sz, cs.drop d0.sz, (List.take_append_drop _ _).symm, hK0, (cs.drop d0.sz).take d1.sz, (cs.drop d0.sz).drop d1.sz, (List.take_append_drop _ _).symm, hK1, ?_⟩
    rw [List.drop_drop]
    rw [List.take_of_length_le (by rw [List.length_drop]; omega)] at hK2
    exact hK2
theorem opens_struct2 {P : Program} {t : TypeId} {f0 f1 : Field} {α β δ : Type} {d0 : Kd α} {d1 : Kd β} {e0 : α → Prop} {e1 : β → Prop} {n : Nat} (g : δ → α × β) (gi : α → β → δ) (hg : ∀ a b, g (gi a b) = (a, b))
    (ht : P.underlying t = some (.struct #[f0, f1])) (hs : P.cellsOf t = d0.sz + d1.sz) (o0 : f0.offset = 0) (o1 : f1.offset = d0.sz) (c0 : P.cellsOf f0.type = d0.sz) (c1 : P.cellsOf f1.type = d1.sz)
    (h0 : Opens P f0.type d0 e0 n) (h1 : Opens P f1.type d1 e1 n) :
    Opens P t (Kd.iso (Kd.pair d0 d1) g) (fun x => e0 (g x).1 ∧ e1 (g x).2) (n + 1) := by
  intro H enc w fuel cs x hfu hr
  obtain ⟨xs, m, rfl, _, hl, hlen, hf⟩ := DataW.trod_struct ht hr
  match xs, hlen with
  | [y0, y1], _ =>
    have r0 := hf 0 f0 rfl
    have r1 := hf 1 f1 rfl
    rw [o0, c0] at r0
    rw [o1, c1] at r1
    obtain ⟨a, hK0, he0⟩ := h0 enc w m _ _ (by omega) r0
    obtain ⟨b, hK1, he1⟩ := h1 enc w m _ _ (by omega) r1
    refine ⟨gi a b, ?_, by simp only [hg]; exact ⟨he0, he1⟩⟩
    show ∃ k0 k1, cs = k0 ++ k1 ∧ d0.K w (g (gi a b)).1 k0 ∧ d1.K w (g (gi a b)).2 k1
    rw [hg]
    rw [List.drop_zero] at hK0
    refine ⟨cs.take d0.sz, cs.drop d0.sz, (List.take_append_drop _ _).symm, hK0, ?_⟩
    rw [List.take_of_length_le (by rw [List.length_drop]; omega)] at hK1
    exact hK1
theorem opens_fix {P : Program} {t : TypeId} {α : Type} {F : Kd α → Kd α} {sz : Nat} {E : List Nat} {hs : ∀ n, (Kd.upto F sz E n).sz = sz} {hE : ∀ n q, q ∈ (Kd.upto F sz E n).E → q ∈ E} {ex : α → Prop}
    (step : ∀ (d : Kd α) (n : Nat), d.sz = sz → Opens P t d ex n → Opens P t (F d) ex (n + 1)) (n : Nat) : Opens P t (Kd.fix F sz E hs hE) ex n := by
  have key : ∀ n, Opens P t (Kd.upto F sz E (n + 1)) ex n := by
    intro n
    induction n with
    | zero =>
      intro H enc w fuel cs x hfu hr
      obtain rfl : fuel = 0 := by omega
      simp [DataW.trod] at hr
    | succ n ih => exact step _ n (hs _) ih
  intro H enc w fuel cs x hfu hr
  obtain ⟨a, hK, he⟩ := key n enc w fuel cs x hfu hr
  exact ⟨a, ⟨_, hK⟩, he⟩
theorem open_row {P : Program} {t e : TypeId} {α : Type} {d : Kd α} {ex : List α → Prop} (h : ∀ n, Opens P t (Kd.slice e d) ex n) {H : Type} {enc : TypeId × Value → H} {w : World} {v : Value} {x : DataW H} {p : List MemPlace} {r : Reach} {b0 : Nat} (ht : P.underlying t = some (.slice e)) (hv : Value.okWide P w r b0 t v)
    (hr : DataW.Trod enc P w 0 (fun _ => true) true t v x p) : ∃ A c xs, v = .slice A xs.length c ∧ xs.length ≤ c ∧ d.C w A xs.length xs ∧ ex xs := by
  obtain ⟨a0, l0, c0, rfl⟩ := Go.WideShapes.okWide_slice ht hv
  obtain ⟨fuel, hf⟩ := hr
  obtain ⟨xs, ⟨A, c, e1, hl, hC⟩, he⟩ := h fuel enc w fuel _ _ (Nat.le_refl _) hf
  simp only [Value.cells, List.cons.injEq, and_true] at e1
  exact ⟨A, c, xs, e1, hl, hC, he⟩
end Go.Proofs.YthfemojaabejiaaW.OpenData
end
section
namespace Go.Proofs.Ythfemojaabejiaa.G
open Go.RowKit Go.Proofs.YthfemojaabejiaaW.PrintWords Go.Proofs.YthfemojaabejiaaW.OpenData
set_option linter.unusedVariables false
mutual
def ex_t138 : S138 → Prop
  | ⟨_, _, ps⟩ => ps.length ≤ 9223372036854775807 ∧ ex_c138 ps
def ex_c138 : List S138 → Prop
  | [] => True
  | p :: ps => ex_t138 p ∧ ex_c138 ps
end
theorem ex_c138_of {ps : List S138} (h : ∀ p ∈ ps, ex_t138 p) : ex_c138 ps := by
  induction ps with
  | nil => simp [ex_c138]
  | cons q ps ih => simp only [ex_c138]; exact ⟨h q (by simp), ih (fun p hp => h p (by simp [hp]))⟩
theorem opens_t138 : ∀ n, Opens Try.prog 138 k138 ex_t138 n := fun n => opens_fix (fun d n hs h => opens_imp (opens_struct3 (fun x : S138 => (x.f0, x.f1, x.f2)) S138.mk (fun _ _ _ => rfl) Try.underlying138 (by kernel_rfl) rfl rfl rfl (by kernel_rfl) (by kernel_rfl) (by kernel_rfl) (opens_int Try.underlying3 (n + 1)) (opens_int Try.underlying3 (n + 1)) (opens_slice Try.underlying23 (by rw [hs]; kernel_rfl) h)) (by omega) (fun x hx => by
  cases x
  simp only [ex_t138]
  exact ⟨hx.2.2.1, ex_c138_of hx.2.2.2⟩)) n
def ex_sl138 (xs : List (S138)) : Prop := xs.length ≤ 9223372036854775807 ∧ ∀ x ∈ xs, (ex_t138) x
theorem opens_sl138 : ∀ n, Opens Try.prog 23 (Kd.slice 138 k138) ex_sl138 n := fun n => opens_imp (opens_slice Try.underlying23 (by kernel_rfl) ((opens_t138) n)) (Nat.le_succ n) (fun _ h => h)
def ex_sl3 (xs : List (Int)) : Prop := xs.length ≤ 9223372036854775807 ∧ ∀ x ∈ xs, (fun x : Int => (Lit.int .i64 x).wf = true) x
theorem opens_sl3 : ∀ n, Opens Try.prog 34 (Kd.slice 3 (Kd.int .i64)) ex_sl3 n := fun n => opens_imp (opens_slice Try.underlying34 (by kernel_rfl) ((fun n => opens_int Try.underlying3 n) n)) (Nat.le_succ n) (fun _ h => h)
def ex_t94 (x : S94) : Prop := (ex_sl3) x.f0 ∧ (ex_sl3) x.f1
theorem opens_t94 : ∀ n, Opens Try.prog 94 k94 ex_t94 n := fun n => opens_imp (opens_struct2 (fun x : S94 => (x.f0, x.f1)) S94.mk (fun _ _  => rfl) Try.underlying94 (by kernel_rfl) rfl rfl (by kernel_rfl) (by kernel_rfl) ((opens_sl3) n) ((opens_sl3) n)) (Nat.le_succ n) (fun _ h => h)
def ex_t102 (x : S102) : Prop := (fun x : Int => (Lit.int .i64 x).wf = true) x.f0 ∧ (ex_t94) x.f1
theorem opens_t102 : ∀ n, Opens Try.prog 102 k102 ex_t102 n := fun n => opens_imp (opens_struct2 (fun x : S102 => (x.f0, x.f1)) S102.mk (fun _ _  => rfl) Try.underlying102 (by kernel_rfl) rfl rfl (by kernel_rfl) (by kernel_rfl) ((fun n => opens_int Try.underlying3 n) n) ((opens_t94) n)) (Nat.le_succ n) (fun _ h => h)
def ex_sl102 (xs : List (S102)) : Prop := xs.length ≤ 9223372036854775807 ∧ ∀ x ∈ xs, (ex_t102) x
theorem opens_sl102 : ∀ n, Opens Try.prog 49 (Kd.slice 102 k102) ex_sl102 n := fun n => opens_imp (opens_slice Try.underlying49 (by kernel_rfl) ((opens_t102) n)) (Nat.le_succ n) (fun _ h => h)
def ex_sl4 (xs : List (Bool)) : Prop := xs.length ≤ 9223372036854775807 ∧ ∀ x ∈ xs, (fun _ : Bool => True) x
theorem opens_sl4 : ∀ n, Opens Try.prog 22 (Kd.slice 4 Kd.bool) ex_sl4 n := fun n => opens_imp (opens_slice Try.underlying22 (by kernel_rfl) ((fun n => opens_bool Try.underlying4 n) n)) (Nat.le_succ n) (fun _ h => h)
end Go.Proofs.Ythfemojaabejiaa.G
end
section
namespace Go.Proofs.Ythfemojaabejiaa.G
open Go.RowKit Go.Proofs.YthfemojaabejiaaW.PrintWords
set_option linter.unusedVariables false
set_option linter.unusedSimpArgs false
abbrev Lk := S138
theorem lk_size (t p : Lk) (hp : p ∈ t.f2) : SizeOf.sizeOf p < SizeOf.sizeOf t := by
  have h := List.sizeOf_lt_of_mem hp
  cases t with
  | mk a b c => simp only [S138.mk.sizeOf_spec] at *; omega
theorem lk_ind {P : Lk → Prop} (h : ∀ t : Lk, (∀ p ∈ t.f2, P p) → P t) : ∀ t, P t := by
  intro t
  induction hn : SizeOf.sizeOf t using Nat.strongRecOn generalizing t with
  | _ n ih => exact h t (fun p hp => ih (SizeOf.sizeOf p) (by rw [← hn]; exact lk_size t p hp) p rfl)
theorem rd_lk (ps : List Lk) (i : Nat) (h : i < ps.length) : rd_T138 ps (i : Int) = ps[i] := by
  simp only [rd_T138, Int.toNat_natCast, List.getD_eq_getElem?_getD, List.getElem?_eq_getElem h, Option.getD_some]
abbrev bdT := ex_t138
abbrev bdL := ex_c138
mutual
def szT : Lk → Nat
  | ⟨_, _, ps⟩ => ps.length + szC ps
def szC : List Lk → Nat
  | [] => 0
  | p :: ps => szT p + szC ps
end
mutual
def cvT : Lk → Tk
  | ⟨k, n, ps⟩ => ⟨k, n, cvL ps⟩
def cvL : List Lk → List Tk
  | [] => []
  | p :: ps => cvT p :: cvL ps
end
theorem bdT_eq (t : Lk) : bdT t = (t.f2.length ≤ 9223372036854775807 ∧ bdL t.f2) := by cases t; simp [bdT, bdL, ex_t138]
theorem szT_eq (t : Lk) : szT t = t.f2.length + szC t.f2 := by cases t; simp [szT]
theorem cvT_eq (t : Lk) : cvT t = ⟨t.f0, t.f1, cvL t.f2⟩ := by cases t; simp [cvT]
theorem cvL_map (ps : List Lk) : cvL ps = ps.map cvT := by
  induction ps with
  | nil => simp [cvL]
  | cons p ps ih => simp [cvL, ih]
theorem cvL_length (ps : List Lk) : (cvL ps).length = ps.length := by rw [cvL_map, List.length_map]
theorem bdL_mem {ps : List Lk} (h : bdL ps) : ∀ p ∈ ps, bdT p := by
  induction ps with
  | nil => intro p hp; cases hp
  | cons q ps ih =>
    simp only [bdL, ex_c138] at h
    intro p hp
    rcases List.mem_cons.1 hp with rfl | hp
    · exact h.1
    · exact ih h.2 p hp
theorem bdL_of {ps : List Lk} (h : ∀ p ∈ ps, bdT p) : bdL ps := ex_c138_of h
theorem szC_mem {ps : List Lk} : ∀ p ∈ ps, szT p ≤ szC ps := by
  induction ps with
  | nil => intro p hp; cases hp
  | cons q ps ih =>
    intro p hp
    simp only [szC]
    rcases List.mem_cons.1 hp with rfl | hp
    · omega
    · have := ih p hp; omega
theorem nod_cv : ∀ t : Lk, nodT (cvT t) = 1 + szT t := by
  refine lk_ind fun t ih => ?_
  rw [cvT_eq, nodT_eq, szT_eq]
  congr 1
  show nodL (cvL t.f2) = t.f2.length + szC t.f2
  generalize t.f2 = ps at ih
  induction ps with
  | nil => simp [cvL, nodL, szC]
  | cons p ps ihp =>
    simp only [cvL, nodL, szC, List.length_cons]
    rw [ih p (by simp), ihp (fun q hq => ih q (by simp [hq]))]
    omega
theorem nodL_cv (ps : List Lk) : nodL (cvL ps) = ps.length + szC ps := by
  have h := nod_cv ⟨0, 0, ps⟩
  rw [cvT_eq, nodT_eq, szT_eq] at h
  simp only at h
  omega
def leftOf (n : Nat) (left : Int) : Int := if (n : Int) ≤ left then left - n else -1
theorem leftOf_yes {n : Nat} {left : Int} (h : (n : Int) ≤ left) : leftOf n left = left - n := if_pos h
theorem leftOf_no {n : Nat} {left : Int} (h : ¬ (n : Int) ≤ left) : leftOf n left = -1 := if_neg h
theorem leftOf_add {a b : Nat} {left : Int} (h : (a : Int) ≤ left) : leftOf b (left - a) = leftOf (a + b) left := by
  unfold leftOf
  split <;> split <;> omega
theorem leftOf_zero {left : Int} (h : 0 ≤ left) : leftOf 0 left = left := by unfold leftOf; split <;> omega
theorem leftOf_neg {n : Nat} {left : Int} (h0 : 0 ≤ left) : leftOf n left < 0 ↔ ¬ (n : Int) ≤ left := by unfold leftOf; split <;> omega
theorem szS_ev (n : Nat) : ∀ ps : List Lk, SizeOf.sizeOf ps ≤ n → ps.length ≤ 9223372036854775807 → bdL ps → ∀ left : Int, 0 ≤ left → left ≤ 1048576 →
    Ev (fun k => laws_szTaskS.f k ps left) (leftOf (ps.length + szC ps) left) := by
  induction n with
  | zero => intro ps h; cases ps <;> simp at h
  | succ n ih =>
    intro ps hsz hlen hbd left h0 h1
    have one : ∀ p ∈ ps, ∀ lf : Int, 0 ≤ lf → lf ≤ 1048576 → Ev (fun k => laws_szTask.f k p.f0 p.f1 p.f2 lf) (leftOf (szT p) lf) := by
      intro p hp lf g0 g1
      have hb := bdL_mem hbd p hp
      rw [bdT_eq] at hb
      have hs := List.sizeOf_lt_of_mem hp
      have hs2 : SizeOf.sizeOf p.f2 < SizeOf.sizeOf p := by
        cases p with
        | mk a b c => simp only [S138.mk.sizeOf_spec]; omega
      refine Ev.step (fun k => by rw [laws_szTask.f]) ?_
      refine Ev.bind (ih p.f2 (by omega) hb.1 hb.2 lf g0 g1) ?_
      rw [szT_eq]
      by_cases hc : leftOf (p.f2.length + szC p.f2) lf < 0
      · simp only [if_pos hc]
        rw [leftOf_no ((leftOf_neg g0).1 hc)]
        exact Ev.now _
      · simp only [if_neg hc]
        exact Ev.now _
    have loop : ps.length ≤ 1048576 → ∀ (d i : Nat) (lf : Int), d = ps.length - i → i ≤ ps.length → 0 ≤ lf → lf ≤ 1048576 → Ev (fun k => laws_szTaskS.l0 k ps lf (i : Int)) (leftOf (szC (ps.drop i)) lf) := by
      intro hl20 d
      induction d with
      | zero =>
        intro i lf hd hi g0 g1
        have e : i = ps.length := by omega
        subst e
        refine Ev.step (fun k => by rw [laws_szTaskS.l0]) ?_
        simp only [if_neg (show ¬ ((ps.length : Int) < (ps.length : Int)) by omega), List.drop_length, szC]
        exact Ev.eq (Ev.now lf) (leftOf_zero g0).symm
      | succ d ihd =>
        intro i lf hd hi g0 g1
        have hlt : i < ps.length := by omega
        have hmem : ps[i] ∈ ps := List.getElem_mem hlt
        rw [drop_tk ps i hlt, szC]
        refine Ev.step (fun k => by rw [laws_szTaskS.l0]) ?_
        simp only [if_pos (show (i : Int) < (ps.length : Int) by omega), if_pos (show (0 : Int) ≤ (i : Int) by omega), rd_lk ps i hlt]
        refine Ev.bind (one _ hmem lf g0 g1) ?_
        by_cases hc : (szT ps[i] : Int) ≤ lf
        · rw [leftOf_yes hc]
          simp only [if_neg (show ¬ (lf - (szT ps[i] : Int) < 0) by omega), wrap_nat i (by omega)]
          exact Ev.eq (ihd (i + 1) (lf - szT ps[i]) (by omega) (by omega) (by omega) (by omega)) (leftOf_add hc)
        · rw [leftOf_no hc]
          simp only [if_pos (show (-1 : Int) < 0 by omega)]
          exact Ev.eq (Ev.now (-1)) (leftOf_no (by omega)).symm
    refine Ev.step (fun k => by rw [laws_szTaskS.f]) ?_
    simp only [wrap_id (left - (ps.length : Int)) (by omega) (by omega)]
    by_cases hc : left - (ps.length : Int) < 0
    · simp only [if_pos hc]
      exact Ev.eq (Ev.now (-1)) (leftOf_no (by omega)).symm
    · simp only [if_neg hc]
      refine Ev.eq (loop (by omega) ps.length 0 (left - ps.length) (by omega) (by omega) (by omega) (by omega)) ?_
      rw [List.drop_zero]
      exact leftOf_add (by omega)
theorem szL_ev (ps : List Lk) (hlen : ps.length ≤ 9223372036854775807) (hbd : bdL ps) (left : Int) (h0 : 0 ≤ left) (h1 : left ≤ 1048576) :
    Ev (fun k => laws_szTaskS.f k ps left) (leftOf (ps.length + szC ps) left) := szS_ev (SizeOf.sizeOf ps) ps (Nat.le_refl _) hlen hbd left h0 h1
theorem toS_ev (n : Nat) : ∀ ps : List Lk, SizeOf.sizeOf ps ≤ n → ps.length + szC ps ≤ 1048576 → Ev (fun k => laws_toTaskS.f k ps) (cvL ps) := by
  induction n with
  | zero => intro ps h; cases ps <;> simp at h
  | succ n ih =>
    intro ps hsz hb
    have one : ∀ p ∈ ps, Ev (fun k => laws_toTask.f k p.f0 p.f1 p.f2) (p.f0, p.f1, cvL p.f2) := by
      intro p hp
      have hs := List.sizeOf_lt_of_mem hp
      have hs2 : SizeOf.sizeOf p.f2 < SizeOf.sizeOf p := by
        cases p with
        | mk a b c => simp only [S138.mk.sizeOf_spec]; omega
      have h3 := szC_mem p hp
      rw [szT_eq] at h3
      refine Ev.step (fun k => by rw [laws_toTask.f]) ?_
      refine Ev.bind (ih p.f2 (by omega) (by omega)) ?_
      exact Ev.now _
    have loop : ∀ (d i : Nat), d = ps.length - i → i ≤ ps.length → Ev (fun k => laws_toTaskS.l0 k ps (cvL (ps.take i) ++ List.replicate (ps.length - i) z141) (i : Int)) (cvL ps) := by
      intro d
      induction d with
      | zero =>
        intro i hd hi
        have e : i = ps.length := by omega
        subst e
        refine Ev.step (fun k => by rw [laws_toTaskS.l0]) ?_
        simp only [if_neg (show ¬ ((ps.length : Int) < (ps.length : Int)) by omega), Nat.sub_self, List.replicate_zero, List.append_nil, List.take_length]
        exact Ev.now _
      | succ d ihd =>
        intro i hd hi
        have hlt : i < ps.length := by omega
        have hmem : ps[i] ∈ ps := List.getElem_mem hlt
        have hl : (cvL (ps.take i) ++ List.replicate (ps.length - i) z141).length = ps.length := by simp [cvL_length]; omega
        refine Ev.step (fun k => by rw [laws_toTaskS.l0]) ?_
        simp only [if_pos (show (i : Int) < (ps.length : Int) by omega), if_pos (show (0 : Int) ≤ (i : Int) by omega), rd_lk ps i hlt, hl]
        refine Ev.bind (one _ hmem) ?_
        simp only [wrap_nat i (by omega), Int.toNat_natCast]
        have e : (cvL (ps.take i) ++ List.replicate (ps.length - i) z141).set i ⟨ps[i].f0, ps[i].f1, cvL ps[i].f2⟩ = cvL (ps.take (i + 1)) ++ List.replicate (ps.length - (i + 1)) z141 := by
          rw [List.set_append_right _ _ (by rw [cvL_length, List.length_take]; omega), cvL_length, List.length_take, Nat.min_eq_left (by omega), Nat.sub_self]
          rw [show ps.length - i = (ps.length - (i + 1)) + 1 by omega, List.replicate_succ, List.set_cons_zero, ← cvT_eq, List.take_succ_eq_append_getElem hlt]
          rw [cvL_map, cvL_map, List.map_append, List.map_singleton, List.append_assoc, List.singleton_append]
        rw [e]
        exact ihd (i + 1) (by omega) (by omega)
    refine Ev.step (fun k => by rw [laws_toTaskS.f]) ?_
    simp only [if_pos (show (0 : Int) ≤ (ps.length : Int) by omega), Int.toNat_natCast, if_pos (show ps.length ≤ 7036874417766 by omega)]
    have h := loop ps.length 0 (by omega) (by omega)
    simp only [List.take_zero, cvL, List.nil_append, Nat.sub_zero, Int.natCast_zero, Int.ofNat_zero] at h
    exact h
theorem toL_ev (ps : List Lk) (hb : ps.length + szC ps ≤ 1048576) : Ev (fun k => laws_toTaskS.f k ps) (cvL ps) := toS_ev (SizeOf.sizeOf ps) ps (Nat.le_refl _) hb
theorem eqS_ev (n : Nat) : ∀ ps : List Tk, SizeOf.sizeOf ps ≤ n → nodL ps ≤ 4000000000 → Ev (fun k => laws_eqTaskS.f k ps ps) true := by
  induction n with
  | zero => intro ps h; cases ps <;> simp at h
  | succ n ih =>
    intro ps hsz hb
    have hln := nodL_len ps
    have one : ∀ p ∈ ps, Ev (fun k => laws_eqTask.f k p.f0 p.f1 p.f2 p.f0 p.f1 p.f2) true := by
      intro p hp
      have hs := List.sizeOf_lt_of_mem hp
      have hs2 : SizeOf.sizeOf p.f2 < SizeOf.sizeOf p := by
        cases p with
        | mk a b c => simp only [S141.mk.sizeOf_spec]; omega
      have h3 := nodL_mem p hp
      rw [nodT_eq] at h3
      refine Ev.step (fun k => by rw [laws_eqTask.f]) ?_
      simp only [if_true]
      refine Ev.bind (ih p.f2 (by omega) (by omega)) ?_
      simp only [if_true]
      exact Ev.now true
    have loop : ∀ (d i : Nat), d = ps.length - i → i ≤ ps.length → Ev (fun k => laws_eqTaskS.l0 k ps ps (i : Int)) true := by
      intro d
      induction d with
      | zero =>
        intro i hd hi
        have e : i = ps.length := by omega
        subst e
        refine Ev.step (fun k => by rw [laws_eqTaskS.l0]) ?_
        simp only [if_neg (show ¬ ((ps.length : Int) < (ps.length : Int)) by omega)]
        exact Ev.now true
      | succ d ihd =>
        intro i hd hi
        have hlt : i < ps.length := by omega
        have hmem : ps[i] ∈ ps := List.getElem_mem hlt
        refine Ev.step (fun k => by rw [laws_eqTaskS.l0]) ?_
        simp only [if_pos (show (i : Int) < (ps.length : Int) by omega), if_pos (show (0 : Int) ≤ (i : Int) by omega), rd_tk ps i hlt]
        refine Ev.bind (one _ hmem) ?_
        simp only [if_true, wrap_nat i (by omega)]
        exact ihd (i + 1) (by omega) (by omega)
    refine Ev.step (fun k => by rw [laws_eqTaskS.f]) ?_
    simp only [if_true]
    exact loop ps.length 0 (by omega) (by omega)
theorem eqL_ev (ps : List Tk) (hb : nodL ps ≤ 4000000000) : Ev (fun k => laws_eqTaskS.f k ps ps) true := eqS_ev (SizeOf.sizeOf ps) ps (Nat.le_refl _) hb
end Go.Proofs.Ythfemojaabejiaa.G
end
section
namespace Go.Proofs.Ythfemojaabejiaa.G
open Go.RowKit Go.Proofs.YthfemojaabejiaaW.PrintWords
set_option linter.unusedVariables false
set_option linter.unusedSimpArgs false
theorem szB_ev (l : List Bool) (hlen : l.length ≤ 9223372036854775807) (left : Int) (h0 : 0 ≤ left) (h1 : left ≤ 1048576) : laws_szBoolS.f l left = some (leftOf l.length left) := by
  unfold laws_szBoolS.f
  rw [wrap_id (left - (l.length : Int)) (by omega) (by omega)]
  by_cases hc : (l.length : Int) ≤ left
  · rw [if_neg (by omega), leftOf_yes hc]
  · rw [if_pos (by omega), leftOf_no hc]
def szSh (made : List Bool) (tasks : List Lk) : Nat := made.length + (tasks.length + szC tasks)
theorem szSheet_ev (made : List Bool) (tasks : List Lk) (hm : made.length ≤ 9223372036854775807) (hlen : tasks.length ≤ 9223372036854775807) (hbd : bdL tasks) (left : Int) (h0 : 0 ≤ left) (h1 : left ≤ 1048576) :
    Ev (fun k => laws_szSheet.f k made tasks left) (leftOf (szSh made tasks) left) := by
  unfold laws_szSheet.f
  simp only [szB_ev made hm left h0 h1, Option.bind_some]
  unfold szSh
  by_cases hc : (made.length : Int) ≤ left
  · rw [leftOf_yes hc]
    simp only [if_neg (show ¬ (left - (made.length : Int) < 0) by omega)]
    refine Ev.bind (szL_ev tasks hlen hbd (left - made.length) (by omega) (by omega)) ?_
    rw [leftOf_add hc]
    by_cases hn : leftOf (made.length + (tasks.length + szC tasks)) left < 0
    · simp only [if_pos hn]
      rw [leftOf_no ((leftOf_neg h0).1 hn)]
      exact Ev.now _
    · simp only [if_neg hn]
      exact Ev.now _
  · rw [leftOf_no hc]
    simp only [if_pos (show (-1 : Int) < 0 by omega)]
    exact Ev.eq (Ev.now (-1)) (leftOf_no (by omega)).symm
theorem toB_ev (l : List Bool) (hb : l.length ≤ 1048576) : Ev (fun k => laws_toBoolS.f k l) l := by
  have loop : ∀ (d i : Nat), d = l.length - i → i ≤ l.length → Ev (fun k => laws_toBoolS.l0 k l (l.take i ++ List.replicate (l.length - i) false) (i : Int)) l := by
    intro d
    induction d with
    | zero =>
      intro i hd hi
      have e : i = l.length := by omega
      subst e
      refine Ev.step (fun k => by rw [laws_toBoolS.l0]) ?_
      simp only [if_neg (show ¬ ((l.length : Int) < (l.length : Int)) by omega), Nat.sub_self, List.replicate_zero, List.append_nil, List.take_length]
      exact Ev.now _
    | succ d ihd =>
      intro i hd hi
      have hlt : i < l.length := by omega
      have hl : (l.take i ++ List.replicate (l.length - i) false).length = l.length := by simp; omega
      refine Ev.step (fun k => by rw [laws_toBoolS.l0]) ?_
      simp only [if_pos (show (i : Int) < (l.length : Int) by omega), if_pos (show (0 : Int) ≤ (i : Int) by omega), rd_bool l i hlt, hl]
      simp only [wrap_nat i (by omega), Int.toNat_natCast]
      have e : (l.take i ++ List.replicate (l.length - i) false).set i l[i] = l.take (i + 1) ++ List.replicate (l.length - (i + 1)) false := by
        rw [List.set_append_right _ _ (by rw [List.length_take]; omega), List.length_take, Nat.min_eq_left (by omega), Nat.sub_self]
        rw [show l.length - i = (l.length - (i + 1)) + 1 by omega, List.replicate_succ, List.set_cons_zero, List.take_succ_eq_append_getElem hlt, List.append_assoc, List.singleton_append]
      rw [e]
      exact ihd (i + 1) (by omega) (by omega)
  unfold laws_toBoolS.f
  simp only [if_pos (show (0 : Int) ≤ (l.length : Int) by omega), Int.toNat_natCast, if_pos (show l.length ≤ 281474976710656 by omega)]
  have h := loop l.length 0 (by omega) (by omega)
  simp only [List.take_zero, List.nil_append, Nat.sub_zero, Int.natCast_zero, Int.ofNat_zero] at h
  exact h
theorem toSheet_ev (made : List Bool) (tasks : List Lk) (hb : szSh made tasks ≤ 1048576) : Ev (fun k => laws_toSheet.f k made tasks) (made, cvL tasks) := by
  unfold szSh at hb
  unfold laws_toSheet.f
  refine Ev.bind (toB_ev made (by omega)) ?_
  refine Ev.bind (toL_ev tasks (by omega)) ?_
  exact Ev.now _
theorem eqB_ev (l : List Bool) (hb : l.length ≤ 4000000000) : Ev (fun k => laws_eqBoolS.f k l l) true := by
  have loop : ∀ (d i : Nat), d = l.length - i → i ≤ l.length → Ev (fun k => laws_eqBoolS.l0 k l l (i : Int)) true := by
    intro d
    induction d with
    | zero =>
      intro i hd hi
      have e : i = l.length := by omega
      subst e
      refine Ev.step (fun k => by rw [laws_eqBoolS.l0]) ?_
      simp only [if_neg (show ¬ ((l.length : Int) < (l.length : Int)) by omega)]
      exact Ev.now true
    | succ d ihd =>
      intro i hd hi
      have hlt : i < l.length := by omega
      refine Ev.step (fun k => by rw [laws_eqBoolS.l0]) ?_
      simp only [if_pos (show (i : Int) < (l.length : Int) by omega), if_pos (show (0 : Int) ≤ (i : Int) by omega), bne_self_eq_false, Bool.false_eq_true, if_false, wrap_nat i (by omega)]
      exact ihd (i + 1) (by omega) (by omega)
  unfold laws_eqBoolS.f
  simp only [if_true]
  exact loop l.length 0 (by omega) (by omega)
theorem eqSheet_ev (made : List Bool) (tasks : List Tk) (hm : made.length ≤ 4000000000) (hb : nodL tasks ≤ 4000000000) : Ev (fun k => laws_eqSheet.f k made tasks made tasks) true := by
  unfold laws_eqSheet.f
  refine Ev.bind (eqB_ev made hm) ?_
  simp only [if_true]
  refine Ev.bind (eqL_ev tasks hb) ?_
  simp only [if_true]
  exact Ev.now true
theorem nod_le_of_szSh {made : List Bool} {tasks : List Lk} (hb : szSh made tasks ≤ 1048576) : nodL (cvL tasks) ≤ 1048576 := by
  unfold szSh at hb
  rw [nodL_cv]
  omega
theorem nod_mem_of_szSh {made : List Bool} {tasks : List Lk} (hb : szSh made tasks ≤ 1048576) : ∀ t ∈ cvL tasks, (nodT t : Int) ≤ 4000000000 := by
  intro t ht
  have h1 := nod_le_of_szSh hb
  have h2 := nodL_mem t ht
  omega
end Go.Proofs.Ythfemojaabejiaa.G
end
section
namespace Go.Proofs.Ythfemojaabejiaa.G
open Go.RowKit Go.Proofs.YthfemojaabejiaaW.PrintWords
set_option linter.unusedVariables false
set_option linter.unusedSimpArgs false
def sumL {α : Type} (sz : α → Nat) : List α → Nat
  | [] => 0
  | x :: xs => sz x + sumL sz xs
theorem sumL_mem {α : Type} (sz : α → Nat) {l : List α} : ∀ x ∈ l, sz x ≤ sumL sz l := by
  induction l with
  | nil => intro x hx; cases hx
  | cons y ys ih =>
    intro x hx
    simp only [sumL]
    rcases List.mem_cons.1 hx with rfl | hx
    · omega
    · have := ih x hx; omega
theorem szLoop {α : Type} (l : List α) (F : Nat → Int → Int → Option Int) (one : Nat → α → Int → Option Int) (sz : α → Nat)
    (hend : ∀ k lf, F (k + 1) lf (l.length : Int) = some lf)
    (hstep : ∀ k lf (i : Nat) (h : i < l.length), F (k + 1) lf (i : Int) = (one k l[i] lf).bind fun t => if t < 0 then some (-1) else F k t ((i + 1 : Nat) : Int))
    (hone : ∀ x ∈ l, ∀ lf : Int, 0 ≤ lf → lf ≤ 1048576 → Ev (fun k => one k x lf) (leftOf (sz x) lf)) :
    ∀ (d i : Nat) (lf : Int), d = l.length - i → i ≤ l.length → 0 ≤ lf → lf ≤ 1048576 → Ev (fun k => F k lf (i : Int)) (leftOf (sumL sz (l.drop i)) lf) := by
  intro d
  induction d with
  | zero =>
    intro i lf hd hi g0 g1
    have e : i = l.length := by omega
    subst e
    refine Ev.step (fun k => hend k lf) ?_
    simp only [List.drop_length, sumL]
    exact Ev.eq (Ev.now lf) (leftOf_zero g0).symm
  | succ d ihd =>
    intro i lf hd hi g0 g1
    have hlt : i < l.length := by omega
    rw [drop_tk l i hlt, sumL]
    refine Ev.step (fun k => hstep k lf i hlt) ?_
    refine Ev.bind (hone _ (List.getElem_mem hlt) lf g0 g1) ?_
    by_cases hc : (sz l[i] : Int) ≤ lf
    · rw [leftOf_yes hc]
      simp only [if_neg (show ¬ (lf - (sz l[i] : Int) < 0) by omega)]
      exact Ev.eq (ihd (i + 1) (lf - sz l[i]) (by omega) (by omega) (by omega) (by omega)) (leftOf_add hc)
    · rw [leftOf_no hc]
      simp only [if_pos (show (-1 : Int) < 0 by omega)]
      exact Ev.eq (Ev.now (-1)) (leftOf_no (by omega)).symm
theorem toLoop {α β γ : Type} (l : List α) (F : Nat → List β → Int → Option (List β)) (one : Nat → α → Option γ) (mk : γ → β) (cv : α → β) (z : β)
    (hend : ∀ k out, F (k + 1) out (l.length : Int) = some out)
    (hstep : ∀ k out (i : Nat) (h : i < l.length), out.length = l.length → F (k + 1) out (i : Int) = (one k l[i]).bind fun t => F k (out.set i (mk t)) ((i + 1 : Nat) : Int))
    (hone : ∀ x ∈ l, ∃ c, Ev (fun k => one k x) c ∧ mk c = cv x) : Ev (fun k => F k (List.replicate l.length z) 0) (l.map cv) := by
  have loop : ∀ (d i : Nat), d = l.length - i → i ≤ l.length → Ev (fun k => F k ((l.take i).map cv ++ List.replicate (l.length - i) z) (i : Int)) (l.map cv) := by
    intro d
    induction d with
    | zero =>
      intro i hd hi
      have e : i = l.length := by omega
      subst e
      refine Ev.step (fun k => hend k _) ?_
      simp only [Nat.sub_self, List.replicate_zero, List.append_nil, List.take_length]
      exact Ev.now _
    | succ d ihd =>
      intro i hd hi
      have hlt : i < l.length := by omega
      have hl : ((l.take i).map cv ++ List.replicate (l.length - i) z).length = l.length := by simp; omega
      refine Ev.step (fun k => hstep k _ i hlt hl) ?_
      obtain ⟨c, hc, hm⟩ := hone _ (List.getElem_mem hlt)
      refine Ev.bind hc ?_
      rw [hm]
      have e : ((l.take i).map cv ++ List.replicate (l.length - i) z).set i (cv l[i]) = (l.take (i + 1)).map cv ++ List.replicate (l.length - (i + 1)) z := by
        rw [List.set_append_right _ _ (by rw [List.length_map, List.length_take]; omega), List.length_map, List.length_take, Nat.min_eq_left (by omega), Nat.sub_self]
        rw [show l.length - i = (l.length - (i + 1)) + 1 by omega, List.replicate_succ, List.set_cons_zero, List.take_succ_eq_append_getElem hlt]
        rw [List.map_append, List.map_singleton, List.append_assoc, List.singleton_append]
      rw [e]
      exact ihd (i + 1) (by omega) (by omega)
  have h := loop l.length 0 (by omega) (by omega)
  simp only [List.take_zero, List.map_nil, List.nil_append, Nat.sub_zero, Int.natCast_zero, Int.ofNat_zero] at h
  exact h
theorem allLoop {α : Type} (l : List α) (F : Nat → Int → Option Bool) (one : Nat → α → Option Bool) (p : α → Bool)
    (hend : ∀ k, F (k + 1) (l.length : Int) = some true)
    (hstep : ∀ k (i : Nat) (h : i < l.length), F (k + 1) (i : Int) = (one k l[i]).bind fun t => if t = true then F k ((i + 1 : Nat) : Int) else some false)
    (hone : ∀ x ∈ l, Ev (fun k => one k x) (p x)) : ∀ (d i : Nat), d = l.length - i → i ≤ l.length → Ev (fun k => F k (i : Int)) ((l.drop i).all p) := by
  intro d
  induction d with
  | zero =>
    intro i hd hi
    have e : i = l.length := by omega
    subst e
    refine Ev.step (fun k => hend k) ?_
    simp only [List.drop_length, List.all_nil]
    exact Ev.now true
  | succ d ihd =>
    intro i hd hi
    have hlt : i < l.length := by omega
    rw [drop_tk l i hlt, List.all_cons]
    refine Ev.step (fun k => hstep k i hlt) ?_
    refine Ev.bind (hone _ (List.getElem_mem hlt)) ?_
    cases hp : p l[i] with
    | true => simp only [if_true, Bool.true_and]; exact ihd (i + 1) (by omega) (by omega)
    | false => simp only [Bool.false_eq_true, if_false, Bool.false_and]; exact Ev.now false
theorem eqLoop {α : Type} (l : List α) (F : Nat → Int → Option Bool) (one : Nat → α → Option Bool)
    (hend : ∀ k, F (k + 1) (l.length : Int) = some true)
    (hstep : ∀ k (i : Nat) (h : i < l.length), F (k + 1) (i : Int) = (one k l[i]).bind fun t => if t = true then F k ((i + 1 : Nat) : Int) else some false)
    (hone : ∀ x ∈ l, Ev (fun k => one k x) true) : Ev (fun k => F k 0) true := by
  have h := allLoop l F one (fun _ => true) hend hstep hone l.length 0 (by omega) (by omega)
  simp only [List.drop_zero, List.all_eq_true, implies_true] at h
  exact Ev.eq h (by simp)
end Go.Proofs.Ythfemojaabejiaa.G
end
section
namespace Go.Proofs.Ythfemojaabejiaa.G
open Go.RowKit Go.Proofs.YthfemojaabejiaaW.PrintWords
set_option linter.unusedVariables false
set_option linter.unusedSimpArgs false
theorem rd_int (l : List Int) (i : Nat) (h : i < l.length) : rd l (i : Int) = l[i] := by
  simp only [rd, Int.toNat_natCast, List.getD_eq_getElem?_getD, List.getElem?_eq_getElem h, Option.getD_some]
theorem toIs_ev (l : List Int) (hl : l.length ≤ 1048576) : Ev (fun k => laws_toIntS.f k l) l := by
  unfold laws_toIntS.f
  simp only [if_pos (show (0 : Int) ≤ (l.length : Int) by omega), Int.toNat_natCast, if_pos (show l.length ≤ 35184372088832 by omega)]
  have h := toLoop l (fun k out i => laws_toIntS.l0 k l out i) (fun _ x => some x) (fun c => c) (fun c => c) (0 : Int)
    (fun k out => by simp only [laws_toIntS.l0, if_neg (show ¬ ((l.length : Int) < (l.length : Int)) by omega)])
    (fun k out i hi ho => by simp only [laws_toIntS.l0, ho, if_pos (show (i : Int) < (l.length : Int) by omega), if_pos (show (0 : Int) ≤ (i : Int) by omega), rd_int l i hi, wrap_nat i (by omega), Int.toNat_natCast, Option.bind_some])
    (fun x hx => ⟨x, Ev.of_eq rfl, rfl⟩)
  rw [List.map_id'] at h
  exact h
theorem eqIs_ev (l : List Int) (hl : l.length ≤ 4000000000) : Ev (fun k => laws_eqIntS.f k l l) true := by
  unfold laws_eqIntS.f
  simp only [if_true]
  exact eqLoop l (fun k i => laws_eqIntS.l0 k l l i) (fun _ x => some true)
    (fun k => by simp only [laws_eqIntS.l0, if_neg (show ¬ ((l.length : Int) < (l.length : Int)) by omega)])
    (fun k i hi => by simp only [laws_eqIntS.l0, if_pos (show (i : Int) < (l.length : Int) by omega), if_pos (show (0 : Int) ≤ (i : Int) by omega), rd_int l i hi, wrap_nat i (by omega), Option.bind_some, if_true])
    (fun x hx => Ev.of_eq rfl)
end Go.Proofs.Ythfemojaabejiaa.G
end
section
namespace Go.Proofs.Ythfemojaabejiaa.G
open Go.RowKit Go.Proofs.YthfemojaabejiaaW.PrintWords
set_option linter.unusedVariables false
set_option linter.unusedSimpArgs false
theorem rdOf_nn (l : List Bool) (x : Int) : rdOf false l x = l.getD x.toNat false := rfl
theorem l3May_loop (made : List Bool) (tasks : List Tk) (l : List Int) (hl : l.length ≤ 1000) (hp : ∀ x ∈ l, 0 ≤ x) :
    ∀ (d i : Nat) (acc : List Int), d = l.length - i → i ≤ l.length → acc.length ≤ i → Ev (fun k => spec_l3May.l0 k acc l (i : Int) made tasks) (acc ++ (l.drop i).filter fun j => made.getD j.toNat false) := by
  intro d
  induction d with
  | zero =>
    intro i acc hd hi ha
    have e : i = l.length := by omega
    subst e
    refine Ev.step (fun k => by rw [spec_l3May.l0]) ?_
    simp only [if_neg (show ¬ ((l.length : Int) < (l.length : Int)) by omega), List.drop_length, List.filter_nil, List.append_nil]
    exact Ev.now _
  | succ d ihd =>
    intro i acc hd hi ha
    have hlt : i < l.length := by omega
    have hx := hp _ (List.getElem_mem hlt)
    rw [List.drop_eq_getElem_cons hlt, List.filter_cons]
    refine Ev.step (fun k => by rw [spec_l3May.l0]) ?_
    simp only [if_pos (show (i : Int) < (l.length : Int) by omega), if_pos (show (0 : Int) ≤ (i : Int) by omega), rd_get l i hlt, if_pos hx, rdOf_nn, wrap_nat i (by omega)]
    by_cases hm : l[i] < (made.length : Int)
    · simp only [if_pos hm]
      cases hb : made.getD l[i].toNat false with
      | true =>
        simp only [if_true, if_pos (show acc.length < 17592186044416 by omega)]
        refine Ev.eq (ihd (i + 1) (acc ++ [l[i]]) (by omega) (by omega) (by rw [List.length_append, List.length_singleton]; omega)) ?_
        simp
      | false =>
        simp only [Bool.false_eq_true, if_false]
        exact ihd (i + 1) acc (by omega) (by omega) (by omega)
    · have hb : made.getD l[i].toNat false = false := by rw [List.getD_eq_getElem?_getD, List.getElem?_eq_none (by omega)]; rfl
      simp only [if_neg hm, hb, Bool.false_eq_true, if_false]
      exact ihd (i + 1) acc (by omega) (by omega) (by omega)
theorem l3May_ev (made : List Bool) (tasks : List Tk) (hb : ∀ t ∈ tasks, (nodT t : Int) ≤ 4000000000) (k : Nat) (hk : k < tasks.length) : Ev (fun r => spec_l3May.f r made tasks (k : Int)) (castL (mayN made tasks k)) := by
  unfold spec_l3May.f
  simp only [if_pos (show (0 : Int) ≤ (k : Int) by omega), if_pos (show (k : Int) < (tasks.length : Int) by omega), rd_tkD tasks k hk]
  refine Ev.bind (specMay_ev _ (hb _ (by rw [List.getD_eq_getElem?_getD, List.getElem?_eq_getElem hk, Option.getD_some]; exact List.getElem_mem hk))) ?_
  rw [mayN_cast]
  refine Ev.eq (l3May_loop made tasks (mayK (tasks.getD k ⟨0, 0, []⟩)) (Nat.le_trans (mayK_len _) (by omega)) (fun x hx => (mayK_rng _ x hx).1) (mayK (tasks.getD k ⟨0, 0, []⟩)).length 0 [] (by omega) (by omega) (by simp)) ?_
  rw [List.drop_zero, List.nil_append]
  rfl
theorem safe_l2 (made : List Bool) (tasks : List Tk) (D : List Bool) (ag : Int) (x : Nat) (l : List Nat) (hx : x < D.length) (hxm : x ≤ 1000) (hl : l.length ≤ 1000) (hr : ∀ j ∈ l, j < D.length) {R : Bool} :
    ∀ (d i : Nat) (fr : Bool), d = l.length - i → i ≤ l.length → Ev (fun k => spec_SheetSafe.l1 k (D.set x (fr && (l.drop i).all fun j => D.getD j false)) ag ((x + 1 : Nat) : Int) made tasks) R → Ev (fun k => spec_SheetSafe.l2 k D ag (x : Int) fr (castL l) (i : Int) made tasks) R := by
  intro d
  induction d with
  | zero =>
    intro i fr hd hi h
    have e : i = l.length := by omega
    subst e
    refine Ev.step (fun k => by rw [spec_SheetSafe.l2]) ?_
    simp only [castL_len, if_neg (show ¬ ((l.length : Int) < (l.length : Int)) by omega), if_pos (show (0 : Int) ≤ (x : Int) by omega), if_pos (show (x : Int) < (D.length : Int) by omega), Int.toNat_natCast, wrap_nat x (by omega)]
    simpa using h
  | succ d ihd =>
    intro i fr hd hi h
    have hlt : i < l.length := by omega
    have hj := hr _ (List.getElem_mem hlt)
    refine Ev.step (fun k => by rw [spec_SheetSafe.l2]) ?_
    simp only [castL_len, if_pos (show (i : Int) < (l.length : Int) by omega), if_pos (show (0 : Int) ≤ (i : Int) by omega), castL_rd l i hlt, if_pos (show (0 : Int) ≤ (l[i] : Int) by omega), if_pos (show (l[i] : Int) < (D.length : Int) by omega), rdOf_nn, Int.toNat_natCast, wrap_nat i (by omega)]
    rw [List.drop_eq_getElem_cons hlt, List.all_cons] at h
    cases fr with
    | true =>
      simp only [if_true]
      exact ihd (i + 1) _ (by omega) (by omega) (by simpa using h)
    | false =>
      simp only [Bool.false_eq_true, if_false]
      exact ihd (i + 1) false (by omega) (by omega) (by simpa using h)
theorem safe_l1 (made : List Bool) (tasks : List Tk) (he : made.length = tasks.length) (hl : made.length ≤ 10) (hb : ∀ t ∈ tasks, (nodT t : Int) ≤ 4000000000) (ag : Nat) (ha : ag ≤ 1000) {R : Bool} :
    ∀ (d x : Nat) (D : List Bool), d = made.length - x → x ≤ made.length → D.length = made.length → Ev (fun k => spec_SheetSafe.l0 k (((List.range made.length).drop x).foldl (Topo.mark (mayN made tasks)) D) ((ag + 1 : Nat) : Int) made tasks) R → Ev (fun k => spec_SheetSafe.l1 k D (ag : Int) (x : Int) made tasks) R := by
  intro d
  induction d with
  | zero =>
    intro x D hd hx hD h
    have e : x = made.length := by omega
    subst e
    refine Ev.step (fun k => by rw [spec_SheetSafe.l1]) ?_
    simp only [if_neg (show ¬ ((made.length : Int) < (made.length : Int)) by omega), wrap_nat ag (by omega)]
    rw [List.drop_of_length_le (by rw [List.length_range]; omega)] at h
    exact h
  | succ d ihd =>
    intro x D hd hx hD h
    have hlt : x < made.length := by omega
    refine Ev.step (fun k => by rw [spec_SheetSafe.l1]) ?_
    simp only [if_pos (show (x : Int) < (made.length : Int) by omega)]
    refine Ev.bind (l3May_ev made tasks hb x (by omega)) ?_
    refine safe_l2 made tasks D ag x (mayN made tasks x) (by omega) (by omega) (Nat.le_trans (mayN_len _ _ _) (by omega)) (fun j hj => by rw [hD]; exact (mayN_mem hj).1) (mayN made tasks x).length 0 true (by omega) (by omega) ?_
    refine ihd (x + 1) _ (by omega) (by omega) (by rw [List.length_set]; exact hD) ?_
    rw [List.drop_eq_getElem_cons (by rw [List.length_range]; exact hlt), List.foldl_cons] at h
    simp only [List.getElem_range] at h
    rw [List.drop_zero, Bool.true_and]
    exact h
theorem safe_l0 (made : List Bool) (tasks : List Tk) (he : made.length = tasks.length) (hl : made.length ≤ 10) (hb : ∀ t ∈ tasks, (nodT t : Int) ≤ 4000000000) {R : Bool} (h : Ev (fun k => spec_SheetSafe.l3 k (Topo.sweeps (mayN made tasks) made.length (made.length + 1)) 0) R) :
    ∀ (d a : Nat), d = made.length + 1 - a → a ≤ made.length + 1 → Ev (fun k => spec_SheetSafe.l0 k (Topo.sweeps (mayN made tasks) made.length a) (a : Int) made tasks) R := by
  intro d
  induction d with
  | zero =>
    intro a hd ha
    have e : a = made.length + 1 := by omega
    subst e
    refine Ev.step (fun k => by rw [spec_SheetSafe.l0]) ?_
    simp only [if_neg (show ¬ (((made.length + 1 : Nat) : Int) ≤ (made.length : Int)) by omega)]
    exact h
  | succ d ihd =>
    intro a hd ha
    refine Ev.step (fun k => by rw [spec_SheetSafe.l0]) ?_
    simp only [if_pos (show (a : Int) ≤ (made.length : Int) by omega)]
    refine safe_l1 made tasks he hl hb a (by omega) made.length 0 _ (by omega) (by omega) (Topo.sweeps_len _ _ _) ?_
    rw [List.drop_zero]
    exact ihd (a + 1) (by omega) (by omega)
theorem safe_l3 (D : List Bool) (hl : D.length ≤ 1000) : ∀ (d i : Nat), d = D.length - i → i ≤ D.length → Ev (fun k => spec_SheetSafe.l3 k D (i : Int)) ((D.drop i).all id) := by
  intro d
  induction d with
  | zero =>
    intro i hd hi
    have e : i = D.length := by omega
    subst e
    refine Ev.step (fun k => by rw [spec_SheetSafe.l3]) ?_
    simp only [if_neg (show ¬ ((D.length : Int) < (D.length : Int)) by omega), List.drop_length, List.all_nil]
    exact Ev.now true
  | succ d ihd =>
    intro i hd hi
    have hlt : i < D.length := by omega
    refine Ev.step (fun k => by rw [spec_SheetSafe.l3]) ?_
    simp only [if_pos (show (i : Int) < (D.length : Int) by omega), if_pos (show (0 : Int) ≤ (i : Int) by omega), rd_bool D i hlt, wrap_nat i (by omega)]
    rw [List.drop_eq_getElem_cons hlt, List.all_cons]
    cases hv : D[i] with
    | true =>
      simp only [if_true, id, Bool.true_and]
      exact ihd (i + 1) (by omega) (by omega)
    | false =>
      simp only [Bool.false_eq_true, if_false, id, Bool.false_and]
      exact Ev.now false
theorem safe_all {made : List Bool} {tasks : List Tk} (h : sheetOk made tasks = true) : safeB made tasks = (Topo.sweeps (mayN made tasks) made.length (made.length + 1)).all id := by
  unfold safeB
  rw [h, Bool.true_and, Bool.eq_iff_iff, Topo.safe_iff (n := made.length) (made := madeB made) (may := mayN made tasks) (fun k hk j hj => mayN_mem hj), List.all_eq_true]
  have hlen := Topo.sweeps_len (mayN made tasks) made.length (made.length + 1)
  constructor
  · intro h2 b hb
    obtain ⟨i, hi, rfl⟩ := List.mem_iff_getElem.1 hb
    have := h2 i (by omega)
    rw [List.getD_eq_getElem?_getD, List.getElem?_eq_getElem hi, Option.getD_some] at this
    exact this
  · intro h2 k hk
    rw [List.getD_eq_getElem?_getD, List.getElem?_eq_getElem (by omega), Option.getD_some]
    exact h2 _ (List.getElem_mem _)
theorem specSafe_ev (made : List Bool) (tasks : List Tk) (hb : ∀ t ∈ tasks, (nodT t : Int) ≤ 4000000000) : Ev (fun k => spec_SheetSafe.f k made tasks) (safeB made tasks) := by
  unfold spec_SheetSafe.f
  refine Ev.bind (specSheet_ev made tasks hb) ?_
  cases h : sheetOk made tasks with
  | false =>
    simp only [Bool.false_eq_true, if_false]
    exact Ev.eq (Ev.now false) (by rw [safeB, h]; rfl)
  | true =>
    have hlen := sheetOk_len h
    simp only [if_true, if_pos (show (0 : Int) ≤ (made.length : Int) by omega), Int.toNat_natCast, if_pos (show made.length ≤ 281474976710656 by omega)]
    rw [safe_all h]
    refine safe_l0 made tasks hlen.1 hlen.2 hb ?_ (made.length + 1) 0 (by omega) (by omega)
    have h3 := safe_l3 (Topo.sweeps (mayN made tasks) made.length (made.length + 1)) (by rw [Topo.sweeps_len]; omega) _ 0 rfl (by omega)
    rw [List.drop_zero] at h3
    exact h3
end Go.Proofs.Ythfemojaabejiaa.G
end
section
namespace Go.Proofs.Ythfemojaabejiaa.G
open Go.RowKit Go.Proofs.YthfemojaabejiaaW.PrintWords
set_option linter.unusedVariables false
set_option linter.unusedSimpArgs false
abbrev Or := S95
theorem rd_or (l : List Or) (i : Nat) (h : i < l.length) : rd_T95 l (i : Int) = l[i] := by
  simp only [rd_T95, Int.toNat_natCast, List.getD_eq_getElem?_getD, List.getElem?_eq_getElem h, Option.getD_some]
theorem rd_I (l : List Int) (i : Nat) (h : i < l.length) : rd l (i : Int) = l[i] := by
  simp only [rd, Int.toNat_natCast, List.getD_eq_getElem?_getD, List.getElem?_eq_getElem h, Option.getD_some]
def keyIn (n : Nat) (x : Int) : Bool := decide (0 ≤ x ∧ x ≤ (n : Int) - 1)
def fitsB (n : Nat) (o : Or) : Bool := (decide (o.f0.length = n) && o.f0.all isVal) && o.f1.all (keyIn n)
def rowB (made : List Bool) (tasks : List Tk) (row : List Or) : Bool := (safeB made tasks && decide (row.length ≤ 6)) && row.all (fitsB made.length)
theorem safe_sheet {made : List Bool} {tasks : List Tk} (h : safeB made tasks = true) : sheetOk made tasks = true := by
  unfold safeB at h
  rw [Bool.and_eq_true] at h
  exact h.1
theorem has_f (made : List Bool) (ts : List Tk) (x : Int) : impl_Sheet_has.f made ts x = some (keyIn made.length x) := by
  unfold impl_Sheet_has.f keyIn
  by_cases h : x ≥ 0
  · rw [if_pos h]
    congr 1
    rw [Bool.eq_iff_iff, decide_eq_true_eq, decide_eq_true_eq]
    omega
  · rw [if_neg h]
    congr 1
    rw [eq_comm, decide_eq_false_iff_not]
    omega
theorem all_f (made : List Bool) (ts : List Tk) (l : List Int) : impl_Sheet_all.f made ts l = some (l.all (keyIn made.length)) := by
  unfold impl_Sheet_all.f impl_Sheet_all_1_any.f
  rw [if_pos (fun x hx => by rw [has_f]; rfl), Option.bind_some]
  congr 1
  rw [List.all_eq_not_any_not]
  congr 1
  simp only [has_f, Option.getD_some]
theorem takes_f (made : List Bool) (ts : List Tk) (l : List Int) : impl_Sheet_takes.f made ts l = some (decide (l.length = made.length) && l.all isVal) := by
  unfold impl_Sheet_takes.f impl_areValues.f
  by_cases h : l.length = made.length
  · rw [if_pos (by omega), Option.bind_some, decide_eq_true h, Bool.true_and]
  · rw [if_neg (by omega), decide_eq_false h, Bool.false_and]
theorem fits_f (made : List Bool) (ts : List Tk) (o : Or) : impl_Sheet_fits.f made ts o.f0 o.f1 = some (fitsB made.length o) := by
  unfold impl_Sheet_fits.f fitsB
  rw [takes_f, Option.bind_some]
  cases h : (decide (o.f0.length = made.length) && o.f0.all isVal) with
  | true => rw [if_pos rfl, all_f, Option.bind_some, Bool.true_and]
  | false => rw [if_neg (by simp), Bool.false_and]
theorem l6In_now (a b c : Int) : spec_l6In.f a b c = some (decide (b ≤ a ∧ a ≤ c)) := by
  unfold spec_l6In.f
  by_cases h : a ≥ b
  · rw [if_pos h]; simp only [ge_iff_le] at h; simp [h]
  · rw [if_neg h]; simp only [ge_iff_le] at h; simp [h]
theorem specVals_ev (l : List Int) : Ev (fun k => spec_l2Values.f k l) (decide (l.length ≤ 10) && l.all isVal) := by
  unfold spec_l2Values.f
  by_cases h : l.length ≤ 10
  · simp only [if_neg (show ¬ ((l.length : Int) > 10) by omega)]
    have loop : ∀ (d i : Nat), d = l.length - i → i ≤ l.length → Ev (fun k => spec_l2Values.l0 k l (i : Int)) ((l.drop i).all isVal) := by
      intro d
      induction d with
      | zero =>
        intro i hd hi
        have e : i = l.length := by omega
        subst e
        refine Ev.step (fun k => by rw [spec_l2Values.l0]) ?_
        simp only [if_neg (show ¬ ((l.length : Int) < (l.length : Int)) by omega), List.drop_length, List.all_nil]
        exact Ev.now true
      | succ d ihd =>
        intro i hd hi
        have hlt : i < l.length := by omega
        refine Ev.step (fun k => by rw [spec_l2Values.l0]) ?_
        simp only [if_pos (show (i : Int) < (l.length : Int) by omega), if_pos (show (0 : Int) ≤ (i : Int) by omega), rd_I l i hlt, wrap_nat i (by omega), l6In_now, Option.bind_some]
        rw [List.drop_eq_getElem_cons hlt, List.all_cons]
        have e : isVal l[i] = decide (0 ≤ l[i] ∧ l[i] ≤ 96) := rfl
        rw [← e]
        cases isVal l[i] with
        | true => simp only [if_true, Bool.true_and]; exact ihd (i + 1) (by omega) (by omega)
        | false => simp only [Bool.false_eq_true, if_false, Bool.false_and]; exact Ev.now false
    have h1 := loop l.length 0 (by omega) (by omega)
    rw [decide_eq_true h, Bool.true_and]
    rw [List.drop_zero] at h1
    exact h1
  · simp only [if_pos (show (l.length : Int) > 10 by omega)]
    exact Ev.eq (Ev.now false) (by simp [h])
theorem specInputs_ev {made : List Bool} {ts : List Tk} (hb : ∀ t ∈ ts, (nodT t : Int) ≤ 4000000000) (l : List Int) : Ev (fun k => spec_l3Inputs.f k made ts l) (sheetOk made ts && (decide (l.length = made.length) && l.all isVal)) := by
  unfold spec_l3Inputs.f
  refine Ev.bind (specSheet_ev made ts hb) ?_
  cases h : sheetOk made ts with
  | false => simp only [Bool.false_eq_true, if_false, Bool.false_and]; exact Ev.now false
  | true =>
    have hlen := sheetOk_len h
    simp only [if_true, Bool.true_and]
    by_cases hl : l.length = made.length
    · simp only [if_pos (show (l.length : Int) = (made.length : Int) by omega)]
      refine Ev.bind (specVals_ev l) ?_
      refine Ev.eq (Ev.now _) ?_
      rw [decide_eq_true (show l.length ≤ 10 by omega), decide_eq_true hl]
    · simp only [if_neg (show ¬ ((l.length : Int) = (made.length : Int)) by omega)]
      exact Ev.eq (Ev.now false) (by simp [hl])
theorem specKeys_ev {made : List Bool} {ts : List Tk} (hok : sheetOk made ts = true) (hb : ∀ t ∈ ts, (nodT t : Int) ≤ 4000000000) (l : List Int) (hl : l.length ≤ 4000000000) : Ev (fun k => spec_l4Keys.f k made ts l) (l.all (keyIn made.length)) := by
  unfold spec_l4Keys.f
  have hlen := sheetOk_len hok
  have loop : ∀ (d i : Nat), d = l.length - i → i ≤ l.length → Ev (fun k => spec_l4Keys.l0 k l (i : Int) made ts) ((l.drop i).all (keyIn made.length)) := by
    intro d
    induction d with
    | zero =>
      intro i hd hi
      have e : i = l.length := by omega
      subst e
      refine Ev.step (fun k => by rw [spec_l4Keys.l0]) ?_
      simp only [if_neg (show ¬ ((l.length : Int) < (l.length : Int)) by omega), List.drop_length, List.all_nil]
      refine Ev.bind (specSheet_ev made ts hb) ?_
      exact Ev.eq (Ev.now _) hok
    | succ d ihd =>
      intro i hd hi
      have hlt : i < l.length := by omega
      refine Ev.step (fun k => by rw [spec_l4Keys.l0]) ?_
      simp only [if_pos (show (i : Int) < (l.length : Int) by omega), if_pos (show (0 : Int) ≤ (i : Int) by omega), rd_I l i hlt, wrap_nat i (by omega), l6In_now, Option.bind_some, wrap_id ((made.length : Int) - 1) (by omega) (by omega)]
      rw [List.drop_eq_getElem_cons hlt, List.all_cons]
      have e : keyIn made.length l[i] = decide (0 ≤ l[i] ∧ l[i] ≤ (made.length : Int) - 1) := rfl
      rw [← e]
      cases keyIn made.length l[i] with
      | true => simp only [if_true, Bool.true_and]; exact ihd (i + 1) (by omega) (by omega)
      | false => simp only [Bool.false_eq_true, if_false, Bool.false_and]; exact Ev.now false
  have h1 := loop l.length 0 (by omega) (by omega)
  rw [List.drop_zero] at h1
  exact h1
theorem specRow_loop {made : List Bool} {ts : List Tk} (hok : sheetOk made ts = true) (hb : ∀ t ∈ ts, (nodT t : Int) ≤ 4000000000) (row : List Or) (hl : row.length ≤ 6) (hk : ∀ o ∈ row, o.f1.length ≤ 4000000000) :
    ∀ (d i : Nat), d = row.length - i → i ≤ row.length → Ev (fun k => spec_RowOk.l0 k row (i : Int) made ts) ((row.drop i).all (fitsB made.length)) := by
  intro d
  induction d with
  | zero =>
    intro i hd hi
    have e : i = row.length := by omega
    subst e
    refine Ev.step (fun k => by rw [spec_RowOk.l0]) ?_
    simp only [if_neg (show ¬ ((row.length : Int) < (row.length : Int)) by omega), List.drop_length, List.all_nil]
    exact Ev.now true
  | succ d ihd =>
    intro i hd hi
    have hlt : i < row.length := by omega
    refine Ev.step (fun k => by rw [spec_RowOk.l0]) ?_
    simp only [if_pos (show (i : Int) < (row.length : Int) by omega), if_pos (show (0 : Int) ≤ (i : Int) by omega), rd_or row i hlt, wrap_nat i (by omega)]
    refine Ev.bind (specInputs_ev hb _) ?_
    rw [List.drop_eq_getElem_cons hlt, List.all_cons, hok, Bool.true_and]
    unfold fitsB
    cases h1 : (decide (row[i].f0.length = made.length) && row[i].f0.all isVal) with
    | false => simp only [Bool.false_eq_true, if_false, Bool.false_and]; exact Ev.now false
    | true =>
      simp only [if_true, Bool.true_and]
      refine Ev.bind (specKeys_ev hok hb _ (hk _ (List.getElem_mem hlt))) ?_
      cases h2 : row[i].f1.all (keyIn made.length) with
      | false => simp only [Bool.false_eq_true, if_false, Bool.false_and]; exact Ev.now false
      | true =>
        simp only [if_true, Bool.true_and]
        exact ihd (i + 1) (by omega) (by omega)
theorem specRow_ev {made : List Bool} {ts : List Tk} (hb : ∀ t ∈ ts, (nodT t : Int) ≤ 4000000000) (row : List Or) (hk : ∀ o ∈ row, o.f1.length ≤ 4000000000) : Ev (fun k => spec_RowOk.f k made ts row) (rowB made ts row) := by
  unfold spec_RowOk.f rowB
  by_cases hl : row.length ≤ 6
  · simp only [if_neg (show ¬ ((row.length : Int) > 6) by omega), decide_eq_true hl, Bool.and_true]
    refine Ev.bind (specSafe_ev made ts hb) ?_
    refine Ev.step (fun k => by rw [spec_RowOk.j0]) ?_
    cases h : safeB made ts with
    | false => simp only [Bool.not_false, if_true, Bool.false_and]; exact Ev.now false
    | true =>
      simp only [Bool.not_true, Bool.false_eq_true, if_false, Bool.true_and]
      have h1 := specRow_loop (safe_sheet h) hb row hl hk row.length 0 (by omega) (by omega)
      rw [List.drop_zero] at h1
      exact h1
  · simp only [if_pos (show (row.length : Int) > 6 by omega)]
    refine Ev.step (fun k => by rw [spec_RowOk.j0]) ?_
    simp only [if_true]
    exact Ev.eq (Ev.now false) (by simp [hl])
end Go.Proofs.Ythfemojaabejiaa.G
end
section
namespace Go.Proofs.Ythfemojaabejiaa.G
open Go.RowKit Go.Proofs.YthfemojaabejiaaW.PrintWords
set_option linter.unusedVariables false
set_option linter.unusedSimpArgs false
abbrev Lor := S94
def cvOr (o : Lor) : Or := ⟨o.f0, o.f1⟩
def szOr (o : Lor) : Nat := o.f0.length + o.f1.length
theorem szIs_ev (l : List Int) (hl : l.length ≤ 9223372036854775807) (left : Int) (h0 : 0 ≤ left) (h1 : left ≤ 1048576) : laws_szIntS.f l left = some (leftOf l.length left) := by
  unfold laws_szIntS.f
  simp only [wrap_id (left - (l.length : Int)) (by omega) (by omega)]
  by_cases hc : left - (l.length : Int) < 0
  · simp only [if_pos hc]; rw [leftOf_no (by omega)]
  · simp only [if_neg hc]; rw [leftOf_yes (by omega)]
theorem szOr_ev (o : Lor) (ha : o.f0.length ≤ 9223372036854775807) (hb : o.f1.length ≤ 9223372036854775807) (left : Int) (h0 : 0 ≤ left) (h1 : left ≤ 1048576) : laws_szOrder.f o.f0 o.f1 left = some (leftOf (szOr o) left) := by
  unfold laws_szOrder.f szOr
  rw [szIs_ev o.f0 ha left h0 h1, Option.bind_some]
  by_cases hc : (o.f0.length : Int) ≤ left
  · rw [leftOf_yes hc, if_neg (by omega), szIs_ev o.f1 hb _ (by omega) (by omega), Option.bind_some]
    by_cases hd : (o.f1.length : Int) ≤ left - (o.f0.length : Int)
    · rw [leftOf_yes hd, if_neg (by omega), leftOf_yes (by omega)]
      congr 1
      omega
    · rw [leftOf_no (by omega), if_pos (by omega), leftOf_no (by omega)]
  · rw [leftOf_no (by omega), if_pos (by omega), leftOf_no (by omega)]
theorem toOr_ev (o : Lor) (ha : o.f0.length ≤ 1048576) (hb : o.f1.length ≤ 1048576) : Ev (fun k => laws_toOrder.f k o.f0 o.f1) (o.f0, o.f1) := by
  unfold laws_toOrder.f
  exact Ev.bind (toIs_ev o.f0 ha) (Ev.bind (toIs_ev o.f1 hb) (Ev.now _))
theorem eqOr_ev (t : Or) (ha : t.f0.length ≤ 4000000000) (hb : t.f1.length ≤ 4000000000) : Ev (fun k => laws_eqOrder.f k t.f0 t.f1 t.f0 t.f1) true := by
  unfold laws_eqOrder.f
  refine Ev.bind (eqIs_ev t.f0 ha) ?_
  simp only [if_true]
  refine Ev.bind (eqIs_ev t.f1 hb) ?_
  simp only [if_true]
  exact Ev.now true
end Go.Proofs.Ythfemojaabejiaa.G
end
section
namespace Go.Proofs.Ythfemojaabejiaa.G
open Go.RowKit Go.Proofs.YthfemojaabejiaaW.PrintWords
set_option linter.unusedVariables false
set_option linter.unusedSimpArgs false
abbrev Sr := S105
theorem rd_sr (l : List Sr) (i : Nat) (h : i < l.length) : rd_T105 l (i : Int) = l[i] := by
  simp only [rd_T105, Int.toNat_natCast, List.getD_eq_getElem?_getD, List.getElem?_eq_getElem h, Option.getD_some]
def machB (x : Sr) : Bool := decide (0 ≤ x.f0 ∧ x.f0 ≤ 2)
def cloudB (made : List Bool) (tasks : List Tk) (row : List Sr) : Bool := row.all machB && rowB made tasks (row.map (·.f1))
theorem all_bad (n : Nat) (row : List Sr) : (!(row.any fun x => if x.f0 < 0 then true else if 3 ≤ x.f0 then true else !(fitsB n x.f1))) = (row.all machB && (row.map (·.f1)).all (fitsB n)) := by
  induction row with
  | nil => rfl
  | cons x xs ih =>
    rw [List.any_cons, List.all_cons, List.map_cons, List.all_cons, Bool.not_or, ih]
    unfold machB
    by_cases h1 : x.f0 < 0
    · rw [if_pos h1, decide_eq_false (show ¬ (0 ≤ x.f0 ∧ x.f0 ≤ 2) by omega)]
      simp
    · rw [if_neg h1]
      by_cases h2 : 3 ≤ x.f0
      · rw [if_pos h2, decide_eq_false (show ¬ (0 ≤ x.f0 ∧ x.f0 ≤ 2) by omega)]
        simp
      · rw [if_neg h2, decide_eq_true (show 0 ≤ x.f0 ∧ x.f0 ≤ 2 by omega), Bool.not_not, Bool.true_and]
        cases fitsB n x.f1 <;> simp
theorem implCloud_ev (made : List Bool) (ts : List Tk) (row : List Sr) : impl_CloudOk.f made ts row = some (cloudB made ts row) := by
  unfold impl_CloudOk.f cloudB rowB impl_SheetSafe.f
  rw [Option.bind_some]
  cases h : safeB made ts with
  | false => simp
  | true =>
    rw [if_pos rfl, List.length_map]
    by_cases hl : row.length ≤ 6
    · rw [if_pos (by omega)]
      unfold impl_CloudOk_1_any.f
      rw [if_pos (fun x hx => by rw [fits_f]; rfl), Option.bind_some, decide_eq_true hl, Bool.true_and, Bool.true_and]
      simp only [fits_f, Option.getD_some]
      rw [all_bad]
    · rw [if_neg (by omega), decide_eq_false hl, Bool.and_false, Bool.false_and, Bool.and_false]
theorem or_eta (o : Or) : (⟨o.f0, o.f1⟩ : Or) = o := by cases o; rfl
theorem specCloud_ev {made : List Bool} {ts : List Tk} (hb : ∀ t ∈ ts, (nodT t : Int) ≤ 4000000000) (row : List Sr) (hk : ∀ x ∈ row, x.f1.f1.length ≤ 4000000000) : Ev (fun k => spec_CloudOk.f k made ts row) (cloudB made ts row) := by
  unfold spec_CloudOk.f
  by_cases hl : row.length ≤ 6
  · simp only [if_neg (show ¬ ((row.length : Int) > 6) by omega)]
    have loop : ∀ (d i : Nat), d = row.length - i → i ≤ row.length → Ev (fun k => spec_CloudOk.l0 k row ((row.take i).map (·.f1)) (i : Int) made ts) ((row.drop i).all machB && rowB made ts (row.map (·.f1))) := by
      intro d
      induction d with
      | zero =>
        intro i hd hi
        have e : i = row.length := by omega
        subst e
        refine Ev.step (fun k => by rw [spec_CloudOk.l0]) ?_
        simp only [if_neg (show ¬ ((row.length : Int) < (row.length : Int)) by omega), List.drop_length, List.all_nil, Bool.true_and, List.take_length]
        refine Ev.bind (specRow_ev hb (row.map (·.f1)) (fun o ho => by obtain ⟨x, hx, rfl⟩ := List.mem_map.1 ho; exact hk x hx)) ?_
        exact Ev.now _
      | succ d ihd =>
        intro i hd hi
        have hlt : i < row.length := by omega
        refine Ev.step (fun k => by rw [spec_CloudOk.l0]) ?_
        simp only [if_pos (show (i : Int) < (row.length : Int) by omega), if_pos (show (0 : Int) ≤ (i : Int) by omega), rd_sr row i hlt, wrap_nat i (by omega), l6In_now, Option.bind_some]
        rw [List.drop_eq_getElem_cons hlt, List.all_cons]
        have e : machB row[i] = decide (0 ≤ row[i].f0 ∧ row[i].f0 ≤ 2) := rfl
        rw [← e]
        cases machB row[i] with
        | false => simp only [Bool.false_eq_true, if_false, Bool.false_and]; exact Ev.now false
        | true =>
          simp only [if_true, Bool.true_and, if_pos (show ((row.take i).map (·.f1)).length < 2932031007402 by rw [List.length_map, List.length_take]; omega), or_eta]
          have h1 := ihd (i + 1) (by omega) (by omega)
          rw [List.take_succ_eq_append_getElem hlt, List.map_append, List.map_singleton] at h1
          exact h1
    have h1 := loop row.length 0 (by omega) (by omega)
    rw [List.drop_zero] at h1
    simp only [List.take_zero, List.map_nil] at h1
    exact h1
  · simp only [if_pos (show (row.length : Int) > 6 by omega)]
    refine Ev.eq (Ev.now false) ?_
    unfold cloudB rowB
    rw [List.length_map, decide_eq_false hl]
    simp
end Go.Proofs.Ythfemojaabejiaa.G
end
section
namespace Go.Proofs.Ythfemojaabejiaa.G
open Go.RowKit Go.Proofs.YthfemojaabejiaaW.PrintWords
set_option linter.unusedVariables false
set_option linter.unusedSimpArgs false
abbrev Lsr := S102
theorem rd_lsr (l : List Lsr) (i : Nat) (h : i < l.length) : rd_T102 l (i : Int) = l[i] := by
  simp only [rd_T102, Int.toNat_natCast, List.getD_eq_getElem?_getD, List.getElem?_eq_getElem h, Option.getD_some]
def cvSr (o : Lsr) : Sr := ⟨o.f0, cvOr o.f1⟩
def szSr (o : Lsr) : Nat := szOr o.f1
def szSrs (l : List Lsr) : Nat := l.length + sumL szSr l
theorem szSr_ev (o : Lsr) (ha : o.f1.f0.length ≤ 9223372036854775807) (hb : o.f1.f1.length ≤ 9223372036854775807) (left : Int) (h0 : 0 ≤ left) (h1 : left ≤ 1048576) : laws_szShared.f o.f0 o.f1.f0 o.f1.f1 left = some (leftOf (szSr o) left) := by
  unfold laws_szShared.f szSr
  rw [szOr_ev o.f1 ha hb left h0 h1, Option.bind_some]
  by_cases hc : (szOr o.f1 : Int) ≤ left
  · rw [leftOf_yes hc, if_neg (by omega)]
  · rw [leftOf_no (by omega), if_pos (by omega)]
theorem szSrs_ev (l : List Lsr) (hl : l.length ≤ 9223372036854775807) (hb : ∀ o ∈ l, o.f1.f0.length ≤ 9223372036854775807 ∧ o.f1.f1.length ≤ 9223372036854775807) (left : Int) (h0 : 0 ≤ left) (h1 : left ≤ 1048576) :
    Ev (fun k => laws_szSharedS.f k l left) (leftOf (szSrs l) left) := by
  unfold laws_szSharedS.f
  simp only [wrap_id (left - (l.length : Int)) (by omega) (by omega)]
  by_cases hc : left - (l.length : Int) < 0
  · simp only [if_pos hc]
    exact Ev.eq (Ev.now (-1)) (leftOf_no (by unfold szSrs; omega)).symm
  · simp only [if_neg hc]
    have h := szLoop l (fun k lf i => laws_szSharedS.l0 k l lf i) (fun _ t lf => laws_szShared.f t.f0 t.f1.f0 t.f1.f1 lf) szSr
      (fun k lf => by simp only [laws_szSharedS.l0, if_neg (show ¬ ((l.length : Int) < (l.length : Int)) by omega)])
      (fun k lf i hi => by simp only [laws_szSharedS.l0, if_pos (show (i : Int) < (l.length : Int) by omega), if_pos (show (0 : Int) ≤ (i : Int) by omega), rd_lsr l i hi, wrap_nat i (by omega)])
      (fun t ht lf g0 g1 => Ev.of_eq (szSr_ev t (hb t ht).1 (hb t ht).2 lf g0 g1))
      l.length 0 (left - l.length) (by omega) (by omega) (by omega) (by omega)
    refine Ev.eq h ?_
    rw [List.drop_zero]
    exact leftOf_add (by omega)
theorem toSr_ev (o : Lsr) (ha : o.f1.f0.length ≤ 1048576) (hb : o.f1.f1.length ≤ 1048576) : Ev (fun k => laws_toShared.f k o.f0 o.f1.f0 o.f1.f1) (o.f0, o.f1.f0, o.f1.f1) := by
  unfold laws_toShared.f
  exact Ev.bind (toOr_ev o.f1 ha hb) (Ev.now _)
theorem toSrs_ev (l : List Lsr) (hl : szSrs l ≤ 1048576) : Ev (fun k => laws_toSharedS.f k l) (l.map cvSr) := by
  unfold szSrs at hl
  unfold laws_toSharedS.f
  simp only [if_pos (show (0 : Int) ≤ (l.length : Int) by omega), Int.toNat_natCast, if_pos (show l.length ≤ 5026338869833 by omega)]
  refine toLoop l (fun k out i => laws_toSharedS.l0 k l out i) (fun k t => laws_toShared.f k t.f0 t.f1.f0 t.f1.f1) (fun c => (⟨c.1, (⟨c.2.1, c.2.2⟩ : Or)⟩ : Sr)) cvSr z105
    (fun k out => by simp only [laws_toSharedS.l0, if_neg (show ¬ ((l.length : Int) < (l.length : Int)) by omega)])
    (fun k out i hi ho => by simp only [laws_toSharedS.l0, ho, if_pos (show (i : Int) < (l.length : Int) by omega), if_pos (show (0 : Int) ≤ (i : Int) by omega), rd_lsr l i hi, wrap_nat i (by omega), Int.toNat_natCast])
    (fun t ht => ⟨_, toSr_ev t (by have h_ := sumL_mem szSr t ht; have e_ : szSr t = t.f1.f0.length + t.f1.f1.length := rfl; omega) (by have h_ := sumL_mem szSr t ht; have e_ : szSr t = t.f1.f0.length + t.f1.f1.length := rfl; omega), rfl⟩)
theorem eqSr_ev (t : Sr) (ha : t.f1.f0.length ≤ 4000000000) (hb : t.f1.f1.length ≤ 4000000000) : Ev (fun k => laws_eqShared.f k t.f0 t.f1.f0 t.f1.f1 t.f0 t.f1.f0 t.f1.f1) true := by
  unfold laws_eqShared.f
  simp only [if_true]
  refine Ev.bind (eqOr_ev t.f1 ha hb) ?_
  simp only [if_true]
  exact Ev.now true
theorem eqSrs_ev (l : List Sr) (hl : l.length ≤ 4000000000) (hb : ∀ t ∈ l, t.f1.f0.length ≤ 4000000000 ∧ t.f1.f1.length ≤ 4000000000) : Ev (fun k => laws_eqSharedS.f k l l) true := by
  unfold laws_eqSharedS.f
  simp only [if_true]
  exact eqLoop l (fun k i => laws_eqSharedS.l0 k l l i) (fun k t => laws_eqShared.f k t.f0 t.f1.f0 t.f1.f1 t.f0 t.f1.f0 t.f1.f1)
    (fun k => by simp only [laws_eqSharedS.l0, if_neg (show ¬ ((l.length : Int) < (l.length : Int)) by omega)])
    (fun k i hi => by simp only [laws_eqSharedS.l0, if_pos (show (i : Int) < (l.length : Int) by omega), if_pos (show (0 : Int) ≤ (i : Int) by omega), rd_sr l i hi, wrap_nat i (by omega)])
    (fun t ht => eqSr_ev t (hb t ht).1 (hb t ht).2)
theorem cvSrs_len {l : List Lsr} (hl : szSrs l ≤ 1048576) : ∀ t ∈ l.map cvSr, t.f1.f0.length ≤ 1048576 ∧ t.f1.f1.length ≤ 1048576 := by
  intro t ht
  obtain ⟨u, hu, rfl⟩ := List.mem_map.1 ht
  have h_ := sumL_mem szSr u hu
  have e_ : szSr u = u.f1.f0.length + u.f1.f1.length := rfl
  unfold szSrs at hl
  simp only [cvSr, cvOr]
  omega
theorem pure_FnExactCloudOk (made : List Bool) (hm : made.length ≤ 9223372036854775807 ∧ ∀ x ∈ made, True) (tasks : List Lk) (hb : tasks.length ≤ 9223372036854775807 ∧ ∀ x ∈ tasks, bdT x) (row : List Lsr) (hr : row.length ≤ 9223372036854775807 ∧ ∀ x ∈ row, ex_t102 x) : ∃ k, laws_FnExactCloudOk.f k made tasks row = some true := by
  refine Ev.rounds ?_
  unfold laws_FnExactCloudOk.f
  refine Ev.bind (szSheet_ev made tasks hm.1 hb.1 (bdL_of hb.2) 1048576 (by omega) (by omega)) ?_
  by_cases hc : ((szSh made tasks : Nat) : Int) ≤ 1048576
  · rw [leftOf_yes hc]
    simp only [if_neg (show ¬ ((1048576 : Int) - (szSh made tasks : Int) < 0) by omega)]
    have hs : szSh made tasks ≤ 1048576 := by omega
    have hml : made.length ≤ 1048576 := by unfold szSh at hs; omega
    have hto := toSheet_ev made tasks hs
    have hnl : nodL (cvL tasks) ≤ 1048576 := nod_le_of_szSh hs
    refine Ev.bind (szSrs_ev row hr.1 (fun o ho => ⟨(hr.2 o ho).2.1.1, (hr.2 o ho).2.2.1⟩) _ (by omega) (by omega)) ?_
    by_cases hd : ((szSrs row : Nat) : Int) ≤ 1048576 - (szSh made tasks : Int)
    · rw [leftOf_yes hd]
      simp only [if_neg (show ¬ ((1048576 : Int) - (szSh made tasks : Int) - (szSrs row : Int) < 0) by omega)]
      have hso : szSrs row ≤ 1048576 := by omega
      have hol : row.length ≤ 1048576 := by unfold szSrs at hso; omega
      have htr := toSrs_ev row hso
      have hcl := cvSrs_len hso
      refine Ev.bind hto ?_
      refine Ev.bind htr ?_
      refine Ev.bind (specCloud_ev (nod_mem_of_szSh hs) (row.map cvSr) (fun o ho => by have := hcl o ho; omega)) ?_
      refine Ev.bind hto ?_
      refine Ev.bind htr ?_
      refine Ev.bind (Ev.of_eq (implCloud_ev made (cvL tasks) (row.map cvSr))) ?_
      simp only [bne_self_eq_false, Bool.false_eq_true, if_false]
      refine Ev.bind hto ?_
      refine Ev.bind (eqSheet_ev made (cvL tasks) (by omega) (by omega)) ?_
      simp only [if_true]
      refine Ev.bind htr ?_
      refine Ev.bind (eqSrs_ev (row.map cvSr) (by rw [List.length_map]; omega) (fun o ho => by have := hcl o ho; omega)) ?_
      simp only [if_true]
      exact Ev.now true
    · rw [leftOf_no hd]
      simp only [if_pos (show (-1 : Int) < 0 by omega)]
      exact Ev.now true
  · rw [leftOf_no hc]
    simp only [if_pos (show (-1 : Int) < 0 by omega)]
    exact Ev.now true
end Go.Proofs.Ythfemojaabejiaa.G
end
