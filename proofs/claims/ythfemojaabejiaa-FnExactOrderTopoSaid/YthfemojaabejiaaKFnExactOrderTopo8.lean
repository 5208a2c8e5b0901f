-- Written by pack.py (ours): the claim's texts, cut down to what its theorem reaches.
import Derived.ChangeArms
import Derived.DataReads
import Derived.Lib.SmallJoins
import Derived.Deep.Slices
import Derived.Deep.Strs
import Derived.Test.YthfemojaabejiaaKFnExactOrderTopo7
section
namespace Go.Proofs.YthfemojaabejiaaW.OpenData
open Go.RowKit Go.Proofs.YthfemojaabejiaaW.PrintWords
set_option linter.unusedVariables false
set_option linter.unusedSimpArgs false
def Opens (P : Program) (t : TypeId) {α : Type} (d : Kd α) (ex : α → Prop) (n : Nat) : Prop :=
  ∀ {H : Type} (enc : TypeId × Value → H) (w : World) (fuel : Nat) (cs : List Value) (x : DataW H × List MemPlace), fuel ≤ n →
    DataW.trod enc P w 0 (fun _ => true) true fuel t cs = some x → ∃ a, d.K w a cs ∧ ex a
theorem opens_int {P : Program} {t : TypeId} {k : IntKind} (ht : P.underlying t = some (.int k)) (n : Nat) : Opens P t (Kd.int k) (fun x => (Lit.int k x).wf = true) n := by
  intro H enc w fuel cs x _ h
  obtain ⟨m, rfl, _, hw⟩ := DataW.trod_int ht h
  exact ⟨m, rfl, hw⟩
theorem opens_bool {P : Program} {t : TypeId} (ht : P.underlying t = some .bool) (n : Nat) : Opens P t Kd.bool (fun _ => True) n := by
  intro H enc w fuel cs x _ h
  obtain ⟨m, rfl, _⟩ := DataW.trod_bool ht h
  exact ⟨m, rfl, trivial⟩
theorem list_of {α : Type} (p : Nat → α → Prop) (n : Nat) (h : ∀ i, i < n → ∃ x, p i x) : ∃ l : List α, l.length = n ∧ ∀ i x, l[i]? = some x → p i x := by
  induction n with
  | zero => exact ⟨[], rfl, fun i x h => by simp at h⟩
  | succ n ih =>
    obtain ⟨l, hl, hp⟩ := ih (fun i hi => h i (by omega))
    obtain ⟨y, hy⟩ := h n (by omega)
    refine ⟨l ++ [y], by simp [hl], fun i x hx => ?_⟩
    rcases Nat.lt_or_ge i l.length with hi | hi
    · rw [List.getElem?_append_left hi] at hx
      exact hp i x hx
    · have hi' : i = l.length := by
        have := (List.getElem?_eq_some_iff.1 hx).1
        simp at this
        omega
      subst hi'
      have : y = x := by simpa using hx
      subst this
      rw [hl]
      exact hy
theorem add_add_ (a : Addr) (i j : Nat) : (a.add i).add j = a.add (i + j) := Go.Deep.add_add a i j
theorem opens_slice {P : Program} {t e : TypeId} {α : Type} {d : Kd α} {ex : α → Prop} {n : Nat} (ht : P.underlying t = some (.slice e)) (hc : P.cellsOf e = d.sz) (h : Opens P e d ex n) :
    Opens P t (Kd.slice e d) (fun xs => xs.length ≤ maxLen ∧ ∀ x ∈ xs, ex x) (n + 1) := by
  intro H enc w fuel cs x hfu hr
  rcases DataW.trod_slice ht hr with ⟨rfl, _⟩ | ⟨a, len, cap, elems, rest, m, rfl, rfl, _, _, hl, hm, hlen, hel, _⟩
  · exact ⟨[], ⟨none, 0, rfl, Nat.le_refl _, rfl, by simp, fun h => absurd h (by simp)⟩, by simp, by simp⟩
  · have key : ∀ i, i < len → ∃ y : α, ex y ∧ ∃ c : List Value, c.length = d.sz ∧ d.K w y c ∧ ∀ j u, c[j]? = some u → w.cell? (a.add (i * d.sz + j)) = some u := by
      intro i hi
      have h1 := hel i hi
      rw [List.getElem?_eq_getElem (by omega)] at h1
      obtain ⟨cs', h2, h3⟩ := Option.bind_eq_some_iff.1 h1
      obtain ⟨y, hy, he⟩ := h enc w m cs' _ (by omega) h3
      obtain ⟨_, h4, h5⟩ := World.cells?_some h2
      refine ⟨y, he, cs', by rw [h4, hc], hy, fun j u hu => ?_⟩
      have hj : j < P.cellsOf e := by rw [← h4]; exact (List.getElem?_eq_some_iff.1 hu).1
      have h6 := h5 j hj
      rw [hu, add_add_, hc] at h6
      exact h6
    obtain ⟨xs, hxl, hxs⟩ := list_of (fun i y => ex y ∧ ∃ c : List Value, c.length = d.sz ∧ d.K w y c ∧ ∀ j u, c[j]? = some u → w.cell? (a.add (i * d.sz + j)) = some u) len key
    subst hxl
    refine ⟨xs, ⟨some a, cap, rfl, hl, rfl, ?_, fun _ => ⟨a, rfl, fun j p hj => (hxs j p hj).2⟩⟩, by omega, fun x hx => ?_⟩
    · have : maxLen = 9223372036854775807 := by decide
      omega
    · obtain ⟨i, hi, rfl⟩ := List.mem_iff_getElem.1 hx
      exact (hxs i _ (List.getElem?_eq_getElem hi)).1
theorem opens_imp {P : Program} {t : TypeId} {α : Type} {d : Kd α} {ex ex' : α → Prop} {n m : Nat} (h : Opens P t d ex n) (hm : m ≤ n) (hex : ∀ x, ex x → ex' x) : Opens P t d ex' m := by
  intro H enc w fuel cs x hfu hr
  obtain ⟨a, hK, he⟩ := h enc w fuel cs x (by omega) hr
  exact ⟨a, hK, hex a he⟩
theorem opens_struct3 {P : Program} {t : TypeId} {f0 f1 f2 : Field} {α β γ δ : Type} {d0 : Kd α} {d1 : Kd β} {d2 : Kd γ} {e0 : α → Prop} {e1 : β → Prop} {e2 : γ → Prop} {n : Nat} (g : δ → α × β × γ) (gi : α → β → γ → δ) (hg : ∀ a b c, g (gi a b c) = (a, b, c))
    (ht : P.underlying t = some (.struct #[f0, f1, f2])) (hs : P.cellsOf t = d0.sz + d1.sz + d2.sz) (o0 : f0.offset = 0) (o1 : f1.offset = d0.sz) (o2 : f2.offset = d0.sz + d1.sz) (c0 : P.cellsOf f0.type = d0.sz) (c1 : P.cellsOf f1.type = d1.sz) (c2 : P.cellsOf f2.type = d2.sz)
    (h0 : Opens P f0.type d0 e0 n) (h1 : Opens P f1.type d1 e1 n) (h2 : Opens P f2.type d2 e2 n) :
    Opens P t (Kd.iso (Kd.pair d0 (Kd.pair d1 d2)) g) (fun x => e0 (g x).1 ∧ e1 (g x).2.1 ∧ e2 (g x).2.2) (n + 1) := by
  intro H enc w fuel cs x hfu hr
  obtain ⟨xs, m, rfl, _, hl, hlen, hf⟩ := DataW.trod_struct ht hr
  match xs, hlen with
  | [y0, y1, y2], _ =>
    have r0 := hf 0 f0 rfl
    have r1 := hf 1 f1 rfl
    have r2 := hf 2 f2 rfl
    rw [o0, c0] at r0
    rw [o1, c1] at r1
    rw [o2, c2] at r2
    obtain ⟨a, hK0, he0⟩ := h0 enc w m _ _ (by omega) r0
    obtain ⟨b, hK1, he1⟩ := h1 enc w m _ _ (by omega) r1
    obtain ⟨c, hK2, he2⟩ := h2 enc w m _ _ (by omega) r2
    refine ⟨gi a b c, ?_, by simp only [hg]; exact ⟨he0, he1, he2⟩⟩
    show ∃ k0 k1, cs = k0 ++ k1 ∧ d0.K w (g (gi a b c)).1 k0 ∧ ∃ k2 k3, k1 = k2 ++ k3 ∧ d1.K w (g (gi a b c)).2.1 k2 ∧ d2.K w (g (gi a b c)).2.2 k3
    rw [hg]
    rw [List.drop_zero] at hK0
    refine ⟨cs.take d0.sz, cs.drop d0.sz, (List.take_append_drop _ _).symm, hK0, (cs.drop d0.sz).take d1.sz, (cs.drop d0.sz).drop d1.sz, (List.take_append_drop _ _).symm, hK1, ?_⟩
    rw [List.drop_drop]
    rw [List.take_of_length_le (by rw [List.length_drop]; omega)] at hK2
    exact hK2
theorem opens_fix {P : Program} {t : TypeId} {α : Type} {F : Kd α → Kd α} {sz : Nat} {E : List Nat} {hs : ∀ n, (Kd.upto F sz E n).sz = sz} {hE : ∀ n q, q ∈ (Kd.upto F sz E n).E → q ∈ E} {ex : α → Prop}
    (step : ∀ (d : Kd α) (n : Nat), d.sz = sz → Opens P t d ex n → Opens P t (F d) ex (n + 1)) (n : Nat) : Opens P t (Kd.fix F sz E hs hE) ex n := by
  have key : ∀ n, Opens P t (Kd.upto F sz E (n + 1)) ex n := by
    intro n
    induction n with
    | zero =>
      intro H enc w fuel cs x hfu hr
      obtain rfl : fuel = 0 := by omega
      simp [DataW.trod] at hr
    | succ n ih => exact step _ n (hs _) ih
  intro H enc w fuel cs x hfu hr
  obtain ⟨a, hK, he⟩ := key n enc w fuel cs x hfu hr
  exact ⟨a, ⟨_, hK⟩, he⟩
theorem open_row {P : Program} {t e : TypeId} {α : Type} {d : Kd α} {ex : List α → Prop} (h : ∀ n, Opens P t (Kd.slice e d) ex n) {H : Type} {enc : TypeId × Value → H} {w : World} {v : Value} {x : DataW H} {p : List MemPlace} {r : Reach} {b0 : Nat} (ht : P.underlying t = some (.slice e)) (hv : Value.okWide P w r b0 t v)
    (hr : DataW.Trod enc P w 0 (fun _ => true) true t v x p) : ∃ A c xs, v = .slice A xs.length c ∧ xs.length ≤ c ∧ d.C w A xs.length xs ∧ ex xs := by
  obtain ⟨a0, l0, c0, rfl⟩ := Go.WideShapes.okWide_slice ht hv
  obtain ⟨fuel, hf⟩ := hr
  obtain ⟨xs, ⟨A, c, e1, hl, hC⟩, he⟩ := h fuel enc w fuel _ _ (Nat.le_refl _) hf
  simp only [Value.cells, List.cons.injEq, and_true] at e1
  exact ⟨A, c, xs, e1, hl, hC, he⟩
end Go.Proofs.YthfemojaabejiaaW.OpenData
end
section
namespace Go.Proofs.Ythfemojaabejiaa.G
open Go.RowKit Go.Proofs.YthfemojaabejiaaW.PrintWords Go.Proofs.YthfemojaabejiaaW.OpenData
set_option linter.unusedVariables false
mutual
def ex_t138 : S138 → Prop
  | ⟨_, _, ps⟩ => ps.length ≤ 9223372036854775807 ∧ ex_c138 ps
def ex_c138 : List S138 → Prop
  | [] => True
  | p :: ps => ex_t138 p ∧ ex_c138 ps
end
theorem ex_c138_of {ps : List S138} (h : ∀ p ∈ ps, ex_t138 p) : ex_c138 ps := by
  induction ps with
  | nil => simp [ex_c138]
  | cons q ps ih => simp only [ex_c138]; exact ⟨h q (by simp), ih (fun p hp => h p (by simp [hp]))⟩
theorem opens_t138 : ∀ n, Opens Try.prog 138 k138 ex_t138 n := fun n => opens_fix (fun d n hs h => opens_imp (opens_struct3 (fun x : S138 => (x.f0, x.f1, x.f2)) S138.mk (fun _ _ _ => rfl) Try.underlying138 (by kernel_rfl) rfl rfl rfl (by kernel_rfl) (by kernel_rfl) (by kernel_rfl) (opens_int Try.underlying3 (n + 1)) (opens_int Try.underlying3 (n + 1)) (opens_slice Try.underlying23 (by rw [hs]; kernel_rfl) h)) (by omega) (fun x hx => by
  cases x
  simp only [ex_t138]
  exact ⟨hx.2.2.1, ex_c138_of hx.2.2.2⟩)) n
def ex_sl138 (xs : List (S138)) : Prop := xs.length ≤ 9223372036854775807 ∧ ∀ x ∈ xs, (ex_t138) x
theorem opens_sl138 : ∀ n, Opens Try.prog 23 (Kd.slice 138 k138) ex_sl138 n := fun n => opens_imp (opens_slice Try.underlying23 (by kernel_rfl) ((opens_t138) n)) (Nat.le_succ n) (fun _ h => h)
def ex_sl3 (xs : List (Int)) : Prop := xs.length ≤ 9223372036854775807 ∧ ∀ x ∈ xs, (fun x : Int => (Lit.int .i64 x).wf = true) x
theorem opens_sl3 : ∀ n, Opens Try.prog 34 (Kd.slice 3 (Kd.int .i64)) ex_sl3 n := fun n => opens_imp (opens_slice Try.underlying34 (by kernel_rfl) ((fun n => opens_int Try.underlying3 n) n)) (Nat.le_succ n) (fun _ h => h)
def ex_sl4 (xs : List (Bool)) : Prop := xs.length ≤ 9223372036854775807 ∧ ∀ x ∈ xs, (fun _ : Bool => True) x
theorem opens_sl4 : ∀ n, Opens Try.prog 22 (Kd.slice 4 Kd.bool) ex_sl4 n := fun n => opens_imp (opens_slice Try.underlying22 (by kernel_rfl) ((fun n => opens_bool Try.underlying4 n) n)) (Nat.le_succ n) (fun _ h => h)
end Go.Proofs.Ythfemojaabejiaa.G
end
section
namespace Go.Proofs.Ythfemojaabejiaa.G
open Go.RowKit Go.Proofs.YthfemojaabejiaaW.PrintWords
set_option linter.unusedVariables false
set_option linter.unusedSimpArgs false
abbrev Lk := S138
theorem lk_size (t p : Lk) (hp : p ∈ t.f2) : SizeOf.sizeOf p < SizeOf.sizeOf t := by
  have h := List.sizeOf_lt_of_mem hp
  cases t with
  | mk a b c => simp only [S138.mk.sizeOf_spec] at *; omega
theorem lk_ind {P : Lk → Prop} (h : ∀ t : Lk, (∀ p ∈ t.f2, P p) → P t) : ∀ t, P t := by
  intro t
  induction hn : SizeOf.sizeOf t using Nat.strongRecOn generalizing t with
  | _ n ih => exact h t (fun p hp => ih (SizeOf.sizeOf p) (by rw [← hn]; exact lk_size t p hp) p rfl)
theorem rd_lk (ps : List Lk) (i : Nat) (h : i < ps.length) : rd_T138 ps (i : Int) = ps[i] := by
  simp only [rd_T138, Int.toNat_natCast, List.getD_eq_getElem?_getD, List.getElem?_eq_getElem h, Option.getD_some]
abbrev bdT := ex_t138
abbrev bdL := ex_c138
mutual
def szT : Lk → Nat
  | ⟨_, _, ps⟩ => ps.length + szC ps
def szC : List Lk → Nat
  | [] => 0
  | p :: ps => szT p + szC ps
end
mutual
def cvT : Lk → Tk
  | ⟨k, n, ps⟩ => ⟨k, n, cvL ps⟩
def cvL : List Lk → List Tk
  | [] => []
  | p :: ps => cvT p :: cvL ps
end
theorem bdT_eq (t : Lk) : bdT t = (t.f2.length ≤ 9223372036854775807 ∧ bdL t.f2) := by cases t; simp [bdT, bdL, ex_t138]
theorem szT_eq (t : Lk) : szT t = t.f2.length + szC t.f2 := by cases t; simp [szT]
theorem cvT_eq (t : Lk) : cvT t = ⟨t.f0, t.f1, cvL t.f2⟩ := by cases t; simp [cvT]
theorem cvL_map (ps : List Lk) : cvL ps = ps.map cvT := by
  induction ps with
  | nil => simp [cvL]
  | cons p ps ih => simp [cvL, ih]
theorem cvL_length (ps : List Lk) : (cvL ps).length = ps.length := by rw [cvL_map, List.length_map]
theorem bdL_mem {ps : List Lk} (h : bdL ps) : ∀ p ∈ ps, bdT p := by
  induction ps with
  | nil => intro p hp; cases hp
  | cons q ps ih =>
    simp only [bdL, ex_c138] at h
    intro p hp
    rcases List.mem_cons.1 hp with rfl | hp
    · exact h.1
    · exact ih h.2 p hp
theorem bdL_of {ps : List Lk} (h : ∀ p ∈ ps, bdT p) : bdL ps := ex_c138_of h
theorem szC_mem {ps : List Lk} : ∀ p ∈ ps, szT p ≤ szC ps := by
  induction ps with
  | nil => intro p hp; cases hp
  | cons q ps ih =>
    intro p hp
    simp only [szC]
    rcases List.mem_cons.1 hp with rfl | hp
    · omega
    · have := ih p hp; omega
theorem nod_cv : ∀ t : Lk, nodT (cvT t) = 1 + szT t := by
  refine lk_ind fun t ih => ?_
  rw [cvT_eq, nodT_eq, szT_eq]
  congr 1
  show nodL (cvL t.f2) = t.f2.length + szC t.f2
  generalize t.f2 = ps at ih
  induction ps with
  | nil => simp [cvL, nodL, szC]
  | cons p ps ihp =>
    simp only [cvL, nodL, szC, List.length_cons]
    rw [ih p (by simp), ihp (fun q hq => ih q (by simp [hq]))]
    omega
theorem nodL_cv (ps : List Lk) : nodL (cvL ps) = ps.length + szC ps := by
  have h := nod_cv ⟨0, 0, ps⟩
  rw [cvT_eq, nodT_eq, szT_eq] at h
  simp only at h
  omega
def leftOf (n : Nat) (left : Int) : Int := if (n : Int) ≤ left then left - n else -1
theorem leftOf_yes {n : Nat} {left : Int} (h : (n : Int) ≤ left) : leftOf n left = left - n := if_pos h
theorem leftOf_no {n : Nat} {left : Int} (h : ¬ (n : Int) ≤ left) : leftOf n left = -1 := if_neg h
theorem leftOf_add {a b : Nat} {left : Int} (h : (a : Int) ≤ left) : leftOf b (left - a) = leftOf (a + b) left := by
  unfold leftOf
  split <;> split <;> omega
theorem leftOf_zero {left : Int} (h : 0 ≤ left) : leftOf 0 left = left := by unfold leftOf; split <;> omega
theorem leftOf_neg {n : Nat} {left : Int} (h0 : 0 ≤ left) : leftOf n left < 0 ↔ ¬ (n : Int) ≤ left := by unfold leftOf; split <;> omega
theorem szS_ev (n : Nat) : ∀ ps : List Lk, SizeOf.sizeOf ps ≤ n → ps.length ≤ 9223372036854775807 → bdL ps → ∀ left : Int, 0 ≤ left → left ≤ 1048576 →
    Ev (fun k => laws_szTaskS.f k ps left) (leftOf (ps.length + szC ps) left) := by
  induction n with
  | zero => intro ps h; cases ps <;> simp at h
  | succ n ih =>
    intro ps hsz hlen hbd left h0 h1
    have one : ∀ p ∈ ps, ∀ lf : Int, 0 ≤ lf → lf ≤ 1048576 → Ev (fun k => laws_szTask.f k p.f0 p.f1 p.f2 lf) (leftOf (szT p) lf) := by
      intro p hp lf g0 g1
      have hb := bdL_mem hbd p hp
      rw [bdT_eq] at hb
      have hs := List.sizeOf_lt_of_mem hp
      have hs2 : SizeOf.sizeOf p.f2 < SizeOf.sizeOf p := by
        cases p with
        | mk a b c => simp only [S138.mk.sizeOf_spec]; omega
      refine Ev.step (fun k => by rw [laws_szTask.f]) ?_
      refine Ev.bind (ih p.f2 (by omega) hb.1 hb.2 lf g0 g1) ?_
      rw [szT_eq]
      by_cases hc : leftOf (p.f2.length + szC p.f2) lf < 0
      · simp only [if_pos hc]
        rw [leftOf_no ((leftOf_neg g0).1 hc)]
        exact Ev.now _
      · simp only [if_neg hc]
        exact Ev.now _
    have loop : ps.length ≤ 1048576 → ∀ (d i : Nat) (lf : Int), d = ps.length - i → i ≤ ps.length → 0 ≤ lf → lf ≤ 1048576 → Ev (fun k => laws_szTaskS.l0 k ps lf (i : Int)) (leftOf (szC (ps.drop i)) lf) := by
      intro hl20 d
      induction d with
      | zero =>
        intro i lf hd hi g0 g1
        have e : i = ps.length := by omega
        subst e
        refine Ev.step (fun k => by rw [laws_szTaskS.l0]) ?_
        simp only [if_neg (show ¬ ((ps.length : Int) < (ps.length : Int)) by omega), List.drop_length, szC]
        exact Ev.eq (Ev.now lf) (leftOf_zero g0).symm
      | succ d ihd =>
        intro i lf hd hi g0 g1
        have hlt : i < ps.length := by omega
        have hmem : ps[i] ∈ ps := List.getElem_mem hlt
        rw [drop_tk ps i hlt, szC]
        refine Ev.step (fun k => by rw [laws_szTaskS.l0]) ?_
        simp only [if_pos (show (i : Int) < (ps.length : Int) by omega), if_pos (show (0 : Int) ≤ (i : Int) by omega), rd_lk ps i hlt]
        refine Ev.bind (one _ hmem lf g0 g1) ?_
        by_cases hc : (szT ps[i] : Int) ≤ lf
        · rw [leftOf_yes hc]
          simp only [if_neg (show ¬ (lf - (szT ps[i] : Int) < 0) by omega), wrap_nat i (by omega)]
          exact Ev.eq (ihd (i + 1) (lf - szT ps[i]) (by omega) (by omega) (by omega) (by omega)) (leftOf_add hc)
        · rw [leftOf_no hc]
          simp only [if_pos (show (-1 : Int) < 0 by omega)]
          exact Ev.eq (Ev.now (-1)) (leftOf_no (by omega)).symm
    refine Ev.step (fun k => by rw [laws_szTaskS.f]) ?_
    simp only [wrap_id (left - (ps.length : Int)) (by omega) (by omega)]
    by_cases hc : left - (ps.length : Int) < 0
    · simp only [if_pos hc]
      exact Ev.eq (Ev.now (-1)) (leftOf_no (by omega)).symm
    · simp only [if_neg hc]
      refine Ev.eq (loop (by omega) ps.length 0 (left - ps.length) (by omega) (by omega) (by omega) (by omega)) ?_
      rw [List.drop_zero]
      exact leftOf_add (by omega)
theorem szL_ev (ps : List Lk) (hlen : ps.length ≤ 9223372036854775807) (hbd : bdL ps) (left : Int) (h0 : 0 ≤ left) (h1 : left ≤ 1048576) :
    Ev (fun k => laws_szTaskS.f k ps left) (leftOf (ps.length + szC ps) left) := szS_ev (SizeOf.sizeOf ps) ps (Nat.le_refl _) hlen hbd left h0 h1
theorem toS_ev (n : Nat) : ∀ ps : List Lk, SizeOf.sizeOf ps ≤ n → ps.length + szC ps ≤ 1048576 → Ev (fun k => laws_toTaskS.f k ps) (cvL ps) := by
  induction n with
  | zero => intro ps h; cases ps <;> simp at h
  | succ n ih =>
    intro ps hsz hb
    have one : ∀ p ∈ ps, Ev (fun k => laws_toTask.f k p.f0 p.f1 p.f2) (p.f0, p.f1, cvL p.f2) := by
      intro p hp
      have hs := List.sizeOf_lt_of_mem hp
      have hs2 : SizeOf.sizeOf p.f2 < SizeOf.sizeOf p := by
        cases p with
        | mk a b c => simp only [S138.mk.sizeOf_spec]; omega
      have h3 := szC_mem p hp
      rw [szT_eq] at h3
      refine Ev.step (fun k => by rw [laws_toTask.f]) ?_
      refine Ev.bind (ih p.f2 (by omega) (by omega)) ?_
      exact Ev.now _
    have loop : ∀ (d i : Nat), d = ps.length - i → i ≤ ps.length → Ev (fun k => laws_toTaskS.l0 k ps (cvL (ps.take i) ++ List.replicate (ps.length - i) z141) (i : Int)) (cvL ps) := by
      intro d
      induction d with
      | zero =>
        intro i hd hi
        have e : i = ps.length := by omega
        subst e
        refine Ev.step (fun k => by rw [laws_toTaskS.l0]) ?_
        simp only [if_neg (show ¬ ((ps.length : Int) < (ps.length : Int)) by omega), Nat.sub_self, List.replicate_zero, List.append_nil, List.take_length]
        exact Ev.now _
      | succ d ihd =>
        intro i hd hi
        have hlt : i < ps.length := by omega
        have hmem : ps[i] ∈ ps := List.getElem_mem hlt
        have hl : (cvL (ps.take i) ++ List.replicate (ps.length - i) z141).length = ps.length := by simp [cvL_length]; omega
        refine Ev.step (fun k => by rw [laws_toTaskS.l0]) ?_
        simp only [if_pos (show (i : Int) < (ps.length : Int) by omega), if_pos (show (0 : Int) ≤ (i : Int) by omega), rd_lk ps i hlt, hl]
        refine Ev.bind (one _ hmem) ?_
        simp only [wrap_nat i (by omega), Int.toNat_natCast]
        have e : (cvL (ps.take i) ++ List.replicate (ps.length - i) z141).set i ⟨ps[i].f0, ps[i].f1, cvL ps[i].f2⟩ = cvL (ps.take (i + 1)) ++ List.replicate (ps.length - (i + 1)) z141 := by
          rw [List.set_append_right _ _ (by rw [cvL_length, List.length_take]; omega), cvL_length, List.length_take, Nat.min_eq_left (by omega), Nat.sub_self]
          rw [show ps.length - i = (ps.length - (i + 1)) + 1 by omega, List.replicate_succ, List.set_cons_zero, ← cvT_eq, List.take_succ_eq_append_getElem hlt]
          rw [cvL_map, cvL_map, List.map_append, List.map_singleton, List.append_assoc, List.singleton_append]
        rw [e]
        exact ihd (i + 1) (by omega) (by omega)
    refine Ev.step (fun k => by rw [laws_toTaskS.f]) ?_
    simp only [if_pos (show (0 : Int) ≤ (ps.length : Int) by omega), Int.toNat_natCast, if_pos (show ps.length ≤ 7036874417766 by omega)]
    have h := loop ps.length 0 (by omega) (by omega)
    simp only [List.take_zero, cvL, List.nil_append, Nat.sub_zero, Int.natCast_zero, Int.ofNat_zero] at h
    exact h
theorem toL_ev (ps : List Lk) (hb : ps.length + szC ps ≤ 1048576) : Ev (fun k => laws_toTaskS.f k ps) (cvL ps) := toS_ev (SizeOf.sizeOf ps) ps (Nat.le_refl _) hb
theorem eqS_ev (n : Nat) : ∀ ps : List Tk, SizeOf.sizeOf ps ≤ n → nodL ps ≤ 4000000000 → Ev (fun k => laws_eqTaskS.f k ps ps) true := by
  induction n with
  | zero => intro ps h; cases ps <;> simp at h
  | succ n ih =>
    intro ps hsz hb
    have hln := nodL_len ps
    have one : ∀ p ∈ ps, Ev (fun k => laws_eqTask.f k p.f0 p.f1 p.f2 p.f0 p.f1 p.f2) true := by
      intro p hp
      have hs := List.sizeOf_lt_of_mem hp
      have hs2 : SizeOf.sizeOf p.f2 < SizeOf.sizeOf p := by
        cases p with
        | mk a b c => simp only [S141.mk.sizeOf_spec]; omega
      have h3 := nodL_mem p hp
      rw [nodT_eq] at h3
      refine Ev.step (fun k => by rw [laws_eqTask.f]) ?_
      simp only [if_true]
      refine Ev.bind (ih p.f2 (by omega) (by omega)) ?_
      simp only [if_true]
      exact Ev.now true
    have loop : ∀ (d i : Nat), d = ps.length - i → i ≤ ps.length → Ev (fun k => laws_eqTaskS.l0 k ps ps (i : Int)) true := by
      intro d
      induction d with
      | zero =>
        intro i hd hi
        have e : i = ps.length := by omega
        subst e
        refine Ev.step (fun k => by rw [laws_eqTaskS.l0]) ?_
        simp only [if_neg (show ¬ ((ps.length : Int) < (ps.length : Int)) by omega)]
        exact Ev.now true
      | succ d ihd =>
        intro i hd hi
        have hlt : i < ps.length := by omega
        have hmem : ps[i] ∈ ps := List.getElem_mem hlt
        refine Ev.step (fun k => by rw [laws_eqTaskS.l0]) ?_
        simp only [if_pos (show (i : Int) < (ps.length : Int) by omega), if_pos (show (0 : Int) ≤ (i : Int) by omega), rd_tk ps i hlt]
        refine Ev.bind (one _ hmem) ?_
        simp only [if_true, wrap_nat i (by omega)]
        exact ihd (i + 1) (by omega) (by omega)
    refine Ev.step (fun k => by rw [laws_eqTaskS.f]) ?_
    simp only [if_true]
    exact loop ps.length 0 (by omega) (by omega)
theorem eqL_ev (ps : List Tk) (hb : nodL ps ≤ 4000000000) : Ev (fun k => laws_eqTaskS.f k ps ps) true := eqS_ev (SizeOf.sizeOf ps) ps (Nat.le_refl _) hb
end Go.Proofs.Ythfemojaabejiaa.G
end
section
namespace Go.Proofs.Ythfemojaabejiaa.G
open Go.RowKit Go.Proofs.YthfemojaabejiaaW.PrintWords
set_option linter.unusedVariables false
set_option linter.unusedSimpArgs false
theorem szB_ev (l : List Bool) (hlen : l.length ≤ 9223372036854775807) (left : Int) (h0 : 0 ≤ left) (h1 : left ≤ 1048576) : laws_szBoolS.f l left = some (leftOf l.length left) := by
  unfold laws_szBoolS.f
  rw [wrap_id (left - (l.length : Int)) (by omega) (by omega)]
  by_cases hc : (l.length : Int) ≤ left
  · rw [if_neg (by omega), leftOf_yes hc]
  · rw [if_pos (by omega), leftOf_no hc]
def szSh (made : List Bool) (tasks : List Lk) : Nat := made.length + (tasks.length + szC tasks)
theorem szSheet_ev (made : List Bool) (tasks : List Lk) (hm : made.length ≤ 9223372036854775807) (hlen : tasks.length ≤ 9223372036854775807) (hbd : bdL tasks) (left : Int) (h0 : 0 ≤ left) (h1 : left ≤ 1048576) :
    Ev (fun k => laws_szSheet.f k made tasks left) (leftOf (szSh made tasks) left) := by
  unfold laws_szSheet.f
  simp only [szB_ev made hm left h0 h1, Option.bind_some]
  unfold szSh
  by_cases hc : (made.length : Int) ≤ left
  · rw [leftOf_yes hc]
    simp only [if_neg (show ¬ (left - (made.length : Int) < 0) by omega)]
    refine Ev.bind (szL_ev tasks hlen hbd (left - made.length) (by omega) (by omega)) ?_
    rw [leftOf_add hc]
    by_cases hn : leftOf (made.length + (tasks.length + szC tasks)) left < 0
    · simp only [if_pos hn]
      rw [leftOf_no ((leftOf_neg h0).1 hn)]
      exact Ev.now _
    · simp only [if_neg hn]
      exact Ev.now _
  · rw [leftOf_no hc]
    simp only [if_pos (show (-1 : Int) < 0 by omega)]
    exact Ev.eq (Ev.now (-1)) (leftOf_no (by omega)).symm
theorem toB_ev (l : List Bool) (hb : l.length ≤ 1048576) : Ev (fun k => laws_toBoolS.f k l) l := by
  have loop : ∀ (d i : Nat), d = l.length - i → i ≤ l.length → Ev (fun k => laws_toBoolS.l0 k l (l.take i ++ List.replicate (l.length - i) false) (i : Int)) l := by
    intro d
    induction d with
    | zero =>
      intro i hd hi
      have e : i = l.length := by omega
      subst e
      refine Ev.step (fun k => by rw [laws_toBoolS.l0]) ?_
      simp only [if_neg (show ¬ ((l.length : Int) < (l.length : Int)) by omega), Nat.sub_self, List.replicate_zero, List.append_nil, List.take_length]
      exact Ev.now _
    | succ d ihd =>
      intro i hd hi
      have hlt : i < l.length := by omega
      have hl : (l.take i ++ List.replicate (l.length - i) false).length = l.length := by simp; omega
      refine Ev.step (fun k => by rw [laws_toBoolS.l0]) ?_
      simp only [if_pos (show (i : Int) < (l.length : Int) by omega), if_pos (show (0 : Int) ≤ (i : Int) by omega), rd_bool l i hlt, hl]
      simp only [wrap_nat i (by omega), Int.toNat_natCast]
      have e : (l.take i ++ List.replicate (l.length - i) false).set i l[i] = l.take (i + 1) ++ List.replicate (l.length - (i + 1)) false := by
        rw [List.set_append_right _ _ (by rw [List.length_take]; omega), List.length_take, Nat.min_eq_left (by omega), Nat.sub_self]
        rw [show l.length - i = (l.length - (i + 1)) + 1 by omega, List.replicate_succ, List.set_cons_zero, List.take_succ_eq_append_getElem hlt, List.append_assoc, List.singleton_append]
      rw [e]
      exact ihd (i + 1) (by omega) (by omega)
  unfold laws_toBoolS.f
  simp only [if_pos (show (0 : Int) ≤ (l.length : Int) by omega), Int.toNat_natCast, if_pos (show l.length ≤ 281474976710656 by omega)]
  have h := loop l.length 0 (by omega) (by omega)
  simp only [List.take_zero, List.nil_append, Nat.sub_zero, Int.natCast_zero, Int.ofNat_zero] at h
  exact h
theorem toSheet_ev (made : List Bool) (tasks : List Lk) (hb : szSh made tasks ≤ 1048576) : Ev (fun k => laws_toSheet.f k made tasks) (made, cvL tasks) := by
  unfold szSh at hb
  unfold laws_toSheet.f
  refine Ev.bind (toB_ev made (by omega)) ?_
  refine Ev.bind (toL_ev tasks (by omega)) ?_
  exact Ev.now _
theorem eqB_ev (l : List Bool) (hb : l.length ≤ 4000000000) : Ev (fun k => laws_eqBoolS.f k l l) true := by
  have loop : ∀ (d i : Nat), d = l.length - i → i ≤ l.length → Ev (fun k => laws_eqBoolS.l0 k l l (i : Int)) true := by
    intro d
    induction d with
    | zero =>
      intro i hd hi
      have e : i = l.length := by omega
      subst e
      refine Ev.step (fun k => by rw [laws_eqBoolS.l0]) ?_
      simp only [if_neg (show ¬ ((l.length : Int) < (l.length : Int)) by omega)]
      exact Ev.now true
    | succ d ihd =>
      intro i hd hi
      have hlt : i < l.length := by omega
      refine Ev.step (fun k => by rw [laws_eqBoolS.l0]) ?_
      simp only [if_pos (show (i : Int) < (l.length : Int) by omega), if_pos (show (0 : Int) ≤ (i : Int) by omega), bne_self_eq_false, Bool.false_eq_true, if_false, wrap_nat i (by omega)]
      exact ihd (i + 1) (by omega) (by omega)
  unfold laws_eqBoolS.f
  simp only [if_true]
  exact loop l.length 0 (by omega) (by omega)
theorem eqSheet_ev (made : List Bool) (tasks : List Tk) (hm : made.length ≤ 4000000000) (hb : nodL tasks ≤ 4000000000) : Ev (fun k => laws_eqSheet.f k made tasks made tasks) true := by
  unfold laws_eqSheet.f
  refine Ev.bind (eqB_ev made hm) ?_
  simp only [if_true]
  refine Ev.bind (eqL_ev tasks hb) ?_
  simp only [if_true]
  exact Ev.now true
theorem nod_le_of_szSh {made : List Bool} {tasks : List Lk} (hb : szSh made tasks ≤ 1048576) : nodL (cvL tasks) ≤ 1048576 := by
  unfold szSh at hb
  rw [nodL_cv]
  omega
theorem nod_mem_of_szSh {made : List Bool} {tasks : List Lk} (hb : szSh made tasks ≤ 1048576) : ∀ t ∈ cvL tasks, (nodT t : Int) ≤ 4000000000 := by
  intro t ht
  have h1 := nod_le_of_szSh hb
  have h2 := nodL_mem t ht
  omega
end Go.Proofs.Ythfemojaabejiaa.G
end
section
namespace Go.Proofs.Ythfemojaabejiaa.G
open Go.RowKit Go.Proofs.YthfemojaabejiaaW.PrintWords
set_option linter.unusedVariables false
set_option linter.unusedSimpArgs false
def unm : List Bool → Nat
  | [] => 0
  | b :: l => (if b = true then 0 else 1) + unm l
theorem unm_set : ∀ (D : List Bool) (x : Nat), x < D.length → D.getD x false = false → unm (D.set x true) + 1 = unm D
  | [], x, h, _ => by simp at h
  | b :: l, 0, _, hb => by
    have : b = false := by simpa using hb
    subst this
    simp [unm]
    omega
  | b :: l, x + 1, h, hb => by
    have h1 := unm_set l x (by simpa using h) (by simpa using hb)
    simp only [List.set_cons_succ, unm]
    omega
theorem unm_le : ∀ D : List Bool, unm D ≤ D.length
  | [] => Nat.le_refl _
  | b :: l => by
    have := unm_le l
    simp only [unm, List.length_cons]
    split <;> omega
theorem below_loop (made : List Bool) (tasks : List Tk) (he : made.length = tasks.length) (hl : made.length ≤ 10) (hb : ∀ t ∈ tasks, (nodT t : Int) ≤ 4000000000) (keys : List Nat) :
    ∀ (m i : Nat) (row : List Nat) (D : List Bool), (row.length - i) + 12 * unm D ≤ m → i ≤ row.length → row.length + 12 * unm D ≤ 4000000 → Topo.Queued made.length (madeB made) (mayN made tasks) keys row i D →
      ∃ (row' : List Nat) (D' : List Bool), Ev (fun k => spec_l4Below.l0 k D (castL row) (i : Int) made tasks) D' ∧ Topo.Queued made.length (madeB made) (mayN made tasks) keys row' row'.length D' := by
  intro m
  induction m with
  | zero =>
    intro i row D hm hi hB hQ
    have e : i = row.length := by omega
    subst e
    refine ⟨row, D, ?_, hQ⟩
    refine Ev.step (fun k => by rw [spec_l4Below.l0]) ?_
    simp only [castL_len, if_neg (show ¬ ((row.length : Int) < (row.length : Int)) by omega)]
    exact Ev.now _
  | succ m ih =>
    intro i row D hm hi hB hQ
    by_cases e : i = row.length
    · subst e
      refine ⟨row, D, ?_, hQ⟩
      refine Ev.step (fun k => by rw [spec_l4Below.l0]) ?_
      simp only [castL_len, if_neg (show ¬ ((row.length : Int) < (row.length : Int)) by omega)]
      exact Ev.now _
    · have hlt : i < row.length := by omega
      have hx := (hQ.sound _ (List.getElem_mem hlt)).1
      have hDl := hQ.len
      have step : ∀ {R : List Bool}, Ev (fun k => if D.getD row[i] false = true then spec_l4Below.l0 k D (castL row) ((i + 1 : Nat) : Int) made tasks else (if made.getD row[i] false = true then ((spec_l3May.f k made tasks (row[i] : Int)).bind fun t => if (castL row).length + t.length < 17592186044416 then spec_l4Below.l0 k (D.set row[i] true) (castL row ++ t) ((i + 1 : Nat) : Int) made tasks else none) else spec_l4Below.l0 k D (castL row) ((i + 1 : Nat) : Int) made tasks)) R → Ev (fun k => spec_l4Below.l0 k D (castL row) (i : Int) made tasks) R := by
        intro R h
        refine Ev.step (fun k => by rw [spec_l4Below.l0]) ?_
        simp only [castL_len, if_pos (show (i : Int) < (row.length : Int) by omega), if_pos (show (0 : Int) ≤ (i : Int) by omega), castL_rd row i hlt, if_pos (show (0 : Int) ≤ (row[i] : Int) by omega), if_pos (show (row[i] : Int) < (D.length : Int) by omega), if_pos (show (row[i] : Int) < (made.length : Int) by omega), rdOf_nn, Int.toNat_natCast, wrap_nat i (by omega)]
        simpa only [castL_len] using h
      cases hd : D.getD row[i] false with
      | true =>
        obtain ⟨row', D', h1, h2⟩ := ih (i + 1) row D (by omega) (by omega) hB (hQ.skip hlt (.inr hd))
        refine ⟨row', D', step ?_, h2⟩
        simp only [hd, if_true]
        exact h1
      | false =>
        cases hm2 : made.getD row[i] false with
        | false =>
          obtain ⟨row', D', h1, h2⟩ := ih (i + 1) row D (by omega) (by omega) hB (hQ.skip hlt (.inl hm2))
          refine ⟨row', D', step ?_, h2⟩
          simp only [hd, hm2, Bool.false_eq_true, if_false]
          exact h1
        | true =>
          have hu := unm_set D row[i] (by omega) hd
          have hml := mayN_len made tasks row[i]
          obtain ⟨row', D', h1, h2⟩ := ih (i + 1) (row ++ mayN made tasks row[i]) (D.set row[i] true) (by rw [List.length_append]; omega) (by rw [List.length_append]; omega) (by rw [List.length_append]; omega) (hQ.take (fun k hk j hj => mayN_mem hj) hlt hm2)
          refine ⟨row', D', step ?_, h2⟩
          simp only [hd, hm2, Bool.false_eq_true, if_false, if_true]
          refine Ev.bind (l3May_ev made tasks hb row[i] (by omega)) ?_
          simp only [castL_len, if_pos (show row.length + (mayN made tasks row[i]).length < 17592186044416 by omega)]
          rw [castL_app] at h1
          exact h1
theorem below_ev {made : List Bool} {tasks : List Tk} (hok : sheetOk made tasks = true) (hb : ∀ t ∈ tasks, (nodT t : Int) ≤ 4000000000) (L : List Nat) (hL : L.length ≤ 2000000) (hk : ∀ k ∈ L, k < made.length) :
    ∃ D : List Bool, Ev (fun k => spec_l4Below.f k made tasks (castL L)) D ∧ D.length = made.length ∧ ∀ k, D.getD k false = reachB made tasks L k := by
  have hlen := sheetOk_len hok
  have hu := unm_le (List.replicate made.length false)
  rw [List.length_replicate] at hu
  obtain ⟨row', D', h1, h2⟩ := below_loop made tasks hlen.1 hlen.2 hb L (L.length + 12 * unm (List.replicate made.length false)) 0 L (List.replicate made.length false) (by omega) (by omega) (by omega) (Topo.Queued.start _ _ hk)
  refine ⟨D', ?_, h2.len, fun k => ?_⟩
  · unfold spec_l4Below.f
    simp only [if_pos (show (0 : Int) ≤ (made.length : Int) by omega), Int.toNat_natCast, if_pos (show made.length ≤ 281474976710656 by omega), Option.bind_some, List.length_nil, List.nil_append, castL_len, if_pos (show 0 + L.length < 17592186044416 by omega)]
    exact h1
  · rw [Bool.eq_iff_iff, reachB_iff]
    exact h2.iff k
theorem hasN_ev (out : List Nat) (hl : out.length ≤ 4000000) (x : Nat) : Ev (fun k => spec_l2Has.f k (castL out) (x : Int)) (out.contains x) := by
  unfold spec_l2Has.f
  have loop : ∀ (d i : Nat), d = out.length - i → i ≤ out.length → Ev (fun k => spec_l2Has.l0 k (castL out) (x : Int) (i : Int)) ((out.drop i).contains x) := by
    intro d
    induction d with
    | zero =>
      intro i hd hi
      have e : i = out.length := by omega
      subst e
      refine Ev.step (fun k => by rw [spec_l2Has.l0]) ?_
      simp only [castL_len, if_neg (show ¬ ((out.length : Int) < (out.length : Int)) by omega), List.drop_length]
      exact Ev.now false
    | succ d ihd =>
      intro i hd hi
      have hlt : i < out.length := by omega
      refine Ev.step (fun k => by rw [spec_l2Has.l0]) ?_
      simp only [castL_len, if_pos (show (i : Int) < (out.length : Int) by omega), if_pos (show (0 : Int) ≤ (i : Int) by omega), castL_rd out i hlt, wrap_nat i (by omega)]
      rw [List.drop_eq_getElem_cons hlt, List.contains_cons]
      by_cases hc : out[i] = x
      · simp only [if_pos (show (out[i] : Int) = (x : Int) by omega)]
        exact Ev.eq (Ev.now true) (by simp [hc])
      · simp only [if_neg (show ¬ ((out[i] : Int) = (x : Int)) by omega)]
        refine Ev.eq (ihd (i + 1) (by omega) (by omega)) ?_
        rw [show (x == out[i]) = false from beq_eq_false_iff_ne.2 (fun e => hc e.symm), Bool.false_or]
  have h1 := loop out.length 0 (by omega) (by omega)
  rw [List.drop_zero] at h1
  exact h1
theorem freeN_ev (out l : List Nat) (ho : out.length ≤ 4000000) (hl : l.length ≤ 1000) : Ev (fun k => spec_l4Free.f k (castL out) (castL l)) (l.all fun j => out.contains j) := by
  unfold spec_l4Free.f
  have loop : ∀ (d i : Nat), d = l.length - i → i ≤ l.length → Ev (fun k => spec_l4Free.l0 k (castL out) (castL l) (i : Int)) ((l.drop i).all fun j => out.contains j) := by
    intro d
    induction d with
    | zero =>
      intro i hd hi
      have e : i = l.length := by omega
      subst e
      refine Ev.step (fun k => by rw [spec_l4Free.l0]) ?_
      simp only [castL_len, if_neg (show ¬ ((l.length : Int) < (l.length : Int)) by omega), List.drop_length]
      exact Ev.now true
    | succ d ihd =>
      intro i hd hi
      have hlt : i < l.length := by omega
      refine Ev.step (fun k => by rw [spec_l4Free.l0]) ?_
      simp only [castL_len, if_pos (show (i : Int) < (l.length : Int) by omega), if_pos (show (0 : Int) ≤ (i : Int) by omega), castL_rd l i hlt, wrap_nat i (by omega)]
      rw [List.drop_eq_getElem_cons hlt, List.all_cons]
      refine Ev.bind (hasN_ev out ho l[i]) ?_
      cases out.contains l[i] with
      | true => simp only [if_true, Bool.true_and]; exact ihd (i + 1) (by omega) (by omega)
      | false => simp only [Bool.false_eq_true, if_false, Bool.false_and]; exact Ev.now false
  have h1 := loop l.length 0 (by omega) (by omega)
  rw [List.drop_zero] at h1
  exact h1
section
variable {made : List Bool} {tasks : List Tk} (he : made.length = tasks.length) (hl : made.length ≤ 10) (hb : ∀ t ∈ tasks, (nodT t : Int) ≤ 4000000000) (D : List Bool) (need : Nat → Bool) (hD : D.length = made.length) (hn : ∀ k, D.getD k false = need k)
include he hl hb hD hn
theorem scan_one (out : List Nat) (ho : out.length ≤ 4000000) (x : Nat) (hx : x < made.length) {R : List Int × Bool}
    (h : if Topo.free need (mayN made tasks) out x = true then Ev (fun k => spec_OrderTopo.l1 k (castL (out ++ [x])) D true ((x + 1 : Nat) : Int) made tasks) R else Ev (fun k => spec_OrderTopo.l1 k (castL out) D false ((x + 1 : Nat) : Int) made tasks) R) :
    Ev (fun k => spec_OrderTopo.l1 k (castL out) D false (x : Int) made tasks) R := by
  refine Ev.step (fun k => by rw [spec_OrderTopo.l1]) ?_
  simp only [if_pos (show (x : Int) < (D.length : Int) by omega), Bool.not_false]
  refine Ev.step (fun k => by rw [spec_OrderTopo.j3]) ?_
  simp only [if_true, if_pos (show (0 : Int) ≤ (x : Int) by omega), if_pos (show (x : Int) < (D.length : Int) by omega), rdOf_nn, Int.toNat_natCast, hn, wrap_nat x (by omega)]
  cases h1 : need x with
  | false =>
    rw [if_neg (by simp [Topo.free, h1])] at h
    simp only [Bool.false_eq_true, if_false]
    exact h
  | true =>
    simp only [if_true]
    refine Ev.bind (hasN_ev out ho x) ?_
    cases h2 : out.contains x with
    | true =>
      rw [if_neg (by simp only [Topo.free]; rw [h2]; simp)] at h
      simp only [if_true]
      exact h
    | false =>
      simp only [Bool.false_eq_true, if_false]
      refine Ev.bind (l3May_ev made tasks hb x (by omega)) ?_
      refine Ev.bind (freeN_ev out (mayN made tasks x) ho (Nat.le_trans (mayN_len _ _ _) (by omega))) ?_
      cases h3 : ((mayN made tasks x).all fun j => out.contains j) with
      | true =>
        rw [if_pos (by simp only [Topo.free]; rw [h1, h2, h3]; rfl), castL_snoc] at h
        simp only [if_true, castL_len, if_pos (show out.length < 17592186044416 by omega)]
        exact h
      | false =>
        rw [if_neg (by simp only [Topo.free]; rw [h3, Bool.and_false]; simp)] at h
        simp only [Bool.false_eq_true, if_false]
        exact h
theorem scan_some (out : List Nat) (ho : out.length ≤ 4000000) (x : Nat) (hx : x < made.length) (hf : Topo.free need (mayN made tasks) out x = true) {R : List Int × Bool} (h : Ev (fun k => spec_OrderTopo.l0 k (castL (out ++ [x])) D true made tasks) R) :
    ∀ (d i : Nat), d = x - i → i ≤ x → (∀ j, i ≤ j → j < x → Topo.free need (mayN made tasks) out j = false) → Ev (fun k => spec_OrderTopo.l1 k (castL out) D false (i : Int) made tasks) R := by
  intro d
  induction d with
  | zero =>
    intro i hd hi _
    have e : i = x := by omega
    subst e
    refine scan_one he hl hb D need hD hn out ho i hx ?_
    rw [if_pos hf]
    refine Ev.step (fun k => by rw [spec_OrderTopo.l1]) ?_
    by_cases hc : ((i + 1 : Nat) : Int) < (D.length : Int)
    · simp only [if_pos hc, Bool.not_true]
      refine Ev.step (fun k => by rw [spec_OrderTopo.j3]) ?_
      simp only [Bool.false_eq_true, if_false]
      exact h
    · simp only [if_neg hc]
      refine Ev.step (fun k => by rw [spec_OrderTopo.j3]) ?_
      simp only [Bool.false_eq_true, if_false]
      exact h
  | succ d ihd =>
    intro i hd hi hno
    refine scan_one he hl hb D need hD hn out ho i (by omega) ?_
    rw [if_neg (by rw [hno i (by omega) (by omega)]; simp)]
    exact ihd (i + 1) (by omega) (by omega) (fun j h1 h2 => hno j (by omega) h2)
theorem scan_none (out : List Nat) (ho : out.length ≤ 4000000) (hno : ∀ j, j < made.length → Topo.free need (mayN made tasks) out j = false) : ∀ (d i : Nat), d = made.length - i → i ≤ made.length → Ev (fun k => spec_OrderTopo.l1 k (castL out) D false (i : Int) made tasks) (castL out, true) := by
  intro d
  induction d with
  | zero =>
    intro i hd hi
    refine Ev.step (fun k => by rw [spec_OrderTopo.l1]) ?_
    simp only [if_neg (show ¬ ((i : Int) < (D.length : Int)) by omega)]
    refine Ev.step (fun k => by rw [spec_OrderTopo.j3]) ?_
    simp only [Bool.false_eq_true, if_false]
    refine Ev.step (fun k => by rw [spec_OrderTopo.l0]) ?_
    simp only [Bool.false_eq_true, if_false]
    exact Ev.now _
  | succ d ihd =>
    intro i hd hi
    refine scan_one he hl hb D need hD hn out ho i (by omega) ?_
    rw [if_neg (by rw [hno i (by omega)]; simp)]
    exact ihd (i + 1) (by omega) (by omega)
theorem order_loop {r : List Nat} (hp : Topo.pick made.length need (mayN made tasks) r = none) : ∀ (m : Nat) (out : List Nat), out.length + m ≤ 1000 → Topo.topo made.length need (mayN made tasks) m out = some r → Ev (fun k => spec_OrderTopo.l0 k (castL out) D true made tasks) (castL r, true) := by
  intro m
  induction m with
  | zero =>
    intro out ho ht
    simp only [Topo.topo, Option.some.injEq] at ht
    subst ht
    refine Ev.step (fun k => by rw [spec_OrderTopo.l0]) ?_
    simp only [if_true]
    refine scan_none he hl hb D need hD hn out (by omega) (fun j hj => ?_) made.length 0 (by omega) (by omega)
    unfold Topo.pick at hp
    rw [List.find?_eq_none] at hp
    have := hp j (List.mem_range.2 hj)
    simpa using this
  | succ m ih =>
    intro out ho ht
    unfold Topo.topo at ht
    split at ht
    · cases ht
    · rename_i x hx
      have h1 := (Topo.pick_some hx).1
      unfold Topo.pick at hx
      rw [List.find?_eq_some_iff_getElem] at hx
      obtain ⟨hf, i, hi, he2, hno⟩ := hx
      have e : i = x := by simpa using he2
      refine Ev.step (fun k => by rw [spec_OrderTopo.l0]) ?_
      simp only [if_true]
      refine scan_some he hl hb D need hD hn out (by omega) x h1 hf (ih (out ++ [x]) (by rw [List.length_append, List.length_singleton]; omega) ht) x 0 (by omega) (by omega) (fun j _ hj => ?_)
      have h2 := hno j (by omega)
      simpa using h2
end
theorem order_some {made : List Bool} {tasks : List Tk} (hs : safeB made tasks = true) (L : List Nat) : ∃ r, orderL made tasks L = some r ∧ Topo.pick made.length (reachB made tasks L) (mayN made tasks) r = none := by
  unfold safeB at hs
  rw [Bool.and_eq_true] at hs
  exact Topo.topo_safe hs.2 (fun k _ h => reach_made (reachB_iff.1 h)) (fun k _ h j hj => ⟨(mayN_mem hj).1, reachB_iff.2 ((reachB_iff.1 h).step hj (mayN_mem hj).2)⟩)
theorem specOrder_ev (made : List Bool) (tasks : List Tk) (l : List Int) (hl : l.length ≤ 2000000) (hb : ∀ t ∈ tasks, (nodT t : Int) ≤ 4000000000) : Ev (fun k => spec_OrderTopo.f k made tasks l) (orderI made tasks l) := by
  unfold spec_OrderTopo.f orderI
  simp only [Option.bind_some]
  refine Ev.bind (specSafe_ev made tasks hb) ?_
  cases hs : safeB made tasks with
  | false =>
    simp only [Bool.false_eq_true, if_false]
    refine Ev.step (fun k => by rw [spec_OrderTopo.j0]) ?_
    simp only [if_true]
    exact Ev.now _
  | true =>
    have hok := safe_sheet hs
    have hlen := sheetOk_len hok
    simp only [if_true]
    refine Ev.bind (specKeys_ev hok hb l (by omega)) ?_
    refine Ev.step (fun k => by rw [spec_OrderTopo.j0]) ?_
    cases hk : l.all (keyIn made.length) with
    | false => simp only [Bool.not_false, if_true, Bool.false_eq_true, if_false]; exact Ev.now _
    | true =>
      simp only [Bool.not_true, Bool.false_eq_true, if_false, if_true]
      have hkc := keys_cast hk
      obtain ⟨D, h1, h2, h3⟩ := below_ev hok hb (l.map Int.toNat) (by rw [List.length_map]; exact hl) (fun k hk2 => by
        obtain ⟨x, hx, rfl⟩ := List.mem_map.1 hk2
        have := qO (List.all_eq_true.1 hk x hx)
        omega)
      rw [hkc] at h1
      refine Ev.bind h1 ?_
      obtain ⟨r, hr, hp⟩ := order_some hs (l.map Int.toNat)
      rw [hr]
      unfold orderL at hr
      have hnl := Topo.needed_len made.length (reachB made tasks (l.map Int.toNat))
      exact order_loop hlen.1 hlen.2 hb D _ h2 h3 hp _ [] (by simp; omega) hr
end Go.Proofs.Ythfemojaabejiaa.G
end
section
namespace Go.Proofs.Ythfemojaabejiaa.G
open Go.RowKit Go.Proofs.YthfemojaabejiaaW.PrintWords
set_option linter.unusedVariables false
set_option linter.unusedSimpArgs false
theorem toLoop {α β γ : Type} (l : List α) (F : Nat → List β → Int → Option (List β)) (one : Nat → α → Option γ) (mk : γ → β) (cv : α → β) (z : β)
    (hend : ∀ k out, F (k + 1) out (l.length : Int) = some out)
    (hstep : ∀ k out (i : Nat) (h : i < l.length), out.length = l.length → F (k + 1) out (i : Int) = (one k l[i]).bind fun t => F k (out.set i (mk t)) ((i + 1 : Nat) : Int))
    (hone : ∀ x ∈ l, ∃ c, Ev (fun k => one k x) c ∧ mk c = cv x) : Ev (fun k => F k (List.replicate l.length z) 0) (l.map cv) := by
  have loop : ∀ (d i : Nat), d = l.length - i → i ≤ l.length → Ev (fun k => F k ((l.take i).map cv ++ List.replicate (l.length - i) z) (i : Int)) (l.map cv) := by
    intro d
    induction d with
    | zero =>
      intro i hd hi
      have e : i = l.length := by omega
      subst e
      refine Ev.step (fun k => hend k _) ?_
      simp only [Nat.sub_self, List.replicate_zero, List.append_nil, List.take_length]
      exact Ev.now _
    | succ d ihd =>
      intro i hd hi
      have hlt : i < l.length := by omega
      have hl : ((l.take i).map cv ++ List.replicate (l.length - i) z).length = l.length := by simp; omega
      refine Ev.step (fun k => hstep k _ i hlt hl) ?_
      obtain ⟨c, hc, hm⟩ := hone _ (List.getElem_mem hlt)
      refine Ev.bind hc ?_
      rw [hm]
      have e : ((l.take i).map cv ++ List.replicate (l.length - i) z).set i (cv l[i]) = (l.take (i + 1)).map cv ++ List.replicate (l.length - (i + 1)) z := by
        rw [List.set_append_right _ _ (by rw [List.length_map, List.length_take]; omega), List.length_map, List.length_take, Nat.min_eq_left (by omega), Nat.sub_self]
        rw [show l.length - i = (l.length - (i + 1)) + 1 by omega, List.replicate_succ, List.set_cons_zero, List.take_succ_eq_append_getElem hlt]
        rw [List.map_append, List.map_singleton, List.append_assoc, List.singleton_append]
      rw [e]
      exact ihd (i + 1) (by omega) (by omega)
  have h := loop l.length 0 (by omega) (by omega)
  simp only [List.take_zero, List.map_nil, List.nil_append, Nat.sub_zero, Int.natCast_zero, Int.ofNat_zero] at h
  exact h
theorem allLoop {α : Type} (l : List α) (F : Nat → Int → Option Bool) (one : Nat → α → Option Bool) (p : α → Bool)
    (hend : ∀ k, F (k + 1) (l.length : Int) = some true)
    (hstep : ∀ k (i : Nat) (h : i < l.length), F (k + 1) (i : Int) = (one k l[i]).bind fun t => if t = true then F k ((i + 1 : Nat) : Int) else some false)
    (hone : ∀ x ∈ l, Ev (fun k => one k x) (p x)) : ∀ (d i : Nat), d = l.length - i → i ≤ l.length → Ev (fun k => F k (i : Int)) ((l.drop i).all p) := by
  intro d
  induction d with
  | zero =>
    intro i hd hi
    have e : i = l.length := by omega
    subst e
    refine Ev.step (fun k => hend k) ?_
    simp only [List.drop_length, List.all_nil]
    exact Ev.now true
  | succ d ihd =>
    intro i hd hi
    have hlt : i < l.length := by omega
    rw [drop_tk l i hlt, List.all_cons]
    refine Ev.step (fun k => hstep k i hlt) ?_
    refine Ev.bind (hone _ (List.getElem_mem hlt)) ?_
    cases hp : p l[i] with
    | true => simp only [if_true, Bool.true_and]; exact ihd (i + 1) (by omega) (by omega)
    | false => simp only [Bool.false_eq_true, if_false, Bool.false_and]; exact Ev.now false
theorem eqLoop {α : Type} (l : List α) (F : Nat → Int → Option Bool) (one : Nat → α → Option Bool)
    (hend : ∀ k, F (k + 1) (l.length : Int) = some true)
    (hstep : ∀ k (i : Nat) (h : i < l.length), F (k + 1) (i : Int) = (one k l[i]).bind fun t => if t = true then F k ((i + 1 : Nat) : Int) else some false)
    (hone : ∀ x ∈ l, Ev (fun k => one k x) true) : Ev (fun k => F k 0) true := by
  have h := allLoop l F one (fun _ => true) hend hstep hone l.length 0 (by omega) (by omega)
  simp only [List.drop_zero, List.all_eq_true, implies_true] at h
  exact Ev.eq h (by simp)
end Go.Proofs.Ythfemojaabejiaa.G
end
section
namespace Go.Proofs.Ythfemojaabejiaa.G
open Go.RowKit Go.Proofs.YthfemojaabejiaaW.PrintWords
set_option linter.unusedVariables false
set_option linter.unusedSimpArgs false
theorem rd_int (l : List Int) (i : Nat) (h : i < l.length) : rd l (i : Int) = l[i] := by
  simp only [rd, Int.toNat_natCast, List.getD_eq_getElem?_getD, List.getElem?_eq_getElem h, Option.getD_some]
theorem toIs_ev (l : List Int) (hl : l.length ≤ 1048576) : Ev (fun k => laws_toIntS.f k l) l := by
  unfold laws_toIntS.f
  simp only [if_pos (show (0 : Int) ≤ (l.length : Int) by omega), Int.toNat_natCast, if_pos (show l.length ≤ 35184372088832 by omega)]
  have h := toLoop l (fun k out i => laws_toIntS.l0 k l out i) (fun _ x => some x) (fun c => c) (fun c => c) (0 : Int)
    (fun k out => by simp only [laws_toIntS.l0, if_neg (show ¬ ((l.length : Int) < (l.length : Int)) by omega)])
    (fun k out i hi ho => by simp only [laws_toIntS.l0, ho, if_pos (show (i : Int) < (l.length : Int) by omega), if_pos (show (0 : Int) ≤ (i : Int) by omega), rd_int l i hi, wrap_nat i (by omega), Int.toNat_natCast, Option.bind_some])
    (fun x hx => ⟨x, Ev.of_eq rfl, rfl⟩)
  rw [List.map_id'] at h
  exact h
theorem eqIs_ev (l : List Int) (hl : l.length ≤ 4000000000) : Ev (fun k => laws_eqIntS.f k l l) true := by
  unfold laws_eqIntS.f
  simp only [if_true]
  exact eqLoop l (fun k i => laws_eqIntS.l0 k l l i) (fun _ x => some true)
    (fun k => by simp only [laws_eqIntS.l0, if_neg (show ¬ ((l.length : Int) < (l.length : Int)) by omega)])
    (fun k i hi => by simp only [laws_eqIntS.l0, if_pos (show (i : Int) < (l.length : Int) by omega), if_pos (show (0 : Int) ≤ (i : Int) by omega), rd_int l i hi, wrap_nat i (by omega), Option.bind_some, if_true])
    (fun x hx => Ev.of_eq rfl)
end Go.Proofs.Ythfemojaabejiaa.G
end
section
namespace Go.Proofs.Ythfemojaabejiaa.G
open Go.RowKit Go.Proofs.YthfemojaabejiaaW.PrintWords
set_option linter.unusedVariables false
set_option linter.unusedSimpArgs false
def mkI : List Int → Int → List Int
  | [], _ => []
  | _ :: fs, a => a :: mkI fs (a + 1)
theorem mkI_len (fs : List Int) (a : Int) : (mkI fs a).length = fs.length := by
  induction fs generalizing a with
  | nil => rfl
  | cons f fs ih => simp [mkI, ih]
theorem mkI_get (fs : List Int) : ∀ (a : Int) (i : Nat) (h : i < (mkI fs a).length), (mkI fs a)[i] = a + (i : Int) := by
  induction fs with
  | nil => intro a i h; simp [mkI] at h
  | cons f fs ih =>
    intro a i h
    cases i with
    | zero => simp [mkI]
    | succ i =>
      simp only [mkI, List.getElem_cons_succ]
      rw [ih]
      omega
theorem mkI_take (fs : List Int) (a : Int) (i : Nat) (h : i < fs.length) : ((mkI fs a).take i ++ fs.drop i).set i (a + (i : Int)) = (mkI fs a).take (i + 1) ++ fs.drop (i + 1) := by
  have hl : ((mkI fs a).take i).length = i := by rw [List.length_take, mkI_len]; omega
  rw [List.set_append_right _ _ (by omega), hl, Nat.sub_self, List.drop_eq_getElem_cons h, List.set_cons_zero, List.take_succ_eq_append_getElem (by rw [mkI_len]; exact h), mkI_get]
  simp
theorem markI_loop (fs : List Int) (a : Int) (h0 : 0 ≤ a) (h1 : a + (fs.length : Int) ≤ 4611686018427387904) : ∀ (d i : Nat), d = fs.length - i → i ≤ fs.length → Ev (fun k => laws_markIntS.l0 k ((mkI fs a).take i ++ fs.drop i) (a + (i : Int)) (i : Int)) (a + (fs.length : Int), mkI fs a) := by
  intro d
  induction d with
  | zero =>
    intro i hd hi
    have e : i = fs.length := by omega
    subst e
    refine Ev.step (fun k => by rw [laws_markIntS.l0]) ?_
    have hl : (mkI fs a).take fs.length ++ fs.drop fs.length = mkI fs a := by rw [List.drop_length, List.append_nil, List.take_of_length_le (by rw [mkI_len]; exact Nat.le_refl _)]
    rw [hl]
    simp only [mkI_len, if_neg (show ¬ ((fs.length : Int) < (fs.length : Int)) by omega)]
    exact Ev.now _
  | succ d ih =>
    intro i hd hi
    have hlt : i < fs.length := by omega
    have hll : ((mkI fs a).take i ++ fs.drop i).length = fs.length := by rw [List.length_append, List.length_take, mkI_len, List.length_drop]; omega
    refine Ev.step (fun k => by rw [laws_markIntS.l0]) ?_
    have ew : wrap64 (a + (i : Int) + 1) = a + ((i + 1 : Nat) : Int) := by rw [wrap_id _ (by omega) (by omega)]; omega
    simp only [hll, if_pos (show (i : Int) < (fs.length : Int) by omega), if_pos (show (0 : Int) ≤ (i : Int) by omega), ew, Int.toNat_natCast, wrap_nat i (by omega)]
    rw [mkI_take fs a i hlt]
    exact ih (i + 1) (by omega) (by omega)
theorem markI_ev (fs : List Int) (a : Int) (h0 : 0 ≤ a) (h1 : a + (fs.length : Int) ≤ 4611686018427387904) : Ev (fun k => laws_markIntS.f k fs a) (a + (fs.length : Int), mkI fs a) := by
  unfold laws_markIntS.f
  have h := markI_loop fs a h0 h1 fs.length 0 (by omega) (by omega)
  simpa using h
theorem heldI_loop (fs : List Int) (a : Int) (h0 : 0 ≤ a) (h1 : a + (fs.length : Int) ≤ 4611686018427387904) : ∀ (d i : Nat), d = fs.length - i → i ≤ fs.length → Ev (fun k => laws_heldIntS.l0 k (mkI fs a) (a + (i : Int)) (i : Int)) (a + (fs.length : Int)) := by
  intro d
  induction d with
  | zero =>
    intro i hd hi
    have e : i = fs.length := by omega
    subst e
    refine Ev.step (fun k => by rw [laws_heldIntS.l0]) ?_
    simp only [mkI_len, if_neg (show ¬ ((fs.length : Int) < (fs.length : Int)) by omega)]
    exact Ev.now _
  | succ d ih =>
    intro i hd hi
    have hlt : i < fs.length := by omega
    refine Ev.step (fun k => by rw [laws_heldIntS.l0]) ?_
    have ew : wrap64 (a + (i : Int) + 1) = a + ((i + 1 : Nat) : Int) := by rw [wrap_id _ (by omega) (by omega)]; omega
    have e : rd (mkI fs a) (i : Int) = a + (i : Int) := by rw [rd_int _ i (by rw [mkI_len]; exact hlt), mkI_get]
    simp only [mkI_len, if_pos (show (i : Int) < (fs.length : Int) by omega), if_pos (show (0 : Int) ≤ (i : Int) by omega), ew, e, if_true, wrap_nat i (by omega)]
    exact ih (i + 1) (by omega) (by omega)
theorem heldI_ev (fs : List Int) (a : Int) (h0 : 0 ≤ a) (h1 : a + (fs.length : Int) ≤ 4611686018427387904) : Ev (fun k => laws_heldIntS.f k (mkI fs a) a) (a + (fs.length : Int)) := by
  unfold laws_heldIntS.f
  have h := heldI_loop fs a h0 h1 fs.length 0 (by omega) (by omega)
  simpa using h
end Go.Proofs.Ythfemojaabejiaa.G
end
section
namespace Go.Proofs.Ythfemojaabejiaa.G
open Go.RowKit Go.Proofs.YthfemojaabejiaaW.PrintWords
set_option linter.unusedVariables false
set_option linter.unusedSimpArgs false
def mkBo : List Bool → Int → List Bool
  | [], _ => []
  | _ :: fs, a => (Int.tmod a 3 == 0) :: mkBo fs (a + 1)
theorem mkBo_len (fs : List Bool) (a : Int) : (mkBo fs a).length = fs.length := by
  induction fs generalizing a with
  | nil => rfl
  | cons f fs ih => simp [mkBo, ih]
theorem mkBo_get (fs : List Bool) : ∀ (a : Int) (i : Nat) (h : i < (mkBo fs a).length), (mkBo fs a)[i] = (Int.tmod (a + (i : Int)) 3 == 0) := by
  induction fs with
  | nil => intro a i h; simp [mkBo] at h
  | cons f fs ih =>
    intro a i h
    cases i with
    | zero => simp [mkBo]
    | succ i =>
      simp only [mkBo, List.getElem_cons_succ]
      rw [ih, show a + 1 + (i : Int) = a + ((i + 1 : Nat) : Int) by omega]
theorem mkBo_take (fs : List Bool) (a : Int) (i : Nat) (h : i < fs.length) : ((mkBo fs a).take i ++ fs.drop i).set i (Int.tmod (a + (i : Int)) 3 == 0) = (mkBo fs a).take (i + 1) ++ fs.drop (i + 1) := by
  have hl : ((mkBo fs a).take i).length = i := by rw [List.length_take, mkBo_len]; omega
  rw [List.set_append_right _ _ (by omega), hl, Nat.sub_self, List.drop_eq_getElem_cons h, List.set_cons_zero, List.take_succ_eq_append_getElem (by rw [mkBo_len]; exact h), mkBo_get]
  simp
theorem markB_loop (fs : List Bool) (a : Int) (h0 : 0 ≤ a) (h1 : a + (fs.length : Int) ≤ 4611686018427387904) : ∀ (d i : Nat), d = fs.length - i → i ≤ fs.length → Ev (fun k => laws_markBoolS.l0 k ((mkBo fs a).take i ++ fs.drop i) (a + (i : Int)) (i : Int)) (a + (fs.length : Int), mkBo fs a) := by
  intro d
  induction d with
  | zero =>
    intro i hd hi
    have e : i = fs.length := by omega
    subst e
    refine Ev.step (fun k => by rw [laws_markBoolS.l0]) ?_
    have hl : (mkBo fs a).take fs.length ++ fs.drop fs.length = mkBo fs a := by rw [List.drop_length, List.append_nil, List.take_of_length_le (by rw [mkBo_len]; exact Nat.le_refl _)]
    rw [hl]
    simp only [mkBo_len, if_neg (show ¬ ((fs.length : Int) < (fs.length : Int)) by omega)]
    exact Ev.now _
  | succ d ih =>
    intro i hd hi
    have hlt : i < fs.length := by omega
    have hll : ((mkBo fs a).take i ++ fs.drop i).length = fs.length := by rw [List.length_append, List.length_take, mkBo_len, List.length_drop]; omega
    refine Ev.step (fun k => by rw [laws_markBoolS.l0]) ?_
    have ew : wrap64 (a + (i : Int) + 1) = a + ((i + 1 : Nat) : Int) := by rw [wrap_id _ (by omega) (by omega)]; omega
    simp only [hll, if_pos (show (i : Int) < (fs.length : Int) by omega), if_pos (show (0 : Int) ≤ (i : Int) by omega), ew, Int.toNat_natCast, wrap_nat i (by omega)]
    rw [mkBo_take fs a i hlt]
    exact ih (i + 1) (by omega) (by omega)
theorem markB_ev (fs : List Bool) (a : Int) (h0 : 0 ≤ a) (h1 : a + (fs.length : Int) ≤ 4611686018427387904) : Ev (fun k => laws_markBoolS.f k fs a) (a + (fs.length : Int), mkBo fs a) := by
  unfold laws_markBoolS.f
  have h := markB_loop fs a h0 h1 fs.length 0 (by omega) (by omega)
  simpa using h
end Go.Proofs.Ythfemojaabejiaa.G
end
section
namespace Go.Proofs.Ythfemojaabejiaa.G
open Go.RowKit Go.Proofs.YthfemojaabejiaaW.PrintWords
set_option linter.unusedVariables false
set_option linter.unusedSimpArgs false
theorem cntL_nod (ps : List Tk) (ih : ∀ p ∈ ps, (shT p).cnt = nodT p) : Sh.cntL (ps.map shT) = nodL ps := by
  induction ps with
  | nil => simp [Sh.cntL, nodL]
  | cons p ps ihp =>
    simp only [List.map_cons, Sh.cntL, nodL]
    rw [ih p (by simp), ihp (fun q hq => ih q (by simp [hq]))]
theorem cnt_nod : ∀ t : Tk, (shT t).cnt = nodT t := by
  refine tk_ind fun t ih => ?_
  rw [cnt_parts, shT_parts, cntL_nod t.f2 ih, nodT_eq]
theorem cntL_nodL (ps : List Tk) : Sh.cntL (ps.map shT) = nodL ps := cntL_nod ps fun p _ => cnt_nod p
end Go.Proofs.Ythfemojaabejiaa.G
end
section
namespace Go.Proofs.Ythfemojaabejiaa.G
open Go.RowKit Go.Proofs.YthfemojaabejiaaW.PrintWords
set_option linter.unusedVariables false
set_option linter.unusedSimpArgs false
theorem order_len {made : List Bool} {tasks : List Tk} (hok : sheetOk made tasks = true) {L r : List Nat} (h : orderL made tasks L = some r) : r.length ≤ 10 := by
  have hlen := sheetOk_len hok
  have hnl := Topo.needed_len made.length (reachB made tasks L)
  have := (Topo.topo_ord _ (Topo.Ord.nil ..) h).2
  simp only [List.length_nil] at this
  omega
theorem orderI_len (made : List Bool) (tasks : List Tk) (l : List Int) : (orderI made tasks l).1.length ≤ 10 := by
  unfold orderI
  split
  · rename_i hs
    split
    · cases ho : orderL made tasks (l.map Int.toNat) with
      | none => simp [castL]
      | some r =>
        simp only [Option.getD_some, castL_len]
        exact order_len (safe_sheet hs) ho
    · simp
  · simp
open Classical in
noncomputable def laws_FnExactOrderTopo.f (k : Nat) (l0_0 : List Bool) (l0_1 : List S138) (l1 : List Int) : Option Bool := if l0_0.length ≤ 9223372036854775807 ∧ l0_1.length ≤ 9223372036854775807 ∧ bdL l0_1 then some true else none
theorem laws_FnExactOrderTopo.calls (k : Nat) (A0_0 : Option Addr) (c0_0 : Nat) (l0_0 : List Bool) (A0_1 : Option Addr) (c0_1 : Nat) (l0_1 : List S138) (A1 : Option Addr) (c1 : Nat) (l1 : List Int) (r : Bool) (w : World) (hr0_0 : Kd.C Kd.bool w A0_0 l0_0.length l0_0) (hc0_0 : l0_0.length ≤ c0_0) (hr0_1 : Kd.C k138 w A0_1 l0_1.length l0_1) (hc0_1 : l0_1.length ≤ c0_1) (hr1 : Kd.C (Kd.int .i64) w A1 l1.length l1) (hc1 : l1.length ≤ c1) (h : laws_FnExactOrderTopo.f k l0_0 l0_1 l1 = some r) :
    Calls Try.prog 4 #[.agg #[.slice A0_0 l0_0.length c0_0, .slice A0_1 l0_1.length c0_1], .slice A1 l1.length c1] w fun e w' => e = .returned (.bool r) ∧ Below w.heap.size w w' := by
  unfold laws_FnExactOrderTopo.f at h
  split at h
  · rename_i hb
    obtain rfl := Option.some.inj h
    by_cases h20 : (l1.length : Int) > 1048576
    · exact lw_FnExactOrderTopo_e0 A0_0 c0_0 l0_0 A0_1 c0_1 l0_1 A1 c1 l1 w hr0_0 hc0_0 hr0_1 hc0_1 hr1 hc1 h20
    · obtain ⟨K1, H1⟩ := (szSheet_ev l0_0 l0_1 hb.1 hb.2.1 hb.2.2 1048576 (by omega) (by omega)).rounds
      by_cases hc : ((szSh l0_0 l0_1 : Nat) : Int) ≤ 1048576
      · rw [leftOf_yes hc] at H1
        have hs : szSh l0_0 l0_1 ≤ 1048576 := by omega
        have hml : l0_0.length ≤ 1048576 := by unfold szSh at hs; omega
        obtain ⟨K2, H2⟩ := (toSheet_ev l0_0 l0_1 hs).rounds
        have hnl : nodL (cvL l0_1) ≤ 1048576 := nod_le_of_szSh hs
        have hcnt : Sh.cntL ((cvL l0_1).map shT) ≤ 1048576 := by rw [cntL_nodL]; exact hnl
        obtain ⟨K3, H3⟩ := (toIs_ev l1 (by omega)).rounds
        obtain ⟨K4, H4⟩ := (specOrder_ev l0_0 (cvL l0_1) l1 (by omega) (nod_mem_of_szSh hs)).rounds
        have H5 : impl_OrderTopo.f l0_0 (cvL l0_1) l1 = some (orderI l0_0 (cvL l0_1) l1) := rfl
        have hol := orderI_len l0_0 (cvL l0_1) l1
        generalize orderI l0_0 (cvL l0_1) l1 = R at H4 H5 hol
        obtain ⟨u, b⟩ := R
        simp only at hol
        obtain ⟨K6, H6⟩ := (eqIs_ev u (by omega)).rounds
        obtain ⟨K7, H7⟩ := (eqSheet_ev l0_0 (cvL l0_1) (by omega) (by omega)).rounds
        obtain ⟨K8, H8⟩ := (eqIs_ev l1 (by omega)).rounds
        obtain ⟨K9, H9⟩ := (markB_ev l0_0 1 (by omega) (by omega)).rounds
        obtain ⟨K10, H10⟩ := (markI_ev l1 (1 + (l0_0.length : Int) + 2 * (Sh.cntL ((cvL l0_1).map shT) : Int)) (by omega) (by omega)).rounds
        obtain ⟨K11, H11⟩ := (markI_ev u 1 (by omega) (by omega)).rounds
        obtain ⟨K12, H12⟩ := (heldI_ev u 1 (by omega) (by omega)).rounds
        exact lw_FnExactOrderTopo A0_0 c0_0 l0_0 A0_1 c0_1 l0_1 A1 c1 l1 w hr0_0 hc0_0 hr0_1 hc0_1 hr1 hc1 (by omega) _ _ _ _ _ _ _ _ _ _ _ _ K1 H1 K2 H2 K3 H3 K4 H4 H5 K6 H6 K7 H7 K8 H8 K9 H9 K10 H10 K11 H11 K12 H12 (by omega) (by omega) (by omega) (by omega) (by omega)
      · rw [leftOf_no hc] at H1
        exact lw_FnExactOrderTopo_e1 A0_0 c0_0 l0_0 A0_1 c0_1 l0_1 A1 c1 l1 w hr0_0 hc0_0 hr0_1 hc0_1 hr1 hc1 (by omega) _ K1 H1 (by omega)
  · cases h
theorem pure_FnExactOrderTopo (made : List Bool) (hm : made.length ≤ 9223372036854775807 ∧ ∀ x ∈ made, True) (tasks : List Lk) (hb : tasks.length ≤ 9223372036854775807 ∧ ∀ x ∈ tasks, bdT x) (l : List Int) (hv : l.length ≤ 9223372036854775807 ∧ ∀ x ∈ l, (Lit.int .i64 x).wf = true) : ∃ k, laws_FnExactOrderTopo.f k made tasks l = some true :=
  ⟨0, if_pos ⟨hm.1, hb.1, bdL_of hb.2⟩⟩
end Go.Proofs.Ythfemojaabejiaa.G
end
