-- Written by pack.py (ours): the claim's texts, cut down to what its theorem reaches.
import Derived.ChangeArms
import Derived.DataReads
import Derived.Lib.SmallJoins
import Derived.Deep.Slices
import Derived.Deep.Strs
import Derived.Test.YtofieekbhbkliaaKFnExactStateStart8
section
namespace Go.Proofs.YtofieekbhbkliaaW.OpenData
open Go.RowKit Go.Proofs.YtofieekbhbkliaaW.PrintWords
set_option linter.unusedVariables false
set_option linter.unusedSimpArgs false
def Opens (P : Program) (t : TypeId) {α : Type} (d : Kd α) (ex : α → Prop) (n : Nat) : Prop :=
  ∀ {H : Type} (enc : TypeId × Value → H) (w : World) (fuel : Nat) (cs : List Value) (x : DataW H × List MemPlace), fuel ≤ n →
    DataW.trod enc P w 0 (fun _ => true) true fuel t cs = some x → ∃ a, d.K w a cs ∧ ex a
theorem opens_int {P : Program} {t : TypeId} {k : IntKind} (ht : P.underlying t = some (.int k)) (n : Nat) : Opens P t (Kd.int k) (fun x => (Lit.int k x).wf = true) n := by
  intro H enc w fuel cs x _ h
  obtain ⟨m, rfl, _, hw⟩ := DataW.trod_int ht h
  exact ⟨m, rfl, hw⟩
theorem opens_bool {P : Program} {t : TypeId} (ht : P.underlying t = some .bool) (n : Nat) : Opens P t Kd.bool (fun _ => True) n := by
  intro H enc w fuel cs x _ h
  obtain ⟨m, rfl, _⟩ := DataW.trod_bool ht h
  exact ⟨m, rfl, trivial⟩
theorem list_of {α : Type} (p : Nat → α → Prop) (n : Nat) (h : ∀ i, i < n → ∃ x, p i x) : ∃ l : List α, l.length = n ∧ ∀ i x, l[i]? = some x → p i x := by
  induction n with
  | zero => exact ⟨[], rfl, fun i x h => by simp at h⟩
  | succ n ih =>
    obtain ⟨l, hl, hp⟩ := ih (fun i hi => h i (by omega))
    obtain ⟨y, hy⟩ := h n (by omega)
    refine ⟨l ++ [y], by simp [hl], fun i x hx => ?_⟩
    rcases Nat.lt_or_ge i l.length with hi | hi
    · rw [List.getElem?_append_left hi] at hx
      exact hp i x hx
    · have hi' : i = l.length := by
        have := (List.getElem?_eq_some_iff.1 hx).1
        simp at this
        omega
      subst hi'
      have : y = x := by simpa using hx
      subst this
      rw [hl]
      exact hy
theorem add_add_ (a : Addr) (i j : Nat) : (a.add i).add j = a.add (i + j) := Go.Deep.add_add a i j
theorem opens_slice {P : Program} {t e : TypeId} {α : Type} {d : Kd α} {ex : α → Prop} {n : Nat} (ht : P.underlying t = some (.slice e)) (hc : P.cellsOf e = d.sz) (h : Opens P e d ex n) :
    Opens P t (Kd.slice e d) (fun xs => xs.length ≤ maxLen ∧ ∀ x ∈ xs, ex x) (n + 1) := by
  intro H enc w fuel cs x hfu hr
  rcases DataW.trod_slice ht hr with ⟨rfl, _⟩ | ⟨a, len, cap, elems, rest, m, rfl, rfl, _, _, hl, hm, hlen, hel, _⟩
  · exact ⟨[], ⟨none, 0, rfl, Nat.le_refl _, rfl, by simp, fun h => absurd h (by simp)⟩, by simp, by simp⟩
  · have key : ∀ i, i < len → ∃ y : α, ex y ∧ ∃ c : List Value, c.length = d.sz ∧ d.K w y c ∧ ∀ j u, c[j]? = some u → w.cell? (a.add (i * d.sz + j)) = some u := by
      intro i hi
      have h1 := hel i hi
      rw [List.getElem?_eq_getElem (by omega)] at h1
      obtain ⟨cs', h2, h3⟩ := Option.bind_eq_some_iff.1 h1
      obtain ⟨y, hy, he⟩ := h enc w m cs' _ (by omega) h3
      obtain ⟨_, h4, h5⟩ := World.cells?_some h2
      refine ⟨y, he, cs', by rw [h4, hc], hy, fun j u hu => ?_⟩
      have hj : j < P.cellsOf e := by rw [← h4]; exact (List.getElem?_eq_some_iff.1 hu).1
      have h6 := h5 j hj
      rw [hu, add_add_, hc] at h6
      exact h6
    obtain ⟨xs, hxl, hxs⟩ := list_of (fun i y => ex y ∧ ∃ c : List Value, c.length = d.sz ∧ d.K w y c ∧ ∀ j u, c[j]? = some u → w.cell? (a.add (i * d.sz + j)) = some u) len key
    subst hxl
    refine ⟨xs, ⟨some a, cap, rfl, hl, rfl, ?_, fun _ => ⟨a, rfl, fun j p hj => (hxs j p hj).2⟩⟩, by omega, fun x hx => ?_⟩
    · have : maxLen = 9223372036854775807 := by decide
      omega
    · obtain ⟨i, hi, rfl⟩ := List.mem_iff_getElem.1 hx
      exact (hxs i _ (List.getElem?_eq_getElem hi)).1
theorem opens_imp {P : Program} {t : TypeId} {α : Type} {d : Kd α} {ex ex' : α → Prop} {n m : Nat} (h : Opens P t d ex n) (hm : m ≤ n) (hex : ∀ x, ex x → ex' x) : Opens P t d ex' m := by
  intro H enc w fuel cs x hfu hr
  obtain ⟨a, hK, he⟩ := h enc w fuel cs x (by omega) hr
  exact ⟨a, hK, hex a he⟩
theorem opens_struct3 {P : Program} {t : TypeId} {f0 f1 f2 : Field} {α β γ δ : Type} {d0 : Kd α} {d1 : Kd β} {d2 : Kd γ} {e0 : α → Prop} {e1 : β → Prop} {e2 : γ → Prop} {n : Nat} (g : δ → α × β × γ) (gi : α → β → γ → δ) (hg : ∀ a b c, g (gi a b c) = (a, b, c))
    (ht : P.underlying t = some (.struct #[f0, f1, f2])) (hs : P.cellsOf t = d0.sz + d1.sz + d2.sz) (o0 : f0.offset = 0) (o1 : f1.offset = d0.sz) (o2 : f2.offset = d0.sz + d1.sz) (c0 : P.cellsOf f0.type = d0.sz) (c1 : P.cellsOf f1.type = d1.sz) (c2 : P.cellsOf f2.type = d2.sz)
    (h0 : Opens P f0.type d0 e0 n) (h1 : Opens P f1.type d1 e1 n) (h2 : Opens P f2.type d2 e2 n) :
    Opens P t (Kd.iso (Kd.pair d0 (Kd.pair d1 d2)) g) (fun x => e0 (g x).1 ∧ e1 (g x).2.1 ∧ e2 (g x).2.2) (n + 1) := by
  intro H enc w fuel cs x hfu hr
  obtain ⟨xs, m, rfl, _, hl, hlen, hf⟩ := DataW.trod_struct ht hr
  match xs, hlen with
  | [y0, y1, y2], _ =>
    have r0 := hf 0 f0 rfl
    have r1 := hf 1 f1 rfl
    have r2 := hf 2 f2 rfl
    rw [o0, c0] at r0
    rw [o1, c1] at r1
    rw [o2, c2] at r2
    obtain ⟨a, hK0, he0⟩ := h0 enc w m _ _ (by omega) r0
    obtain ⟨b, hK1, he1⟩ := h1 enc w m _ _ (by omega) r1
    obtain ⟨c, hK2, he2⟩ := h2 enc w m _ _ (by omega) r2
    refine ⟨gi a b c, ?_, by simp only [hg]; exact ⟨he0, he1, he2⟩⟩
    show ∃ k0 k1, cs = k0 ++ k1 ∧ d0.K w (g (gi a b c)).1 k0 ∧ ∃ k2 k3, k1 = k2 ++ k3 ∧ d1.K w (g (gi a b c)).2.1 k2 ∧ d2.K w (g (gi a b c)).2.2 k3
    rw [hg]
    rw [List.drop_zero] at hK0
    refine ⟨cs.take d0.sz, cs.drop d0.sz, (List.take_append_drop _ _).symm, hK0, (cs.drop d0.sz).take d1.sz, (cs.drop d0.sz).drop d1.sz, (List.take_append_drop _ _).symm, hK1, ?_⟩
    rw [List.drop_drop]
    rw [List.take_of_length_le (by rw [List.length_drop]; omega)] at hK2
    exact hK2
theorem opens_fix {P : Program} {t : TypeId} {α : Type} {F : Kd α → Kd α} {sz : Nat} {E : List Nat} {hs : ∀ n, (Kd.upto F sz E n).sz = sz} {hE : ∀ n q, q ∈ (Kd.upto F sz E n).E → q ∈ E} {ex : α → Prop}
    (step : ∀ (d : Kd α) (n : Nat), d.sz = sz → Opens P t d ex n → Opens P t (F d) ex (n + 1)) (n : Nat) : Opens P t (Kd.fix F sz E hs hE) ex n := by
  have key : ∀ n, Opens P t (Kd.upto F sz E (n + 1)) ex n := by
    intro n
    induction n with
    | zero =>
      intro H enc w fuel cs x hfu hr
      obtain rfl : fuel = 0 := by omega
      simp [DataW.trod] at hr
    | succ n ih => exact step _ n (hs _) ih
  intro H enc w fuel cs x hfu hr
  obtain ⟨a, hK, he⟩ := key n enc w fuel cs x hfu hr
  exact ⟨a, ⟨_, hK⟩, he⟩
end Go.Proofs.YtofieekbhbkliaaW.OpenData
end
section
namespace Go.Proofs.Ytofieekbhbkliaa.G
open Go.RowKit Go.Proofs.YtofieekbhbkliaaW.PrintWords Go.Proofs.YtofieekbhbkliaaW.OpenData
set_option linter.unusedVariables false
mutual
def ex_t85 : S85 → Prop
  | ⟨_, _, ps⟩ => ps.length ≤ 9223372036854775807 ∧ ex_c85 ps
def ex_c85 : List S85 → Prop
  | [] => True
  | p :: ps => ex_t85 p ∧ ex_c85 ps
end
theorem ex_c85_of {ps : List S85} (h : ∀ p ∈ ps, ex_t85 p) : ex_c85 ps := by
  induction ps with
  | nil => simp [ex_c85]
  | cons q ps ih => simp only [ex_c85]; exact ⟨h q (by simp), ih (fun p hp => h p (by simp [hp]))⟩
theorem opens_t85 : ∀ n, Opens Try.prog 85 k85 ex_t85 n := fun n => opens_fix (fun d n hs h => opens_imp (opens_struct3 (fun x : S85 => (x.f0, x.f1, x.f2)) S85.mk (fun _ _ _ => rfl) Try.underlying85 (by kernel_rfl) rfl rfl rfl (by kernel_rfl) (by kernel_rfl) (by kernel_rfl) (opens_int Try.underlying3 (n + 1)) (opens_int Try.underlying3 (n + 1)) (opens_slice Try.underlying60 (by rw [hs]; kernel_rfl) h)) (by omega) (fun x hx => by
  cases x
  simp only [ex_t85]
  exact ⟨hx.2.2.1, ex_c85_of hx.2.2.2⟩)) n
def ex_sl85 (xs : List (S85)) : Prop := xs.length ≤ 9223372036854775807 ∧ ∀ x ∈ xs, (ex_t85) x
theorem opens_sl85 : ∀ n, Opens Try.prog 60 (Kd.slice 85 k85) ex_sl85 n := fun n => opens_imp (opens_slice Try.underlying60 (by kernel_rfl) ((opens_t85) n)) (Nat.le_succ n) (fun _ h => h)
def ex_sl4 (xs : List (Bool)) : Prop := xs.length ≤ 9223372036854775807 ∧ ∀ x ∈ xs, (fun _ : Bool => True) x
theorem opens_sl4 : ∀ n, Opens Try.prog 59 (Kd.slice 4 Kd.bool) ex_sl4 n := fun n => opens_imp (opens_slice Try.underlying59 (by kernel_rfl) ((fun n => opens_bool Try.underlying4 n) n)) (Nat.le_succ n) (fun _ h => h)
end Go.Proofs.Ytofieekbhbkliaa.G
end
section
namespace Go.Proofs.Ytofieekbhbkliaa.G
open Go.RowKit Go.Proofs.YtofieekbhbkliaaW.PrintWords
set_option linter.unusedVariables false
set_option linter.unusedSimpArgs false
abbrev Lk := S85
theorem lk_size (t p : Lk) (hp : p ∈ t.f2) : SizeOf.sizeOf p < SizeOf.sizeOf t := by
  have h := List.sizeOf_lt_of_mem hp
  cases t with
  | mk a b c => simp only [S85.mk.sizeOf_spec] at *; omega
theorem lk_ind {P : Lk → Prop} (h : ∀ t : Lk, (∀ p ∈ t.f2, P p) → P t) : ∀ t, P t := by
  intro t
  induction hn : SizeOf.sizeOf t using Nat.strongRecOn generalizing t with
  | _ n ih => exact h t (fun p hp => ih (SizeOf.sizeOf p) (by rw [← hn]; exact lk_size t p hp) p rfl)
theorem rd_lk (ps : List Lk) (i : Nat) (h : i < ps.length) : rd_T85 ps (i : Int) = ps[i] := by
  simp only [rd_T85, Int.toNat_natCast, List.getD_eq_getElem?_getD, List.getElem?_eq_getElem h, Option.getD_some]
abbrev bdT := ex_t85
abbrev bdL := ex_c85
mutual
def szT : Lk → Nat
  | ⟨_, _, ps⟩ => ps.length + szC ps
def szC : List Lk → Nat
  | [] => 0
  | p :: ps => szT p + szC ps
end
mutual
def cvT : Lk → Tk
  | ⟨k, n, ps⟩ => ⟨k, n, cvL ps⟩
def cvL : List Lk → List Tk
  | [] => []
  | p :: ps => cvT p :: cvL ps
end
theorem bdT_eq (t : Lk) : bdT t = (t.f2.length ≤ 9223372036854775807 ∧ bdL t.f2) := by cases t; simp [bdT, bdL, ex_t85]
theorem szT_eq (t : Lk) : szT t = t.f2.length + szC t.f2 := by cases t; simp [szT]
theorem cvT_eq (t : Lk) : cvT t = ⟨t.f0, t.f1, cvL t.f2⟩ := by cases t; simp [cvT]
theorem cvL_map (ps : List Lk) : cvL ps = ps.map cvT := by
  induction ps with
  | nil => simp [cvL]
  | cons p ps ih => simp [cvL, ih]
theorem cvL_length (ps : List Lk) : (cvL ps).length = ps.length := by rw [cvL_map, List.length_map]
theorem bdL_mem {ps : List Lk} (h : bdL ps) : ∀ p ∈ ps, bdT p := by
  induction ps with
  | nil => intro p hp; cases hp
  | cons q ps ih =>
    simp only [bdL, ex_c85] at h
    intro p hp
    rcases List.mem_cons.1 hp with rfl | hp
    · exact h.1
    · exact ih h.2 p hp
theorem bdL_of {ps : List Lk} (h : ∀ p ∈ ps, bdT p) : bdL ps := ex_c85_of h
theorem szC_mem {ps : List Lk} : ∀ p ∈ ps, szT p ≤ szC ps := by
  induction ps with
  | nil => intro p hp; cases hp
  | cons q ps ih =>
    intro p hp
    simp only [szC]
    rcases List.mem_cons.1 hp with rfl | hp
    · omega
    · have := ih p hp; omega
theorem nod_cv : ∀ t : Lk, nodT (cvT t) = 1 + szT t := by
  refine lk_ind fun t ih => ?_
  rw [cvT_eq, nodT_eq, szT_eq]
  congr 1
  show nodL (cvL t.f2) = t.f2.length + szC t.f2
  generalize t.f2 = ps at ih
  induction ps with
  | nil => simp [cvL, nodL, szC]
  | cons p ps ihp =>
    simp only [cvL, nodL, szC, List.length_cons]
    rw [ih p (by simp), ihp (fun q hq => ih q (by simp [hq]))]
    omega
theorem nodL_cv (ps : List Lk) : nodL (cvL ps) = ps.length + szC ps := by
  have h := nod_cv ⟨0, 0, ps⟩
  rw [cvT_eq, nodT_eq, szT_eq] at h
  simp only at h
  omega
def leftOf (n : Nat) (left : Int) : Int := if (n : Int) ≤ left then left - n else -1
theorem leftOf_yes {n : Nat} {left : Int} (h : (n : Int) ≤ left) : leftOf n left = left - n := if_pos h
theorem leftOf_no {n : Nat} {left : Int} (h : ¬ (n : Int) ≤ left) : leftOf n left = -1 := if_neg h
theorem leftOf_add {a b : Nat} {left : Int} (h : (a : Int) ≤ left) : leftOf b (left - a) = leftOf (a + b) left := by
  unfold leftOf
  split <;> split <;> omega
theorem leftOf_zero {left : Int} (h : 0 ≤ left) : leftOf 0 left = left := by unfold leftOf; split <;> omega
theorem leftOf_neg {n : Nat} {left : Int} (h0 : 0 ≤ left) : leftOf n left < 0 ↔ ¬ (n : Int) ≤ left := by unfold leftOf; split <;> omega
theorem szS_ev (n : Nat) : ∀ ps : List Lk, SizeOf.sizeOf ps ≤ n → ps.length ≤ 9223372036854775807 → bdL ps → ∀ left : Int, 0 ≤ left → left ≤ 1048576 →
    Ev (fun k => laws_szTaskS.f k ps left) (leftOf (ps.length + szC ps) left) := by
  induction n with
  | zero => intro ps h; cases ps <;> simp at h
  | succ n ih =>
    intro ps hsz hlen hbd left h0 h1
    have one : ∀ p ∈ ps, ∀ lf : Int, 0 ≤ lf → lf ≤ 1048576 → Ev (fun k => laws_szTask.f k p.f0 p.f1 p.f2 lf) (leftOf (szT p) lf) := by
      intro p hp lf g0 g1
      have hb := bdL_mem hbd p hp
      rw [bdT_eq] at hb
      have hs := List.sizeOf_lt_of_mem hp
      have hs2 : SizeOf.sizeOf p.f2 < SizeOf.sizeOf p := by
        cases p with
        | mk a b c => simp only [S85.mk.sizeOf_spec]; omega
      refine Ev.step (fun k => by rw [laws_szTask.f]) ?_
      refine Ev.bind (ih p.f2 (by omega) hb.1 hb.2 lf g0 g1) ?_
      rw [szT_eq]
      by_cases hc : leftOf (p.f2.length + szC p.f2) lf < 0
      · simp only [if_pos hc]
        rw [leftOf_no ((leftOf_neg g0).1 hc)]
        exact Ev.now _
      · simp only [if_neg hc]
        exact Ev.now _
    have loop : ps.length ≤ 1048576 → ∀ (d i : Nat) (lf : Int), d = ps.length - i → i ≤ ps.length → 0 ≤ lf → lf ≤ 1048576 → Ev (fun k => laws_szTaskS.l0 k ps lf (i : Int)) (leftOf (szC (ps.drop i)) lf) := by
      intro hl20 d
      induction d with
      | zero =>
        intro i lf hd hi g0 g1
        have e : i = ps.length := by omega
        subst e
        refine Ev.step (fun k => by rw [laws_szTaskS.l0]) ?_
        simp only [if_neg (show ¬ ((ps.length : Int) < (ps.length : Int)) by omega), List.drop_length, szC]
        exact Ev.eq (Ev.now lf) (leftOf_zero g0).symm
      | succ d ihd =>
        intro i lf hd hi g0 g1
        have hlt : i < ps.length := by omega
        have hmem : ps[i] ∈ ps := List.getElem_mem hlt
        rw [drop_tk ps i hlt, szC]
        refine Ev.step (fun k => by rw [laws_szTaskS.l0]) ?_
        simp only [if_pos (show (i : Int) < (ps.length : Int) by omega), if_pos (show (0 : Int) ≤ (i : Int) by omega), rd_lk ps i hlt]
        refine Ev.bind (one _ hmem lf g0 g1) ?_
        by_cases hc : (szT ps[i] : Int) ≤ lf
        · rw [leftOf_yes hc]
          simp only [if_neg (show ¬ (lf - (szT ps[i] : Int) < 0) by omega), wrap_nat i (by omega)]
          exact Ev.eq (ihd (i + 1) (lf - szT ps[i]) (by omega) (by omega) (by omega) (by omega)) (leftOf_add hc)
        · rw [leftOf_no hc]
          simp only [if_pos (show (-1 : Int) < 0 by omega)]
          exact Ev.eq (Ev.now (-1)) (leftOf_no (by omega)).symm
    refine Ev.step (fun k => by rw [laws_szTaskS.f]) ?_
    simp only [wrap_id (left - (ps.length : Int)) (by omega) (by omega)]
    by_cases hc : left - (ps.length : Int) < 0
    · simp only [if_pos hc]
      exact Ev.eq (Ev.now (-1)) (leftOf_no (by omega)).symm
    · simp only [if_neg hc]
      refine Ev.eq (loop (by omega) ps.length 0 (left - ps.length) (by omega) (by omega) (by omega) (by omega)) ?_
      rw [List.drop_zero]
      exact leftOf_add (by omega)
theorem szL_ev (ps : List Lk) (hlen : ps.length ≤ 9223372036854775807) (hbd : bdL ps) (left : Int) (h0 : 0 ≤ left) (h1 : left ≤ 1048576) :
    Ev (fun k => laws_szTaskS.f k ps left) (leftOf (ps.length + szC ps) left) := szS_ev (SizeOf.sizeOf ps) ps (Nat.le_refl _) hlen hbd left h0 h1
theorem toS_ev (n : Nat) : ∀ ps : List Lk, SizeOf.sizeOf ps ≤ n → ps.length + szC ps ≤ 1048576 → Ev (fun k => laws_toTaskS.f k ps) (cvL ps) := by
  induction n with
  | zero => intro ps h; cases ps <;> simp at h
  | succ n ih =>
    intro ps hsz hb
    have one : ∀ p ∈ ps, Ev (fun k => laws_toTask.f k p.f0 p.f1 p.f2) (p.f0, p.f1, cvL p.f2) := by
      intro p hp
      have hs := List.sizeOf_lt_of_mem hp
      have hs2 : SizeOf.sizeOf p.f2 < SizeOf.sizeOf p := by
        cases p with
        | mk a b c => simp only [S85.mk.sizeOf_spec]; omega
      have h3 := szC_mem p hp
      rw [szT_eq] at h3
      refine Ev.step (fun k => by rw [laws_toTask.f]) ?_
      refine Ev.bind (ih p.f2 (by omega) (by omega)) ?_
      exact Ev.now _
    have loop : ∀ (d i : Nat), d = ps.length - i → i ≤ ps.length → Ev (fun k => laws_toTaskS.l0 k ps (cvL (ps.take i) ++ List.replicate (ps.length - i) z90) (i : Int)) (cvL ps) := by
      intro d
      induction d with
      | zero =>
        intro i hd hi
        have e : i = ps.length := by omega
        subst e
        refine Ev.step (fun k => by rw [laws_toTaskS.l0]) ?_
        simp only [if_neg (show ¬ ((ps.length : Int) < (ps.length : Int)) by omega), Nat.sub_self, List.replicate_zero, List.append_nil, List.take_length]
        exact Ev.now _
      | succ d ihd =>
        intro i hd hi
        have hlt : i < ps.length := by omega
        have hmem : ps[i] ∈ ps := List.getElem_mem hlt
        have hl : (cvL (ps.take i) ++ List.replicate (ps.length - i) z90).length = ps.length := by simp [cvL_length]; omega
        refine Ev.step (fun k => by rw [laws_toTaskS.l0]) ?_
        simp only [if_pos (show (i : Int) < (ps.length : Int) by omega), if_pos (show (0 : Int) ≤ (i : Int) by omega), rd_lk ps i hlt, hl]
        refine Ev.bind (one _ hmem) ?_
        simp only [wrap_nat i (by omega), Int.toNat_natCast]
        have e : (cvL (ps.take i) ++ List.replicate (ps.length - i) z90).set i ⟨ps[i].f0, ps[i].f1, cvL ps[i].f2⟩ = cvL (ps.take (i + 1)) ++ List.replicate (ps.length - (i + 1)) z90 := by
          rw [List.set_append_right _ _ (by rw [cvL_length, List.length_take]; omega), cvL_length, List.length_take, Nat.min_eq_left (by omega), Nat.sub_self]
          rw [show ps.length - i = (ps.length - (i + 1)) + 1 by omega, List.replicate_succ, List.set_cons_zero, ← cvT_eq, List.take_succ_eq_append_getElem hlt]
          rw [cvL_map, cvL_map, List.map_append, List.map_singleton, List.append_assoc, List.singleton_append]
        rw [e]
        exact ihd (i + 1) (by omega) (by omega)
    refine Ev.step (fun k => by rw [laws_toTaskS.f]) ?_
    simp only [if_pos (show (0 : Int) ≤ (ps.length : Int) by omega), Int.toNat_natCast, if_pos (show ps.length ≤ 7036874417766 by omega)]
    have h := loop ps.length 0 (by omega) (by omega)
    simp only [List.take_zero, cvL, List.nil_append, Nat.sub_zero, Int.natCast_zero, Int.ofNat_zero] at h
    exact h
theorem toL_ev (ps : List Lk) (hb : ps.length + szC ps ≤ 1048576) : Ev (fun k => laws_toTaskS.f k ps) (cvL ps) := toS_ev (SizeOf.sizeOf ps) ps (Nat.le_refl _) hb
theorem eqS_ev (n : Nat) : ∀ ps : List Tk, SizeOf.sizeOf ps ≤ n → nodL ps ≤ 4000000000 → Ev (fun k => laws_eqTaskS.f k ps ps) true := by
  induction n with
  | zero => intro ps h; cases ps <;> simp at h
  | succ n ih =>
    intro ps hsz hb
    have hln := nodL_len ps
    have one : ∀ p ∈ ps, Ev (fun k => laws_eqTask.f k p.f0 p.f1 p.f2 p.f0 p.f1 p.f2) true := by
      intro p hp
      have hs := List.sizeOf_lt_of_mem hp
      have hs2 : SizeOf.sizeOf p.f2 < SizeOf.sizeOf p := by
        cases p with
        | mk a b c => simp only [S90.mk.sizeOf_spec]; omega
      have h3 := nodL_mem p hp
      rw [nodT_eq] at h3
      refine Ev.step (fun k => by rw [laws_eqTask.f]) ?_
      simp only [if_true]
      refine Ev.bind (ih p.f2 (by omega) (by omega)) ?_
      simp only [if_true]
      exact Ev.now true
    have loop : ∀ (d i : Nat), d = ps.length - i → i ≤ ps.length → Ev (fun k => laws_eqTaskS.l0 k ps ps (i : Int)) true := by
      intro d
      induction d with
      | zero =>
        intro i hd hi
        have e : i = ps.length := by omega
        subst e
        refine Ev.step (fun k => by rw [laws_eqTaskS.l0]) ?_
        simp only [if_neg (show ¬ ((ps.length : Int) < (ps.length : Int)) by omega)]
        exact Ev.now true
      | succ d ihd =>
        intro i hd hi
        have hlt : i < ps.length := by omega
        have hmem : ps[i] ∈ ps := List.getElem_mem hlt
        refine Ev.step (fun k => by rw [laws_eqTaskS.l0]) ?_
        simp only [if_pos (show (i : Int) < (ps.length : Int) by omega), if_pos (show (0 : Int) ≤ (i : Int) by omega), rd_tk ps i hlt]
        refine Ev.bind (one _ hmem) ?_
        simp only [if_true, wrap_nat i (by omega)]
        exact ihd (i + 1) (by omega) (by omega)
    refine Ev.step (fun k => by rw [laws_eqTaskS.f]) ?_
    simp only [if_true]
    exact loop ps.length 0 (by omega) (by omega)
theorem eqL_ev (ps : List Tk) (hb : nodL ps ≤ 4000000000) : Ev (fun k => laws_eqTaskS.f k ps ps) true := eqS_ev (SizeOf.sizeOf ps) ps (Nat.le_refl _) hb
end Go.Proofs.Ytofieekbhbkliaa.G
end
section
namespace Go.Proofs.Ytofieekbhbkliaa.G
open Go.RowKit Go.Proofs.YtofieekbhbkliaaW.PrintWords
set_option linter.unusedVariables false
set_option linter.unusedSimpArgs false
theorem allLoop {α : Type} (l : List α) (F : Nat → Int → Option Bool) (one : Nat → α → Option Bool) (p : α → Bool)
    (hend : ∀ k, F (k + 1) (l.length : Int) = some true)
    (hstep : ∀ k (i : Nat) (h : i < l.length), F (k + 1) (i : Int) = (one k l[i]).bind fun t => if t = true then F k ((i + 1 : Nat) : Int) else some false)
    (hone : ∀ x ∈ l, Ev (fun k => one k x) (p x)) : ∀ (d i : Nat), d = l.length - i → i ≤ l.length → Ev (fun k => F k (i : Int)) ((l.drop i).all p) := by
  intro d
  induction d with
  | zero =>
    intro i hd hi
    have e : i = l.length := by omega
    subst e
    refine Ev.step (fun k => hend k) ?_
    simp only [List.drop_length, List.all_nil]
    exact Ev.now true
  | succ d ihd =>
    intro i hd hi
    have hlt : i < l.length := by omega
    rw [drop_tk l i hlt, List.all_cons]
    refine Ev.step (fun k => hstep k i hlt) ?_
    refine Ev.bind (hone _ (List.getElem_mem hlt)) ?_
    cases hp : p l[i] with
    | true => simp only [if_true, Bool.true_and]; exact ihd (i + 1) (by omega) (by omega)
    | false => simp only [Bool.false_eq_true, if_false, Bool.false_and]; exact Ev.now false
theorem eqLoop {α : Type} (l : List α) (F : Nat → Int → Option Bool) (one : Nat → α → Option Bool)
    (hend : ∀ k, F (k + 1) (l.length : Int) = some true)
    (hstep : ∀ k (i : Nat) (h : i < l.length), F (k + 1) (i : Int) = (one k l[i]).bind fun t => if t = true then F k ((i + 1 : Nat) : Int) else some false)
    (hone : ∀ x ∈ l, Ev (fun k => one k x) true) : Ev (fun k => F k 0) true := by
  have h := allLoop l F one (fun _ => true) hend hstep hone l.length 0 (by omega) (by omega)
  simp only [List.drop_zero, List.all_eq_true, implies_true] at h
  exact Ev.eq h (by simp)
end Go.Proofs.Ytofieekbhbkliaa.G
end
section
namespace Go.Proofs.Ytofieekbhbkliaa.G
open Go.RowKit Go.Proofs.YtofieekbhbkliaaW.PrintWords Go.Proofs.YtofieekbhbkliaaW.PrintLast Go.Proofs.YtofieekbhbkliaaW.PrintMore
set_option linter.unusedVariables false
set_option linter.unusedSimpArgs false
abbrev Fk9 := S108
def mkF : List Fk9 → Int → List Fk9
  | [], _ => []
  | _ :: fs, a => ⟨a, a + 1⟩ :: mkF fs (a + 2)
theorem mkF_len (fs : List Fk9) (a : Int) : (mkF fs a).length = fs.length := by
  induction fs generalizing a with
  | nil => rfl
  | cons f fs ih => simp [mkF, ih]
theorem mkF_get (fs : List Fk9) : ∀ (a : Int) (i : Nat) (h : i < (mkF fs a).length), (mkF fs a)[i] = ⟨a + 2 * (i : Int), a + 2 * (i : Int) + 1⟩ := by
  induction fs with
  | nil => intro a i h; simp [mkF] at h
  | cons f fs ih =>
    intro a i h
    cases i with
    | zero => simp [mkF]
    | succ i =>
      simp only [mkF, List.getElem_cons_succ]
      rw [ih]
      congr 1 <;> omega
theorem mkF_take (fs : List Fk9) (a : Int) (i : Nat) (h : i < fs.length) : ((mkF fs a).take i ++ fs.drop i).set i ⟨a + 2 * (i : Int), a + 2 * (i : Int) + 1⟩ = (mkF fs a).take (i + 1) ++ fs.drop (i + 1) := by
  have hl : ((mkF fs a).take i).length = i := by rw [List.length_take, mkF_len]; omega
  rw [List.set_append_right _ _ (by omega), hl, Nat.sub_self, List.drop_eq_getElem_cons h, List.set_cons_zero, List.take_succ_eq_append_getElem (by rw [mkF_len]; exact h), mkF_get]
  simp
theorem rd_fk9 (l : List Fk9) (i : Nat) (h : i < l.length) : rd_T108 l (i : Int) = l[i] := by
  simp only [rd_T108, Int.toNat_natCast, List.getD_eq_getElem?_getD, List.getElem?_eq_getElem h, Option.getD_some]
theorem markF_loop (fs : List Fk9) (a : Int) (h0 : 0 ≤ a) (h1 : a + 2 * (fs.length : Int) ≤ 4611686018427387904) : ∀ (d i : Nat), d = fs.length - i → i ≤ fs.length → Ev (fun k => laws_markFetchS.l0 k ((mkF fs a).take i ++ fs.drop i) (a + 2 * (i : Int)) (i : Int)) (a + 2 * (fs.length : Int), mkF fs a) := by
  intro d
  induction d with
  | zero =>
    intro i hd hi
    have e : i = fs.length := by omega
    subst e
    refine Ev.step (fun k => by rw [laws_markFetchS.l0]) ?_
    have hl : (mkF fs a).take fs.length ++ fs.drop fs.length = mkF fs a := by rw [List.drop_length, List.append_nil, List.take_of_length_le (by rw [mkF_len]; exact Nat.le_refl _)]
    rw [hl]
    simp only [mkF_len, if_neg (show ¬ ((fs.length : Int) < (fs.length : Int)) by omega)]
    exact Ev.now _
  | succ d ih =>
    intro i hd hi
    have hlt : i < fs.length := by omega
    have hll : ((mkF fs a).take i ++ fs.drop i).length = fs.length := by rw [List.length_append, List.length_take, mkF_len, List.length_drop]; omega
    refine Ev.step (fun k => by rw [laws_markFetchS.l0]) ?_
    have ew : wrap64 (a + 2 * (i : Int) + 1) = a + 2 * (i : Int) + 1 := wrap_id _ (by omega) (by omega)
    have ew2 : wrap64 (a + 2 * (i : Int) + 1 + 1) = a + 2 * ((i + 1 : Nat) : Int) := by rw [wrap_id _ (by omega) (by omega)]; omega
    simp only [hll, if_pos (show (i : Int) < (fs.length : Int) by omega), if_pos (show (0 : Int) ≤ (i : Int) by omega), ew, ew2, Int.toNat_natCast, Option.bind_some, List.set_set, wrap_nat i (by omega)]
    have e : (rd_T108 (((mkF fs a).take i ++ fs.drop i).set i ⟨a + 2 * (i : Int), (rd_T108 ((mkF fs a).take i ++ fs.drop i) (i : Int)).f1⟩) (i : Int)).f0 = a + 2 * (i : Int) := by
      rw [rd_fk9 _ i (by rw [List.length_set, hll]; exact hlt), List.getElem_set_self]
    rw [e, mkF_take fs a i hlt]
    exact ih (i + 1) (by omega) (by omega)
theorem markF_ev (fs : List Fk9) (a : Int) (h0 : 0 ≤ a) (h1 : a + 2 * (fs.length : Int) ≤ 4611686018427387904) : Ev (fun k => laws_markFetchS.f k fs a) (a + 2 * (fs.length : Int), mkF fs a) := by
  unfold laws_markFetchS.f
  have h := markF_loop fs a h0 h1 fs.length 0 (by omega) (by omega)
  simpa using h
end Go.Proofs.Ytofieekbhbkliaa.G
end
section
namespace Go.Proofs.Ytofieekbhbkliaa.G
open Go.RowKit Go.Proofs.YtofieekbhbkliaaW.PrintWords Go.Proofs.YtofieekbhbkliaaW.PrintLast Go.Proofs.YtofieekbhbkliaaW.PrintMore
set_option linter.unusedVariables false
set_option linter.unusedSimpArgs false
abbrev Tr9 := S29
def cntTr (t : Tr9) : Nat := 1 + t.f1.length
def cntTrs : List Tr9 → Nat
  | [] => 0
  | t :: ts => cntTr t + cntTrs ts
def mkT (t : Tr9) (a : Int) : Tr9 := ⟨a, mkF t.f1 (a + 1), a + 1 + 2 * (t.f1.length : Int)⟩
def mkTs : List Tr9 → Int → List Tr9
  | [], _ => []
  | t :: ts, a => mkT t a :: mkTs ts (a + 2 * (cntTr t : Int))
theorem mkTs_len (ts : List Tr9) (a : Int) : (mkTs ts a).length = ts.length := by
  induction ts generalizing a with
  | nil => rfl
  | cons t ts ih => simp [mkTs, ih]
theorem cntTrs_take (ts : List Tr9) (i : Nat) (h : i < ts.length) : cntTrs (ts.take (i + 1)) = cntTrs (ts.take i) + cntTr ts[i] := by
  induction ts generalizing i with
  | nil => simp at h
  | cons s ss ih =>
    cases i with
    | zero => simp [cntTrs]
    | succ i =>
      have := ih i (by simpa using h)
      simp only [List.take_succ_cons, cntTrs, List.getElem_cons_succ, this]
      omega
theorem cntTrs_le (ts : List Tr9) (i : Nat) (h : i < ts.length) : cntTrs (ts.take i) + cntTr ts[i] ≤ cntTrs ts := by
  induction ts generalizing i with
  | nil => simp at h
  | cons s ss ih =>
    cases i with
    | zero => simp [cntTrs]
    | succ i =>
      have := ih i (by simpa using h)
      simp only [List.take_succ_cons, cntTrs, List.getElem_cons_succ]
      omega
theorem mkTs_get (ts : List Tr9) : ∀ (a : Int) (i : Nat) (h : i < ts.length), (mkTs ts a)[i]'(by rw [mkTs_len]; exact h) = mkT ts[i] (a + 2 * (cntTrs (ts.take i) : Int)) := by
  induction ts with
  | nil => intro a i h; simp at h
  | cons t ts ih =>
    intro a i h
    cases i with
    | zero => simp [mkTs, cntTrs]
    | succ i =>
      simp only [mkTs, List.getElem_cons_succ, List.take_succ_cons, cntTrs]
      rw [ih _ i (by simpa using h)]
      congr 1
      omega
theorem mkTs_step (ts : List Tr9) (a : Int) (i : Nat) (h : i < ts.length) : ((mkTs ts a).take i ++ ts.drop i).set i (mkT ts[i] (a + 2 * (cntTrs (ts.take i) : Int))) = (mkTs ts a).take (i + 1) ++ ts.drop (i + 1) := by
  have hl : ((mkTs ts a).take i).length = i := by rw [List.length_take, mkTs_len]; omega
  rw [List.set_append_right _ _ (by omega), hl, Nat.sub_self, List.drop_eq_getElem_cons h, List.set_cons_zero, List.take_succ_eq_append_getElem (by rw [mkTs_len]; exact h), mkTs_get ts a i h]
  simp
theorem mkTs_at (ts : List Tr9) (a : Int) (i : Nat) (h : i < ts.length) : ((mkTs ts a).take i ++ ts.drop i).getD i ⟨0, [], 0⟩ = ts[i] := by
  have hl : ((mkTs ts a).take i).length = i := by rw [List.length_take, mkTs_len]; omega
  rw [List.getD_eq_getElem?_getD, List.getElem?_append_right (by omega), hl, Nat.sub_self, List.getElem?_drop, Nat.add_zero, List.getElem?_eq_getElem h, Option.getD_some]
theorem mkTs_mid (ts : List Tr9) (a : Int) (i : Nat) : ((mkTs ts a).take i ++ ts.drop i).length = ts.length := by
  rw [List.length_append, List.length_take, mkTs_len, List.length_drop]; omega
end Go.Proofs.Ytofieekbhbkliaa.G
end
section
namespace Go.Proofs.Ytofieekbhbkliaa.G
open Go.RowKit Go.Proofs.YtofieekbhbkliaaW.PrintWords Go.Proofs.YtofieekbhbkliaaW.PrintLast Go.Proofs.YtofieekbhbkliaaW.PrintMore
set_option linter.unusedVariables false
set_option linter.unusedSimpArgs false
theorem S_seg0 {α : Type} {d : Kd α} {e base n cap g : Nat} {ok : Nat → Prop} {W : World} {xs : List α} {i : Int} (h : Kd.S d e W base ok (.slice (some ⟨g, 0, none⟩) n cap) xs) (z : α) (h0 : 0 ≤ i) (h1 : i < n) {seg : List Value} {j : Nat} (hj : j + seg.length ≤ d.sz) (hone : ∀ q ∈ seg, q.oneCell' = true)
    {x' : α} (hx : ∀ (oki : Nat → Prop) (c : List Value), d.M W base oki (xs.getD i.toNat z) c → d.M W base oki x' (c.take j ++ seg ++ c.drop (j + seg.length))) :
    Kd.S d e (W.setCells g (i.toNat * d.sz + j) seg) base ok (.slice (some ⟨g, 0, none⟩) n cap) (xs.set i.toNat x') ∧ W.grownBy (W.setCells g (i.toNat * d.sz + j) seg) (some g) := by
  have h' : Kd.S d e W base (fun k => ok k ∧ ¬ (fun _ => False) k) (.slice (some ⟨g, 0, none⟩) n cap) xs := Kd.S_mono h (fun k hk => ⟨hk, fun f => f⟩)
  obtain ⟨oki, c, hcl, hM, hcc, hfr, hoki, hH⟩ := Kd.S_elem h' z i h0 h1
  exact Kd.S_seg (okp := oki) hH h0 h1 hj (hx oki c hM) (fun _ hk => .inl hk) (fun _ hk => hk.elim)
set_option maxHeartbeats 8000000 in
set_option maxRecDepth 100000 in
theorem markTrace_w (ts : List Tr9) (a : Int) (h0 : 0 ≤ a) (h1 : a + 2 * (cntTrs ts : Int) ≤ 4611686018427387904) (P : Nat → Prop) (u : Value) (w0 w : World) (hB : Below w0.heap.size w0 w) (ho : Kd.S k29 29 w w0.heap.size P u ts) :
    Calls Try.prog 28 #[u, .int .i64 a] w fun e w' => e = .returned (.int .i64 (a + 2 * (cntTrs ts : Int))) ∧ Kd.S k29 29 w' w0.heap.size P u (mkTs ts a) ∧ Below w0.heap.size w0 w' ∧ Kept w w' P := by
  obtain ⟨A, c, rfl⟩ := Kd.S_slice ho
  have HO0 := Aside0.mk ho
  have HB0 := Aside0.mk hB
  have H0 := Aside0.mk (And.intro h0 h1)
  clear ho hB h0 h1
  go_enter Try.func28, Try.ntmps28
  go_wp2
  go_loopg [1, 5] ts.length (fun kq v1 v5 w' => ∃ (i : Nat) (x1 x5 : Int) (xs : List Tr9), v1 = .int .i64 x1 ∧ v5 = .int .i64 x5 ∧ Aside0 (x1 = a + 2 * (cntTrs (ts.take i) : Int)) ∧ Aside0 (x5 = (i : Int)) ∧ Aside0 (i + kq = ts.length) ∧ Aside0 (xs = (mkTs ts a).take i ++ ts.drop i) ∧ Aside0 (Kd.S k29 29 w' w0.heap.size P (.slice A ts.length c) xs) ∧ Aside0 (Below w0.heap.size w0 w') ∧ Aside0 (Kept w w' P))
  case atStart => exact ⟨0, a, 0, ts, rfl, rfl, ⟨by simp [cntTrs]⟩, ⟨rfl⟩, ⟨by omega⟩, ⟨by simp⟩, HO0, HB0, ⟨Kept.refl _ _⟩⟩
  case round =>
    obtain ⟨i, x1, x5, xs, rfl, rfl, HX1, HX5, HIK, HXS, HO, HB, HK⟩ := hrel
    cases gk with
    | zero =>
      have hb : decide (x5 < (ts.length : Int)) = false := decide_eq_false (by have := HX5.out; have := HIK.out; omega)
      have HE : Aside0 (x1 = a + 2 * (cntTrs ts : Int)) := ⟨by have h1 := HX1.out; have h2 := HIK.out; rw [List.take_of_length_le (by omega)] at h1; exact h1⟩
      have HE2 : Aside0 (xs = mkTs ts a) := ⟨by have h2 := HIK.out; rw [HXS.out, List.drop_of_length_le (by omega), List.append_nil, List.take_of_length_le (by rw [mkTs_len]; omega)]⟩
      clear HX1
      go_wp2
      go_ret
      exact ⟨by rw [HE.out]; rfl, by rw [← HE2.out]; exact HO.out, HB.out, HK.out⟩
    | succ gk =>
      have HLT : Aside0 (i < ts.length) := ⟨by have := HIK.out; omega⟩
      have hb : decide (x5 < (ts.length : Int)) = true := decide_eq_true (by have := HX5.out; have := HLT.out; omega)
      have HC := Aside0.mk (cntTrs_le ts i HLT.out)
      have HC2 := Aside0.mk (cntTrs_take ts i HLT.out)
      have HAT : Aside0 (xs.getD x5.toNat ⟨0, [], 0⟩ = ts[i]'HLT.out) := ⟨by rw [HXS.out, HX5.out, Int.toNat_natCast]; exact mkTs_at ts a i HLT.out⟩
      have HLN : Aside0 (xs.length = ts.length) := ⟨by rw [HXS.out]; exact mkTs_mid ts a i⟩
      have hp : 0 ≤ x5 := by have := HX5.out; omega
      have hq : x5 < (ts.length : Int) := by have := HX5.out; have := HLT.out; omega
      have HP := Aside0.mk hp
      have HQ := Aside0.mk hq
      obtain ⟨g, cap, e, hbg, _, _, _⟩ := Kd.S_form HO.out (by have := HLT.out; have := HLN.out; omega)
      have hAe : A = some ⟨g, 0, none⟩ := by injection e
      subst hAe
      have hOKg := (Kd.S_R HO.out).1 g rfl
      have HG := Aside0.mk (And.intro hOKg hbg)
      clear hOKg hbg e
      generalize hti : ts[i]'HLT.out = ti at HAT HC HC2
      have HTI := Aside0.mk hti
      clear hti
      obtain ⟨oki, ce, hcl, hM, hcc, hfr, hoki, hH⟩ := Kd.S_elem HO.out ⟨0, [], 0⟩ x5 hp hq
      rw [HAT.out] at hM
      obtain ⟨v1, rfl, hR1⟩ := k29_openM hM
      have hx0 : wr.cell? ⟨g, x5.toNat * 3, none⟩ = some (.int .i64 ti.f0) := hcc 0 _ rfl
      have hf0 : wr.frozen? ⟨g, x5.toNat * 3, none⟩ = false := hfr 0
      clear hcl hcc hfr hM hoki hH hR1
      have hp' : (0 ≤ x5) = True := eq_true hp
      have hq' : (x5 < (ts.length : Int)) = True := eq_true hq
      clear hp hq
      have HS1 := Aside0.mk (S_seg0 (i := x5) HO.out ⟨0, [], 0⟩ HP.out HQ.out (seg := [.int .i64 x1]) (j := 0) (show 0 + 1 ≤ 3 from by decide) (by intro q hq; rw [List.mem_singleton.1 hq]; rfl) (x' := (⟨x1, ti.f1, ti.f2⟩ : Tr9)) (fun oki c hM => by rw [HAT.out] at hM; obtain ⟨v1, rfl, hR1⟩ := k29_openM hM; exact k29_mkM _ _ _ (⟨x1, ti.f1, ti.f2⟩ : Tr9) hR1))
      go_wp2_with (first
        | ((with_reducible refine gate_store (t := 3) (p := 16) rfl ?_); refine store_event (t := 3) (p := 16) (v := ?vo_1) (w1 := (wr.setCell ⟨g, x5.toNat * 3, none⟩ (.int .i64 x1))) ?hg ?ho ?hn ?hr ?_; (case ho => rfl); (case hg => rfl); (case hn => rfl); (case hr => first | (go_simp; done) | (go_simp; rfl)); intro w9 hw;
           have hg := HS1.out.2; have hs := HS1.out.1; have hw' : wr.setCells g (x5.toNat * 3 + 0) [.int .i64 x1] = w9 := hw.symm; rw [show k29.sz = 3 from rfl, hw'] at hg hs;
           have HO9 := Aside0.mk hs; have HB9 := Aside0.mk (pw_below_grown HB.out (some g) HB.out.size hg (fun k e => by injection e with e; rw [← e]; exact HG.out.2)); have HK9 := Aside0.mk (Kept.of_grown (S := P) hg HK.out (fun k e => by injection e with e; rw [← e]; exact .inl HG.out.1)); clear hw hw' hg hs HS1 hx0 hf0;
           have HAT9 : Aside0 ((xs.set x5.toNat (⟨x1, ti.f1, ti.f2⟩ : Tr9)).getD x5.toNat ⟨0, [], 0⟩ = ⟨x1, ti.f1, ti.f2⟩) := ⟨by rw [List.getD_eq_getElem?_getD, List.getElem?_set_self (by have h1 := HP.out; have h2 := HQ.out; have h3 := HLN.out; omega), Option.getD_some]⟩;
           obtain ⟨oki, ce, hcl, hM, hcc, hfr, hoki, hH⟩ := Kd.S_elem HO9.out ⟨0, [], 0⟩ x5 HP.out HQ.out; rw [HAT9.out] at hM; obtain ⟨v1, rfl, hR1⟩ := k29_openM hM; obtain ⟨Av, cv, rfl⟩ := Kd.R_slice hR1;
           have hx1 : w9.cell? ⟨g, x5.toNat * 3 + 1, none⟩ = some (.slice Av ti.f1.length cv) := hcc 1 _ rfl; have HR1 := Aside0.mk hR1; have HH := Aside0.mk hH; have HOI := Aside0.mk hoki; clear hcl hcc hfr hM hR1 hH hoki))
      have HRT := Aside0.mk (Kd.R_tight rfl HR1.out)
      obtain ⟨km, hkm⟩ := (markF_ev ti.f1 (wrap64 (x1 + 1)) (by have h1 := HX1.out; have h2 := H0.out; have h3 := HC.out; unfold wrap64; simp only [cntTr] at h3; omega) (by have h1 := HX1.out; have h2 := H0.out; have h3 := HC.out; unfold wrap64; simp only [cntTr] at h3; omega)).rounds
      have HCALL := Aside0.mk (laws_markFetchS.calls km (fun k => some k = (Value.slice Av ti.f1.length cv).ownBlock) (.slice Av ti.f1.length cv) ti.f1 (wrap64 (x1 + 1)) _ _ w0 w9 HB9.out HRT.out hkm)
      clear hkm
      with_reducible refine HCALL.out.mono ?_
      rintro e w1 ⟨rfl, hr, hb, hk⟩
      have hH2 := Kd.H_kept HH.out hk (fun k ho hn hs => hn (HR1.out.1 k hs.symm))
      have hM2 := k29_mkM w1 w0.heap.size oki (⟨x1, mkF ti.f1 (wrap64 (x1 + 1)), ti.f2⟩ : Tr9) (Kd.R_mono (Kd.R_tight rfl hr) (fun k e => HR1.out.1 k e.symm))
      have HOA := Aside0.mk (Kd.H_back hH2 hM2 (fun _ h => h))
      have HBA := Aside0.mk hb
      have HKA := Aside0.mk (HK9.out.then_ hk (fun k e => .inl (HOI.out k (HR1.out.1 k e.symm)).1))
      clear hH2 hM2 hr hb hk HCALL HRT hx1
      have HATA : Aside0 (((xs.set x5.toNat (⟨x1, ti.f1, ti.f2⟩ : Tr9)).set x5.toNat (⟨x1, mkF ti.f1 (wrap64 (x1 + 1)), ti.f2⟩ : Tr9)).getD x5.toNat ⟨0, [], 0⟩ = ⟨x1, mkF ti.f1 (wrap64 (x1 + 1)), ti.f2⟩) := ⟨by rw [List.getD_eq_getElem?_getD, List.getElem?_set_self (by rw [List.length_set]; have h1 := HP.out; have h2 := HQ.out; have h3 := HLN.out; omega), Option.getD_some]⟩
      obtain ⟨oki2, ce2, hcl2, hM2, hcc2, hfr2, hoki2, hH2⟩ := Kd.S_elem HOA.out ⟨0, [], 0⟩ x5 HP.out HQ.out
      rw [HATA.out] at hM2
      obtain ⟨v2, rfl, hR2⟩ := k29_openM hM2
      have hx2 : w1.cell? ⟨g, x5.toNat * 3 + 2, none⟩ = some (.int .i64 ti.f2) := hcc2 2 _ rfl
      have hf2 : w1.frozen? ⟨g, x5.toNat * 3 + 2, none⟩ = false := hfr2 2
      clear hcl2 hcc2 hfr2 hM2 hoki2 hH2 hR2
      have HS2 := Aside0.mk (S_seg0 (i := x5) HOA.out ⟨0, [], 0⟩ HP.out HQ.out (seg := [.int .i64 (wrap64 (x1 + 1) + 2 * (ti.f1.length : Int))]) (j := 2) (show 2 + 1 ≤ 3 from by decide) (by intro q hq; rw [List.mem_singleton.1 hq]; rfl) (x' := (⟨x1, mkF ti.f1 (wrap64 (x1 + 1)), wrap64 (x1 + 1) + 2 * (ti.f1.length : Int)⟩ : Tr9)) (fun oki c hM => by rw [HATA.out] at hM; obtain ⟨v1, rfl, hR1⟩ := k29_openM hM; exact k29_mkM _ _ _ (⟨x1, mkF ti.f1 (wrap64 (x1 + 1)), wrap64 (x1 + 1) + 2 * (ti.f1.length : Int)⟩ : Tr9) hR1))
      go_wp2_with (first
        | ((with_reducible refine gate_store (t := 3) (p := 30) rfl ?_); refine store_event (t := 3) (p := 30) (v := ?vo_3) (w1 := (w1.setCell ⟨g, x5.toNat * 3 + 2, none⟩ (.int .i64 (wrap64 (x1 + 1) + 2 * (ti.f1.length : Int))))) ?hg ?ho ?hn ?hr ?_; (case ho => rfl); (case hg => rfl); (case hn => rfl); (case hr => first | (go_simp; done) | (go_simp; rfl)); intro w12 hw;
           have hg := HS2.out.2; have hs := HS2.out.1; have hw' : w1.setCells g (x5.toNat * 3 + 2) [.int .i64 (wrap64 (x1 + 1) + 2 * (ti.f1.length : Int))] = w12 := hw.symm; rw [show k29.sz = 3 from rfl, hw'] at hg hs;
           have HOB := Aside0.mk hs; have HBB := Aside0.mk (pw_below_grown HBA.out (some g) HBA.out.size hg (fun k e => by injection e with e; rw [← e]; exact HG.out.2)); have HKB := Aside0.mk (Kept.of_grown (S := P) hg HKA.out (fun k e => by injection e with e; rw [← e]; exact .inl HG.out.1)); clear hw hw' hg hs HS2 hx2 hf2))
      go_roundg gk
      case measure => omega
      case rel => exact ⟨i + 1, _, _, _, rfl, rfl, ⟨by have h1 := HX1.out; have h2 := H0.out; have h3 := HC.out; have h4 := HC2.out; unfold wrap64; simp only [cntTr] at h3 h4; omega⟩, ⟨by have h1 := HX5.out; have h2 := HLT.out; have h3 := HLN.out; have h4 := (Kd.S_reads' HOB.out).2.2.2.1; unfold wrap64; simp only [List.length_set] at h4; omega⟩, ⟨by have := HIK.out; omega⟩, ⟨by
        have h1 := HX1.out
        have h2 := H0.out
        have h3 := HC.out
        simp only [cntTr] at h3
        have ew : wrap64 (x1 + 1) = x1 + 1 := wrap_id _ (by omega) (by omega)
        have hs := mkTs_step ts a i HLT.out
        rw [HTI.out, ← h1] at hs
        rw [List.set_set, List.set_set, HX5.out, Int.toNat_natCast, ew, HXS.out, ← hs]
        rfl⟩, HOB, HBB, HKB⟩
end Go.Proofs.Ytofieekbhbkliaa.G
end
section
namespace Go.Proofs.Ytofieekbhbkliaa.G
open Go.RowKit Go.Proofs.YtofieekbhbkliaaW.PrintWords Go.Proofs.YtofieekbhbkliaaW.PrintLast Go.Proofs.YtofieekbhbkliaaW.PrintMore
set_option linter.unusedVariables false
set_option linter.unusedSimpArgs false
def laws_markTraceS.f (l : List S29) (a : Int) : Option (Int × List S29) := if 0 ≤ a ∧ a + 2 * (cntTrs l : Int) ≤ 4611686018427387904 then some (a + 2 * (cntTrs l : Int), mkTs l a) else none
end Go.Proofs.Ytofieekbhbkliaa.G
end
section
namespace Go.Proofs.Ytofieekbhbkliaa.G
open Go.RowKit Go.Proofs.YtofieekbhbkliaaW.PrintWords Go.Proofs.YtofieekbhbkliaaW.PrintLast Go.Proofs.YtofieekbhbkliaaW.PrintMore
set_option linter.unusedVariables false
set_option linter.unusedSimpArgs false
set_option maxHeartbeats 8000000 in
set_option maxRecDepth 100000 in
theorem lwState (k0 k1 k2 : Nat) {W0 W : World} {lo hi : Nat} {v0 v1 v2 v3 : Value} {l0 m0 : List Int} {l1 m1 : List Bool} {l2 m2 : List Int} {l3 m3 : List S29} {a r0 r1 r2 r3 : Int} (hB : Below W0.heap.size W0 W)
    (h0 : OwnI (Kd.int .i64) 3 W0 W lo hi v0 l0) (h1 : OwnI Kd.bool 4 W0 W lo hi v1 l1) (h2 : OwnI (Kd.int .i64) 3 W0 W lo hi v2 l2) (h3 : OwnS k29 29 W0 W lo hi v3 l3) (hne : ∀ k, v0.ownBlock = some k → some k ≠ v2.ownBlock)
    (hf0 : laws_markIntS.f k0 l0 a = some (r0, m0)) (hf1 : laws_markBoolS.f k1 l1 r0 = some (r1, m1)) (hf2 : laws_markIntS.f k2 l2 r1 = some (r2, m2)) (hf3 : laws_markTraceS.f l3 r2 = some (r3, m3)) :
    Calls Try.prog 50 #[.agg #[v0, v1, v2, v3], .int .i64 a] W fun e W' => e = .returned (.int .i64 r3) ∧ OwnI (Kd.int .i64) 3 W0 W' lo hi v0 m0 ∧ OwnI Kd.bool 4 W0 W' lo hi v1 m1 ∧ OwnI (Kd.int .i64) 3 W0 W' lo hi v2 m2 ∧ OwnS k29 29 W0 W' lo hi v3 m3 ∧ Below W0.heap.size W0 W' ∧ Kept W W' (fun k => lo ≤ k ∧ k < hi) := by
  obtain ⟨A0, c0, rfl⟩ := h0.slice
  obtain ⟨A1, c1, rfl⟩ := h1.slice
  obtain ⟨A2, c2, rfl⟩ := h2.slice
  obtain ⟨A3, c3, rfl⟩ := h3.slice
  have hu := Try.underlying72
  have hbx := heap_alloc_new W (.cells #[.slice A0 l0.length c0, .slice A1 l1.length c1, .slice A2 l2.length c2, .slice A3 l3.length c3] 72)
  have hB1 := below_alloc hB (.cells #[.slice A0 l0.length c0, .slice A1 l1.length c1, .slice A2 l2.length c2, .slice A3 l3.length c3] 72)
  have q0 := h0.alloc (.cells #[.slice A0 l0.length c0, .slice A1 l1.length c1, .slice A2 l2.length c2, .slice A3 l3.length c3] 72)
  have q1 := h1.alloc (.cells #[.slice A0 l0.length c0, .slice A1 l1.length c1, .slice A2 l2.length c2, .slice A3 l3.length c3] 72)
  have q2 := h2.alloc (.cells #[.slice A0 l0.length c0, .slice A1 l1.length c1, .slice A2 l2.length c2, .slice A3 l3.length c3] 72)
  have q3 := h3.alloc (.cells #[.slice A0 l0.length c0, .slice A1 l1.length c1, .slice A2 l2.length c2, .slice A3 l3.length c3] 72)
  have CK := Aside0.mk (lwIntT k0 hB1 q0 hf0)
  have H0 := Aside0.mk q0
  have H1 := Aside0.mk q1
  have H2 := Aside0.mk q2
  have H3 := Aside0.mk q3
  have BX := Aside0.mk hbx
  have HHI := Aside0.mk h0.2.1
  have HNE := Aside0.mk hne
  have HNE2 := Aside0.mk (fun (k : Nat) (e : (Value.slice A2 l2.length c2).ownBlock = some k) => fun (e2 : some k = (Value.slice A0 l0.length c0).ownBlock) => hne k e2.symm e.symm)
  have KA := Aside0.mk ((Kept.refl W (fun k => lo ≤ k ∧ k < hi)).alloc (.cells #[.slice A0 l0.length c0, .slice A1 l1.length c1, .slice A2 l2.length c2, .slice A3 l3.length c3] 72))
  have F1 := Aside0.mk hf1
  have F2 := Aside0.mk hf2
  have F3 := Aside0.mk hf3
  have hx0 : (W.alloc (.cells #[.slice A0 l0.length c0, .slice A1 l1.length c1, .slice A2 l2.length c2, .slice A3 l3.length c3] 72)).cell? ⟨W.heap.size, 0, none⟩ = some (.slice A0 l0.length c0) := (blk_cell hbx 0).trans rfl
  clear h0 h1 h2 h3 hf0 hf1 hf2 hf3 hbx hB hB1 hne q0 q1 q2 q3
  go_enter Try.func50, Try.ntmps50
  go_wp2_with fail
  with_reducible refine CK.out.mono ?_
  rintro e w1 ⟨rfl, ho, hb, hk⟩
  have BX1 := Aside0.mk (blk_kept BX.out hk (fun h => by have h1 := h.2.2; have h2 := HHI.out; omega))
  have n0 := Aside0.mk ho
  have n1 := Aside0.mk (H1.out.apartT H0.out.2.2 (by decide) hk)
  have n2 := Aside0.mk (H2.out.apart rfl hk HNE2.out)
  have n3 := Aside0.mk (H3.out.apartT H0.out.2.2 (by decide) hk)
  have KA1 := Aside0.mk (KA.out.then_ hk (fun k h => .inl h.2))
  have HB1 := Aside0.mk hb
  clear CK ho hb hk H0 H1 H2 H3 BX KA hx0
  have hx1 : w1.cell? ⟨W.heap.size, 1, none⟩ = some (.slice A1 l1.length c1) := (blk_cell BX1.out 1).trans rfl
  have CK := Aside0.mk (lwBoolT k1 HB1.out n1.out F1.out)
  go_wp2_with fail
  with_reducible refine CK.out.mono ?_
  rintro e w2 ⟨rfl, ho, hb, hk⟩
  have BX2 := Aside0.mk (blk_kept BX1.out hk (fun h => by have h1 := h.2.2; have h2 := HHI.out; omega))
  have p0 := Aside0.mk (n0.out.apart rfl hk (own_ne n0.out.2.2 n1.out.2.2 (by decide)))
  have p1 := Aside0.mk ho
  have p2 := Aside0.mk (n2.out.apart rfl hk (own_ne n2.out.2.2 n1.out.2.2 (by decide)))
  have p3 := Aside0.mk (n3.out.apartT n1.out.2.2 (by decide) hk)
  have KA2 := Aside0.mk (KA1.out.then_ hk (fun k h => .inl h.2))
  have HB2 := Aside0.mk hb
  clear CK ho hb hk n0 n1 n2 n3 BX1 KA1 HB1 hx1
  have hx2 : w2.cell? ⟨W.heap.size, 2, none⟩ = some (.slice A2 l2.length c2) := (blk_cell BX2.out 2).trans rfl
  have CK := Aside0.mk (lwIntT k2 HB2.out p2.out F2.out)
  go_wp2_with fail
  with_reducible refine CK.out.mono ?_
  rintro e w3 ⟨rfl, ho, hb, hk⟩
  have BX3 := Aside0.mk (blk_kept BX2.out hk (fun h => by have h1 := h.2.2; have h2 := HHI.out; omega))
  have u0 := Aside0.mk (p0.out.apart rfl hk HNE.out)
  have u1 := Aside0.mk (p1.out.apart rfl hk (own_ne p1.out.2.2 p2.out.2.2 (by decide)))
  have u2 := Aside0.mk ho
  have u3 := Aside0.mk (p3.out.apartT p2.out.2.2 (by decide) hk)
  have KA3 := Aside0.mk (KA2.out.then_ hk (fun k h => .inl h.2))
  have HB3 := Aside0.mk hb
  clear CK ho hb hk p0 p1 p2 p3 BX2 KA2 HB2 hx2
  have hx3 : w3.cell? ⟨W.heap.size, 3, none⟩ = some (.slice A3 l3.length c3) := (blk_cell BX3.out 3).trans rfl
  have hs := Kd.S_apart' (Kd.S_apart' (Kd.S_apart' u3.out.2.2 (Kd.R_typed u0.out.2.2) (by decide)) (Kd.R_typed u1.out.2.2) (by decide)) (Kd.R_typed u2.out.2.2) (by decide)
  have hf3 := F3.out
  unfold laws_markTraceS.f at hf3
  split at hf3
  · rename_i hc
    injection hf3 with hf3
    injection hf3 with e1 e2
    subst e1 e2
    have CK := Aside0.mk (markTrace_w l3 r2 hc.1 hc.2 _ _ W0 w3 HB3.out hs)
    clear hs F1 F2 F3 hc
    go_wp2_with fail
    with_reducible refine CK.out.mono ?_
    rintro e w4 ⟨rfl, ho, hb, hk⟩
    have x0 := Aside0.mk (show OwnI (Kd.int .i64) 3 W0 w4 lo hi (.slice A0 l0.length c0) m0 from ⟨u0.out.1, Nat.le_trans u0.out.2.1 hk.1, Kd.R_mono (Kd.R_kept (u0.out.tight rfl) hk (fun k h1 h2 => h2.1.1.2 h1.1)) (fun k h => h.2)⟩)
    have x1 := Aside0.mk (show OwnI Kd.bool 4 W0 w4 lo hi (.slice A1 l1.length c1) m1 from ⟨u1.out.1, Nat.le_trans u1.out.2.1 hk.1, Kd.R_mono (Kd.R_kept (u1.out.tight rfl) hk (fun k h1 h2 => h2.1.2 h1.1)) (fun k h => h.2)⟩)
    have x2 := Aside0.mk (show OwnI (Kd.int .i64) 3 W0 w4 lo hi (.slice A2 l2.length c2) m2 from ⟨u2.out.1, Nat.le_trans u2.out.2.1 hk.1, Kd.R_mono (Kd.R_kept (u2.out.tight rfl) hk (fun k h1 h2 => h2.2 h1.1)) (fun k h => h.2)⟩)
    have x3 := Aside0.mk (show OwnS k29 29 W0 w4 lo hi (.slice A3 l3.length c3) (mkTs l3 r2) from ⟨u3.out.1, Nat.le_trans u3.out.2.1 hk.1, Kd.S_mono ho (fun k h => h.1.1.1)⟩)
    have KA4 := Aside0.mk (KA3.out.then_ hk (fun k h => .inl h.1.1.1))
    have HB4 := Aside0.mk hb
    clear CK ho hb hk u0 u1 u2 u3 BX3 KA3 HB3 hx3
    go_wp2
    go_ret
    exact ⟨rfl, x0.out, x1.out, x2.out, x3.out, HB4.out, KA4.out⟩
  · cases hf3
end Go.Proofs.Ytofieekbhbkliaa.G
end
section
namespace Go.Proofs.Ytofieekbhbkliaa.G
open Go.RowKit Go.Proofs.YtofieekbhbkliaaW.PrintWords Go.Proofs.YtofieekbhbkliaaW.PrintLast Go.Proofs.YtofieekbhbkliaaW.PrintMore
set_option linter.unusedVariables false
set_option linter.unusedSimpArgs false
set_option maxHeartbeats 8000000 in
set_option maxRecDepth 100000 in
theorem lw_FnExactStateStart (A0_0 : Option Addr) (c0_0 : Nat) (l0_0 : List (Bool)) (A0_1 : Option Addr) (c0_1 : Nat) (l0_1 : List (S85)) (w : World) (hr0_0 : Kd.C Kd.bool w A0_0 l0_0.length l0_0) (hc0_0 : l0_0.length ≤ c0_0) (hr0_1 : Kd.C k85 w A0_1 l0_1.length l0_1) (hc0_1 : l0_1.length ≤ c0_1)  (r1 : Int) (r2 : List Bool) (r3 : List (S90)) (r4 : List Int) (r5 : List Bool) (r6 : List Int) (r7 : List (S29)) (r8 : Bool) (m9 : List Bool) (k10 : Int) (m11 : List Int) (k12 : Int) (m13 : List Bool) (k14 : Int) (m15 : List Int) (k16 : Int) (m17 : List (S29)) (k18 : Int) (K1 : Nat) (H1 : laws_szSheet.f K1 l0_0 l0_1 1048576 = some r1) (K2 : Nat) (H2 : laws_toSheet.f K2 l0_0 l0_1 = some (r2, r3)) (K3 : Nat) (H3 : spec_StateStart.f K3 r2 r3 = some (r4, r5, r6, r7, r8)) (K4 : Nat) (H4 : impl_StateStart.f K4 r2 r3 = some (r4, r5, r6, r7, r8)) (K5 : Nat) (H5 : laws_eqState.f K5 r4 r5 r6 r7 r4 r5 r6 r7 = some true) (K6 : Nat) (H6 : laws_eqSheet.f K6 r2 r3 r2 r3 = some true) (K7 : Nat) (H7 : laws_markBoolS.f K7 r2 1 = some (k10, m9)) (K8 : Nat) (H8 : laws_markIntS.f K8 r4 1 = some (k12, m11)) (K9 : Nat) (H9 : laws_markBoolS.f K9 r5 k12 = some (k14, m13)) (K10 : Nat) (H10 : laws_markIntS.f K10 r6 k14 = some (k16, m15)) (H11 : laws_markTraceS.f r7 k16 = some (k18, m17)) (K12 : Nat) (H12 : laws_heldState.f K12 m11 m13 m15 m17 1 = some k18) (hx_1 : 0 ≤ r1) (hx_2 : 0 ≤ k10) (hx_3 : k10 + 2 * (Sh.cntL (r3.map shT) : Int) ≤ 4611686018427387904) (hx_4 : 0 ≤ k18) :
   Calls Try.prog 10 #[.agg #[.slice A0_0 l0_0.length c0_0, .slice A0_1 l0_1.length c0_1]] w fun e w' => e = .returned (.bool true) ∧ Below w.heap.size w w' := by
 have hu62 := Try.underlying62
 have hu67 := Try.underlying67
 have hu72 := Try.underlying72
 have HR0_0 := Aside0.mk hr0_0
 have HC0_0 := Aside0.mk hc0_0
 clear hr0_0 hc0_0
 have HR0_1 := Aside0.mk hr0_1
 have HC0_1 := Aside0.mk hc0_1
 clear hr0_1 hc0_1
 have G1 := Aside0.mk H1
 clear H1
 have G2 := Aside0.mk H2
 clear H2
 have G3 := Aside0.mk H3
 clear H3
 have G4 := Aside0.mk H4
 clear H4
 have G5 := Aside0.mk H5
 clear H5
 have G6 := Aside0.mk H6
 clear H6
 have G7 := Aside0.mk H7
 clear H7
 have G8 := Aside0.mk H8
 clear H8
 have G9 := Aside0.mk H9
 clear H9
 have G10 := Aside0.mk H10
 clear H10
 have G11 := Aside0.mk H11
 clear H11
 have G12 := Aside0.mk H12
 clear H12
 have HX1 := Aside0.mk hx_1
 have HX2 := Aside0.mk hx_2
 have HX3 := Aside0.mk hx_3
 have HX4 := Aside0.mk hx_4
 have hd_1 : decide (r1 < 0) = false := decide_eq_false (by omega)
 have hd_2 : decide (k10 < 0) = false := decide_eq_false (by omega)
 have hd_4 : decide (k18 < 0) = false := decide_eq_false (by omega)
 have hds_1 : decide (k10 + 2 * (Sh.cntL (r3.map shT) : Int) < 0) = false := decide_eq_false (by omega)
 clear hx_1 hx_2 hx_3 hx_4
 have HB := Aside0.mk (Below.refl w.heap.size w)
 go_enter Try.func10, Try.ntmps10
 have hx1 : (w.alloc (.cells #[.slice A0_0 l0_0.length c0_0, .slice A0_1 l0_1.length c0_1] 62)).cell? ⟨w.heap.size, 0, none⟩ = some (.slice A0_0 l0_0.length c0_0) := (blk_cell (show (w.alloc (.cells #[.slice A0_0 l0_0.length c0_0, .slice A0_1 l0_1.length c0_1] 62)).heap[w.heap.size]? = some (.cells #[.slice A0_0 l0_0.length c0_0, .slice A0_1 l0_1.length c0_1] 62 (0, 0)) from by have h_ := heap_alloc_new w (.cells #[.slice A0_0 l0_0.length c0_0, .slice A0_1 l0_1.length c0_1] 62); simpa using h_) 0).trans rfl
 have hx2 : (w.alloc (.cells #[.slice A0_0 l0_0.length c0_0, .slice A0_1 l0_1.length c0_1] 62)).cell? ⟨w.heap.size, 1, none⟩ = some (.slice A0_1 l0_1.length c0_1) := (blk_cell (show (w.alloc (.cells #[.slice A0_0 l0_0.length c0_0, .slice A0_1 l0_1.length c0_1] 62)).heap[w.heap.size]? = some (.cells #[.slice A0_0 l0_0.length c0_0, .slice A0_1 l0_1.length c0_1] 62 (0, 0)) from by have h_ := heap_alloc_new w (.cells #[.slice A0_0 l0_0.length c0_0, .slice A0_1 l0_1.length c0_1] 62); simpa using h_) 1).trans rfl
 have CK := Aside0.mk (laws_szSheet.calls K1 A0_0 c0_0 l0_0 A0_1 c0_1 l0_1 1048576 r1 (w.alloc (.cells #[.slice A0_0 l0_0.length c0_0, .slice A0_1 l0_1.length c0_1] 62)) (Kd.C_below HR0_0.out (below_alloc HB.out _)) HC0_0.out (Kd.C_below HR0_1.out (below_alloc HB.out _)) HC0_1.out G1.out)
 go_wp2_with fail
 with_reducible refine CK.out.mono ?_
 rintro e w3 ⟨rfl, hb0⟩
 have hb := hb0
 clear CK hb0
 clear hx1 hx2
 have hW_ : Below w.heap.size w w3 := (below_alloc (Below.refl w.heap.size w) _).trans (hb.mono (below_alloc (Below.refl w.heap.size w) _).size)
 have SZ1 := Aside0.mk (Nat.le_trans (Nat.succ_le_of_lt (blk_lt (show (w.alloc (.cells #[.slice A0_0 l0_0.length c0_0, .slice A0_1 l0_1.length c0_1] 62)).heap[w.heap.size]? = some (.cells #[.slice A0_0 l0_0.length c0_0, .slice A0_1 l0_1.length c0_1] 62 (0, 0)) from by have h_ := heap_alloc_new w (.cells #[.slice A0_0 l0_0.length c0_0, .slice A0_1 l0_1.length c0_1] 62); simpa using h_)) : w.heap.size + 1 ≤ (w.alloc (.cells #[.slice A0_0 l0_0.length c0_0, .slice A0_1 l0_1.length c0_1] 62)).heap.size) hb.size)
 have SS1 := SZ1
 clear SZ1
 have BX0 := Aside0.mk ((hb.block _ (blk_lt (show (w.alloc (.cells #[.slice A0_0 l0_0.length c0_0, .slice A0_1 l0_1.length c0_1] 62)).heap[w.heap.size]? = some (.cells #[.slice A0_0 l0_0.length c0_0, .slice A0_1 l0_1.length c0_1] 62 (0, 0)) from by have h_ := heap_alloc_new w (.cells #[.slice A0_0 l0_0.length c0_0, .slice A0_1 l0_1.length c0_1] 62); simpa using h_))).trans (show (w.alloc (.cells #[.slice A0_0 l0_0.length c0_0, .slice A0_1 l0_1.length c0_1] 62)).heap[w.heap.size]? = some (.cells #[.slice A0_0 l0_0.length c0_0, .slice A0_1 l0_1.length c0_1] 62 (0, 0)) from by have h_ := heap_alloc_new w (.cells #[.slice A0_0 l0_0.length c0_0, .slice A0_1 l0_1.length c0_1] 62); simpa using h_))
 replace HB := Aside0.mk (HB.out.trans (hW_.mono HB.out.size))
 clear hb hW_
 have hx4 : w3.cell? ⟨w.heap.size, 0, none⟩ = some (.slice A0_0 l0_0.length c0_0) := (blk_cell BX0.out 0).trans rfl
 have hx5 : w3.cell? ⟨w.heap.size, 1, none⟩ = some (.slice A0_1 l0_1.length c0_1) := (blk_cell BX0.out 1).trans rfl
 have CK := Aside0.mk (laws_toSheet.calls K2 A0_0 c0_0 l0_0 A0_1 c0_1 l0_1 r2 r3 w3 (Kd.C_below HR0_0.out HB.out) HC0_0.out (Kd.C_below HR0_1.out HB.out) HC0_1.out G2.out)
 go_wp2_with fail
 with_reducible refine CK.out.mono ?_
 rintro e w6 ⟨v0_, v1_, rfl, ho0, ho1, hb0⟩
 have hb := hb0
 clear CK hb0
 clear hx4 hx5
 have hW_ := hb
 replace BX0 := Aside0.mk ((hb.block _ (blk_lt BX0.out)).trans BX0.out)
 obtain ⟨lo1, elo1⟩ : ∃ n_, w3.heap.size = n_ := ⟨_, rfl⟩
 obtain ⟨hi1, ehi1⟩ : ∃ n_, w6.heap.size = n_ := ⟨_, rfl⟩
 have hn_0 := OwnI.new (W0 := w) HB.out.size hb.size ho0
 rw [elo1, ehi1] at hn_0
 obtain ⟨Ao7, co7, rfl⟩ := hn_0.slice
 have HOo7 := Aside0.mk hn_0
 clear hn_0 ho0
 have hn_1 := OwnI.new (W0 := w) HB.out.size hb.size ho1
 rw [elo1, ehi1] at hn_1
 obtain ⟨Ao8, co8, rfl⟩ := hn_1.slice
 have HOo8 := Aside0.mk hn_1
 clear hn_1 ho1
 have SP1 := Aside0.mk (And.intro (by have h_ := hb.size; rw [elo1, ehi1] at h_; exact h_ : lo1 ≤ hi1) (And.intro (Nat.le_of_eq elo1 : w3.heap.size ≤ lo1) (Nat.le_of_eq ehi1.symm : hi1 ≤ w6.heap.size)))
 have SS2 := Aside0.mk (And.intro SP1.out SS1.out)
 clear SS1
 clear SP1
 replace HB := Aside0.mk (HB.out.trans (hW_.mono HB.out.size))
 clear hb hW_ elo1 ehi1
 have CK := Aside0.mk (spec_StateStart.calls K3 Ao7 co7 r2 Ao8 co8 r3 r4 r5 r6 r7 r8 w6 HOo7.out.C HOo7.out.room HOo8.out.C HOo8.out.room G3.out)
 go_wp2_with fail
 with_reducible refine CK.out.mono ?_
 rintro e w9 ⟨v0_, v1_, v2_, v3_, rfl, ho0, ho1, ho2, ho3, hb0⟩
 have hb := hb0
 clear CK hb0
 have hW_ := hb
 replace BX0 := Aside0.mk ((hb.block _ (blk_lt BX0.out)).trans BX0.out)
 replace HOo7 := Aside0.mk (HOo7.out.below hW_)
 replace HOo8 := Aside0.mk (HOo8.out.below hW_)
 obtain ⟨lo2, elo2⟩ : ∃ n_, w6.heap.size = n_ := ⟨_, rfl⟩
 obtain ⟨hi2, ehi2⟩ : ∃ n_, w9.heap.size = n_ := ⟨_, rfl⟩
 have HNEv0_v2_ := Aside0.mk (show ∀ k, v0_.ownBlock = some k → some k ≠ v2_.ownBlock from fun k hk => by have h_ := ho0.1 k hk; first | exact h_ | exact h_.1 | exact h_.2 | exact h_.1.1 | exact h_.1.2)
 have HNEv2_v0_ := Aside0.mk (show ∀ k, v2_.ownBlock = some k → some k ≠ v0_.ownBlock from fun k hk => by have h_ := ho2.1 k hk; first | exact h_ | exact h_.1 | exact h_.2 | exact h_.1.1 | exact h_.1.2)
 have hn_0 := OwnI.new (W0 := w) HB.out.size hb.size ho0
 rw [elo2, ehi2] at hn_0
 obtain ⟨Ao10, co10, rfl⟩ := hn_0.slice
 have HOo10 := Aside0.mk hn_0
 clear hn_0 ho0
 have hn_1 := OwnI.new (W0 := w) HB.out.size hb.size ho1
 rw [elo2, ehi2] at hn_1
 obtain ⟨Ao11, co11, rfl⟩ := hn_1.slice
 have HOo11 := Aside0.mk hn_1
 clear hn_1 ho1
 have hn_2 := OwnI.new (W0 := w) HB.out.size hb.size ho2
 rw [elo2, ehi2] at hn_2
 obtain ⟨Ao12, co12, rfl⟩ := hn_2.slice
 have HOo12 := Aside0.mk hn_2
 clear hn_2 ho2
 have hn_3 := OwnS.new (W0 := w) HB.out.size hb.size ho3
 rw [elo2, ehi2] at hn_3
 obtain ⟨Ao13, co13, rfl⟩ := hn_3.slice
 have HOo13 := Aside0.mk hn_3
 clear hn_3 ho3
 have NEo10o12 := HNEv0_v2_
 clear HNEv0_v2_
 have NEo12o10 := HNEv2_v0_
 clear HNEv2_v0_
 have SP2 := Aside0.mk (And.intro (by have h_ := hb.size; rw [elo2, ehi2] at h_; exact h_ : lo2 ≤ hi2) (And.intro (Nat.le_of_eq elo2 : w6.heap.size ≤ lo2) (Nat.le_of_eq ehi2.symm : hi2 ≤ w9.heap.size)))
 have SS3 := Aside0.mk (And.intro SP2.out SS2.out)
 clear SS2
 clear SP2
 replace HB := Aside0.mk (HB.out.trans (hW_.mono HB.out.size))
 clear hb hW_ elo2 ehi2
 have hx14 : (w9.alloc (.cells #[.slice Ao10 r4.length co10, .slice Ao11 r5.length co11, .slice Ao12 r6.length co12, .slice Ao13 r7.length co13] 72)).cell? ⟨w.heap.size, 0, none⟩ = some (.slice A0_0 l0_0.length c0_0) := (blk_cell (blk_alloc BX0.out _) 0).trans rfl
 have hx15 : (w9.alloc (.cells #[.slice Ao10 r4.length co10, .slice Ao11 r5.length co11, .slice Ao12 r6.length co12, .slice Ao13 r7.length co13] 72)).cell? ⟨w.heap.size, 1, none⟩ = some (.slice A0_1 l0_1.length c0_1) := (blk_cell (blk_alloc BX0.out _) 1).trans rfl
 have CK := Aside0.mk (laws_toSheet.calls K2 A0_0 c0_0 l0_0 A0_1 c0_1 l0_1 r2 r3 (w9.alloc (.cells #[.slice Ao10 r4.length co10, .slice Ao11 r5.length co11, .slice Ao12 r6.length co12, .slice Ao13 r7.length co13] 72)) (Kd.C_below HR0_0.out (below_alloc HB.out _)) HC0_0.out (Kd.C_below HR0_1.out (below_alloc HB.out _)) HC0_1.out G2.out)
 go_wp2_with fail
 with_reducible refine CK.out.mono ?_
 rintro e w16 ⟨v0_, v1_, rfl, ho0, ho1, hb0⟩
 have hb := hb0
 clear CK hb0
 clear hx14 hx15
 have hW_ : Below w9.heap.size w9 w16 := (below_alloc (Below.refl w9.heap.size w9) _).trans (hb.mono (below_alloc (Below.refl w9.heap.size w9) _).size)
 replace BX0 := Aside0.mk ((hb.block _ (blk_lt (blk_alloc BX0.out _))).trans (blk_alloc BX0.out _))
 have BX1 := Aside0.mk ((hb.block _ (blk_lt (show (w9.alloc (.cells #[.slice Ao10 r4.length co10, .slice Ao11 r5.length co11, .slice Ao12 r6.length co12, .slice Ao13 r7.length co13] 72)).heap[w9.heap.size]? = some (.cells #[.slice Ao10 r4.length co10, .slice Ao11 r5.length co11, .slice Ao12 r6.length co12, .slice Ao13 r7.length co13] 72 (0, 0)) from by have h_ := heap_alloc_new w9 (.cells #[.slice Ao10 r4.length co10, .slice Ao11 r5.length co11, .slice Ao12 r6.length co12, .slice Ao13 r7.length co13] 72); simpa using h_))).trans (show (w9.alloc (.cells #[.slice Ao10 r4.length co10, .slice Ao11 r5.length co11, .slice Ao12 r6.length co12, .slice Ao13 r7.length co13] 72)).heap[w9.heap.size]? = some (.cells #[.slice Ao10 r4.length co10, .slice Ao11 r5.length co11, .slice Ao12 r6.length co12, .slice Ao13 r7.length co13] 72 (0, 0)) from by have h_ := heap_alloc_new w9 (.cells #[.slice Ao10 r4.length co10, .slice Ao11 r5.length co11, .slice Ao12 r6.length co12, .slice Ao13 r7.length co13] 72); simpa using h_))
 replace HOo7 := Aside0.mk (HOo7.out.below hW_)
 replace HOo8 := Aside0.mk (HOo8.out.below hW_)
 replace HOo10 := Aside0.mk (HOo10.out.below hW_)
 replace HOo11 := Aside0.mk (HOo11.out.below hW_)
 replace HOo12 := Aside0.mk (HOo12.out.below hW_)
 replace HOo13 := Aside0.mk (HOo13.out.below hW_)
 obtain ⟨lo3, elo3⟩ : ∃ n_, (w9.alloc (.cells #[.slice Ao10 r4.length co10, .slice Ao11 r5.length co11, .slice Ao12 r6.length co12, .slice Ao13 r7.length co13] 72)).heap.size = n_ := ⟨_, rfl⟩
 obtain ⟨hi3, ehi3⟩ : ∃ n_, w16.heap.size = n_ := ⟨_, rfl⟩
 have hn_0 := OwnI.new (W0 := w) (below_alloc HB.out _).size hb.size ho0
 rw [elo3, ehi3] at hn_0
 obtain ⟨Ao17, co17, rfl⟩ := hn_0.slice
 have HOo17 := Aside0.mk hn_0
 clear hn_0 ho0
 have hn_1 := OwnI.new (W0 := w) (below_alloc HB.out _).size hb.size ho1
 rw [elo3, ehi3] at hn_1
 obtain ⟨Ao18, co18, rfl⟩ := hn_1.slice
 have HOo18 := Aside0.mk hn_1
 clear hn_1 ho1
 have SP3 := Aside0.mk (And.intro (by have h_ := hb.size; rw [elo3, ehi3] at h_; exact h_ : lo3 ≤ hi3) (And.intro (by have h_ := (Nat.succ_le_of_lt (blk_lt (show (w9.alloc (.cells #[.slice Ao10 r4.length co10, .slice Ao11 r5.length co11, .slice Ao12 r6.length co12, .slice Ao13 r7.length co13] 72)).heap[w9.heap.size]? = some (.cells #[.slice Ao10 r4.length co10, .slice Ao11 r5.length co11, .slice Ao12 r6.length co12, .slice Ao13 r7.length co13] 72 (0, 0)) from by have h_ := heap_alloc_new w9 (.cells #[.slice Ao10 r4.length co10, .slice Ao11 r5.length co11, .slice Ao12 r6.length co12, .slice Ao13 r7.length co13] 72); simpa using h_)) : w9.heap.size + 1 ≤ (w9.alloc (.cells #[.slice Ao10 r4.length co10, .slice Ao11 r5.length co11, .slice Ao12 r6.length co12, .slice Ao13 r7.length co13] 72)).heap.size); rw [elo3] at h_; exact h_ : w9.heap.size + 1 ≤ lo3) (Nat.le_of_eq ehi3.symm : hi3 ≤ w16.heap.size)))
 have SS4 := Aside0.mk (And.intro SP3.out SS3.out)
 clear SS3
 clear SP3
 replace HB := Aside0.mk (HB.out.trans (hW_.mono HB.out.size))
 clear hb hW_ elo3 ehi3
 have hx19 : (w16.alloc (.cells #[.slice Ao17 r2.length co17, .slice Ao18 r3.length co18] 67)).cell? ⟨w16.heap.size, 0, none⟩ = some (.slice Ao17 r2.length co17) := (blk_cell (show (w16.alloc (.cells #[.slice Ao17 r2.length co17, .slice Ao18 r3.length co18] 67)).heap[w16.heap.size]? = some (.cells #[.slice Ao17 r2.length co17, .slice Ao18 r3.length co18] 67 (0, 0)) from by have h_ := heap_alloc_new w16 (.cells #[.slice Ao17 r2.length co17, .slice Ao18 r3.length co18] 67); simpa using h_) 0).trans rfl
 have hx20 : (w16.alloc (.cells #[.slice Ao17 r2.length co17, .slice Ao18 r3.length co18] 67)).cell? ⟨w16.heap.size, 1, none⟩ = some (.slice Ao18 r3.length co18) := (blk_cell (show (w16.alloc (.cells #[.slice Ao17 r2.length co17, .slice Ao18 r3.length co18] 67)).heap[w16.heap.size]? = some (.cells #[.slice Ao17 r2.length co17, .slice Ao18 r3.length co18] 67 (0, 0)) from by have h_ := heap_alloc_new w16 (.cells #[.slice Ao17 r2.length co17, .slice Ao18 r3.length co18] 67); simpa using h_) 1).trans rfl
 have CK := Aside0.mk (impl_StateStart.calls K4 Ao17 co17 r2 Ao18 co18 r3 r4 r5 r6 r7 r8 (w16.alloc (.cells #[.slice Ao17 r2.length co17, .slice Ao18 r3.length co18] 67)) (HOo17.out.below (below_alloc (Below.refl w16.heap.size w16) _)).C HOo17.out.room (HOo18.out.below (below_alloc (Below.refl w16.heap.size w16) _)).C HOo18.out.room G4.out)
 go_wp2_with fail
 with_reducible refine CK.out.mono ?_
 rintro e w21 ⟨v0_, v1_, v2_, v3_, rfl, ho0, ho1, ho2, ho3, hb0⟩
 have hb := hb0
 clear CK hb0
 clear hx19 hx20
 have hW_ : Below w16.heap.size w16 w21 := (below_alloc (Below.refl w16.heap.size w16) _).trans (hb.mono (below_alloc (Below.refl w16.heap.size w16) _).size)
 replace BX0 := Aside0.mk ((hb.block _ (blk_lt (blk_alloc BX0.out _))).trans (blk_alloc BX0.out _))
 replace BX1 := Aside0.mk ((hb.block _ (blk_lt (blk_alloc BX1.out _))).trans (blk_alloc BX1.out _))
 have BX2 := Aside0.mk ((hb.block _ (blk_lt (show (w16.alloc (.cells #[.slice Ao17 r2.length co17, .slice Ao18 r3.length co18] 67)).heap[w16.heap.size]? = some (.cells #[.slice Ao17 r2.length co17, .slice Ao18 r3.length co18] 67 (0, 0)) from by have h_ := heap_alloc_new w16 (.cells #[.slice Ao17 r2.length co17, .slice Ao18 r3.length co18] 67); simpa using h_))).trans (show (w16.alloc (.cells #[.slice Ao17 r2.length co17, .slice Ao18 r3.length co18] 67)).heap[w16.heap.size]? = some (.cells #[.slice Ao17 r2.length co17, .slice Ao18 r3.length co18] 67 (0, 0)) from by have h_ := heap_alloc_new w16 (.cells #[.slice Ao17 r2.length co17, .slice Ao18 r3.length co18] 67); simpa using h_))
 replace HOo7 := Aside0.mk (HOo7.out.below hW_)
 replace HOo8 := Aside0.mk (HOo8.out.below hW_)
 replace HOo10 := Aside0.mk (HOo10.out.below hW_)
 replace HOo11 := Aside0.mk (HOo11.out.below hW_)
 replace HOo12 := Aside0.mk (HOo12.out.below hW_)
 replace HOo13 := Aside0.mk (HOo13.out.below hW_)
 replace HOo17 := Aside0.mk (HOo17.out.below hW_)
 replace HOo18 := Aside0.mk (HOo18.out.below hW_)
 obtain ⟨lo4, elo4⟩ : ∃ n_, (w16.alloc (.cells #[.slice Ao17 r2.length co17, .slice Ao18 r3.length co18] 67)).heap.size = n_ := ⟨_, rfl⟩
 obtain ⟨hi4, ehi4⟩ : ∃ n_, w21.heap.size = n_ := ⟨_, rfl⟩
 have HNEv0_v2_ := Aside0.mk (show ∀ k, v0_.ownBlock = some k → some k ≠ v2_.ownBlock from fun k hk => by have h_ := ho0.1 k hk; first | exact h_ | exact h_.1 | exact h_.2 | exact h_.1.1 | exact h_.1.2)
 have HNEv2_v0_ := Aside0.mk (show ∀ k, v2_.ownBlock = some k → some k ≠ v0_.ownBlock from fun k hk => by have h_ := ho2.1 k hk; first | exact h_ | exact h_.1 | exact h_.2 | exact h_.1.1 | exact h_.1.2)
 have hn_0 := OwnI.new (W0 := w) (below_alloc HB.out _).size hb.size ho0
 rw [elo4, ehi4] at hn_0
 obtain ⟨Ao22, co22, rfl⟩ := hn_0.slice
 have HOo22 := Aside0.mk hn_0
 clear hn_0 ho0
 have hn_1 := OwnI.new (W0 := w) (below_alloc HB.out _).size hb.size ho1
 rw [elo4, ehi4] at hn_1
 obtain ⟨Ao23, co23, rfl⟩ := hn_1.slice
 have HOo23 := Aside0.mk hn_1
 clear hn_1 ho1
 have hn_2 := OwnI.new (W0 := w) (below_alloc HB.out _).size hb.size ho2
 rw [elo4, ehi4] at hn_2
 obtain ⟨Ao24, co24, rfl⟩ := hn_2.slice
 have HOo24 := Aside0.mk hn_2
 clear hn_2 ho2
 have hn_3 := OwnS.new (W0 := w) (below_alloc HB.out _).size hb.size ho3
 rw [elo4, ehi4] at hn_3
 obtain ⟨Ao25, co25, rfl⟩ := hn_3.slice
 have HOo25 := Aside0.mk hn_3
 clear hn_3 ho3
 have NEo22o24 := HNEv0_v2_
 clear HNEv0_v2_
 have NEo24o22 := HNEv2_v0_
 clear HNEv2_v0_
 have SP4 := Aside0.mk (And.intro (by have h_ := hb.size; rw [elo4, ehi4] at h_; exact h_ : lo4 ≤ hi4) (And.intro (by have h_ := (Nat.succ_le_of_lt (blk_lt (show (w16.alloc (.cells #[.slice Ao17 r2.length co17, .slice Ao18 r3.length co18] 67)).heap[w16.heap.size]? = some (.cells #[.slice Ao17 r2.length co17, .slice Ao18 r3.length co18] 67 (0, 0)) from by have h_ := heap_alloc_new w16 (.cells #[.slice Ao17 r2.length co17, .slice Ao18 r3.length co18] 67); simpa using h_)) : w16.heap.size + 1 ≤ (w16.alloc (.cells #[.slice Ao17 r2.length co17, .slice Ao18 r3.length co18] 67)).heap.size); rw [elo4] at h_; exact h_ : w16.heap.size + 1 ≤ lo4) (Nat.le_of_eq ehi4.symm : hi4 ≤ w21.heap.size)))
 have SS5 := Aside0.mk (And.intro SP4.out SS4.out)
 clear SS4
 clear SP4
 replace HB := Aside0.mk (HB.out.trans (hW_.mono HB.out.size))
 clear hb hW_ elo4 ehi4
 have hx26 : (w21.alloc (.cells #[.slice Ao22 r4.length co22, .slice Ao23 r5.length co23, .slice Ao24 r6.length co24, .slice Ao25 r7.length co25] 72)).cell? ⟨w21.heap.size, 0, none⟩ = some (.slice Ao22 r4.length co22) := (blk_cell (show (w21.alloc (.cells #[.slice Ao22 r4.length co22, .slice Ao23 r5.length co23, .slice Ao24 r6.length co24, .slice Ao25 r7.length co25] 72)).heap[w21.heap.size]? = some (.cells #[.slice Ao22 r4.length co22, .slice Ao23 r5.length co23, .slice Ao24 r6.length co24, .slice Ao25 r7.length co25] 72 (0, 0)) from by have h_ := heap_alloc_new w21 (.cells #[.slice Ao22 r4.length co22, .slice Ao23 r5.length co23, .slice Ao24 r6.length co24, .slice Ao25 r7.length co25] 72); simpa using h_) 0).trans rfl
 have hx27 : (w21.alloc (.cells #[.slice Ao22 r4.length co22, .slice Ao23 r5.length co23, .slice Ao24 r6.length co24, .slice Ao25 r7.length co25] 72)).cell? ⟨w21.heap.size, 1, none⟩ = some (.slice Ao23 r5.length co23) := (blk_cell (show (w21.alloc (.cells #[.slice Ao22 r4.length co22, .slice Ao23 r5.length co23, .slice Ao24 r6.length co24, .slice Ao25 r7.length co25] 72)).heap[w21.heap.size]? = some (.cells #[.slice Ao22 r4.length co22, .slice Ao23 r5.length co23, .slice Ao24 r6.length co24, .slice Ao25 r7.length co25] 72 (0, 0)) from by have h_ := heap_alloc_new w21 (.cells #[.slice Ao22 r4.length co22, .slice Ao23 r5.length co23, .slice Ao24 r6.length co24, .slice Ao25 r7.length co25] 72); simpa using h_) 1).trans rfl
 have hx28 : (w21.alloc (.cells #[.slice Ao22 r4.length co22, .slice Ao23 r5.length co23, .slice Ao24 r6.length co24, .slice Ao25 r7.length co25] 72)).cell? ⟨w21.heap.size, 2, none⟩ = some (.slice Ao24 r6.length co24) := (blk_cell (show (w21.alloc (.cells #[.slice Ao22 r4.length co22, .slice Ao23 r5.length co23, .slice Ao24 r6.length co24, .slice Ao25 r7.length co25] 72)).heap[w21.heap.size]? = some (.cells #[.slice Ao22 r4.length co22, .slice Ao23 r5.length co23, .slice Ao24 r6.length co24, .slice Ao25 r7.length co25] 72 (0, 0)) from by have h_ := heap_alloc_new w21 (.cells #[.slice Ao22 r4.length co22, .slice Ao23 r5.length co23, .slice Ao24 r6.length co24, .slice Ao25 r7.length co25] 72); simpa using h_) 2).trans rfl
 have hx29 : (w21.alloc (.cells #[.slice Ao22 r4.length co22, .slice Ao23 r5.length co23, .slice Ao24 r6.length co24, .slice Ao25 r7.length co25] 72)).cell? ⟨w21.heap.size, 3, none⟩ = some (.slice Ao25 r7.length co25) := (blk_cell (show (w21.alloc (.cells #[.slice Ao22 r4.length co22, .slice Ao23 r5.length co23, .slice Ao24 r6.length co24, .slice Ao25 r7.length co25] 72)).heap[w21.heap.size]? = some (.cells #[.slice Ao22 r4.length co22, .slice Ao23 r5.length co23, .slice Ao24 r6.length co24, .slice Ao25 r7.length co25] 72 (0, 0)) from by have h_ := heap_alloc_new w21 (.cells #[.slice Ao22 r4.length co22, .slice Ao23 r5.length co23, .slice Ao24 r6.length co24, .slice Ao25 r7.length co25] 72); simpa using h_) 3).trans rfl
 have hx30 : (w21.alloc (.cells #[.slice Ao22 r4.length co22, .slice Ao23 r5.length co23, .slice Ao24 r6.length co24, .slice Ao25 r7.length co25] 72)).cell? ⟨w9.heap.size, 0, none⟩ = some (.slice Ao10 r4.length co10) := (blk_cell (blk_alloc BX1.out _) 0).trans rfl
 have hx31 : (w21.alloc (.cells #[.slice Ao22 r4.length co22, .slice Ao23 r5.length co23, .slice Ao24 r6.length co24, .slice Ao25 r7.length co25] 72)).cell? ⟨w9.heap.size, 1, none⟩ = some (.slice Ao11 r5.length co11) := (blk_cell (blk_alloc BX1.out _) 1).trans rfl
 have hx32 : (w21.alloc (.cells #[.slice Ao22 r4.length co22, .slice Ao23 r5.length co23, .slice Ao24 r6.length co24, .slice Ao25 r7.length co25] 72)).cell? ⟨w9.heap.size, 2, none⟩ = some (.slice Ao12 r6.length co12) := (blk_cell (blk_alloc BX1.out _) 2).trans rfl
 have hx33 : (w21.alloc (.cells #[.slice Ao22 r4.length co22, .slice Ao23 r5.length co23, .slice Ao24 r6.length co24, .slice Ao25 r7.length co25] 72)).cell? ⟨w9.heap.size, 3, none⟩ = some (.slice Ao13 r7.length co13) := (blk_cell (blk_alloc BX1.out _) 3).trans rfl
 have CK := Aside0.mk (laws_eqState.calls K5 Ao22 co22 r4 Ao23 co23 r5 Ao24 co24 r6 Ao25 co25 r7 Ao10 co10 r4 Ao11 co11 r5 Ao12 co12 r6 Ao13 co13 r7 true (w21.alloc (.cells #[.slice Ao22 r4.length co22, .slice Ao23 r5.length co23, .slice Ao24 r6.length co24, .slice Ao25 r7.length co25] 72)) (HOo22.out.below (below_alloc (Below.refl w21.heap.size w21) _)).C HOo22.out.room (HOo23.out.below (below_alloc (Below.refl w21.heap.size w21) _)).C HOo23.out.room (HOo24.out.below (below_alloc (Below.refl w21.heap.size w21) _)).C HOo24.out.room (HOo25.out.below (below_alloc (Below.refl w21.heap.size w21) _)).C HOo25.out.room (HOo10.out.below (below_alloc (Below.refl w21.heap.size w21) _)).C HOo10.out.room (HOo11.out.below (below_alloc (Below.refl w21.heap.size w21) _)).C HOo11.out.room (HOo12.out.below (below_alloc (Below.refl w21.heap.size w21) _)).C HOo12.out.room (HOo13.out.below (below_alloc (Below.refl w21.heap.size w21) _)).C HOo13.out.room G5.out)
 go_wp2_with fail
 with_reducible refine CK.out.mono ?_
 rintro e w34 ⟨rfl, hb0⟩
 have hb := hb0
 clear CK hb0
 clear hx26 hx27 hx28 hx29 hx30 hx31 hx32 hx33
 have hW_ : Below w21.heap.size w21 w34 := (below_alloc (Below.refl w21.heap.size w21) _).trans (hb.mono (below_alloc (Below.refl w21.heap.size w21) _).size)
 have SZ2 := Aside0.mk (Nat.le_trans (Nat.succ_le_of_lt (blk_lt (show (w21.alloc (.cells #[.slice Ao22 r4.length co22, .slice Ao23 r5.length co23, .slice Ao24 r6.length co24, .slice Ao25 r7.length co25] 72)).heap[w21.heap.size]? = some (.cells #[.slice Ao22 r4.length co22, .slice Ao23 r5.length co23, .slice Ao24 r6.length co24, .slice Ao25 r7.length co25] 72 (0, 0)) from by have h_ := heap_alloc_new w21 (.cells #[.slice Ao22 r4.length co22, .slice Ao23 r5.length co23, .slice Ao24 r6.length co24, .slice Ao25 r7.length co25] 72); simpa using h_)) : w21.heap.size + 1 ≤ (w21.alloc (.cells #[.slice Ao22 r4.length co22, .slice Ao23 r5.length co23, .slice Ao24 r6.length co24, .slice Ao25 r7.length co25] 72)).heap.size) hb.size)
 have SS6 := Aside0.mk (And.intro SZ2.out SS5.out)
 clear SS5
 clear SZ2
 replace BX0 := Aside0.mk ((hb.block _ (blk_lt (blk_alloc BX0.out _))).trans (blk_alloc BX0.out _))
 replace BX1 := Aside0.mk ((hb.block _ (blk_lt (blk_alloc BX1.out _))).trans (blk_alloc BX1.out _))
 replace BX2 := Aside0.mk ((hb.block _ (blk_lt (blk_alloc BX2.out _))).trans (blk_alloc BX2.out _))
 have BX3 := Aside0.mk ((hb.block _ (blk_lt (show (w21.alloc (.cells #[.slice Ao22 r4.length co22, .slice Ao23 r5.length co23, .slice Ao24 r6.length co24, .slice Ao25 r7.length co25] 72)).heap[w21.heap.size]? = some (.cells #[.slice Ao22 r4.length co22, .slice Ao23 r5.length co23, .slice Ao24 r6.length co24, .slice Ao25 r7.length co25] 72 (0, 0)) from by have h_ := heap_alloc_new w21 (.cells #[.slice Ao22 r4.length co22, .slice Ao23 r5.length co23, .slice Ao24 r6.length co24, .slice Ao25 r7.length co25] 72); simpa using h_))).trans (show (w21.alloc (.cells #[.slice Ao22 r4.length co22, .slice Ao23 r5.length co23, .slice Ao24 r6.length co24, .slice Ao25 r7.length co25] 72)).heap[w21.heap.size]? = some (.cells #[.slice Ao22 r4.length co22, .slice Ao23 r5.length co23, .slice Ao24 r6.length co24, .slice Ao25 r7.length co25] 72 (0, 0)) from by have h_ := heap_alloc_new w21 (.cells #[.slice Ao22 r4.length co22, .slice Ao23 r5.length co23, .slice Ao24 r6.length co24, .slice Ao25 r7.length co25] 72); simpa using h_))
 replace HOo7 := Aside0.mk (HOo7.out.below hW_)
 replace HOo8 := Aside0.mk (HOo8.out.below hW_)
 replace HOo10 := Aside0.mk (HOo10.out.below hW_)
 replace HOo11 := Aside0.mk (HOo11.out.below hW_)
 replace HOo12 := Aside0.mk (HOo12.out.below hW_)
 replace HOo13 := Aside0.mk (HOo13.out.below hW_)
 replace HOo17 := Aside0.mk (HOo17.out.below hW_)
 replace HOo18 := Aside0.mk (HOo18.out.below hW_)
 replace HOo22 := Aside0.mk (HOo22.out.below hW_)
 replace HOo23 := Aside0.mk (HOo23.out.below hW_)
 replace HOo24 := Aside0.mk (HOo24.out.below hW_)
 replace HOo25 := Aside0.mk (HOo25.out.below hW_)
 replace HB := Aside0.mk (HB.out.trans (hW_.mono HB.out.size))
 clear hb hW_
 try go_wp2_with fail
 refine start_ (n := 5) (S := fun w' => w'.cell? ⟨w16.heap.size, 0, none⟩ = some (.slice Ao17 r2.length co17) ∧ w'.cell? ⟨w16.heap.size, 1, none⟩ = some (.slice Ao18 r3.length co18) ∧ w'.cell? ⟨w.heap.size, 0, none⟩ = some (.slice A0_0 l0_0.length c0_0) ∧ w'.cell? ⟨w.heap.size, 1, none⟩ = some (.slice A0_1 l0_1.length c0_1)) (ds := []) #[false, false, false, false, false] (by kernel_rfl) rfl rfl ⟨(blk_cell (blk_drew BX2.out) 0).trans rfl, (blk_cell (blk_drew BX2.out) 1).trans rfl, (blk_cell (blk_drew BX0.out) 0).trans rfl, (blk_cell (blk_drew BX0.out) 1).trans rfl⟩ (fun hHeld => ?_)
 have hW_ := below_drew1 (Below.refl w34.heap.size w34)
 have SZ3 := Aside0.mk (Nat.le_trans (Nat.le_refl w34.heap.size : w34.heap.size ≤ w34.heap.size) (below_drew1 (Below.refl w34.heap.size w34)).size)
 replace BX0 := Aside0.mk (blk_drew BX0.out)
 replace BX1 := Aside0.mk (blk_drew BX1.out)
 replace BX2 := Aside0.mk (blk_drew BX2.out)
 replace BX3 := Aside0.mk (blk_drew BX3.out)
 generalize w34.drew = w35 at hW_ hHeld SZ3 BX0 BX1 BX2 BX3 ⊢
 have SS7 := Aside0.mk (And.intro SZ3.out SS6.out)
 clear SS6
 clear SZ3
 replace HOo7 := Aside0.mk (HOo7.out.below hW_)
 replace HOo8 := Aside0.mk (HOo8.out.below hW_)
 replace HOo10 := Aside0.mk (HOo10.out.below hW_)
 replace HOo11 := Aside0.mk (HOo11.out.below hW_)
 replace HOo12 := Aside0.mk (HOo12.out.below hW_)
 replace HOo13 := Aside0.mk (HOo13.out.below hW_)
 replace HOo17 := Aside0.mk (HOo17.out.below hW_)
 replace HOo18 := Aside0.mk (HOo18.out.below hW_)
 replace HOo22 := Aside0.mk (HOo22.out.below hW_)
 replace HOo23 := Aside0.mk (HOo23.out.below hW_)
 replace HOo24 := Aside0.mk (HOo24.out.below hW_)
 replace HOo25 := Aside0.mk (HOo25.out.below hW_)
 replace HB := Aside0.mk (HB.out.trans (hW_.mono HB.out.size))
 clear hW_
 refine take_ (i := 0) (N := some 41) (v := ?_) (a' := ?_) #[true, false, false, false, false] rfl rfl (by kernel_rfl) (fun _ _ _ h => h) (Or.inl ⟨by rfl, ?_⟩) hHeld ?_ ?_
 rotate_left
 · rintro w' ⟨s0, s1, s2, s3⟩
   go_simp
   with_reducible rfl
 rotate_left
 · simp only [Act.put, List.setIfInBounds_toArray, List.set_cons_zero, List.set_cons_succ, i64_w, i32_w]
   rfl
 refine take_ (i := 1) (N := some 42) (v := ?_) (a' := ?_) #[true, true, false, false, false] rfl rfl (by kernel_rfl) (fun _ _ _ h => h) (Or.inl ⟨by rfl, ?_⟩) hHeld ?_ ?_
 rotate_left
 · rintro w' ⟨s0, s1, s2, s3⟩
   go_simp
   with_reducible rfl
 rotate_left
 · simp only [Act.put, List.setIfInBounds_toArray, List.set_cons_zero, List.set_cons_succ, i64_w, i32_w]
   rfl
 have CK := Aside0.mk (laws_toSheet.calls K2 A0_0 c0_0 l0_0 A0_1 c0_1 l0_1 r2 r3 w35 (Kd.C_below HR0_0.out HB.out) HC0_0.out (Kd.C_below HR0_1.out HB.out) HC0_1.out G2.out)
 refine one_ (i := 2) (N := some 43) #[true, true, true, false, false] rfl rfl (by kernel_rfl) (by decide) (fun K hK => ?_)
 refine goes_ Try.func43 (by kernel_rfl) rfl #[.agg #[.slice A0_0 l0_0.length c0_0, .slice A0_1 l0_1.length c0_1]] (by rfl) rfl rfl (by (try simp only [List.map_toArray, List.map_cons, List.map_nil]); first | done | rfl) ?_
 with_reducible refine CK.out.mono ?_
 rintro e w36 ⟨v0_, v1_, rfl, ho0, ho1, hb0⟩
 refine ⟨_, rfl, ?_⟩
 have hb := hb0
 clear CK hb0
 have hW_ := hb
 replace BX0 := Aside0.mk ((hb.block _ (blk_lt BX0.out)).trans BX0.out)
 replace BX1 := Aside0.mk ((hb.block _ (blk_lt BX1.out)).trans BX1.out)
 replace BX2 := Aside0.mk ((hb.block _ (blk_lt BX2.out)).trans BX2.out)
 replace BX3 := Aside0.mk ((hb.block _ (blk_lt BX3.out)).trans BX3.out)
 replace HOo7 := Aside0.mk (HOo7.out.below hW_)
 replace HOo8 := Aside0.mk (HOo8.out.below hW_)
 replace HOo10 := Aside0.mk (HOo10.out.below hW_)
 replace HOo11 := Aside0.mk (HOo11.out.below hW_)
 replace HOo12 := Aside0.mk (HOo12.out.below hW_)
 replace HOo13 := Aside0.mk (HOo13.out.below hW_)
 replace HOo17 := Aside0.mk (HOo17.out.below hW_)
 replace HOo18 := Aside0.mk (HOo18.out.below hW_)
 replace HOo22 := Aside0.mk (HOo22.out.below hW_)
 replace HOo23 := Aside0.mk (HOo23.out.below hW_)
 replace HOo24 := Aside0.mk (HOo24.out.below hW_)
 replace HOo25 := Aside0.mk (HOo25.out.below hW_)
 obtain ⟨lo5, elo5⟩ : ∃ n_, w35.heap.size = n_ := ⟨_, rfl⟩
 obtain ⟨hi5, ehi5⟩ : ∃ n_, w36.heap.size = n_ := ⟨_, rfl⟩
 have hn_0 := OwnI.new (W0 := w) HB.out.size hb.size ho0
 rw [elo5, ehi5] at hn_0
 obtain ⟨Ao37, co37, rfl⟩ := hn_0.slice
 have HOo37 := Aside0.mk hn_0
 clear hn_0 ho0
 have hn_1 := OwnI.new (W0 := w) HB.out.size hb.size ho1
 rw [elo5, ehi5] at hn_1
 obtain ⟨Ao38, co38, rfl⟩ := hn_1.slice
 have HOo38 := Aside0.mk hn_1
 clear hn_1 ho1
 have SP5 := Aside0.mk (And.intro (by have h_ := hb.size; rw [elo5, ehi5] at h_; exact h_ : lo5 ≤ hi5) (And.intro (Nat.le_of_eq elo5 : w35.heap.size ≤ lo5) (Nat.le_of_eq ehi5.symm : hi5 ≤ w36.heap.size)))
 have SS8 := Aside0.mk (And.intro SP5.out SS7.out)
 clear SS7
 clear SP5
 replace HB := Aside0.mk (HB.out.trans (hW_.mono HB.out.size))
 clear hb hW_ elo5 ehi5
 refine hK.out _ _ ⟨(blk_cell BX2.out 0).trans rfl, (blk_cell BX2.out 1).trans rfl, (blk_cell BX0.out 0).trans rfl, (blk_cell BX0.out 1).trans rfl⟩ (fun hHeld => ?_)
 clear hK K
 refine norm_ (a' := ?_) ?_ ?_
 rotate_left
 · show Act.put _ (some 43) _ = _
   simp only [Act.put, List.setIfInBounds_toArray, List.set_cons_zero, List.set_cons_succ, i64_w, i32_w]
   rfl
 have CK := Aside0.mk (laws_eqSheet.calls K6 Ao17 co17 r2 Ao18 co18 r3 Ao37 co37 r2 Ao38 co38 r3 true w36 HOo17.out.C HOo17.out.room HOo18.out.C HOo18.out.room HOo37.out.C HOo37.out.room HOo38.out.C HOo38.out.room G6.out)
 refine one_ (i := 3) (N := some 44) #[true, true, true, true, false] rfl rfl (by kernel_rfl) (by decide) (fun K hK => ?_)
 refine goes_ Try.func45 (by kernel_rfl) rfl #[.agg #[.slice Ao17 r2.length co17, .slice Ao18 r3.length co18], .agg #[.slice Ao37 r2.length co37, .slice Ao38 r3.length co38]] (by rfl) rfl rfl (by (try simp only [List.map_toArray, List.map_cons, List.map_nil]); first | done | rfl) ?_
 with_reducible refine CK.out.mono ?_
 rintro e w39 ⟨rfl, hb0⟩
 refine ⟨_, rfl, ?_⟩
 have hb := hb0
 clear CK hb0
 have hW_ := hb
 have SZ4 := Aside0.mk hb.size
 have SS9 := Aside0.mk (And.intro SZ4.out SS8.out)
 clear SS8
 clear SZ4
 replace BX0 := Aside0.mk ((hb.block _ (blk_lt BX0.out)).trans BX0.out)
 replace BX1 := Aside0.mk ((hb.block _ (blk_lt BX1.out)).trans BX1.out)
 replace BX2 := Aside0.mk ((hb.block _ (blk_lt BX2.out)).trans BX2.out)
 replace BX3 := Aside0.mk ((hb.block _ (blk_lt BX3.out)).trans BX3.out)
 replace HOo7 := Aside0.mk (HOo7.out.below hW_)
 replace HOo8 := Aside0.mk (HOo8.out.below hW_)
 replace HOo10 := Aside0.mk (HOo10.out.below hW_)
 replace HOo11 := Aside0.mk (HOo11.out.below hW_)
 replace HOo12 := Aside0.mk (HOo12.out.below hW_)
 replace HOo13 := Aside0.mk (HOo13.out.below hW_)
 replace HOo17 := Aside0.mk (HOo17.out.below hW_)
 replace HOo18 := Aside0.mk (HOo18.out.below hW_)
 replace HOo22 := Aside0.mk (HOo22.out.below hW_)
 replace HOo23 := Aside0.mk (HOo23.out.below hW_)
 replace HOo24 := Aside0.mk (HOo24.out.below hW_)
 replace HOo25 := Aside0.mk (HOo25.out.below hW_)
 replace HOo37 := Aside0.mk (HOo37.out.below hW_)
 replace HOo38 := Aside0.mk (HOo38.out.below hW_)
 replace HB := Aside0.mk (HB.out.trans (hW_.mono HB.out.size))
 clear hb hW_
 refine hK.out _ _ ⟨(blk_cell BX2.out 0).trans rfl, (blk_cell BX2.out 1).trans rfl, (blk_cell BX0.out 0).trans rfl, (blk_cell BX0.out 1).trans rfl⟩ (fun hHeld => ?_)
 clear hK K
 refine norm_ (a' := ?_) ?_ ?_
 rotate_left
 · show Act.put _ (some 44) _ = _
   simp only [Act.put, List.setIfInBounds_toArray, List.set_cons_zero, List.set_cons_succ, i64_w, i32_w]
   rfl
 refine pure_ (i := 4) (N := some 45) (v := ?_) (a' := ?_) #[true, true, true, true, true] rfl rfl (by kernel_rfl) (fun _ _ _ h => h) (Or.inl ⟨by rfl, ?_⟩) ?_ ?_
 rotate_left
 · intro w'
   go_simp
   with_reducible rfl
 rotate_left
 · simp only [Act.put, List.setIfInBounds_toArray, List.set_cons_zero, List.set_cons_succ, i64_w, i32_w]
   rfl
 refine done_ (by kernel_rfl) ?_
 clear hHeld
 have hx40 : w39.cell? ⟨w16.heap.size, 0, none⟩ = some (.slice Ao17 r2.length co17) := (blk_cell BX2.out 0).trans rfl
 have hx41 : w39.cell? ⟨w16.heap.size, 1, none⟩ = some (.slice Ao18 r3.length co18) := (blk_cell BX2.out 1).trans rfl
 have CK := Aside0.mk (lwSheet K7 HB.out HOo17.out HOo18.out G7.out HX2.out HX3.out)
 go_wp2_with fail
 with_reducible refine CK.out.mono ?_
 rintro e w42 ⟨rfl, hb, hk⟩
 clear CK
 clear hx40 hx41
 have SZ5 := Aside0.mk hk.1
 have SS10 := Aside0.mk (And.intro SZ5.out SS9.out)
 clear SS9
 clear SZ5
 replace BX0 := Aside0.mk (blkI BX0.out hk (by have s_ := SS10.out; omega))
 replace BX1 := Aside0.mk (blkI BX1.out hk (by have s_ := SS10.out; omega))
 replace BX2 := Aside0.mk (blkI BX2.out hk (by have s_ := SS10.out; omega))
 replace BX3 := Aside0.mk (blkI BX3.out hk (by have s_ := SS10.out; omega))
 replace HOo7 := Aside0.mk (HOo7.out.kept hk (by have s_ := SS10.out; omega))
 replace HOo8 := Aside0.mk (HOo8.out.kept hk (by have s_ := SS10.out; omega))
 replace HOo10 := Aside0.mk (HOo10.out.kept hk (by have s_ := SS10.out; omega))
 replace HOo11 := Aside0.mk (HOo11.out.kept hk (by have s_ := SS10.out; omega))
 replace HOo12 := Aside0.mk (HOo12.out.kept hk (by have s_ := SS10.out; omega))
 replace HOo13 := Aside0.mk (HOo13.out.kept hk (by have s_ := SS10.out; omega))
 replace HOo22 := Aside0.mk (HOo22.out.kept hk (by have s_ := SS10.out; omega))
 replace HOo23 := Aside0.mk (HOo23.out.kept hk (by have s_ := SS10.out; omega))
 replace HOo24 := Aside0.mk (HOo24.out.kept hk (by have s_ := SS10.out; omega))
 replace HOo25 := Aside0.mk (HOo25.out.kept hk (by have s_ := SS10.out; omega))
 replace HOo37 := Aside0.mk (HOo37.out.kept hk (by have s_ := SS10.out; omega))
 replace HOo38 := Aside0.mk (HOo38.out.kept hk (by have s_ := SS10.out; omega))
 clear HOo17
 clear HOo18
 replace HB := Aside0.mk hb
 clear hb hk
 have hx43 : w42.cell? ⟨w21.heap.size, 0, none⟩ = some (.slice Ao22 r4.length co22) := (blk_cell BX3.out 0).trans rfl
 have hx44 : w42.cell? ⟨w21.heap.size, 1, none⟩ = some (.slice Ao23 r5.length co23) := (blk_cell BX3.out 1).trans rfl
 have hx45 : w42.cell? ⟨w21.heap.size, 2, none⟩ = some (.slice Ao24 r6.length co24) := (blk_cell BX3.out 2).trans rfl
 have hx46 : w42.cell? ⟨w21.heap.size, 3, none⟩ = some (.slice Ao25 r7.length co25) := (blk_cell BX3.out 3).trans rfl
 have hx47 : w42.cell? ⟨w9.heap.size, 0, none⟩ = some (.slice Ao10 r4.length co10) := (blk_cell BX1.out 0).trans rfl
 have hx48 : w42.cell? ⟨w9.heap.size, 1, none⟩ = some (.slice Ao11 r5.length co11) := (blk_cell BX1.out 1).trans rfl
 have hx49 : w42.cell? ⟨w9.heap.size, 2, none⟩ = some (.slice Ao12 r6.length co12) := (blk_cell BX1.out 2).trans rfl
 have hx50 : w42.cell? ⟨w9.heap.size, 3, none⟩ = some (.slice Ao13 r7.length co13) := (blk_cell BX1.out 3).trans rfl
 have CK := Aside0.mk (laws_eqState.calls K5 Ao22 co22 r4 Ao23 co23 r5 Ao24 co24 r6 Ao25 co25 r7 Ao10 co10 r4 Ao11 co11 r5 Ao12 co12 r6 Ao13 co13 r7 true w42 HOo22.out.C HOo22.out.room HOo23.out.C HOo23.out.room HOo24.out.C HOo24.out.room HOo25.out.C HOo25.out.room HOo10.out.C HOo10.out.room HOo11.out.C HOo11.out.room HOo12.out.C HOo12.out.room HOo13.out.C HOo13.out.room G5.out)
 go_wp2_with fail
 with_reducible refine CK.out.mono ?_
 rintro e w51 ⟨rfl, hb0⟩
 have hb := hb0
 clear CK hb0
 clear hx43 hx44 hx45 hx46 hx47 hx48 hx49 hx50
 have hW_ := hb
 have SZ6 := Aside0.mk hb.size
 have SS11 := Aside0.mk (And.intro SZ6.out SS10.out)
 clear SS10
 clear SZ6
 replace BX0 := Aside0.mk ((hb.block _ (blk_lt BX0.out)).trans BX0.out)
 replace BX1 := Aside0.mk ((hb.block _ (blk_lt BX1.out)).trans BX1.out)
 replace BX2 := Aside0.mk ((hb.block _ (blk_lt BX2.out)).trans BX2.out)
 replace BX3 := Aside0.mk ((hb.block _ (blk_lt BX3.out)).trans BX3.out)
 replace HOo7 := Aside0.mk (HOo7.out.below hW_)
 replace HOo8 := Aside0.mk (HOo8.out.below hW_)
 replace HOo10 := Aside0.mk (HOo10.out.below hW_)
 replace HOo11 := Aside0.mk (HOo11.out.below hW_)
 replace HOo12 := Aside0.mk (HOo12.out.below hW_)
 replace HOo13 := Aside0.mk (HOo13.out.below hW_)
 replace HOo22 := Aside0.mk (HOo22.out.below hW_)
 replace HOo23 := Aside0.mk (HOo23.out.below hW_)
 replace HOo24 := Aside0.mk (HOo24.out.below hW_)
 replace HOo25 := Aside0.mk (HOo25.out.below hW_)
 replace HOo37 := Aside0.mk (HOo37.out.below hW_)
 replace HOo38 := Aside0.mk (HOo38.out.below hW_)
 replace HB := Aside0.mk (HB.out.trans (hW_.mono HB.out.size))
 clear hb hW_
 have hx52 : w51.cell? ⟨w21.heap.size, 0, none⟩ = some (.slice Ao22 r4.length co22) := (blk_cell BX3.out 0).trans rfl
 have hx53 : w51.cell? ⟨w21.heap.size, 1, none⟩ = some (.slice Ao23 r5.length co23) := (blk_cell BX3.out 1).trans rfl
 have hx54 : w51.cell? ⟨w21.heap.size, 2, none⟩ = some (.slice Ao24 r6.length co24) := (blk_cell BX3.out 2).trans rfl
 have hx55 : w51.cell? ⟨w21.heap.size, 3, none⟩ = some (.slice Ao25 r7.length co25) := (blk_cell BX3.out 3).trans rfl
 have CK := Aside0.mk (lwState K8 K9 K10 HB.out HOo22.out HOo23.out HOo24.out HOo25.out NEo22o24.out G8.out G9.out G10.out G11.out)
 go_wp2_with fail
 with_reducible refine CK.out.mono ?_
 rintro e w56 ⟨rfl, ho0, ho1, ho2, ho3, hb, hk⟩
 clear CK
 clear hx52 hx53 hx54 hx55
 have SZ7 := Aside0.mk hk.1
 have SS12 := Aside0.mk (And.intro SZ7.out SS11.out)
 clear SS11
 clear SZ7
 replace BX0 := Aside0.mk (blkI BX0.out hk (by have s_ := SS12.out; omega))
 replace BX1 := Aside0.mk (blkI BX1.out hk (by have s_ := SS12.out; omega))
 replace BX2 := Aside0.mk (blkI BX2.out hk (by have s_ := SS12.out; omega))
 replace BX3 := Aside0.mk (blkI BX3.out hk (by have s_ := SS12.out; omega))
 replace HOo7 := Aside0.mk (HOo7.out.kept hk (by have s_ := SS12.out; omega))
 replace HOo8 := Aside0.mk (HOo8.out.kept hk (by have s_ := SS12.out; omega))
 replace HOo10 := Aside0.mk (HOo10.out.kept hk (by have s_ := SS12.out; omega))
 replace HOo11 := Aside0.mk (HOo11.out.kept hk (by have s_ := SS12.out; omega))
 replace HOo12 := Aside0.mk (HOo12.out.kept hk (by have s_ := SS12.out; omega))
 replace HOo13 := Aside0.mk (HOo13.out.kept hk (by have s_ := SS12.out; omega))
 replace HOo37 := Aside0.mk (HOo37.out.kept hk (by have s_ := SS12.out; omega))
 replace HOo38 := Aside0.mk (HOo38.out.kept hk (by have s_ := SS12.out; omega))
 replace HOo22 := Aside0.mk ho0
 replace HOo23 := Aside0.mk ho1
 replace HOo24 := Aside0.mk ho2
 replace HOo25 := Aside0.mk ho3
 have HLo22 := Aside0.mk (ho0.len : m11.length = r4.length)
 have HLo23 := Aside0.mk (ho1.len : m13.length = r5.length)
 have HLo24 := Aside0.mk (ho2.len : m15.length = r6.length)
 have HLo25 := Aside0.mk (ho3.len : m17.length = r7.length)
 replace HB := Aside0.mk hb
 clear hb hk ho0 ho1 ho2 ho3
 have hx57 : w56.cell? ⟨w21.heap.size, 0, none⟩ = some (.slice Ao22 r4.length co22) := (blk_cell BX3.out 0).trans rfl
 have hx58 : w56.cell? ⟨w21.heap.size, 1, none⟩ = some (.slice Ao23 r5.length co23) := (blk_cell BX3.out 1).trans rfl
 have hx59 : w56.cell? ⟨w21.heap.size, 2, none⟩ = some (.slice Ao24 r6.length co24) := (blk_cell BX3.out 2).trans rfl
 have hx60 : w56.cell? ⟨w21.heap.size, 3, none⟩ = some (.slice Ao25 r7.length co25) := (blk_cell BX3.out 3).trans rfl
 have CK0 := laws_heldState.calls K12 Ao22 co22 m11 Ao23 co23 m13 Ao24 co24 m15 Ao25 co25 m17 1 k18 w56 HOo22.out.C HOo22.out.room HOo23.out.C HOo23.out.room HOo24.out.C HOo24.out.room HOo25.out.C HOo25.out.room G12.out
 rw [HLo22.out] at CK0
 rw [HLo23.out] at CK0
 rw [HLo24.out] at CK0
 rw [HLo25.out] at CK0
 have CK := Aside0.mk CK0
 clear CK0
 go_wp2_with fail
 with_reducible refine CK.out.mono ?_
 rintro e w61 ⟨rfl, hb0⟩
 have hb := hb0
 clear CK hb0
 clear hx57 hx58 hx59 hx60
 have hW_ := hb
 have SZ8 := Aside0.mk hb.size
 have SS13 := Aside0.mk (And.intro SZ8.out SS12.out)
 clear SS12
 clear SZ8
 replace BX0 := Aside0.mk ((hb.block _ (blk_lt BX0.out)).trans BX0.out)
 replace BX1 := Aside0.mk ((hb.block _ (blk_lt BX1.out)).trans BX1.out)
 replace BX2 := Aside0.mk ((hb.block _ (blk_lt BX2.out)).trans BX2.out)
 replace BX3 := Aside0.mk ((hb.block _ (blk_lt BX3.out)).trans BX3.out)
 replace HOo7 := Aside0.mk (HOo7.out.below hW_)
 replace HOo8 := Aside0.mk (HOo8.out.below hW_)
 replace HOo10 := Aside0.mk (HOo10.out.below hW_)
 replace HOo11 := Aside0.mk (HOo11.out.below hW_)
 replace HOo12 := Aside0.mk (HOo12.out.below hW_)
 replace HOo13 := Aside0.mk (HOo13.out.below hW_)
 replace HOo22 := Aside0.mk (HOo22.out.below hW_)
 replace HOo23 := Aside0.mk (HOo23.out.below hW_)
 replace HOo24 := Aside0.mk (HOo24.out.below hW_)
 replace HOo25 := Aside0.mk (HOo25.out.below hW_)
 replace HOo37 := Aside0.mk (HOo37.out.below hW_)
 replace HOo38 := Aside0.mk (HOo38.out.below hW_)
 replace HB := Aside0.mk (HB.out.trans (hW_.mono HB.out.size))
 clear hb hW_
 have hx62 : w61.cell? ⟨w.heap.size, 0, none⟩ = some (.slice A0_0 l0_0.length c0_0) := (blk_cell BX0.out 0).trans rfl
 have hx63 : w61.cell? ⟨w.heap.size, 1, none⟩ = some (.slice A0_1 l0_1.length c0_1) := (blk_cell BX0.out 1).trans rfl
 have CK := Aside0.mk (laws_toSheet.calls K2 A0_0 c0_0 l0_0 A0_1 c0_1 l0_1 r2 r3 w61 (Kd.C_below HR0_0.out HB.out) HC0_0.out (Kd.C_below HR0_1.out HB.out) HC0_1.out G2.out)
 go_wp2_with fail
 with_reducible refine CK.out.mono ?_
 rintro e w64 ⟨v0_, v1_, rfl, ho0, ho1, hb0⟩
 have hb := hb0
 clear CK hb0
 clear hx62 hx63
 have hW_ := hb
 replace BX0 := Aside0.mk ((hb.block _ (blk_lt BX0.out)).trans BX0.out)
 replace BX1 := Aside0.mk ((hb.block _ (blk_lt BX1.out)).trans BX1.out)
 replace BX2 := Aside0.mk ((hb.block _ (blk_lt BX2.out)).trans BX2.out)
 replace BX3 := Aside0.mk ((hb.block _ (blk_lt BX3.out)).trans BX3.out)
 replace HOo7 := Aside0.mk (HOo7.out.below hW_)
 replace HOo8 := Aside0.mk (HOo8.out.below hW_)
 replace HOo10 := Aside0.mk (HOo10.out.below hW_)
 replace HOo11 := Aside0.mk (HOo11.out.below hW_)
 replace HOo12 := Aside0.mk (HOo12.out.below hW_)
 replace HOo13 := Aside0.mk (HOo13.out.below hW_)
 replace HOo22 := Aside0.mk (HOo22.out.below hW_)
 replace HOo23 := Aside0.mk (HOo23.out.below hW_)
 replace HOo24 := Aside0.mk (HOo24.out.below hW_)
 replace HOo25 := Aside0.mk (HOo25.out.below hW_)
 replace HOo37 := Aside0.mk (HOo37.out.below hW_)
 replace HOo38 := Aside0.mk (HOo38.out.below hW_)
 obtain ⟨lo6, elo6⟩ : ∃ n_, w61.heap.size = n_ := ⟨_, rfl⟩
 obtain ⟨hi6, ehi6⟩ : ∃ n_, w64.heap.size = n_ := ⟨_, rfl⟩
 have hn_0 := OwnI.new (W0 := w) HB.out.size hb.size ho0
 rw [elo6, ehi6] at hn_0
 obtain ⟨Ao65, co65, rfl⟩ := hn_0.slice
 have HOo65 := Aside0.mk hn_0
 clear hn_0 ho0
 have hn_1 := OwnI.new (W0 := w) HB.out.size hb.size ho1
 rw [elo6, ehi6] at hn_1
 obtain ⟨Ao66, co66, rfl⟩ := hn_1.slice
 have HOo66 := Aside0.mk hn_1
 clear hn_1 ho1
 have SP6 := Aside0.mk (And.intro (by have h_ := hb.size; rw [elo6, ehi6] at h_; exact h_ : lo6 ≤ hi6) (And.intro (Nat.le_of_eq elo6 : w61.heap.size ≤ lo6) (Nat.le_of_eq ehi6.symm : hi6 ≤ w64.heap.size)))
 have SS14 := Aside0.mk (And.intro SP6.out SS13.out)
 clear SS13
 clear SP6
 replace HB := Aside0.mk (HB.out.trans (hW_.mono HB.out.size))
 clear hb hW_ elo6 ehi6
 have CK := Aside0.mk (impl_StateStart.calls K4 Ao65 co65 r2 Ao66 co66 r3 r4 r5 r6 r7 r8 w64 HOo65.out.C HOo65.out.room HOo66.out.C HOo66.out.room G4.out)
 go_wp2_with fail
 with_reducible refine CK.out.mono ?_
 rintro e w67 ⟨v0_, v1_, v2_, v3_, rfl, ho0, ho1, ho2, ho3, hb0⟩
 have hb := hb0
 clear CK hb0
 have hW_ := hb
 replace BX0 := Aside0.mk ((hb.block _ (blk_lt BX0.out)).trans BX0.out)
 replace BX1 := Aside0.mk ((hb.block _ (blk_lt BX1.out)).trans BX1.out)
 replace BX2 := Aside0.mk ((hb.block _ (blk_lt BX2.out)).trans BX2.out)
 replace BX3 := Aside0.mk ((hb.block _ (blk_lt BX3.out)).trans BX3.out)
 replace HOo7 := Aside0.mk (HOo7.out.below hW_)
 replace HOo8 := Aside0.mk (HOo8.out.below hW_)
 replace HOo10 := Aside0.mk (HOo10.out.below hW_)
 replace HOo11 := Aside0.mk (HOo11.out.below hW_)
 replace HOo12 := Aside0.mk (HOo12.out.below hW_)
 replace HOo13 := Aside0.mk (HOo13.out.below hW_)
 replace HOo22 := Aside0.mk (HOo22.out.below hW_)
 replace HOo23 := Aside0.mk (HOo23.out.below hW_)
 replace HOo24 := Aside0.mk (HOo24.out.below hW_)
 replace HOo25 := Aside0.mk (HOo25.out.below hW_)
 replace HOo37 := Aside0.mk (HOo37.out.below hW_)
 replace HOo38 := Aside0.mk (HOo38.out.below hW_)
 replace HOo65 := Aside0.mk (HOo65.out.below hW_)
 replace HOo66 := Aside0.mk (HOo66.out.below hW_)
 obtain ⟨lo7, elo7⟩ : ∃ n_, w64.heap.size = n_ := ⟨_, rfl⟩
 obtain ⟨hi7, ehi7⟩ : ∃ n_, w67.heap.size = n_ := ⟨_, rfl⟩
 have HNEv0_v2_ := Aside0.mk (show ∀ k, v0_.ownBlock = some k → some k ≠ v2_.ownBlock from fun k hk => by have h_ := ho0.1 k hk; first | exact h_ | exact h_.1 | exact h_.2 | exact h_.1.1 | exact h_.1.2)
 have HNEv2_v0_ := Aside0.mk (show ∀ k, v2_.ownBlock = some k → some k ≠ v0_.ownBlock from fun k hk => by have h_ := ho2.1 k hk; first | exact h_ | exact h_.1 | exact h_.2 | exact h_.1.1 | exact h_.1.2)
 have hn_0 := OwnI.new (W0 := w) HB.out.size hb.size ho0
 rw [elo7, ehi7] at hn_0
 obtain ⟨Ao68, co68, rfl⟩ := hn_0.slice
 have HOo68 := Aside0.mk hn_0
 clear hn_0 ho0
 have hn_1 := OwnI.new (W0 := w) HB.out.size hb.size ho1
 rw [elo7, ehi7] at hn_1
 obtain ⟨Ao69, co69, rfl⟩ := hn_1.slice
 have HOo69 := Aside0.mk hn_1
 clear hn_1 ho1
 have hn_2 := OwnI.new (W0 := w) HB.out.size hb.size ho2
 rw [elo7, ehi7] at hn_2
 obtain ⟨Ao70, co70, rfl⟩ := hn_2.slice
 have HOo70 := Aside0.mk hn_2
 clear hn_2 ho2
 have hn_3 := OwnS.new (W0 := w) HB.out.size hb.size ho3
 rw [elo7, ehi7] at hn_3
 obtain ⟨Ao71, co71, rfl⟩ := hn_3.slice
 have HOo71 := Aside0.mk hn_3
 clear hn_3 ho3
 have NEo68o70 := HNEv0_v2_
 clear HNEv0_v2_
 have NEo70o68 := HNEv2_v0_
 clear HNEv2_v0_
 have SP7 := Aside0.mk (And.intro (by have h_ := hb.size; rw [elo7, ehi7] at h_; exact h_ : lo7 ≤ hi7) (And.intro (Nat.le_of_eq elo7 : w64.heap.size ≤ lo7) (Nat.le_of_eq ehi7.symm : hi7 ≤ w67.heap.size)))
 have SS15 := Aside0.mk (And.intro SP7.out SS14.out)
 clear SS14
 clear SP7
 replace HB := Aside0.mk (HB.out.trans (hW_.mono HB.out.size))
 clear hb hW_ elo7 ehi7
 have hx72 : (w67.alloc (.cells #[.slice Ao68 r4.length co68, .slice Ao69 r5.length co69, .slice Ao70 r6.length co70, .slice Ao71 r7.length co71] 72)).cell? ⟨w67.heap.size, 0, none⟩ = some (.slice Ao68 r4.length co68) := (blk_cell (show (w67.alloc (.cells #[.slice Ao68 r4.length co68, .slice Ao69 r5.length co69, .slice Ao70 r6.length co70, .slice Ao71 r7.length co71] 72)).heap[w67.heap.size]? = some (.cells #[.slice Ao68 r4.length co68, .slice Ao69 r5.length co69, .slice Ao70 r6.length co70, .slice Ao71 r7.length co71] 72 (0, 0)) from by have h_ := heap_alloc_new w67 (.cells #[.slice Ao68 r4.length co68, .slice Ao69 r5.length co69, .slice Ao70 r6.length co70, .slice Ao71 r7.length co71] 72); simpa using h_) 0).trans rfl
 have hx73 : (w67.alloc (.cells #[.slice Ao68 r4.length co68, .slice Ao69 r5.length co69, .slice Ao70 r6.length co70, .slice Ao71 r7.length co71] 72)).cell? ⟨w67.heap.size, 1, none⟩ = some (.slice Ao69 r5.length co69) := (blk_cell (show (w67.alloc (.cells #[.slice Ao68 r4.length co68, .slice Ao69 r5.length co69, .slice Ao70 r6.length co70, .slice Ao71 r7.length co71] 72)).heap[w67.heap.size]? = some (.cells #[.slice Ao68 r4.length co68, .slice Ao69 r5.length co69, .slice Ao70 r6.length co70, .slice Ao71 r7.length co71] 72 (0, 0)) from by have h_ := heap_alloc_new w67 (.cells #[.slice Ao68 r4.length co68, .slice Ao69 r5.length co69, .slice Ao70 r6.length co70, .slice Ao71 r7.length co71] 72); simpa using h_) 1).trans rfl
 have hx74 : (w67.alloc (.cells #[.slice Ao68 r4.length co68, .slice Ao69 r5.length co69, .slice Ao70 r6.length co70, .slice Ao71 r7.length co71] 72)).cell? ⟨w67.heap.size, 2, none⟩ = some (.slice Ao70 r6.length co70) := (blk_cell (show (w67.alloc (.cells #[.slice Ao68 r4.length co68, .slice Ao69 r5.length co69, .slice Ao70 r6.length co70, .slice Ao71 r7.length co71] 72)).heap[w67.heap.size]? = some (.cells #[.slice Ao68 r4.length co68, .slice Ao69 r5.length co69, .slice Ao70 r6.length co70, .slice Ao71 r7.length co71] 72 (0, 0)) from by have h_ := heap_alloc_new w67 (.cells #[.slice Ao68 r4.length co68, .slice Ao69 r5.length co69, .slice Ao70 r6.length co70, .slice Ao71 r7.length co71] 72); simpa using h_) 2).trans rfl
 have hx75 : (w67.alloc (.cells #[.slice Ao68 r4.length co68, .slice Ao69 r5.length co69, .slice Ao70 r6.length co70, .slice Ao71 r7.length co71] 72)).cell? ⟨w67.heap.size, 3, none⟩ = some (.slice Ao71 r7.length co71) := (blk_cell (show (w67.alloc (.cells #[.slice Ao68 r4.length co68, .slice Ao69 r5.length co69, .slice Ao70 r6.length co70, .slice Ao71 r7.length co71] 72)).heap[w67.heap.size]? = some (.cells #[.slice Ao68 r4.length co68, .slice Ao69 r5.length co69, .slice Ao70 r6.length co70, .slice Ao71 r7.length co71] 72 (0, 0)) from by have h_ := heap_alloc_new w67 (.cells #[.slice Ao68 r4.length co68, .slice Ao69 r5.length co69, .slice Ao70 r6.length co70, .slice Ao71 r7.length co71] 72); simpa using h_) 3).trans rfl
 have hx76 : (w67.alloc (.cells #[.slice Ao68 r4.length co68, .slice Ao69 r5.length co69, .slice Ao70 r6.length co70, .slice Ao71 r7.length co71] 72)).cell? ⟨w9.heap.size, 0, none⟩ = some (.slice Ao10 r4.length co10) := (blk_cell (blk_alloc BX1.out _) 0).trans rfl
 have hx77 : (w67.alloc (.cells #[.slice Ao68 r4.length co68, .slice Ao69 r5.length co69, .slice Ao70 r6.length co70, .slice Ao71 r7.length co71] 72)).cell? ⟨w9.heap.size, 1, none⟩ = some (.slice Ao11 r5.length co11) := (blk_cell (blk_alloc BX1.out _) 1).trans rfl
 have hx78 : (w67.alloc (.cells #[.slice Ao68 r4.length co68, .slice Ao69 r5.length co69, .slice Ao70 r6.length co70, .slice Ao71 r7.length co71] 72)).cell? ⟨w9.heap.size, 2, none⟩ = some (.slice Ao12 r6.length co12) := (blk_cell (blk_alloc BX1.out _) 2).trans rfl
 have hx79 : (w67.alloc (.cells #[.slice Ao68 r4.length co68, .slice Ao69 r5.length co69, .slice Ao70 r6.length co70, .slice Ao71 r7.length co71] 72)).cell? ⟨w9.heap.size, 3, none⟩ = some (.slice Ao13 r7.length co13) := (blk_cell (blk_alloc BX1.out _) 3).trans rfl
 have CK := Aside0.mk (laws_eqState.calls K5 Ao68 co68 r4 Ao69 co69 r5 Ao70 co70 r6 Ao71 co71 r7 Ao10 co10 r4 Ao11 co11 r5 Ao12 co12 r6 Ao13 co13 r7 true (w67.alloc (.cells #[.slice Ao68 r4.length co68, .slice Ao69 r5.length co69, .slice Ao70 r6.length co70, .slice Ao71 r7.length co71] 72)) (HOo68.out.below (below_alloc (Below.refl w67.heap.size w67) _)).C HOo68.out.room (HOo69.out.below (below_alloc (Below.refl w67.heap.size w67) _)).C HOo69.out.room (HOo70.out.below (below_alloc (Below.refl w67.heap.size w67) _)).C HOo70.out.room (HOo71.out.below (below_alloc (Below.refl w67.heap.size w67) _)).C HOo71.out.room (HOo10.out.below (below_alloc (Below.refl w67.heap.size w67) _)).C HOo10.out.room (HOo11.out.below (below_alloc (Below.refl w67.heap.size w67) _)).C HOo11.out.room (HOo12.out.below (below_alloc (Below.refl w67.heap.size w67) _)).C HOo12.out.room (HOo13.out.below (below_alloc (Below.refl w67.heap.size w67) _)).C HOo13.out.room G5.out)
 go_wp2_with fail
 with_reducible refine CK.out.mono ?_
 rintro e w80 ⟨rfl, hb0⟩
 have hb := hb0
 clear CK hb0
 clear hx72 hx73 hx74 hx75 hx76 hx77 hx78 hx79
 have hW_ : Below w67.heap.size w67 w80 := (below_alloc (Below.refl w67.heap.size w67) _).trans (hb.mono (below_alloc (Below.refl w67.heap.size w67) _).size)
 have SZ9 := Aside0.mk (Nat.le_trans (Nat.succ_le_of_lt (blk_lt (show (w67.alloc (.cells #[.slice Ao68 r4.length co68, .slice Ao69 r5.length co69, .slice Ao70 r6.length co70, .slice Ao71 r7.length co71] 72)).heap[w67.heap.size]? = some (.cells #[.slice Ao68 r4.length co68, .slice Ao69 r5.length co69, .slice Ao70 r6.length co70, .slice Ao71 r7.length co71] 72 (0, 0)) from by have h_ := heap_alloc_new w67 (.cells #[.slice Ao68 r4.length co68, .slice Ao69 r5.length co69, .slice Ao70 r6.length co70, .slice Ao71 r7.length co71] 72); simpa using h_)) : w67.heap.size + 1 ≤ (w67.alloc (.cells #[.slice Ao68 r4.length co68, .slice Ao69 r5.length co69, .slice Ao70 r6.length co70, .slice Ao71 r7.length co71] 72)).heap.size) hb.size)
 have SS16 := Aside0.mk (And.intro SZ9.out SS15.out)
 clear SS15
 clear SZ9
 replace BX0 := Aside0.mk ((hb.block _ (blk_lt (blk_alloc BX0.out _))).trans (blk_alloc BX0.out _))
 replace BX1 := Aside0.mk ((hb.block _ (blk_lt (blk_alloc BX1.out _))).trans (blk_alloc BX1.out _))
 replace BX2 := Aside0.mk ((hb.block _ (blk_lt (blk_alloc BX2.out _))).trans (blk_alloc BX2.out _))
 replace BX3 := Aside0.mk ((hb.block _ (blk_lt (blk_alloc BX3.out _))).trans (blk_alloc BX3.out _))
 have BX4 := Aside0.mk ((hb.block _ (blk_lt (show (w67.alloc (.cells #[.slice Ao68 r4.length co68, .slice Ao69 r5.length co69, .slice Ao70 r6.length co70, .slice Ao71 r7.length co71] 72)).heap[w67.heap.size]? = some (.cells #[.slice Ao68 r4.length co68, .slice Ao69 r5.length co69, .slice Ao70 r6.length co70, .slice Ao71 r7.length co71] 72 (0, 0)) from by have h_ := heap_alloc_new w67 (.cells #[.slice Ao68 r4.length co68, .slice Ao69 r5.length co69, .slice Ao70 r6.length co70, .slice Ao71 r7.length co71] 72); simpa using h_))).trans (show (w67.alloc (.cells #[.slice Ao68 r4.length co68, .slice Ao69 r5.length co69, .slice Ao70 r6.length co70, .slice Ao71 r7.length co71] 72)).heap[w67.heap.size]? = some (.cells #[.slice Ao68 r4.length co68, .slice Ao69 r5.length co69, .slice Ao70 r6.length co70, .slice Ao71 r7.length co71] 72 (0, 0)) from by have h_ := heap_alloc_new w67 (.cells #[.slice Ao68 r4.length co68, .slice Ao69 r5.length co69, .slice Ao70 r6.length co70, .slice Ao71 r7.length co71] 72); simpa using h_))
 replace HOo7 := Aside0.mk (HOo7.out.below hW_)
 replace HOo8 := Aside0.mk (HOo8.out.below hW_)
 replace HOo10 := Aside0.mk (HOo10.out.below hW_)
 replace HOo11 := Aside0.mk (HOo11.out.below hW_)
 replace HOo12 := Aside0.mk (HOo12.out.below hW_)
 replace HOo13 := Aside0.mk (HOo13.out.below hW_)
 replace HOo22 := Aside0.mk (HOo22.out.below hW_)
 replace HOo23 := Aside0.mk (HOo23.out.below hW_)
 replace HOo24 := Aside0.mk (HOo24.out.below hW_)
 replace HOo25 := Aside0.mk (HOo25.out.below hW_)
 replace HOo37 := Aside0.mk (HOo37.out.below hW_)
 replace HOo38 := Aside0.mk (HOo38.out.below hW_)
 replace HOo65 := Aside0.mk (HOo65.out.below hW_)
 replace HOo66 := Aside0.mk (HOo66.out.below hW_)
 replace HOo68 := Aside0.mk (HOo68.out.below hW_)
 replace HOo69 := Aside0.mk (HOo69.out.below hW_)
 replace HOo70 := Aside0.mk (HOo70.out.below hW_)
 replace HOo71 := Aside0.mk (HOo71.out.below hW_)
 replace HB := Aside0.mk (HB.out.trans (hW_.mono HB.out.size))
 clear hb hW_
 have hx81 : w80.cell? ⟨w21.heap.size, 0, none⟩ = some (.slice Ao22 r4.length co22) := (blk_cell BX3.out 0).trans rfl
 have hx82 : w80.cell? ⟨w21.heap.size, 1, none⟩ = some (.slice Ao23 r5.length co23) := (blk_cell BX3.out 1).trans rfl
 have hx83 : w80.cell? ⟨w21.heap.size, 2, none⟩ = some (.slice Ao24 r6.length co24) := (blk_cell BX3.out 2).trans rfl
 have hx84 : w80.cell? ⟨w21.heap.size, 3, none⟩ = some (.slice Ao25 r7.length co25) := (blk_cell BX3.out 3).trans rfl
 have CK0 := laws_heldState.calls K12 Ao22 co22 m11 Ao23 co23 m13 Ao24 co24 m15 Ao25 co25 m17 1 k18 w80 HOo22.out.C HOo22.out.room HOo23.out.C HOo23.out.room HOo24.out.C HOo24.out.room HOo25.out.C HOo25.out.room G12.out
 rw [HLo22.out] at CK0
 rw [HLo23.out] at CK0
 rw [HLo24.out] at CK0
 rw [HLo25.out] at CK0
 have CK := Aside0.mk CK0
 clear CK0
 go_wp2_with fail
 with_reducible refine CK.out.mono ?_
 rintro e w85 ⟨rfl, hb0⟩
 have hb := hb0
 clear CK hb0
 clear hx81 hx82 hx83 hx84
 have hW_ := hb
 have SZ10 := Aside0.mk hb.size
 have SS17 := Aside0.mk (And.intro SZ10.out SS16.out)
 clear SS16
 clear SZ10
 replace BX0 := Aside0.mk ((hb.block _ (blk_lt BX0.out)).trans BX0.out)
 replace BX1 := Aside0.mk ((hb.block _ (blk_lt BX1.out)).trans BX1.out)
 replace BX2 := Aside0.mk ((hb.block _ (blk_lt BX2.out)).trans BX2.out)
 replace BX3 := Aside0.mk ((hb.block _ (blk_lt BX3.out)).trans BX3.out)
 replace BX4 := Aside0.mk ((hb.block _ (blk_lt BX4.out)).trans BX4.out)
 replace HOo7 := Aside0.mk (HOo7.out.below hW_)
 replace HOo8 := Aside0.mk (HOo8.out.below hW_)
 replace HOo10 := Aside0.mk (HOo10.out.below hW_)
 replace HOo11 := Aside0.mk (HOo11.out.below hW_)
 replace HOo12 := Aside0.mk (HOo12.out.below hW_)
 replace HOo13 := Aside0.mk (HOo13.out.below hW_)
 replace HOo22 := Aside0.mk (HOo22.out.below hW_)
 replace HOo23 := Aside0.mk (HOo23.out.below hW_)
 replace HOo24 := Aside0.mk (HOo24.out.below hW_)
 replace HOo25 := Aside0.mk (HOo25.out.below hW_)
 replace HOo37 := Aside0.mk (HOo37.out.below hW_)
 replace HOo38 := Aside0.mk (HOo38.out.below hW_)
 replace HOo65 := Aside0.mk (HOo65.out.below hW_)
 replace HOo66 := Aside0.mk (HOo66.out.below hW_)
 replace HOo68 := Aside0.mk (HOo68.out.below hW_)
 replace HOo69 := Aside0.mk (HOo69.out.below hW_)
 replace HOo70 := Aside0.mk (HOo70.out.below hW_)
 replace HOo71 := Aside0.mk (HOo71.out.below hW_)
 replace HB := Aside0.mk (HB.out.trans (hW_.mono HB.out.size))
 clear hb hW_
 go_wp2
 go_ret
 exact ⟨rfl, HB.out⟩
set_option maxHeartbeats 8000000 in
set_option maxRecDepth 100000 in
theorem lw_FnExactStateStart_e0 (A0_0 : Option Addr) (c0_0 : Nat) (l0_0 : List (Bool)) (A0_1 : Option Addr) (c0_1 : Nat) (l0_1 : List (S85)) (w : World) (hr0_0 : Kd.C Kd.bool w A0_0 l0_0.length l0_0) (hc0_0 : l0_0.length ≤ c0_0) (hr0_1 : Kd.C k85 w A0_1 l0_1.length l0_1) (hc0_1 : l0_1.length ≤ c0_1)  (r1 : Int) (K1 : Nat) (H1 : laws_szSheet.f K1 l0_0 l0_1 1048576 = some r1) (hx_1 : r1 < 0) :
   Calls Try.prog 10 #[.agg #[.slice A0_0 l0_0.length c0_0, .slice A0_1 l0_1.length c0_1]] w fun e w' => e = .returned (.bool true) ∧ Below w.heap.size w w' := by
 have hu62 := Try.underlying62
 have hu67 := Try.underlying67
 have hu72 := Try.underlying72
 have HR0_0 := Aside0.mk hr0_0
 have HC0_0 := Aside0.mk hc0_0
 clear hr0_0 hc0_0
 have HR0_1 := Aside0.mk hr0_1
 have HC0_1 := Aside0.mk hc0_1
 clear hr0_1 hc0_1
 have G1 := Aside0.mk H1
 clear H1
 have HX1 := Aside0.mk hx_1
 have hd_1 : decide (r1 < 0) = true := decide_eq_true (by omega)
 clear hx_1
 have HB := Aside0.mk (Below.refl w.heap.size w)
 go_enter Try.func10, Try.ntmps10
 have hx1 : (w.alloc (.cells #[.slice A0_0 l0_0.length c0_0, .slice A0_1 l0_1.length c0_1] 62)).cell? ⟨w.heap.size, 0, none⟩ = some (.slice A0_0 l0_0.length c0_0) := (blk_cell (show (w.alloc (.cells #[.slice A0_0 l0_0.length c0_0, .slice A0_1 l0_1.length c0_1] 62)).heap[w.heap.size]? = some (.cells #[.slice A0_0 l0_0.length c0_0, .slice A0_1 l0_1.length c0_1] 62 (0, 0)) from by have h_ := heap_alloc_new w (.cells #[.slice A0_0 l0_0.length c0_0, .slice A0_1 l0_1.length c0_1] 62); simpa using h_) 0).trans rfl
 have hx2 : (w.alloc (.cells #[.slice A0_0 l0_0.length c0_0, .slice A0_1 l0_1.length c0_1] 62)).cell? ⟨w.heap.size, 1, none⟩ = some (.slice A0_1 l0_1.length c0_1) := (blk_cell (show (w.alloc (.cells #[.slice A0_0 l0_0.length c0_0, .slice A0_1 l0_1.length c0_1] 62)).heap[w.heap.size]? = some (.cells #[.slice A0_0 l0_0.length c0_0, .slice A0_1 l0_1.length c0_1] 62 (0, 0)) from by have h_ := heap_alloc_new w (.cells #[.slice A0_0 l0_0.length c0_0, .slice A0_1 l0_1.length c0_1] 62); simpa using h_) 1).trans rfl
 have CK := Aside0.mk (laws_szSheet.calls K1 A0_0 c0_0 l0_0 A0_1 c0_1 l0_1 1048576 r1 (w.alloc (.cells #[.slice A0_0 l0_0.length c0_0, .slice A0_1 l0_1.length c0_1] 62)) (Kd.C_below HR0_0.out (below_alloc HB.out _)) HC0_0.out (Kd.C_below HR0_1.out (below_alloc HB.out _)) HC0_1.out G1.out)
 go_wp2_with fail
 with_reducible refine CK.out.mono ?_
 rintro e w3 ⟨rfl, hb0⟩
 have hb := hb0
 clear CK hb0
 clear hx1 hx2
 have hW_ : Below w.heap.size w w3 := (below_alloc (Below.refl w.heap.size w) _).trans (hb.mono (below_alloc (Below.refl w.heap.size w) _).size)
 have SZ1 := Aside0.mk (Nat.le_trans (Nat.succ_le_of_lt (blk_lt (show (w.alloc (.cells #[.slice A0_0 l0_0.length c0_0, .slice A0_1 l0_1.length c0_1] 62)).heap[w.heap.size]? = some (.cells #[.slice A0_0 l0_0.length c0_0, .slice A0_1 l0_1.length c0_1] 62 (0, 0)) from by have h_ := heap_alloc_new w (.cells #[.slice A0_0 l0_0.length c0_0, .slice A0_1 l0_1.length c0_1] 62); simpa using h_)) : w.heap.size + 1 ≤ (w.alloc (.cells #[.slice A0_0 l0_0.length c0_0, .slice A0_1 l0_1.length c0_1] 62)).heap.size) hb.size)
 have SS1 := SZ1
 clear SZ1
 have BX0 := Aside0.mk ((hb.block _ (blk_lt (show (w.alloc (.cells #[.slice A0_0 l0_0.length c0_0, .slice A0_1 l0_1.length c0_1] 62)).heap[w.heap.size]? = some (.cells #[.slice A0_0 l0_0.length c0_0, .slice A0_1 l0_1.length c0_1] 62 (0, 0)) from by have h_ := heap_alloc_new w (.cells #[.slice A0_0 l0_0.length c0_0, .slice A0_1 l0_1.length c0_1] 62); simpa using h_))).trans (show (w.alloc (.cells #[.slice A0_0 l0_0.length c0_0, .slice A0_1 l0_1.length c0_1] 62)).heap[w.heap.size]? = some (.cells #[.slice A0_0 l0_0.length c0_0, .slice A0_1 l0_1.length c0_1] 62 (0, 0)) from by have h_ := heap_alloc_new w (.cells #[.slice A0_0 l0_0.length c0_0, .slice A0_1 l0_1.length c0_1] 62); simpa using h_))
 replace HB := Aside0.mk (HB.out.trans (hW_.mono HB.out.size))
 clear hb hW_
 go_wp2
 go_ret
 exact ⟨rfl, HB.out⟩
end Go.Proofs.Ytofieekbhbkliaa.G
end
section
namespace Go.Proofs.Ytofieekbhbkliaa.G
open Go.RowKit Go.Proofs.YtofieekbhbkliaaW.PrintWords
set_option linter.unusedVariables false
set_option linter.unusedSimpArgs false
def rowsOk : List Bool → List Tk → Bool
  | m :: ms, t :: ts => (okT t && (m || ((t.f0 == 0) && (t.f1 == 0)))) && rowsOk ms ts
  | _, _ => true
def sheetOk (made : List Bool) (tasks : List Tk) : Bool := (decide (made.length = tasks.length) && decide (made.length ≤ 10)) && rowsOk made tasks
theorem rd_bool (l : List Bool) (i : Nat) (h : i < l.length) : rdOf false l (i : Int) = l[i] := by
  simp only [rdOf, Int.toNat_natCast, List.getD_eq_getElem?_getD, List.getElem?_eq_getElem h, Option.getD_some]
theorem implSheet_loop (made : List Bool) (tasks : List Tk) (he : made.length = tasks.length) (hl : made.length ≤ 10) :
    ∀ (d i : Nat), d = tasks.length - i → i ≤ tasks.length → Ev (fun k => impl_SheetOk.l0 k tasks (tasks.length : Int) (i : Int) made tasks) (rowsOk (made.drop i) (tasks.drop i)) := by
  intro d
  induction d with
  | zero =>
    intro i hd hi
    have e : i = tasks.length := by omega
    subst e
    refine Ev.step (fun k => by rw [impl_SheetOk.l0]) ?_
    simp only [if_neg (show ¬ ((tasks.length : Int) < (tasks.length : Int)) by omega), List.drop_length]
    exact Ev.eq (Ev.now true) (by unfold rowsOk; split <;> simp_all)
  | succ d ihd =>
    intro i hd hi
    have hlt : i < tasks.length := by omega
    have hlm : i < made.length := by omega
    rw [drop_tk made i hlm, drop_tk tasks i hlt, rowsOk]
    refine Ev.step (fun k => by rw [impl_SheetOk.l0]) ?_
    simp only [if_pos (show (i : Int) < (tasks.length : Int) by omega), if_pos (show (0 : Int) ≤ (i : Int) by omega), if_pos (show (i : Int) < (made.length : Int) by omega), rd_tk tasks i hlt, rd_bool made i hlm]
    refine Ev.bind (implOk_ev _) ?_
    have hn := ihd (i + 1) (by omega) (by omega)
    cases h : okT tasks[i] with
    | false =>
      simp only [Bool.false_eq_true, if_false, Bool.false_and]
      exact Ev.now false
    | true =>
      cases hm : made[i] with
      | true =>
        simp only [if_true, Bool.true_and, Bool.true_or, wrap_nat i (by omega)]
        exact hn
      | false =>
        simp only [if_true, Bool.true_and, Bool.false_or, Bool.false_eq_true, if_false, wrap_nat i (by omega)]
        by_cases h0 : tasks[i].f0 = 0
        · by_cases h1 : tasks[i].f1 = 0
          · simp only [h0, h1, if_true, beq_self_eq_true, Bool.true_and]
            exact hn
          · simp only [h0, h1, if_true, if_false, beq_self_eq_true, beq_eq_false_iff_ne.mpr h1, Bool.true_and, Bool.and_false, Bool.false_and]
            exact Ev.now false
        · simp only [h0, if_false, beq_eq_false_iff_ne.mpr h0, Bool.false_and]
          exact Ev.now false
theorem implSheet_ev (made : List Bool) (tasks : List Tk) : Ev (fun k => impl_SheetOk.f k made tasks) (sheetOk made tasks) := by
  unfold impl_SheetOk.f
  by_cases he : made.length = tasks.length
  · simp only [if_pos (show (made.length : Int) = (tasks.length : Int) by omega)]
    refine Ev.step (fun k => by rw [impl_SheetOk.j0]) ?_
    by_cases hl : made.length ≤ 10
    · simp only [decide_eq_false (show ¬ ((made.length : Int) > 10) by omega), Bool.false_eq_true, if_false]
      refine Ev.eq (implSheet_loop made tasks he hl tasks.length 0 (by omega) (by omega)) ?_
      rw [List.drop_zero, List.drop_zero, sheetOk, decide_eq_true he, decide_eq_true hl]
      simp
    · simp only [decide_eq_true (show ((made.length : Int) > 10) by omega), if_true]
      exact Ev.eq (Ev.now false) (by rw [sheetOk, decide_eq_false hl]; simp)
  · simp only [if_neg (show ¬ ((made.length : Int) = (tasks.length : Int)) by omega)]
    refine Ev.step (fun k => by rw [impl_SheetOk.j0]) ?_
    simp only [if_true]
    exact Ev.eq (Ev.now false) (by rw [sheetOk, decide_eq_false he]; simp)
theorem specSheet_loop (made : List Bool) (tasks : List Tk) (he : made.length = tasks.length) (hl : made.length ≤ 10) (hb : ∀ t ∈ tasks, (nodT t : Int) ≤ 4000000000) :
    ∀ (d i : Nat), d = made.length - i → i ≤ made.length → Ev (fun k => spec_SheetOk.l0 k (i : Int) made tasks) (rowsOk (made.drop i) (tasks.drop i)) := by
  intro d
  induction d with
  | zero =>
    intro i hd hi
    have e : i = made.length := by omega
    subst e
    refine Ev.step (fun k => by rw [spec_SheetOk.l0]) ?_
    simp only [if_neg (show ¬ ((made.length : Int) < (made.length : Int)) by omega), List.drop_length]
    exact Ev.eq (Ev.now true) (by unfold rowsOk; rfl)
  | succ d ihd =>
    intro i hd hi
    have hlt : i < tasks.length := by omega
    have hlm : i < made.length := by omega
    rw [drop_tk made i hlm, drop_tk tasks i hlt, rowsOk]
    refine Ev.step (fun k => by rw [spec_SheetOk.l0]) ?_
    simp only [if_pos (show (i : Int) < (tasks.length : Int) by omega), if_pos (show (0 : Int) ≤ (i : Int) by omega), if_pos (show (i : Int) < (made.length : Int) by omega), rd_tk tasks i hlt, rd_bool made i hlm]
    refine Ev.bind (specOk_ev _ (hb _ (List.getElem_mem hlt))) ?_
    have hn := ihd (i + 1) (by omega) (by omega)
    cases h : okT tasks[i] with
    | false =>
      simp only [Bool.false_eq_true, if_false, Bool.false_and]
      exact Ev.now false
    | true =>
      cases hm : made[i] with
      | true =>
        simp only [if_true, Bool.true_and, Bool.true_or, wrap_nat i (by omega)]
        exact hn
      | false =>
        simp only [if_true, Bool.true_and, Bool.false_or, Bool.false_eq_true, if_false, wrap_nat i (by omega)]
        by_cases h0 : tasks[i].f0 = 0
        · by_cases h1 : tasks[i].f1 = 0
          · simp only [h0, h1, if_true, beq_self_eq_true, Bool.true_and]
            exact hn
          · simp only [h0, h1, if_true, if_false, beq_self_eq_true, beq_eq_false_iff_ne.mpr h1, Bool.true_and, Bool.and_false, Bool.false_and]
            exact Ev.now false
        · simp only [h0, if_false, beq_eq_false_iff_ne.mpr h0, Bool.false_and]
          exact Ev.now false
theorem specSheet_ev (made : List Bool) (tasks : List Tk) (hb : ∀ t ∈ tasks, (nodT t : Int) ≤ 4000000000) : Ev (fun k => spec_SheetOk.f k made tasks) (sheetOk made tasks) := by
  unfold spec_SheetOk.f
  by_cases he : made.length = tasks.length
  · simp only [if_pos (show (made.length : Int) = (tasks.length : Int) by omega)]
    refine Ev.step (fun k => by rw [spec_SheetOk.j0]) ?_
    by_cases hl : made.length ≤ 10
    · simp only [decide_eq_false (show ¬ ((made.length : Int) > 10) by omega), Bool.false_eq_true, if_false]
      refine Ev.eq (specSheet_loop made tasks he hl hb made.length 0 (by omega) (by omega)) ?_
      rw [List.drop_zero, List.drop_zero, sheetOk, decide_eq_true he, decide_eq_true hl]
      simp
    · simp only [decide_eq_true (show ((made.length : Int) > 10) by omega), if_true]
      exact Ev.eq (Ev.now false) (by rw [sheetOk, decide_eq_false hl]; simp)
  · simp only [if_neg (show ¬ ((made.length : Int) = (tasks.length : Int)) by omega)]
    refine Ev.step (fun k => by rw [spec_SheetOk.j0]) ?_
    simp only [if_true]
    exact Ev.eq (Ev.now false) (by rw [sheetOk, decide_eq_false he]; simp)
theorem szB_ev (l : List Bool) (hlen : l.length ≤ 9223372036854775807) (left : Int) (h0 : 0 ≤ left) (h1 : left ≤ 1048576) : laws_szBoolS.f l left = some (leftOf l.length left) := by
  unfold laws_szBoolS.f
  rw [wrap_id (left - (l.length : Int)) (by omega) (by omega)]
  by_cases hc : (l.length : Int) ≤ left
  · rw [if_neg (by omega), leftOf_yes hc]
  · rw [if_pos (by omega), leftOf_no hc]
def szSh (made : List Bool) (tasks : List Lk) : Nat := made.length + (tasks.length + szC tasks)
theorem szSheet_ev (made : List Bool) (tasks : List Lk) (hm : made.length ≤ 9223372036854775807) (hlen : tasks.length ≤ 9223372036854775807) (hbd : bdL tasks) (left : Int) (h0 : 0 ≤ left) (h1 : left ≤ 1048576) :
    Ev (fun k => laws_szSheet.f k made tasks left) (leftOf (szSh made tasks) left) := by
  unfold laws_szSheet.f
  simp only [szB_ev made hm left h0 h1, Option.bind_some]
  unfold szSh
  by_cases hc : (made.length : Int) ≤ left
  · rw [leftOf_yes hc]
    simp only [if_neg (show ¬ (left - (made.length : Int) < 0) by omega)]
    refine Ev.bind (szL_ev tasks hlen hbd (left - made.length) (by omega) (by omega)) ?_
    rw [leftOf_add hc]
    by_cases hn : leftOf (made.length + (tasks.length + szC tasks)) left < 0
    · simp only [if_pos hn]
      rw [leftOf_no ((leftOf_neg h0).1 hn)]
      exact Ev.now _
    · simp only [if_neg hn]
      exact Ev.now _
  · rw [leftOf_no hc]
    simp only [if_pos (show (-1 : Int) < 0 by omega)]
    exact Ev.eq (Ev.now (-1)) (leftOf_no (by omega)).symm
theorem toB_ev (l : List Bool) (hb : l.length ≤ 1048576) : Ev (fun k => laws_toBoolS.f k l) l := by
  have loop : ∀ (d i : Nat), d = l.length - i → i ≤ l.length → Ev (fun k => laws_toBoolS.l0 k l (l.take i ++ List.replicate (l.length - i) false) (i : Int)) l := by
    intro d
    induction d with
    | zero =>
      intro i hd hi
      have e : i = l.length := by omega
      subst e
      refine Ev.step (fun k => by rw [laws_toBoolS.l0]) ?_
      simp only [if_neg (show ¬ ((l.length : Int) < (l.length : Int)) by omega), Nat.sub_self, List.replicate_zero, List.append_nil, List.take_length]
      exact Ev.now _
    | succ d ihd =>
      intro i hd hi
      have hlt : i < l.length := by omega
      have hl : (l.take i ++ List.replicate (l.length - i) false).length = l.length := by simp; omega
      refine Ev.step (fun k => by rw [laws_toBoolS.l0]) ?_
      simp only [if_pos (show (i : Int) < (l.length : Int) by omega), if_pos (show (0 : Int) ≤ (i : Int) by omega), rd_bool l i hlt, hl]
      simp only [wrap_nat i (by omega), Int.toNat_natCast]
      have e : (l.take i ++ List.replicate (l.length - i) false).set i l[i] = l.take (i + 1) ++ List.replicate (l.length - (i + 1)) false := by
        rw [List.set_append_right _ _ (by rw [List.length_take]; omega), List.length_take, Nat.min_eq_left (by omega), Nat.sub_self]
        rw [show l.length - i = (l.length - (i + 1)) + 1 by omega, List.replicate_succ, List.set_cons_zero, List.take_succ_eq_append_getElem hlt, List.append_assoc, List.singleton_append]
      rw [e]
      exact ihd (i + 1) (by omega) (by omega)
  unfold laws_toBoolS.f
  simp only [if_pos (show (0 : Int) ≤ (l.length : Int) by omega), Int.toNat_natCast, if_pos (show l.length ≤ 281474976710656 by omega)]
  have h := loop l.length 0 (by omega) (by omega)
  simp only [List.take_zero, List.nil_append, Nat.sub_zero, Int.natCast_zero, Int.ofNat_zero] at h
  exact h
theorem toSheet_ev (made : List Bool) (tasks : List Lk) (hb : szSh made tasks ≤ 1048576) : Ev (fun k => laws_toSheet.f k made tasks) (made, cvL tasks) := by
  unfold szSh at hb
  unfold laws_toSheet.f
  refine Ev.bind (toB_ev made (by omega)) ?_
  refine Ev.bind (toL_ev tasks (by omega)) ?_
  exact Ev.now _
theorem eqB_ev (l : List Bool) (hb : l.length ≤ 4000000000) : Ev (fun k => laws_eqBoolS.f k l l) true := by
  have loop : ∀ (d i : Nat), d = l.length - i → i ≤ l.length → Ev (fun k => laws_eqBoolS.l0 k l l (i : Int)) true := by
    intro d
    induction d with
    | zero =>
      intro i hd hi
      have e : i = l.length := by omega
      subst e
      refine Ev.step (fun k => by rw [laws_eqBoolS.l0]) ?_
      simp only [if_neg (show ¬ ((l.length : Int) < (l.length : Int)) by omega)]
      exact Ev.now true
    | succ d ihd =>
      intro i hd hi
      have hlt : i < l.length := by omega
      refine Ev.step (fun k => by rw [laws_eqBoolS.l0]) ?_
      simp only [if_pos (show (i : Int) < (l.length : Int) by omega), if_pos (show (0 : Int) ≤ (i : Int) by omega), bne_self_eq_false, Bool.false_eq_true, if_false, wrap_nat i (by omega)]
      exact ihd (i + 1) (by omega) (by omega)
  unfold laws_eqBoolS.f
  simp only [if_true]
  exact loop l.length 0 (by omega) (by omega)
theorem eqSheet_ev (made : List Bool) (tasks : List Tk) (hm : made.length ≤ 4000000000) (hb : nodL tasks ≤ 4000000000) : Ev (fun k => laws_eqSheet.f k made tasks made tasks) true := by
  unfold laws_eqSheet.f
  refine Ev.bind (eqB_ev made hm) ?_
  simp only [if_true]
  refine Ev.bind (eqL_ev tasks hb) ?_
  simp only [if_true]
  exact Ev.now true
theorem nod_le_of_szSh {made : List Bool} {tasks : List Lk} (hb : szSh made tasks ≤ 1048576) : nodL (cvL tasks) ≤ 1048576 := by
  unfold szSh at hb
  rw [nodL_cv]
  omega
theorem nod_mem_of_szSh {made : List Bool} {tasks : List Lk} (hb : szSh made tasks ≤ 1048576) : ∀ t ∈ cvL tasks, (nodT t : Int) ≤ 4000000000 := by
  intro t ht
  have h1 := nod_le_of_szSh hb
  have h2 := nodL_mem t ht
  omega
end Go.Proofs.Ytofieekbhbkliaa.G
end
section
namespace Go.Proofs.Ytofieekbhbkliaa.G
open Go.RowKit Go.Proofs.YtofieekbhbkliaaW.PrintWords
set_option linter.unusedVariables false
set_option linter.unusedSimpArgs false
theorem rd_int (l : List Int) (i : Nat) (h : i < l.length) : rd l (i : Int) = l[i] := by
  simp only [rd, Int.toNat_natCast, List.getD_eq_getElem?_getD, List.getElem?_eq_getElem h, Option.getD_some]
theorem eqIs_ev (l : List Int) (hl : l.length ≤ 4000000000) : Ev (fun k => laws_eqIntS.f k l l) true := by
  unfold laws_eqIntS.f
  simp only [if_true]
  exact eqLoop l (fun k i => laws_eqIntS.l0 k l l i) (fun _ x => some true)
    (fun k => by simp only [laws_eqIntS.l0, if_neg (show ¬ ((l.length : Int) < (l.length : Int)) by omega)])
    (fun k i hi => by simp only [laws_eqIntS.l0, if_pos (show (i : Int) < (l.length : Int) by omega), if_pos (show (0 : Int) ≤ (i : Int) by omega), rd_int l i hi, wrap_nat i (by omega), Option.bind_some, if_true])
    (fun x hx => Ev.of_eq rfl)
end Go.Proofs.Ytofieekbhbkliaa.G
end
section
namespace Go.Proofs.Ytofieekbhbkliaa.G
open Go.RowKit Go.Proofs.YtofieekbhbkliaaW.PrintWords
set_option linter.unusedVariables false
set_option linter.unusedSimpArgs false
abbrev Trc := S29
theorem rd_fk (l : List Fk) (i : Nat) (h : i < l.length) : rd_T108 l (i : Int) = l[i] := by
  simp only [rd_T108, Int.toNat_natCast, List.getD_eq_getElem?_getD, List.getElem?_eq_getElem h, Option.getD_some]
theorem rd_trc (l : List Trc) (i : Nat) (h : i < l.length) : rd_T29 l (i : Int) = l[i] := by
  simp only [rd_T29, Int.toNat_natCast, List.getD_eq_getElem?_getD, List.getElem?_eq_getElem h, Option.getD_some]
end Go.Proofs.Ytofieekbhbkliaa.G
end
section
namespace Go.Proofs.Ytofieekbhbkliaa.G
open Go.RowKit Go.Proofs.YtofieekbhbkliaaW.PrintWords
set_option linter.unusedVariables false
set_option linter.unusedSimpArgs false
theorem eqFs_ev (l : List Fk) (hl : l.length ≤ 4000000000) : Ev (fun k => laws_eqFetchS.f k l l) true := by
  unfold laws_eqFetchS.f
  simp only [if_true]
  exact eqLoop l (fun k i => laws_eqFetchS.l0 k l l i) (fun _ f => laws_eqFetch.f f.f0 f.f1 f.f0 f.f1)
    (fun k => by simp only [laws_eqFetchS.l0, if_neg (show ¬ ((l.length : Int) < (l.length : Int)) by omega)])
    (fun k i hi => by simp only [laws_eqFetchS.l0, if_pos (show (i : Int) < (l.length : Int) by omega), if_pos (show (0 : Int) ≤ (i : Int) by omega), rd_fk l i hi, wrap_nat i (by omega)])
    (fun f hf => Ev.of_eq (by simp [laws_eqFetch.f]))
theorem eqTr_ev (t : Trc) (hl : t.f1.length ≤ 4000000000) : Ev (fun k => laws_eqTrace.f k t.f0 t.f1 t.f2 t.f0 t.f1 t.f2) true := by
  unfold laws_eqTrace.f
  simp only [if_true]
  refine Ev.bind (eqFs_ev t.f1 hl) ?_
  simp only [if_true]
  exact Ev.now true
theorem eqTrs_ev (l : List Trc) (hl : l.length ≤ 4000000000) (hb : ∀ t ∈ l, t.f1.length ≤ 4000000000) : Ev (fun k => laws_eqTraceS.f k l l) true := by
  unfold laws_eqTraceS.f
  simp only [if_true]
  exact eqLoop l (fun k i => laws_eqTraceS.l0 k l l i) (fun k t => laws_eqTrace.f k t.f0 t.f1 t.f2 t.f0 t.f1 t.f2)
    (fun k => by simp only [laws_eqTraceS.l0, if_neg (show ¬ ((l.length : Int) < (l.length : Int)) by omega)])
    (fun k i hi => by simp only [laws_eqTraceS.l0, if_pos (show (i : Int) < (l.length : Int) by omega), if_pos (show (0 : Int) ≤ (i : Int) by omega), rd_trc l i hi, wrap_nat i (by omega)])
    (fun t ht => eqTr_ev t (hb t ht))
end Go.Proofs.Ytofieekbhbkliaa.G
end
section
namespace Go.Proofs.Ytofieekbhbkliaa.G
open Go.RowKit Go.Proofs.YtofieekbhbkliaaW.PrintWords
set_option linter.unusedVariables false
set_option linter.unusedSimpArgs false
def mkI : List Int → Int → List Int
  | [], _ => []
  | _ :: fs, a => a :: mkI fs (a + 1)
theorem mkI_len (fs : List Int) (a : Int) : (mkI fs a).length = fs.length := by
  induction fs generalizing a with
  | nil => rfl
  | cons f fs ih => simp [mkI, ih]
theorem mkI_get (fs : List Int) : ∀ (a : Int) (i : Nat) (h : i < (mkI fs a).length), (mkI fs a)[i] = a + (i : Int) := by
  induction fs with
  | nil => intro a i h; simp [mkI] at h
  | cons f fs ih =>
    intro a i h
    cases i with
    | zero => simp [mkI]
    | succ i =>
      simp only [mkI, List.getElem_cons_succ]
      rw [ih]
      omega
theorem mkI_take (fs : List Int) (a : Int) (i : Nat) (h : i < fs.length) : ((mkI fs a).take i ++ fs.drop i).set i (a + (i : Int)) = (mkI fs a).take (i + 1) ++ fs.drop (i + 1) := by
  have hl : ((mkI fs a).take i).length = i := by rw [List.length_take, mkI_len]; omega
  rw [List.set_append_right _ _ (by omega), hl, Nat.sub_self, List.drop_eq_getElem_cons h, List.set_cons_zero, List.take_succ_eq_append_getElem (by rw [mkI_len]; exact h), mkI_get]
  simp
theorem markI_loop (fs : List Int) (a : Int) (h0 : 0 ≤ a) (h1 : a + (fs.length : Int) ≤ 4611686018427387904) : ∀ (d i : Nat), d = fs.length - i → i ≤ fs.length → Ev (fun k => laws_markIntS.l0 k ((mkI fs a).take i ++ fs.drop i) (a + (i : Int)) (i : Int)) (a + (fs.length : Int), mkI fs a) := by
  intro d
  induction d with
  | zero =>
    intro i hd hi
    have e : i = fs.length := by omega
    subst e
    refine Ev.step (fun k => by rw [laws_markIntS.l0]) ?_
    have hl : (mkI fs a).take fs.length ++ fs.drop fs.length = mkI fs a := by rw [List.drop_length, List.append_nil, List.take_of_length_le (by rw [mkI_len]; exact Nat.le_refl _)]
    rw [hl]
    simp only [mkI_len, if_neg (show ¬ ((fs.length : Int) < (fs.length : Int)) by omega)]
    exact Ev.now _
  | succ d ih =>
    intro i hd hi
    have hlt : i < fs.length := by omega
    have hll : ((mkI fs a).take i ++ fs.drop i).length = fs.length := by rw [List.length_append, List.length_take, mkI_len, List.length_drop]; omega
    refine Ev.step (fun k => by rw [laws_markIntS.l0]) ?_
    have ew : wrap64 (a + (i : Int) + 1) = a + ((i + 1 : Nat) : Int) := by rw [wrap_id _ (by omega) (by omega)]; omega
    simp only [hll, if_pos (show (i : Int) < (fs.length : Int) by omega), if_pos (show (0 : Int) ≤ (i : Int) by omega), ew, Int.toNat_natCast, wrap_nat i (by omega)]
    rw [mkI_take fs a i hlt]
    exact ih (i + 1) (by omega) (by omega)
theorem markI_ev (fs : List Int) (a : Int) (h0 : 0 ≤ a) (h1 : a + (fs.length : Int) ≤ 4611686018427387904) : Ev (fun k => laws_markIntS.f k fs a) (a + (fs.length : Int), mkI fs a) := by
  unfold laws_markIntS.f
  have h := markI_loop fs a h0 h1 fs.length 0 (by omega) (by omega)
  simpa using h
theorem heldI_loop (fs : List Int) (a : Int) (h0 : 0 ≤ a) (h1 : a + (fs.length : Int) ≤ 4611686018427387904) : ∀ (d i : Nat), d = fs.length - i → i ≤ fs.length → Ev (fun k => laws_heldIntS.l0 k (mkI fs a) (a + (i : Int)) (i : Int)) (a + (fs.length : Int)) := by
  intro d
  induction d with
  | zero =>
    intro i hd hi
    have e : i = fs.length := by omega
    subst e
    refine Ev.step (fun k => by rw [laws_heldIntS.l0]) ?_
    simp only [mkI_len, if_neg (show ¬ ((fs.length : Int) < (fs.length : Int)) by omega)]
    exact Ev.now _
  | succ d ih =>
    intro i hd hi
    have hlt : i < fs.length := by omega
    refine Ev.step (fun k => by rw [laws_heldIntS.l0]) ?_
    have ew : wrap64 (a + (i : Int) + 1) = a + ((i + 1 : Nat) : Int) := by rw [wrap_id _ (by omega) (by omega)]; omega
    have e : rd (mkI fs a) (i : Int) = a + (i : Int) := by rw [rd_int _ i (by rw [mkI_len]; exact hlt), mkI_get]
    simp only [mkI_len, if_pos (show (i : Int) < (fs.length : Int) by omega), if_pos (show (0 : Int) ≤ (i : Int) by omega), ew, e, if_true, wrap_nat i (by omega)]
    exact ih (i + 1) (by omega) (by omega)
theorem heldI_ev (fs : List Int) (a : Int) (h0 : 0 ≤ a) (h1 : a + (fs.length : Int) ≤ 4611686018427387904) : Ev (fun k => laws_heldIntS.f k (mkI fs a) a) (a + (fs.length : Int)) := by
  unfold laws_heldIntS.f
  have h := heldI_loop fs a h0 h1 fs.length 0 (by omega) (by omega)
  simpa using h
end Go.Proofs.Ytofieekbhbkliaa.G
end
section
namespace Go.Proofs.Ytofieekbhbkliaa.G
open Go.RowKit Go.Proofs.YtofieekbhbkliaaW.PrintWords
set_option linter.unusedVariables false
set_option linter.unusedSimpArgs false
def mkB : List Bool → Int → List Bool
  | [], _ => []
  | _ :: fs, a => (Int.tmod a 3 == 0) :: mkB fs (a + 1)
theorem mkB_len (fs : List Bool) (a : Int) : (mkB fs a).length = fs.length := by
  induction fs generalizing a with
  | nil => rfl
  | cons f fs ih => simp [mkB, ih]
theorem mkB_get (fs : List Bool) : ∀ (a : Int) (i : Nat) (h : i < (mkB fs a).length), (mkB fs a)[i] = (Int.tmod (a + (i : Int)) 3 == 0) := by
  induction fs with
  | nil => intro a i h; simp [mkB] at h
  | cons f fs ih =>
    intro a i h
    cases i with
    | zero => simp [mkB]
    | succ i =>
      simp only [mkB, List.getElem_cons_succ]
      rw [ih, show a + 1 + (i : Int) = a + ((i + 1 : Nat) : Int) by omega]
theorem mkB_take (fs : List Bool) (a : Int) (i : Nat) (h : i < fs.length) : ((mkB fs a).take i ++ fs.drop i).set i (Int.tmod (a + (i : Int)) 3 == 0) = (mkB fs a).take (i + 1) ++ fs.drop (i + 1) := by
  have hl : ((mkB fs a).take i).length = i := by rw [List.length_take, mkB_len]; omega
  rw [List.set_append_right _ _ (by omega), hl, Nat.sub_self, List.drop_eq_getElem_cons h, List.set_cons_zero, List.take_succ_eq_append_getElem (by rw [mkB_len]; exact h), mkB_get]
  simp
theorem markB_loop (fs : List Bool) (a : Int) (h0 : 0 ≤ a) (h1 : a + (fs.length : Int) ≤ 4611686018427387904) : ∀ (d i : Nat), d = fs.length - i → i ≤ fs.length → Ev (fun k => laws_markBoolS.l0 k ((mkB fs a).take i ++ fs.drop i) (a + (i : Int)) (i : Int)) (a + (fs.length : Int), mkB fs a) := by
  intro d
  induction d with
  | zero =>
    intro i hd hi
    have e : i = fs.length := by omega
    subst e
    refine Ev.step (fun k => by rw [laws_markBoolS.l0]) ?_
    have hl : (mkB fs a).take fs.length ++ fs.drop fs.length = mkB fs a := by rw [List.drop_length, List.append_nil, List.take_of_length_le (by rw [mkB_len]; exact Nat.le_refl _)]
    rw [hl]
    simp only [mkB_len, if_neg (show ¬ ((fs.length : Int) < (fs.length : Int)) by omega)]
    exact Ev.now _
  | succ d ih =>
    intro i hd hi
    have hlt : i < fs.length := by omega
    have hll : ((mkB fs a).take i ++ fs.drop i).length = fs.length := by rw [List.length_append, List.length_take, mkB_len, List.length_drop]; omega
    refine Ev.step (fun k => by rw [laws_markBoolS.l0]) ?_
    have ew : wrap64 (a + (i : Int) + 1) = a + ((i + 1 : Nat) : Int) := by rw [wrap_id _ (by omega) (by omega)]; omega
    simp only [hll, if_pos (show (i : Int) < (fs.length : Int) by omega), if_pos (show (0 : Int) ≤ (i : Int) by omega), ew, Int.toNat_natCast, wrap_nat i (by omega)]
    rw [mkB_take fs a i hlt]
    exact ih (i + 1) (by omega) (by omega)
theorem markB_ev (fs : List Bool) (a : Int) (h0 : 0 ≤ a) (h1 : a + (fs.length : Int) ≤ 4611686018427387904) : Ev (fun k => laws_markBoolS.f k fs a) (a + (fs.length : Int), mkB fs a) := by
  unfold laws_markBoolS.f
  have h := markB_loop fs a h0 h1 fs.length 0 (by omega) (by omega)
  simpa using h
theorem heldB_loop (fs : List Bool) (a : Int) (h0 : 0 ≤ a) (h1 : a + (fs.length : Int) ≤ 4611686018427387904) : ∀ (d i : Nat), d = fs.length - i → i ≤ fs.length → Ev (fun k => laws_heldBoolS.l0 k (mkB fs a) (a + (i : Int)) (i : Int)) (a + (fs.length : Int)) := by
  intro d
  induction d with
  | zero =>
    intro i hd hi
    have e : i = fs.length := by omega
    subst e
    refine Ev.step (fun k => by rw [laws_heldBoolS.l0]) ?_
    simp only [mkB_len, if_neg (show ¬ ((fs.length : Int) < (fs.length : Int)) by omega)]
    exact Ev.now _
  | succ d ih =>
    intro i hd hi
    have hlt : i < fs.length := by omega
    refine Ev.step (fun k => by rw [laws_heldBoolS.l0]) ?_
    have ew : wrap64 (a + (i : Int) + 1) = a + ((i + 1 : Nat) : Int) := by rw [wrap_id _ (by omega) (by omega)]; omega
    have e : rdOf false (mkB fs a) (i : Int) = (Int.tmod (a + (i : Int)) 3 == 0) := by
      have hlt' : i < (mkB fs a).length := by rw [mkB_len]; exact hlt
      rw [← mkB_get fs a i hlt']
      simp only [rdOf, Int.toNat_natCast, List.getD_eq_getElem?_getD, List.getElem?_eq_getElem hlt', Option.getD_some]
    simp only [mkB_len, if_pos (show (i : Int) < (fs.length : Int) by omega), if_pos (show (0 : Int) ≤ (i : Int) by omega), ew, e, bne_self_eq_false, Bool.false_eq_true, if_false, wrap_nat i (by omega)]
    exact ih (i + 1) (by omega) (by omega)
theorem heldB_ev (fs : List Bool) (a : Int) (h0 : 0 ≤ a) (h1 : a + (fs.length : Int) ≤ 4611686018427387904) : Ev (fun k => laws_heldBoolS.f k (mkB fs a) a) (a + (fs.length : Int)) := by
  unfold laws_heldBoolS.f
  have h := heldB_loop fs a h0 h1 fs.length 0 (by omega) (by omega)
  simpa using h
end Go.Proofs.Ytofieekbhbkliaa.G
end
section
namespace Go.Proofs.Ytofieekbhbkliaa.G
open Go.RowKit Go.Proofs.YtofieekbhbkliaaW.PrintWords
set_option linter.unusedVariables false
set_option linter.unusedSimpArgs false
theorem cntL_nod (ps : List Tk) (ih : ∀ p ∈ ps, (shT p).cnt = nodT p) : Sh.cntL (ps.map shT) = nodL ps := by
  induction ps with
  | nil => simp [Sh.cntL, nodL]
  | cons p ps ihp =>
    simp only [List.map_cons, Sh.cntL, nodL]
    rw [ih p (by simp), ihp (fun q hq => ih q (by simp [hq]))]
theorem cnt_nod : ∀ t : Tk, (shT t).cnt = nodT t := by
  refine tk_ind fun t ih => ?_
  rw [cnt_parts, shT_parts, cntL_nod t.f2 ih, nodT_eq]
theorem cntL_nodL (ps : List Tk) : Sh.cntL (ps.map shT) = nodL ps := cntL_nod ps fun p _ => cnt_nod p
end Go.Proofs.Ytofieekbhbkliaa.G
end
section
namespace Go.Proofs.Ytofieekbhbkliaa.G
open Go.RowKit Go.Proofs.YtofieekbhbkliaaW.PrintWords
set_option linter.unusedVariables false
set_option linter.unusedSimpArgs false
abbrev TrS := S29
def startF (made : List Bool) (tasks : List Tk) : List Int × List Bool × List Int × List TrS × Bool :=
  if sheetOk made tasks = true then (List.replicate made.length 0, List.replicate made.length false, List.replicate made.length 0, [], true) else ([], [], [], [], false)
theorem specStart_ev (made : List Bool) (tasks : List Tk) (hm : made.length ≤ 1048576) (hb : ∀ t ∈ tasks, (nodT t : Int) ≤ 4000000000) : Ev (fun k => spec_StateStart.f k made tasks) (startF made tasks) := by
  unfold spec_StateStart.f
  refine Ev.bind (specSheet_ev made tasks hb) ?_
  unfold startF
  cases sheetOk made tasks with
  | true =>
    simp only [if_true, Int.toNat_natCast, if_pos (show (0 : Int) ≤ (made.length : Int) by omega), if_pos (show made.length ≤ 35184372088832 by omega), if_pos (show made.length ≤ 281474976710656 by omega)]
    exact Ev.now _
  | false => simp only [Bool.false_eq_true, if_false]; exact Ev.now _
theorem implStart_ev (made : List Bool) (tasks : List Tk) (hm : made.length ≤ 1048576) : Ev (fun k => impl_StateStart.f k made tasks) (startF made tasks) := by
  unfold impl_StateStart.f
  refine Ev.bind (implSheet_ev made tasks) ?_
  unfold startF
  cases sheetOk made tasks with
  | true =>
    simp only [if_true, impl_Sheet_start.f, Option.bind_some, Int.toNat_natCast, if_pos (show (0 : Int) ≤ (made.length : Int) by omega), if_pos (show made.length ≤ 35184372088832 by omega), if_pos (show made.length ≤ 281474976710656 by omega)]
    exact Ev.now _
  | false => simp only [Bool.false_eq_true, if_false]; exact Ev.now _
theorem start_len (made : List Bool) (tasks : List Tk) (hm : made.length ≤ 1048576) : (startF made tasks).1.length ≤ 1048576 ∧ (startF made tasks).2.1.length ≤ 1048576 ∧ (startF made tasks).2.2.1.length ≤ 1048576 ∧ (startF made tasks).2.2.2.1 = [] := by
  unfold startF
  split
  · refine ⟨?_, ?_, ?_, rfl⟩ <;> (simp only [List.length_replicate]; exact hm)
  · simp
open Classical in
noncomputable def laws_FnExactStateStart.f (k : Nat) (l0_0 : List Bool) (l0_1 : List S85) : Option Bool := if l0_0.length ≤ 9223372036854775807 ∧ l0_1.length ≤ 9223372036854775807 ∧ bdL l0_1 then some true else none
theorem laws_FnExactStateStart.calls (k : Nat) (A0_0 : Option Addr) (c0_0 : Nat) (l0_0 : List Bool) (A0_1 : Option Addr) (c0_1 : Nat) (l0_1 : List S85) (r : Bool) (w : World) (hr0_0 : Kd.C Kd.bool w A0_0 l0_0.length l0_0) (hc0_0 : l0_0.length ≤ c0_0) (hr0_1 : Kd.C k85 w A0_1 l0_1.length l0_1) (hc0_1 : l0_1.length ≤ c0_1) (h : laws_FnExactStateStart.f k l0_0 l0_1 = some r) :
    Calls Try.prog 10 #[.agg #[.slice A0_0 l0_0.length c0_0, .slice A0_1 l0_1.length c0_1]] w fun e w' => e = .returned (.bool r) ∧ Below w.heap.size w w' := by
  unfold laws_FnExactStateStart.f at h
  split at h
  · rename_i hb
    obtain rfl := Option.some.inj h
    obtain ⟨K1, H1⟩ := (szSheet_ev l0_0 l0_1 hb.1 hb.2.1 hb.2.2 1048576 (by omega) (by omega)).rounds
    by_cases hc : ((szSh l0_0 l0_1 : Nat) : Int) ≤ 1048576
    · rw [leftOf_yes hc] at H1
      have hs : szSh l0_0 l0_1 ≤ 1048576 := by omega
      have hml : l0_0.length ≤ 1048576 := by unfold szSh at hs; omega
      obtain ⟨K2, H2⟩ := (toSheet_ev l0_0 l0_1 hs).rounds
      have hnl : nodL (cvL l0_1) ≤ 1048576 := nod_le_of_szSh hs
      have hcnt : Sh.cntL ((cvL l0_1).map shT) ≤ 1048576 := by rw [cntL_nodL]; exact hnl
      obtain ⟨K3, H3⟩ := (specStart_ev l0_0 (cvL l0_1) hml (nod_mem_of_szSh hs)).rounds
      obtain ⟨K4, H4⟩ := (implStart_ev l0_0 (cvL l0_1) hml).rounds
      have hlen := start_len l0_0 (cvL l0_1) hml
      generalize startF l0_0 (cvL l0_1) = R at H3 H4 hlen
      obtain ⟨x, y, z, u, b⟩ := R
      simp only at hlen
      obtain ⟨hx, hy, hz, rfl⟩ := hlen
      have heq : Ev (fun k => laws_eqState.f k x y z ([] : List TrS) x y z []) true := by
        unfold laws_eqState.f
        refine Ev.bind (eqIs_ev x (by omega)) ?_
        simp only [if_true]
        refine Ev.bind (eqB_ev y (by omega)) ?_
        simp only [if_true]
        refine Ev.bind (eqIs_ev z (by omega)) ?_
        simp only [if_true]
        refine Ev.bind (eqTrs_ev ([] : List TrS) (by simp) (fun t ht => by cases ht)) ?_
        simp only [if_true]
        exact Ev.now true
      obtain ⟨K5, H5⟩ := heq.rounds
      obtain ⟨K6, H6⟩ := (eqSheet_ev l0_0 (cvL l0_1) (by omega) (by omega)).rounds
      obtain ⟨K7, H7⟩ := (markB_ev l0_0 1 (by omega) (by omega)).rounds
      obtain ⟨K8, H8⟩ := (markI_ev x 1 (by omega) (by omega)).rounds
      obtain ⟨K9, H9⟩ := (markB_ev y (1 + (x.length : Int)) (by omega) (by omega)).rounds
      obtain ⟨K10, H10⟩ := (markI_ev z (1 + (x.length : Int) + (y.length : Int)) (by omega) (by omega)).rounds
      have H11 : laws_markTraceS.f ([] : List TrS) (1 + (x.length : Int) + (y.length : Int) + (z.length : Int)) = some (1 + (x.length : Int) + (y.length : Int) + (z.length : Int), []) := by
        unfold laws_markTraceS.f
        rw [if_pos ⟨by omega, by simp only [cntTrs]; omega⟩]
        simp [cntTrs, mkTs]
      have hheld : Ev (fun k => laws_heldState.f k (mkI x 1) (mkB y (1 + (x.length : Int))) (mkI z (1 + (x.length : Int) + (y.length : Int))) ([] : List TrS) 1) (1 + (x.length : Int) + (y.length : Int) + (z.length : Int)) := by
        unfold laws_heldState.f
        refine Ev.bind (heldI_ev x 1 (by omega) (by omega)) ?_
        simp only [if_neg (show ¬ (1 + (x.length : Int) < 0) by omega)]
        refine Ev.bind (heldB_ev y _ (by omega) (by omega)) ?_
        simp only [if_neg (show ¬ (1 + (x.length : Int) + (y.length : Int) < 0) by omega)]
        refine Ev.bind (heldI_ev z _ (by omega) (by omega)) ?_
        simp only [if_neg (show ¬ (1 + (x.length : Int) + (y.length : Int) + (z.length : Int) < 0) by omega)]
        have h0 : Ev (fun k => laws_heldTraceS.f k ([] : List TrS) (1 + (x.length : Int) + (y.length : Int) + (z.length : Int))) (1 + (x.length : Int) + (y.length : Int) + (z.length : Int)) := by
          unfold laws_heldTraceS.f
          refine Ev.step (fun k => by rw [laws_heldTraceS.l0]) ?_
          simp only [List.length_nil, if_neg (show ¬ ((0 : Int) < ((0 : Nat) : Int)) by omega)]
          exact Ev.now _
        refine Ev.bind h0 ?_
        simp only [if_neg (show ¬ (1 + (x.length : Int) + (y.length : Int) + (z.length : Int) < 0) by omega)]
        exact Ev.now _
      obtain ⟨K12, H12⟩ := hheld.rounds
      exact lw_FnExactStateStart A0_0 c0_0 l0_0 A0_1 c0_1 l0_1 w hr0_0 hc0_0 hr0_1 hc0_1 _ _ _ _ _ _ _ _ _ _ _ _ _ _ _ _ _ _ K1 H1 K2 H2 K3 H3 K4 H4 K5 H5 K6 H6 K7 H7 K8 H8 K9 H9 K10 H10 H11 K12 H12 (by omega) (by omega) (by omega) (by omega)
    · rw [leftOf_no hc] at H1
      exact lw_FnExactStateStart_e0 A0_0 c0_0 l0_0 A0_1 c0_1 l0_1 w hr0_0 hc0_0 hr0_1 hc0_1 _ K1 H1 (by omega)
  · cases h
theorem pure_FnExactStateStart (made : List Bool) (hm : made.length ≤ 9223372036854775807 ∧ ∀ x ∈ made, True) (tasks : List Lk) (hb : tasks.length ≤ 9223372036854775807 ∧ ∀ x ∈ tasks, bdT x) : ∃ k, laws_FnExactStateStart.f k made tasks = some true :=
  ⟨0, if_pos ⟨hm.1, hb.1, bdL_of hb.2⟩⟩
end Go.Proofs.Ytofieekbhbkliaa.G
end
