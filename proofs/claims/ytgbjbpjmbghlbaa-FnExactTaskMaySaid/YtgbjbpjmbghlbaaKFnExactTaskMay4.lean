-- Written by pack.py (ours): the claim's texts, cut down to what its theorem reaches.
import Derived.ChangeArms
import Derived.DataReads
import Derived.Lib.SmallJoins
import Derived.Deep.Slices
import Derived.Deep.Strs
import Derived.Test.YtgbjbpjmbghlbaaKFnExactTaskMay3
section
namespace Go.Proofs.YtgbjbpjmbghlbaaW.OpenData
open Go.RowKit Go.Proofs.YtgbjbpjmbghlbaaW.PrintWords
set_option linter.unusedVariables false
set_option linter.unusedSimpArgs false
def Opens (P : Program) (t : TypeId) {α : Type} (d : Kd α) (ex : α → Prop) (n : Nat) : Prop :=
  ∀ {H : Type} (enc : TypeId × Value → H) (w : World) (fuel : Nat) (cs : List Value) (x : DataW H × List MemPlace), fuel ≤ n →
    DataW.trod enc P w 0 (fun _ => true) true fuel t cs = some x → ∃ a, d.K w a cs ∧ ex a
theorem opens_int {P : Program} {t : TypeId} {k : IntKind} (ht : P.underlying t = some (.int k)) (n : Nat) : Opens P t (Kd.int k) (fun x => (Lit.int k x).wf = true) n := by
  intro H enc w fuel cs x _ h
  obtain ⟨m, rfl, _, hw⟩ := DataW.trod_int ht h
  exact ⟨m, rfl, hw⟩
theorem list_of {α : Type} (p : Nat → α → Prop) (n : Nat) (h : ∀ i, i < n → ∃ x, p i x) : ∃ l : List α, l.length = n ∧ ∀ i x, l[i]? = some x → p i x := by
  induction n with
  | zero => exact ⟨[], rfl, fun i x h => by simp at h⟩
  | succ n ih =>
    obtain ⟨l, hl, hp⟩ := ih (fun i hi => h i (by omega))
    obtain ⟨y, hy⟩ := h n (by omega)
    refine ⟨l ++ [y], by simp [hl], fun i x hx => ?_⟩
    rcases Nat.lt_or_ge i l.length with hi | hi
    · rw [List.getElem?_append_left hi] at hx
      exact hp i x hx
    · have hi' : i = l.length := by
        have := (List.getElem?_eq_some_iff.1 hx).1
        simp at this
        omega
      subst hi'
      have : y = x := by simpa using hx
      subst this
      rw [hl]
      exact hy
theorem add_add_ (a : Addr) (i j : Nat) : (a.add i).add j = a.add (i + j) := Go.Deep.add_add a i j
theorem opens_slice {P : Program} {t e : TypeId} {α : Type} {d : Kd α} {ex : α → Prop} {n : Nat} (ht : P.underlying t = some (.slice e)) (hc : P.cellsOf e = d.sz) (h : Opens P e d ex n) :
    Opens P t (Kd.slice e d) (fun xs => xs.length ≤ maxLen ∧ ∀ x ∈ xs, ex x) (n + 1) := by
  intro H enc w fuel cs x hfu hr
  rcases DataW.trod_slice ht hr with ⟨rfl, _⟩ | ⟨a, len, cap, elems, rest, m, rfl, rfl, _, _, hl, hm, hlen, hel, _⟩
  · exact ⟨[], ⟨none, 0, rfl, Nat.le_refl _, rfl, by simp, fun h => absurd h (by simp)⟩, by simp, by simp⟩
  · have key : ∀ i, i < len → ∃ y : α, ex y ∧ ∃ c : List Value, c.length = d.sz ∧ d.K w y c ∧ ∀ j u, c[j]? = some u → w.cell? (a.add (i * d.sz + j)) = some u := by
      intro i hi
      have h1 := hel i hi
      rw [List.getElem?_eq_getElem (by omega)] at h1
      obtain ⟨cs', h2, h3⟩ := Option.bind_eq_some_iff.1 h1
      obtain ⟨y, hy, he⟩ := h enc w m cs' _ (by omega) h3
      obtain ⟨_, h4, h5⟩ := World.cells?_some h2
      refine ⟨y, he, cs', by rw [h4, hc], hy, fun j u hu => ?_⟩
      have hj : j < P.cellsOf e := by rw [← h4]; exact (List.getElem?_eq_some_iff.1 hu).1
      have h6 := h5 j hj
      rw [hu, add_add_, hc] at h6
      exact h6
    obtain ⟨xs, hxl, hxs⟩ := list_of (fun i y => ex y ∧ ∃ c : List Value, c.length = d.sz ∧ d.K w y c ∧ ∀ j u, c[j]? = some u → w.cell? (a.add (i * d.sz + j)) = some u) len key
    subst hxl
    refine ⟨xs, ⟨some a, cap, rfl, hl, rfl, ?_, fun _ => ⟨a, rfl, fun j p hj => (hxs j p hj).2⟩⟩, by omega, fun x hx => ?_⟩
    · have : maxLen = 9223372036854775807 := by decide
      omega
    · obtain ⟨i, hi, rfl⟩ := List.mem_iff_getElem.1 hx
      exact (hxs i _ (List.getElem?_eq_getElem hi)).1
theorem opens_imp {P : Program} {t : TypeId} {α : Type} {d : Kd α} {ex ex' : α → Prop} {n m : Nat} (h : Opens P t d ex n) (hm : m ≤ n) (hex : ∀ x, ex x → ex' x) : Opens P t d ex' m := by
  intro H enc w fuel cs x hfu hr
  obtain ⟨a, hK, he⟩ := h enc w fuel cs x (by omega) hr
  exact ⟨a, hK, hex a he⟩
theorem opens_struct3 {P : Program} {t : TypeId} {f0 f1 f2 : Field} {α β γ δ : Type} {d0 : Kd α} {d1 : Kd β} {d2 : Kd γ} {e0 : α → Prop} {e1 : β → Prop} {e2 : γ → Prop} {n : Nat} (g : δ → α × β × γ) (gi : α → β → γ → δ) (hg : ∀ a b c, g (gi a b c) = (a, b, c))
    (ht : P.underlying t = some (.struct #[f0, f1, f2])) (hs : P.cellsOf t = d0.sz + d1.sz + d2.sz) (o0 : f0.offset = 0) (o1 : f1.offset = d0.sz) (o2 : f2.offset = d0.sz + d1.sz) (c0 : P.cellsOf f0.type = d0.sz) (c1 : P.cellsOf f1.type = d1.sz) (c2 : P.cellsOf f2.type = d2.sz)
    (h0 : Opens P f0.type d0 e0 n) (h1 : Opens P f1.type d1 e1 n) (h2 : Opens P f2.type d2 e2 n) :
    Opens P t (Kd.iso (Kd.pair d0 (Kd.pair d1 d2)) g) (fun x => e0 (g x).1 ∧ e1 (g x).2.1 ∧ e2 (g x).2.2) (n + 1) := by
  intro H enc w fuel cs x hfu hr
  obtain ⟨xs, m, rfl, _, hl, hlen, hf⟩ := DataW.trod_struct ht hr
  match xs, hlen with
  | [y0, y1, y2], _ =>
    have r0 := hf 0 f0 rfl
    have r1 := hf 1 f1 rfl
    have r2 := hf 2 f2 rfl
    rw [o0, c0] at r0
    rw [o1, c1] at r1
    rw [o2, c2] at r2
    obtain ⟨a, hK0, he0⟩ := h0 enc w m _ _ (by omega) r0
    obtain ⟨b, hK1, he1⟩ := h1 enc w m _ _ (by omega) r1
    obtain ⟨c, hK2, he2⟩ := h2 enc w m _ _ (by omega) r2
    refine ⟨gi a b c, ?_, by simp only [hg]; exact ⟨he0, he1, he2⟩⟩
    show ∃ k0 k1, cs = k0 ++ k1 ∧ d0.K w (g (gi a b c)).1 k0 ∧ ∃ k2 k3, k1 = k2 ++ k3 ∧ d1.K w (g (gi a b c)).2.1 k2 ∧ d2.K w (g (gi a b c)).2.2 k3
    rw [hg]
    rw [List.drop_zero] at hK0
    refine ⟨cs.take d0.sz, cs.drop d0.sz, (List.take_append_drop _ _).symm, hK0, (cs.drop d0.sz).take d1.sz, (cs.drop d0.sz).drop d1.sz, (List.take_append_drop _ _).symm, hK1, ?_⟩
    rw [List.drop_drop]
    rw [List.take_of_length_le (by rw [List.length_drop]; omega)] at hK2
    exact hK2
theorem opens_fix {P : Program} {t : TypeId} {α : Type} {F : Kd α → Kd α} {sz : Nat} {E : List Nat} {hs : ∀ n, (Kd.upto F sz E n).sz = sz} {hE : ∀ n q, q ∈ (Kd.upto F sz E n).E → q ∈ E} {ex : α → Prop}
    (step : ∀ (d : Kd α) (n : Nat), d.sz = sz → Opens P t d ex n → Opens P t (F d) ex (n + 1)) (n : Nat) : Opens P t (Kd.fix F sz E hs hE) ex n := by
  have key : ∀ n, Opens P t (Kd.upto F sz E (n + 1)) ex n := by
    intro n
    induction n with
    | zero =>
      intro H enc w fuel cs x hfu hr
      obtain rfl : fuel = 0 := by omega
      simp [DataW.trod] at hr
    | succ n ih => exact step _ n (hs _) ih
  intro H enc w fuel cs x hfu hr
  obtain ⟨a, hK, he⟩ := key n enc w fuel cs x hfu hr
  exact ⟨a, ⟨_, hK⟩, he⟩
end Go.Proofs.YtgbjbpjmbghlbaaW.OpenData
end
section
namespace Go.Proofs.Ytgbjbpjmbghlbaa.G
open Go.RowKit Go.Proofs.YtgbjbpjmbghlbaaW.PrintWords Go.Proofs.YtgbjbpjmbghlbaaW.OpenData
set_option linter.unusedVariables false
mutual
def ex_t24 : S24 → Prop
  | ⟨_, _, ps⟩ => ps.length ≤ 9223372036854775807 ∧ ex_c24 ps
def ex_c24 : List S24 → Prop
  | [] => True
  | p :: ps => ex_t24 p ∧ ex_c24 ps
end
theorem ex_c24_of {ps : List S24} (h : ∀ p ∈ ps, ex_t24 p) : ex_c24 ps := by
  induction ps with
  | nil => simp [ex_c24]
  | cons q ps ih => simp only [ex_c24]; exact ⟨h q (by simp), ih (fun p hp => h p (by simp [hp]))⟩
theorem opens_t24 : ∀ n, Opens Try.prog 24 k24 ex_t24 n := fun n => opens_fix (fun d n hs h => opens_imp (opens_struct3 (fun x : S24 => (x.f0, x.f1, x.f2)) S24.mk (fun _ _ _ => rfl) Try.underlying24 (by kernel_rfl) rfl rfl rfl (by kernel_rfl) (by kernel_rfl) (by kernel_rfl) (opens_int Try.underlying3 (n + 1)) (opens_int Try.underlying3 (n + 1)) (opens_slice Try.underlying22 (by rw [hs]; kernel_rfl) h)) (by omega) (fun x hx => by
  cases x
  simp only [ex_t24]
  exact ⟨hx.2.2.1, ex_c24_of hx.2.2.2⟩)) n
def ex_sl24 (xs : List (S24)) : Prop := xs.length ≤ 9223372036854775807 ∧ ∀ x ∈ xs, (ex_t24) x
theorem opens_sl24 : ∀ n, Opens Try.prog 22 (Kd.slice 24 k24) ex_sl24 n := fun n => opens_imp (opens_slice Try.underlying22 (by kernel_rfl) ((opens_t24) n)) (Nat.le_succ n) (fun _ h => h)
end Go.Proofs.Ytgbjbpjmbghlbaa.G
end
section
namespace Go.Proofs.Ytgbjbpjmbghlbaa.G
open Go.RowKit Go.Proofs.YtgbjbpjmbghlbaaW.PrintWords
set_option linter.unusedVariables false
set_option linter.unusedSimpArgs false
abbrev Lk := S24
theorem lk_size (t p : Lk) (hp : p ∈ t.f2) : SizeOf.sizeOf p < SizeOf.sizeOf t := by
  have h := List.sizeOf_lt_of_mem hp
  cases t with
  | mk a b c => simp only [S24.mk.sizeOf_spec] at *; omega
theorem lk_ind {P : Lk → Prop} (h : ∀ t : Lk, (∀ p ∈ t.f2, P p) → P t) : ∀ t, P t := by
  intro t
  induction hn : SizeOf.sizeOf t using Nat.strongRecOn generalizing t with
  | _ n ih => exact h t (fun p hp => ih (SizeOf.sizeOf p) (by rw [← hn]; exact lk_size t p hp) p rfl)
theorem rd_lk (ps : List Lk) (i : Nat) (h : i < ps.length) : rd_T24 ps (i : Int) = ps[i] := by
  simp only [rd_T24, Int.toNat_natCast, List.getD_eq_getElem?_getD, List.getElem?_eq_getElem h, Option.getD_some]
abbrev bdT := ex_t24
abbrev bdL := ex_c24
mutual
def szT : Lk → Nat
  | ⟨_, _, ps⟩ => ps.length + szC ps
def szC : List Lk → Nat
  | [] => 0
  | p :: ps => szT p + szC ps
end
mutual
def cvT : Lk → Tk
  | ⟨k, n, ps⟩ => ⟨k, n, cvL ps⟩
def cvL : List Lk → List Tk
  | [] => []
  | p :: ps => cvT p :: cvL ps
end
theorem bdT_eq (t : Lk) : bdT t = (t.f2.length ≤ 9223372036854775807 ∧ bdL t.f2) := by cases t; simp [bdT, bdL, ex_t24]
theorem szT_eq (t : Lk) : szT t = t.f2.length + szC t.f2 := by cases t; simp [szT]
theorem cvT_eq (t : Lk) : cvT t = ⟨t.f0, t.f1, cvL t.f2⟩ := by cases t; simp [cvT]
theorem cvL_map (ps : List Lk) : cvL ps = ps.map cvT := by
  induction ps with
  | nil => simp [cvL]
  | cons p ps ih => simp [cvL, ih]
theorem cvL_length (ps : List Lk) : (cvL ps).length = ps.length := by rw [cvL_map, List.length_map]
theorem bdL_mem {ps : List Lk} (h : bdL ps) : ∀ p ∈ ps, bdT p := by
  induction ps with
  | nil => intro p hp; cases hp
  | cons q ps ih =>
    simp only [bdL, ex_c24] at h
    intro p hp
    rcases List.mem_cons.1 hp with rfl | hp
    · exact h.1
    · exact ih h.2 p hp
theorem bdL_of {ps : List Lk} (h : ∀ p ∈ ps, bdT p) : bdL ps := ex_c24_of h
theorem szC_mem {ps : List Lk} : ∀ p ∈ ps, szT p ≤ szC ps := by
  induction ps with
  | nil => intro p hp; cases hp
  | cons q ps ih =>
    intro p hp
    simp only [szC]
    rcases List.mem_cons.1 hp with rfl | hp
    · omega
    · have := ih p hp; omega
theorem nod_cv : ∀ t : Lk, nodT (cvT t) = 1 + szT t := by
  refine lk_ind fun t ih => ?_
  rw [cvT_eq, nodT_eq, szT_eq]
  congr 1
  show nodL (cvL t.f2) = t.f2.length + szC t.f2
  generalize t.f2 = ps at ih
  induction ps with
  | nil => simp [cvL, nodL, szC]
  | cons p ps ihp =>
    simp only [cvL, nodL, szC, List.length_cons]
    rw [ih p (by simp), ihp (fun q hq => ih q (by simp [hq]))]
    omega
def leftOf (n : Nat) (left : Int) : Int := if (n : Int) ≤ left then left - n else -1
theorem leftOf_yes {n : Nat} {left : Int} (h : (n : Int) ≤ left) : leftOf n left = left - n := if_pos h
theorem leftOf_no {n : Nat} {left : Int} (h : ¬ (n : Int) ≤ left) : leftOf n left = -1 := if_neg h
theorem leftOf_add {a b : Nat} {left : Int} (h : (a : Int) ≤ left) : leftOf b (left - a) = leftOf (a + b) left := by
  unfold leftOf
  split <;> split <;> omega
theorem leftOf_zero {left : Int} (h : 0 ≤ left) : leftOf 0 left = left := by unfold leftOf; split <;> omega
theorem leftOf_neg {n : Nat} {left : Int} (h0 : 0 ≤ left) : leftOf n left < 0 ↔ ¬ (n : Int) ≤ left := by unfold leftOf; split <;> omega
theorem szS_ev (n : Nat) : ∀ ps : List Lk, SizeOf.sizeOf ps ≤ n → ps.length ≤ 9223372036854775807 → bdL ps → ∀ left : Int, 0 ≤ left → left ≤ 1048576 →
    Ev (fun k => laws_szTaskS.f k ps left) (leftOf (ps.length + szC ps) left) := by
  induction n with
  | zero => intro ps h; cases ps <;> simp at h
  | succ n ih =>
    intro ps hsz hlen hbd left h0 h1
    have one : ∀ p ∈ ps, ∀ lf : Int, 0 ≤ lf → lf ≤ 1048576 → Ev (fun k => laws_szTask.f k p.f0 p.f1 p.f2 lf) (leftOf (szT p) lf) := by
      intro p hp lf g0 g1
      have hb := bdL_mem hbd p hp
      rw [bdT_eq] at hb
      have hs := List.sizeOf_lt_of_mem hp
      have hs2 : SizeOf.sizeOf p.f2 < SizeOf.sizeOf p := by
        cases p with
        | mk a b c => simp only [S24.mk.sizeOf_spec]; omega
      refine Ev.step (fun k => by rw [laws_szTask.f]) ?_
      refine Ev.bind (ih p.f2 (by omega) hb.1 hb.2 lf g0 g1) ?_
      rw [szT_eq]
      by_cases hc : leftOf (p.f2.length + szC p.f2) lf < 0
      · simp only [if_pos hc]
        rw [leftOf_no ((leftOf_neg g0).1 hc)]
        exact Ev.now _
      · simp only [if_neg hc]
        exact Ev.now _
    have loop : ps.length ≤ 1048576 → ∀ (d i : Nat) (lf : Int), d = ps.length - i → i ≤ ps.length → 0 ≤ lf → lf ≤ 1048576 → Ev (fun k => laws_szTaskS.l0 k ps lf (i : Int)) (leftOf (szC (ps.drop i)) lf) := by
      intro hl20 d
      induction d with
      | zero =>
        intro i lf hd hi g0 g1
        have e : i = ps.length := by omega
        subst e
        refine Ev.step (fun k => by rw [laws_szTaskS.l0]) ?_
        simp only [if_neg (show ¬ ((ps.length : Int) < (ps.length : Int)) by omega), List.drop_length, szC]
        exact Ev.eq (Ev.now lf) (leftOf_zero g0).symm
      | succ d ihd =>
        intro i lf hd hi g0 g1
        have hlt : i < ps.length := by omega
        have hmem : ps[i] ∈ ps := List.getElem_mem hlt
        rw [drop_tk ps i hlt, szC]
        refine Ev.step (fun k => by rw [laws_szTaskS.l0]) ?_
        simp only [if_pos (show (i : Int) < (ps.length : Int) by omega), if_pos (show (0 : Int) ≤ (i : Int) by omega), rd_lk ps i hlt]
        refine Ev.bind (one _ hmem lf g0 g1) ?_
        by_cases hc : (szT ps[i] : Int) ≤ lf
        · rw [leftOf_yes hc]
          simp only [if_neg (show ¬ (lf - (szT ps[i] : Int) < 0) by omega), wrap_nat i (by omega)]
          exact Ev.eq (ihd (i + 1) (lf - szT ps[i]) (by omega) (by omega) (by omega) (by omega)) (leftOf_add hc)
        · rw [leftOf_no hc]
          simp only [if_pos (show (-1 : Int) < 0 by omega)]
          exact Ev.eq (Ev.now (-1)) (leftOf_no (by omega)).symm
    refine Ev.step (fun k => by rw [laws_szTaskS.f]) ?_
    simp only [wrap_id (left - (ps.length : Int)) (by omega) (by omega)]
    by_cases hc : left - (ps.length : Int) < 0
    · simp only [if_pos hc]
      exact Ev.eq (Ev.now (-1)) (leftOf_no (by omega)).symm
    · simp only [if_neg hc]
      refine Ev.eq (loop (by omega) ps.length 0 (left - ps.length) (by omega) (by omega) (by omega) (by omega)) ?_
      rw [List.drop_zero]
      exact leftOf_add (by omega)
theorem szL_ev (ps : List Lk) (hlen : ps.length ≤ 9223372036854775807) (hbd : bdL ps) (left : Int) (h0 : 0 ≤ left) (h1 : left ≤ 1048576) :
    Ev (fun k => laws_szTaskS.f k ps left) (leftOf (ps.length + szC ps) left) := szS_ev (SizeOf.sizeOf ps) ps (Nat.le_refl _) hlen hbd left h0 h1
theorem sz_ev (t : Lk) (hbd : bdT t) (left : Int) (h0 : 0 ≤ left) (h1 : left ≤ 1048576) : Ev (fun k => laws_szTask.f k t.f0 t.f1 t.f2 left) (leftOf (szT t) left) := by
  rw [bdT_eq] at hbd
  refine Ev.step (fun k => by rw [laws_szTask.f]) ?_
  refine Ev.bind (szL_ev t.f2 hbd.1 hbd.2 left h0 h1) ?_
  rw [szT_eq]
  by_cases hc : leftOf (t.f2.length + szC t.f2) left < 0
  · simp only [if_pos hc]
    rw [leftOf_no ((leftOf_neg h0).1 hc)]
    exact Ev.now _
  · simp only [if_neg hc]
    exact Ev.now _
theorem toS_ev (n : Nat) : ∀ ps : List Lk, SizeOf.sizeOf ps ≤ n → ps.length + szC ps ≤ 1048576 → Ev (fun k => laws_toTaskS.f k ps) (cvL ps) := by
  induction n with
  | zero => intro ps h; cases ps <;> simp at h
  | succ n ih =>
    intro ps hsz hb
    have one : ∀ p ∈ ps, Ev (fun k => laws_toTask.f k p.f0 p.f1 p.f2) (p.f0, p.f1, cvL p.f2) := by
      intro p hp
      have hs := List.sizeOf_lt_of_mem hp
      have hs2 : SizeOf.sizeOf p.f2 < SizeOf.sizeOf p := by
        cases p with
        | mk a b c => simp only [S24.mk.sizeOf_spec]; omega
      have h3 := szC_mem p hp
      rw [szT_eq] at h3
      refine Ev.step (fun k => by rw [laws_toTask.f]) ?_
      refine Ev.bind (ih p.f2 (by omega) (by omega)) ?_
      exact Ev.now _
    have loop : ∀ (d i : Nat), d = ps.length - i → i ≤ ps.length → Ev (fun k => laws_toTaskS.l0 k ps (cvL (ps.take i) ++ List.replicate (ps.length - i) z30) (i : Int)) (cvL ps) := by
      intro d
      induction d with
      | zero =>
        intro i hd hi
        have e : i = ps.length := by omega
        subst e
        refine Ev.step (fun k => by rw [laws_toTaskS.l0]) ?_
        simp only [if_neg (show ¬ ((ps.length : Int) < (ps.length : Int)) by omega), Nat.sub_self, List.replicate_zero, List.append_nil, List.take_length]
        exact Ev.now _
      | succ d ihd =>
        intro i hd hi
        have hlt : i < ps.length := by omega
        have hmem : ps[i] ∈ ps := List.getElem_mem hlt
        have hl : (cvL (ps.take i) ++ List.replicate (ps.length - i) z30).length = ps.length := by simp [cvL_length]; omega
        refine Ev.step (fun k => by rw [laws_toTaskS.l0]) ?_
        simp only [if_pos (show (i : Int) < (ps.length : Int) by omega), if_pos (show (0 : Int) ≤ (i : Int) by omega), rd_lk ps i hlt, hl]
        refine Ev.bind (one _ hmem) ?_
        simp only [wrap_nat i (by omega), Int.toNat_natCast]
        have e : (cvL (ps.take i) ++ List.replicate (ps.length - i) z30).set i ⟨ps[i].f0, ps[i].f1, cvL ps[i].f2⟩ = cvL (ps.take (i + 1)) ++ List.replicate (ps.length - (i + 1)) z30 := by
          rw [List.set_append_right _ _ (by rw [cvL_length, List.length_take]; omega), cvL_length, List.length_take, Nat.min_eq_left (by omega), Nat.sub_self]
          rw [show ps.length - i = (ps.length - (i + 1)) + 1 by omega, List.replicate_succ, List.set_cons_zero, ← cvT_eq, List.take_succ_eq_append_getElem hlt]
          rw [cvL_map, cvL_map, List.map_append, List.map_singleton, List.append_assoc, List.singleton_append]
        rw [e]
        exact ihd (i + 1) (by omega) (by omega)
    refine Ev.step (fun k => by rw [laws_toTaskS.f]) ?_
    simp only [if_pos (show (0 : Int) ≤ (ps.length : Int) by omega), Int.toNat_natCast, if_pos (show ps.length ≤ 7036874417766 by omega)]
    have h := loop ps.length 0 (by omega) (by omega)
    simp only [List.take_zero, cvL, List.nil_append, Nat.sub_zero, Int.natCast_zero, Int.ofNat_zero] at h
    exact h
theorem toL_ev (ps : List Lk) (hb : ps.length + szC ps ≤ 1048576) : Ev (fun k => laws_toTaskS.f k ps) (cvL ps) := toS_ev (SizeOf.sizeOf ps) ps (Nat.le_refl _) hb
theorem to_ev (t : Lk) (hb : szT t ≤ 1048576) : Ev (fun k => laws_toTask.f k t.f0 t.f1 t.f2) (t.f0, t.f1, cvL t.f2) := by
  rw [szT_eq] at hb
  refine Ev.step (fun k => by rw [laws_toTask.f]) ?_
  exact Ev.bind (toL_ev t.f2 hb) (Ev.now _)
theorem eqS_ev (n : Nat) : ∀ ps : List Tk, SizeOf.sizeOf ps ≤ n → nodL ps ≤ 4000000000 → Ev (fun k => laws_eqTaskS.f k ps ps) true := by
  induction n with
  | zero => intro ps h; cases ps <;> simp at h
  | succ n ih =>
    intro ps hsz hb
    have hln := nodL_len ps
    have one : ∀ p ∈ ps, Ev (fun k => laws_eqTask.f k p.f0 p.f1 p.f2 p.f0 p.f1 p.f2) true := by
      intro p hp
      have hs := List.sizeOf_lt_of_mem hp
      have hs2 : SizeOf.sizeOf p.f2 < SizeOf.sizeOf p := by
        cases p with
        | mk a b c => simp only [S30.mk.sizeOf_spec]; omega
      have h3 := nodL_mem p hp
      rw [nodT_eq] at h3
      refine Ev.step (fun k => by rw [laws_eqTask.f]) ?_
      simp only [if_true]
      refine Ev.bind (ih p.f2 (by omega) (by omega)) ?_
      simp only [if_true]
      exact Ev.now true
    have loop : ∀ (d i : Nat), d = ps.length - i → i ≤ ps.length → Ev (fun k => laws_eqTaskS.l0 k ps ps (i : Int)) true := by
      intro d
      induction d with
      | zero =>
        intro i hd hi
        have e : i = ps.length := by omega
        subst e
        refine Ev.step (fun k => by rw [laws_eqTaskS.l0]) ?_
        simp only [if_neg (show ¬ ((ps.length : Int) < (ps.length : Int)) by omega)]
        exact Ev.now true
      | succ d ihd =>
        intro i hd hi
        have hlt : i < ps.length := by omega
        have hmem : ps[i] ∈ ps := List.getElem_mem hlt
        refine Ev.step (fun k => by rw [laws_eqTaskS.l0]) ?_
        simp only [if_pos (show (i : Int) < (ps.length : Int) by omega), if_pos (show (0 : Int) ≤ (i : Int) by omega), rd_tk ps i hlt]
        refine Ev.bind (one _ hmem) ?_
        simp only [if_true, wrap_nat i (by omega)]
        exact ihd (i + 1) (by omega) (by omega)
    refine Ev.step (fun k => by rw [laws_eqTaskS.f]) ?_
    simp only [if_true]
    exact loop ps.length 0 (by omega) (by omega)
theorem eqL_ev (ps : List Tk) (hb : nodL ps ≤ 4000000000) : Ev (fun k => laws_eqTaskS.f k ps ps) true := eqS_ev (SizeOf.sizeOf ps) ps (Nat.le_refl _) hb
theorem eqT_ev (t : Tk) (hb : nodT t ≤ 4000000000) : Ev (fun k => laws_eqTask.f k t.f0 t.f1 t.f2 t.f0 t.f1 t.f2) true := by
  rw [nodT_eq] at hb
  refine Ev.step (fun k => by rw [laws_eqTask.f]) ?_
  simp only [if_true]
  refine Ev.bind (eqL_ev t.f2 (by omega)) ?_
  simp only [if_true]
  exact Ev.now true
end Go.Proofs.Ytgbjbpjmbghlbaa.G
end
section
namespace Go.Proofs.Ytgbjbpjmbghlbaa.G
open Go.RowKit Go.Proofs.YtgbjbpjmbghlbaaW.PrintWords
set_option linter.unusedVariables false
set_option linter.unusedSimpArgs false
theorem allLoop {α : Type} (l : List α) (F : Nat → Int → Option Bool) (one : Nat → α → Option Bool) (p : α → Bool)
    (hend : ∀ k, F (k + 1) (l.length : Int) = some true)
    (hstep : ∀ k (i : Nat) (h : i < l.length), F (k + 1) (i : Int) = (one k l[i]).bind fun t => if t = true then F k ((i + 1 : Nat) : Int) else some false)
    (hone : ∀ x ∈ l, Ev (fun k => one k x) (p x)) : ∀ (d i : Nat), d = l.length - i → i ≤ l.length → Ev (fun k => F k (i : Int)) ((l.drop i).all p) := by
  intro d
  induction d with
  | zero =>
    intro i hd hi
    have e : i = l.length := by omega
    subst e
    refine Ev.step (fun k => hend k) ?_
    simp only [List.drop_length, List.all_nil]
    exact Ev.now true
  | succ d ihd =>
    intro i hd hi
    have hlt : i < l.length := by omega
    rw [drop_tk l i hlt, List.all_cons]
    refine Ev.step (fun k => hstep k i hlt) ?_
    refine Ev.bind (hone _ (List.getElem_mem hlt)) ?_
    cases hp : p l[i] with
    | true => simp only [if_true, Bool.true_and]; exact ihd (i + 1) (by omega) (by omega)
    | false => simp only [Bool.false_eq_true, if_false, Bool.false_and]; exact Ev.now false
theorem eqLoop {α : Type} (l : List α) (F : Nat → Int → Option Bool) (one : Nat → α → Option Bool)
    (hend : ∀ k, F (k + 1) (l.length : Int) = some true)
    (hstep : ∀ k (i : Nat) (h : i < l.length), F (k + 1) (i : Int) = (one k l[i]).bind fun t => if t = true then F k ((i + 1 : Nat) : Int) else some false)
    (hone : ∀ x ∈ l, Ev (fun k => one k x) true) : Ev (fun k => F k 0) true := by
  have h := allLoop l F one (fun _ => true) hend hstep hone l.length 0 (by omega) (by omega)
  simp only [List.drop_zero, List.all_eq_true, implies_true] at h
  exact Ev.eq h (by simp)
end Go.Proofs.Ytgbjbpjmbghlbaa.G
end
section
namespace Go.Proofs.Ytgbjbpjmbghlbaa.G
open Go.RowKit Go.Proofs.YtgbjbpjmbghlbaaW.PrintWords
set_option linter.unusedVariables false
set_option linter.unusedSimpArgs false
theorem rd_int (l : List Int) (i : Nat) (h : i < l.length) : rd l (i : Int) = l[i] := by
  simp only [rd, Int.toNat_natCast, List.getD_eq_getElem?_getD, List.getElem?_eq_getElem h, Option.getD_some]
theorem eqIs_ev (l : List Int) (hl : l.length ≤ 4000000000) : Ev (fun k => laws_eqIntS.f k l l) true := by
  unfold laws_eqIntS.f
  simp only [if_true]
  exact eqLoop l (fun k i => laws_eqIntS.l0 k l l i) (fun _ x => some true)
    (fun k => by simp only [laws_eqIntS.l0, if_neg (show ¬ ((l.length : Int) < (l.length : Int)) by omega)])
    (fun k i hi => by simp only [laws_eqIntS.l0, if_pos (show (i : Int) < (l.length : Int) by omega), if_pos (show (0 : Int) ≤ (i : Int) by omega), rd_int l i hi, wrap_nat i (by omega), Option.bind_some, if_true])
    (fun x hx => Ev.of_eq rfl)
end Go.Proofs.Ytgbjbpjmbghlbaa.G
end
section
namespace Go.Proofs.Ytgbjbpjmbghlbaa.G
open Go.RowKit Go.Proofs.YtgbjbpjmbghlbaaW.PrintWords
set_option linter.unusedVariables false
set_option linter.unusedSimpArgs false
def mkI : List Int → Int → List Int
  | [], _ => []
  | _ :: fs, a => a :: mkI fs (a + 1)
theorem mkI_len (fs : List Int) (a : Int) : (mkI fs a).length = fs.length := by
  induction fs generalizing a with
  | nil => rfl
  | cons f fs ih => simp [mkI, ih]
theorem mkI_get (fs : List Int) : ∀ (a : Int) (i : Nat) (h : i < (mkI fs a).length), (mkI fs a)[i] = a + (i : Int) := by
  induction fs with
  | nil => intro a i h; simp [mkI] at h
  | cons f fs ih =>
    intro a i h
    cases i with
    | zero => simp [mkI]
    | succ i =>
      simp only [mkI, List.getElem_cons_succ]
      rw [ih]
      omega
theorem mkI_take (fs : List Int) (a : Int) (i : Nat) (h : i < fs.length) : ((mkI fs a).take i ++ fs.drop i).set i (a + (i : Int)) = (mkI fs a).take (i + 1) ++ fs.drop (i + 1) := by
  have hl : ((mkI fs a).take i).length = i := by rw [List.length_take, mkI_len]; omega
  rw [List.set_append_right _ _ (by omega), hl, Nat.sub_self, List.drop_eq_getElem_cons h, List.set_cons_zero, List.take_succ_eq_append_getElem (by rw [mkI_len]; exact h), mkI_get]
  simp
theorem markI_loop (fs : List Int) (a : Int) (h0 : 0 ≤ a) (h1 : a + (fs.length : Int) ≤ 4611686018427387904) : ∀ (d i : Nat), d = fs.length - i → i ≤ fs.length → Ev (fun k => laws_markIntS.l0 k ((mkI fs a).take i ++ fs.drop i) (a + (i : Int)) (i : Int)) (a + (fs.length : Int), mkI fs a) := by
  intro d
  induction d with
  | zero =>
    intro i hd hi
    have e : i = fs.length := by omega
    subst e
    refine Ev.step (fun k => by rw [laws_markIntS.l0]) ?_
    have hl : (mkI fs a).take fs.length ++ fs.drop fs.length = mkI fs a := by rw [List.drop_length, List.append_nil, List.take_of_length_le (by rw [mkI_len]; exact Nat.le_refl _)]
    rw [hl]
    simp only [mkI_len, if_neg (show ¬ ((fs.length : Int) < (fs.length : Int)) by omega)]
    exact Ev.now _
  | succ d ih =>
    intro i hd hi
    have hlt : i < fs.length := by omega
    have hll : ((mkI fs a).take i ++ fs.drop i).length = fs.length := by rw [List.length_append, List.length_take, mkI_len, List.length_drop]; omega
    refine Ev.step (fun k => by rw [laws_markIntS.l0]) ?_
    have ew : wrap64 (a + (i : Int) + 1) = a + ((i + 1 : Nat) : Int) := by rw [wrap_id _ (by omega) (by omega)]; omega
    simp only [hll, if_pos (show (i : Int) < (fs.length : Int) by omega), if_pos (show (0 : Int) ≤ (i : Int) by omega), ew, Int.toNat_natCast, wrap_nat i (by omega)]
    rw [mkI_take fs a i hlt]
    exact ih (i + 1) (by omega) (by omega)
theorem markI_ev (fs : List Int) (a : Int) (h0 : 0 ≤ a) (h1 : a + (fs.length : Int) ≤ 4611686018427387904) : Ev (fun k => laws_markIntS.f k fs a) (a + (fs.length : Int), mkI fs a) := by
  unfold laws_markIntS.f
  have h := markI_loop fs a h0 h1 fs.length 0 (by omega) (by omega)
  simpa using h
theorem heldI_loop (fs : List Int) (a : Int) (h0 : 0 ≤ a) (h1 : a + (fs.length : Int) ≤ 4611686018427387904) : ∀ (d i : Nat), d = fs.length - i → i ≤ fs.length → Ev (fun k => laws_heldIntS.l0 k (mkI fs a) (a + (i : Int)) (i : Int)) (a + (fs.length : Int)) := by
  intro d
  induction d with
  | zero =>
    intro i hd hi
    have e : i = fs.length := by omega
    subst e
    refine Ev.step (fun k => by rw [laws_heldIntS.l0]) ?_
    simp only [mkI_len, if_neg (show ¬ ((fs.length : Int) < (fs.length : Int)) by omega)]
    exact Ev.now _
  | succ d ih =>
    intro i hd hi
    have hlt : i < fs.length := by omega
    refine Ev.step (fun k => by rw [laws_heldIntS.l0]) ?_
    have ew : wrap64 (a + (i : Int) + 1) = a + ((i + 1 : Nat) : Int) := by rw [wrap_id _ (by omega) (by omega)]; omega
    have e : rd (mkI fs a) (i : Int) = a + (i : Int) := by rw [rd_int _ i (by rw [mkI_len]; exact hlt), mkI_get]
    simp only [mkI_len, if_pos (show (i : Int) < (fs.length : Int) by omega), if_pos (show (0 : Int) ≤ (i : Int) by omega), ew, e, if_true, wrap_nat i (by omega)]
    exact ih (i + 1) (by omega) (by omega)
theorem heldI_ev (fs : List Int) (a : Int) (h0 : 0 ≤ a) (h1 : a + (fs.length : Int) ≤ 4611686018427387904) : Ev (fun k => laws_heldIntS.f k (mkI fs a) a) (a + (fs.length : Int)) := by
  unfold laws_heldIntS.f
  have h := heldI_loop fs a h0 h1 fs.length 0 (by omega) (by omega)
  simpa using h
end Go.Proofs.Ytgbjbpjmbghlbaa.G
end
section
namespace Go.Proofs.Ytgbjbpjmbghlbaa.G
open Go.RowKit Go.Proofs.YtgbjbpjmbghlbaaW.PrintWords
set_option linter.unusedVariables false
set_option linter.unusedSimpArgs false
theorem cntL_nod (ps : List Tk) (ih : ∀ p ∈ ps, (shT p).cnt = nodT p) : Sh.cntL (ps.map shT) = nodL ps := by
  induction ps with
  | nil => simp [Sh.cntL, nodL]
  | cons p ps ihp =>
    simp only [List.map_cons, Sh.cntL, nodL]
    rw [ih p (by simp), ihp (fun q hq => ih q (by simp [hq]))]
theorem cnt_nod : ∀ t : Tk, (shT t).cnt = nodT t := by
  refine tk_ind fun t ih => ?_
  rw [cnt_parts, shT_parts, cntL_nod t.f2 ih, nodT_eq]
theorem cntL_nodL (ps : List Tk) : Sh.cntL (ps.map shT) = nodL ps := cntL_nod ps fun p _ => cnt_nod p
end Go.Proofs.Ytgbjbpjmbghlbaa.G
end
section
namespace Go.Proofs.Ytgbjbpjmbghlbaa.G
open Go.RowKit Go.Proofs.YtgbjbpjmbghlbaaW.PrintWords
set_option linter.unusedVariables false
set_option linter.unusedSimpArgs false
open Classical in
noncomputable def laws_FnExactTaskMay.f (k : Nat) (a0_0 : Int) (a0_1 : Int) (l0_2 : List S24) : Option Bool := if l0_2.length ≤ 9223372036854775807 ∧ bdL l0_2 then some true else none
theorem laws_FnExactTaskMay.calls (k : Nat) (a0_0 : Int) (a0_1 : Int) (A0_2 : Option Addr) (c0_2 : Nat) (l0_2 : List S24) (r : Bool) (w : World) (hr0_2 : Kd.C k24 w A0_2 l0_2.length l0_2) (hc0_2 : l0_2.length ≤ c0_2) (h : laws_FnExactTaskMay.f k a0_0 a0_1 l0_2 = some r) :
    Calls Try.prog 3 #[.agg #[.int .i64 a0_0, .int .i64 a0_1, .slice A0_2 l0_2.length c0_2]] w fun e w' => e = .returned (.bool r) ∧ Below w.heap.size w w' := by
  unfold laws_FnExactTaskMay.f at h
  split at h
  · rename_i hb
    obtain rfl := Option.some.inj h
    have hbT : bdT (⟨a0_0, a0_1, l0_2⟩ : Lk) := by rw [bdT_eq]; exact hb
    obtain ⟨K1, H1⟩ := (sz_ev ⟨a0_0, a0_1, l0_2⟩ hbT 1048576 (by omega) (by omega)).rounds
    by_cases hs : (szT (⟨a0_0, a0_1, l0_2⟩ : Lk) : Int) ≤ 1048576
    · have hs' : szT (⟨a0_0, a0_1, l0_2⟩ : Lk) ≤ 1048576 := by omega
      rw [leftOf_yes hs] at H1
      obtain ⟨K2, H2⟩ := (to_ev ⟨a0_0, a0_1, l0_2⟩ hs').rounds
      have H2 : laws_toTask.f K2 a0_0 a0_1 l0_2 = some (a0_0, a0_1, cvL l0_2) := H2
      have hnod : nodT (cvT (⟨a0_0, a0_1, l0_2⟩ : Lk)) = 1 + szT (⟨a0_0, a0_1, l0_2⟩ : Lk) := nod_cv _
      have ecv : cvT (⟨a0_0, a0_1, l0_2⟩ : Lk) = ⟨a0_0, a0_1, cvL l0_2⟩ := cvT_eq _
      rw [ecv] at hnod
      have hcnt : Sh.cntL ((cvL l0_2).map shT) ≤ 1048576 := by
        rw [cntL_nodL]
        rw [nodT_eq] at hnod
        simp only at hnod
        omega
      obtain ⟨K3, H3⟩ := (specMay_ev ⟨a0_0, a0_1, cvL l0_2⟩ (by omega)).rounds
      obtain ⟨K4, H4⟩ := (implMay_ev ⟨a0_0, a0_1, cvL l0_2⟩).rounds
      have hfl := mayK_len ⟨a0_0, a0_1, cvL l0_2⟩
      generalize mayK ⟨a0_0, a0_1, cvL l0_2⟩ = u at H3 H4 hfl
      obtain ⟨K5, H5⟩ := (eqIs_ev u (by omega)).rounds
      obtain ⟨K6, H6⟩ := (eqT_ev ⟨a0_0, a0_1, cvL l0_2⟩ (by omega)).rounds
      obtain ⟨K7, H7⟩ := (markI_ev u 1 (by omega) (by omega)).rounds
      obtain ⟨K8, H8⟩ := (heldI_ev u 1 (by omega) (by omega)).rounds
      exact lw_FnExactTaskMay a0_0 a0_1 A0_2 c0_2 l0_2 w hr0_2 hc0_2 _ _ _ _ _ _ _ K1 H1 K2 H2 K3 H3 K4 H4 K5 H5 K6 H6 K7 H7 K8 H8 (by omega) (by omega) (by omega)
    · rw [leftOf_no hs] at H1
      exact lw_FnExactTaskMay_e0 a0_0 a0_1 A0_2 c0_2 l0_2 w hr0_2 hc0_2 _ K1 H1 (by omega)
  · cases h
theorem pure_FnExactTaskMay (a0 : Int) (w0 : (Lit.int .i64 a0).wf = true) (a1 : Int) (w1 : (Lit.int .i64 a1).wf = true) (l : List Lk) (hb : l.length ≤ 9223372036854775807 ∧ ∀ x ∈ l, bdT x) : ∃ k, laws_FnExactTaskMay.f k a0 a1 l = some true :=
  ⟨0, if_pos ⟨hb.1, bdL_of hb.2⟩⟩
end Go.Proofs.Ytgbjbpjmbghlbaa.G
end
