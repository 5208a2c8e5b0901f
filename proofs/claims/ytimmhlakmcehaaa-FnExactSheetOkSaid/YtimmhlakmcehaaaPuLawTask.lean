import Derived.Test.YtimmhlakmcehaaaG1
import Derived.Test.YtimmhlakmcehaaaG2
import Derived.Test.YtimmhlakmcehaaaG3
import Derived.Test.YtimmhlakmcehaaaG4
import Derived.Test.YtimmhlakmcehaaaPuTaskB
import Derived.Test.YtimmhlakmcehaaaOpenTypes
/- Plain facts on what the laws do with tasks: sizes, copies, comparisons. -/
namespace Go.Proofs.Ytimmhlakmcehaaa.G
open Go.RowKit Go.Proofs.YtimmhlakmcehaaaW.PrintWords
set_option linter.unusedVariables false
set_option linter.unusedSimpArgs false

abbrev Lk := S25
theorem lk_size (t p : Lk) (hp : p ∈ t.f2) : SizeOf.sizeOf p < SizeOf.sizeOf t := by
  have h := List.sizeOf_lt_of_mem hp
  cases t with
  | mk a b c => simp only [S25.mk.sizeOf_spec] at *; omega
theorem lk_ind {P : Lk → Prop} (h : ∀ t : Lk, (∀ p ∈ t.f2, P p) → P t) : ∀ t, P t := by
  intro t
  induction hn : SizeOf.sizeOf t using Nat.strongRecOn generalizing t with
  | _ n ih => exact h t (fun p hp => ih (SizeOf.sizeOf p) (by rw [← hn]; exact lk_size t p hp) p rfl)
theorem rd_lk (ps : List Lk) (i : Nat) (h : i < ps.length) : rd_T25 ps (i : Int) = ps[i] := by
  simp only [rd_T25, Int.toNat_natCast, List.getD_eq_getElem?_getD, List.getElem?_eq_getElem h, Option.getD_some]

/-! Every list inside is one that can be. -/
abbrev bdT := ex_t25
abbrev bdL := ex_c25
/-! How many parts there are, at any depth. -/
mutual
def szT : Lk → Nat
  | ⟨_, _, ps⟩ => ps.length + szC ps
def szC : List Lk → Nat
  | [] => 0
  | p :: ps => szT p + szC ps
end
/-! The program's task. -/
mutual
def cvT : Lk → Tk
  | ⟨k, n, ps⟩ => ⟨k, n, cvL ps⟩
def cvL : List Lk → List Tk
  | [] => []
  | p :: ps => cvT p :: cvL ps
end
theorem bdT_eq (t : Lk) : bdT t = (t.f2.length ≤ 9223372036854775807 ∧ bdL t.f2) := by cases t; simp [bdT, bdL, ex_t25]
theorem szT_eq (t : Lk) : szT t = t.f2.length + szC t.f2 := by cases t; simp [szT]
theorem cvT_eq (t : Lk) : cvT t = ⟨t.f0, t.f1, cvL t.f2⟩ := by cases t; simp [cvT]
theorem cvL_map (ps : List Lk) : cvL ps = ps.map cvT := by
  induction ps with
  | nil => simp [cvL]
  | cons p ps ih => simp [cvL, ih]
theorem cvL_length (ps : List Lk) : (cvL ps).length = ps.length := by rw [cvL_map, List.length_map]
theorem bdL_mem {ps : List Lk} (h : bdL ps) : ∀ p ∈ ps, bdT p := by
  induction ps with
  | nil => intro p hp; cases hp
  | cons q ps ih =>
    simp only [bdL, ex_c25] at h
    intro p hp
    rcases List.mem_cons.1 hp with rfl | hp
    · exact h.1
    · exact ih h.2 p hp
theorem bdL_of {ps : List Lk} (h : ∀ p ∈ ps, bdT p) : bdL ps := ex_c25_of h
theorem szC_mem {ps : List Lk} : ∀ p ∈ ps, szT p ≤ szC ps := by
  induction ps with
  | nil => intro p hp; cases hp
  | cons q ps ih =>
    intro p hp
    simp only [szC]
    rcases List.mem_cons.1 hp with rfl | hp
    · omega
    · have := ih p hp; omega
theorem nod_cv : ∀ t : Lk, nodT (cvT t) = 1 + szT t := by
  refine lk_ind fun t ih => ?_
  rw [cvT_eq, nodT_eq, szT_eq]
  congr 1
  show nodL (cvL t.f2) = t.f2.length + szC t.f2
  generalize t.f2 = ps at ih
  induction ps with
  | nil => simp [cvL, nodL, szC]
  | cons p ps ihp =>
    simp only [cvL, nodL, szC, List.length_cons]
    rw [ih p (by simp), ihp (fun q hq => ih q (by simp [hq]))]
    omega
theorem nodL_cv (ps : List Lk) : nodL (cvL ps) = ps.length + szC ps := by
  have h := nod_cv ⟨0, 0, ps⟩
  rw [cvT_eq, nodT_eq, szT_eq] at h
  simp only at h
  omega

/-! how large -/
/-- What is left behind so many; -1 if there is no room for them. -/
def leftOf (n : Nat) (left : Int) : Int := if (n : Int) ≤ left then left - n else -1
theorem leftOf_yes {n : Nat} {left : Int} (h : (n : Int) ≤ left) : leftOf n left = left - n := if_pos h
theorem leftOf_no {n : Nat} {left : Int} (h : ¬ (n : Int) ≤ left) : leftOf n left = -1 := if_neg h
theorem leftOf_add {a b : Nat} {left : Int} (h : (a : Int) ≤ left) : leftOf b (left - a) = leftOf (a + b) left := by
  unfold leftOf
  split <;> split <;> omega
theorem leftOf_zero {left : Int} (h : 0 ≤ left) : leftOf 0 left = left := by unfold leftOf; split <;> omega
theorem leftOf_le {n : Nat} {left : Int} (h : left ≤ 1048576) : leftOf n left ≤ 1048576 := by unfold leftOf; split <;> omega
theorem leftOf_neg {n : Nat} {left : Int} (h0 : 0 ≤ left) : leftOf n left < 0 ↔ ¬ (n : Int) ≤ left := by unfold leftOf; split <;> omega
theorem szS_ev (n : Nat) : ∀ ps : List Lk, SizeOf.sizeOf ps ≤ n → ps.length ≤ 9223372036854775807 → bdL ps → ∀ left : Int, 0 ≤ left → left ≤ 1048576 →
    Ev (fun k => laws_szTaskS.f k ps left) (leftOf (ps.length + szC ps) left) := by
  induction n with
  | zero => intro ps h; cases ps <;> simp at h
  | succ n ih =>
    intro ps hsz hlen hbd left h0 h1
    have one : ∀ p ∈ ps, ∀ lf : Int, 0 ≤ lf → lf ≤ 1048576 → Ev (fun k => laws_szTask.f k p.f0 p.f1 p.f2 lf) (leftOf (szT p) lf) := by
      intro p hp lf g0 g1
      have hb := bdL_mem hbd p hp
      rw [bdT_eq] at hb
      have hs := List.sizeOf_lt_of_mem hp
      have hs2 : SizeOf.sizeOf p.f2 < SizeOf.sizeOf p := by
        cases p with
        | mk a b c => simp only [S25.mk.sizeOf_spec]; omega
      refine Ev.step (fun k => by rw [laws_szTask.f]) ?_
      refine Ev.bind (ih p.f2 (by omega) hb.1 hb.2 lf g0 g1) ?_
      rw [szT_eq]
      by_cases hc : leftOf (p.f2.length + szC p.f2) lf < 0
      · simp only [if_pos hc]
        rw [leftOf_no ((leftOf_neg g0).1 hc)]
        exact Ev.now _
      · simp only [if_neg hc]
        exact Ev.now _
    have loop : ps.length ≤ 1048576 → ∀ (d i : Nat) (lf : Int), d = ps.length - i → i ≤ ps.length → 0 ≤ lf → lf ≤ 1048576 → Ev (fun k => laws_szTaskS.l0 k ps lf (i : Int)) (leftOf (szC (ps.drop i)) lf) := by
      intro hl20 d
      induction d with
      | zero =>
        intro i lf hd hi g0 g1
        have e : i = ps.length := by omega
        subst e
        refine Ev.step (fun k => by rw [laws_szTaskS.l0]) ?_
        simp only [if_neg (show ¬ ((ps.length : Int) < (ps.length : Int)) by omega), List.drop_length, szC]
        exact Ev.eq (Ev.now lf) (leftOf_zero g0).symm
      | succ d ihd =>
        intro i lf hd hi g0 g1
        have hlt : i < ps.length := by omega
        have hmem : ps[i] ∈ ps := List.getElem_mem hlt
        rw [drop_tk ps i hlt, szC]
        refine Ev.step (fun k => by rw [laws_szTaskS.l0]) ?_
        simp only [if_pos (show (i : Int) < (ps.length : Int) by omega), if_pos (show (0 : Int) ≤ (i : Int) by omega), rd_lk ps i hlt]
        refine Ev.bind (one _ hmem lf g0 g1) ?_
        by_cases hc : (szT ps[i] : Int) ≤ lf
        · rw [leftOf_yes hc]
          simp only [if_neg (show ¬ (lf - (szT ps[i] : Int) < 0) by omega), wrap_nat i (by omega)]
          exact Ev.eq (ihd (i + 1) (lf - szT ps[i]) (by omega) (by omega) (by omega) (by omega)) (leftOf_add hc)
        · rw [leftOf_no hc]
          simp only [if_pos (show (-1 : Int) < 0 by omega)]
          exact Ev.eq (Ev.now (-1)) (leftOf_no (by omega)).symm
    refine Ev.step (fun k => by rw [laws_szTaskS.f]) ?_
    simp only [wrap_id (left - (ps.length : Int)) (by omega) (by omega)]
    by_cases hc : left - (ps.length : Int) < 0
    · simp only [if_pos hc]
      exact Ev.eq (Ev.now (-1)) (leftOf_no (by omega)).symm
    · simp only [if_neg hc]
      refine Ev.eq (loop (by omega) ps.length 0 (left - ps.length) (by omega) (by omega) (by omega) (by omega)) ?_
      rw [List.drop_zero]
      exact leftOf_add (by omega)
theorem szL_ev (ps : List Lk) (hlen : ps.length ≤ 9223372036854775807) (hbd : bdL ps) (left : Int) (h0 : 0 ≤ left) (h1 : left ≤ 1048576) :
    Ev (fun k => laws_szTaskS.f k ps left) (leftOf (ps.length + szC ps) left) := szS_ev (SizeOf.sizeOf ps) ps (Nat.le_refl _) hlen hbd left h0 h1
theorem sz_ev (t : Lk) (hbd : bdT t) (left : Int) (h0 : 0 ≤ left) (h1 : left ≤ 1048576) : Ev (fun k => laws_szTask.f k t.f0 t.f1 t.f2 left) (leftOf (szT t) left) := by
  rw [bdT_eq] at hbd
  refine Ev.step (fun k => by rw [laws_szTask.f]) ?_
  refine Ev.bind (szL_ev t.f2 hbd.1 hbd.2 left h0 h1) ?_
  rw [szT_eq]
  by_cases hc : leftOf (t.f2.length + szC t.f2) left < 0
  · simp only [if_pos hc]
    rw [leftOf_no ((leftOf_neg h0).1 hc)]
    exact Ev.now _
  · simp only [if_neg hc]
    exact Ev.now _

/-! copies -/
theorem toS_ev (n : Nat) : ∀ ps : List Lk, SizeOf.sizeOf ps ≤ n → ps.length + szC ps ≤ 1048576 → Ev (fun k => laws_toTaskS.f k ps) (cvL ps) := by
  induction n with
  | zero => intro ps h; cases ps <;> simp at h
  | succ n ih =>
    intro ps hsz hb
    have one : ∀ p ∈ ps, Ev (fun k => laws_toTask.f k p.f0 p.f1 p.f2) (p.f0, p.f1, cvL p.f2) := by
      intro p hp
      have hs := List.sizeOf_lt_of_mem hp
      have hs2 : SizeOf.sizeOf p.f2 < SizeOf.sizeOf p := by
        cases p with
        | mk a b c => simp only [S25.mk.sizeOf_spec]; omega
      have h3 := szC_mem p hp
      rw [szT_eq] at h3
      refine Ev.step (fun k => by rw [laws_toTask.f]) ?_
      refine Ev.bind (ih p.f2 (by omega) (by omega)) ?_
      exact Ev.now _
    have loop : ∀ (d i : Nat), d = ps.length - i → i ≤ ps.length → Ev (fun k => laws_toTaskS.l0 k ps (cvL (ps.take i) ++ List.replicate (ps.length - i) z30) (i : Int)) (cvL ps) := by
      intro d
      induction d with
      | zero =>
        intro i hd hi
        have e : i = ps.length := by omega
        subst e
        refine Ev.step (fun k => by rw [laws_toTaskS.l0]) ?_
        simp only [if_neg (show ¬ ((ps.length : Int) < (ps.length : Int)) by omega), Nat.sub_self, List.replicate_zero, List.append_nil, List.take_length]
        exact Ev.now _
      | succ d ihd =>
        intro i hd hi
        have hlt : i < ps.length := by omega
        have hmem : ps[i] ∈ ps := List.getElem_mem hlt
        have hl : (cvL (ps.take i) ++ List.replicate (ps.length - i) z30).length = ps.length := by simp [cvL_length]; omega
        refine Ev.step (fun k => by rw [laws_toTaskS.l0]) ?_
        simp only [if_pos (show (i : Int) < (ps.length : Int) by omega), if_pos (show (0 : Int) ≤ (i : Int) by omega), rd_lk ps i hlt, hl]
        refine Ev.bind (one _ hmem) ?_
        simp only [wrap_nat i (by omega), Int.toNat_natCast]
        have e : (cvL (ps.take i) ++ List.replicate (ps.length - i) z30).set i ⟨ps[i].f0, ps[i].f1, cvL ps[i].f2⟩ = cvL (ps.take (i + 1)) ++ List.replicate (ps.length - (i + 1)) z30 := by
          rw [List.set_append_right _ _ (by rw [cvL_length, List.length_take]; omega), cvL_length, List.length_take, Nat.min_eq_left (by omega), Nat.sub_self]
          rw [show ps.length - i = (ps.length - (i + 1)) + 1 by omega, List.replicate_succ, List.set_cons_zero, ← cvT_eq, List.take_succ_eq_append_getElem hlt]
          rw [cvL_map, cvL_map, List.map_append, List.map_singleton, List.append_assoc, List.singleton_append]
        rw [e]
        exact ihd (i + 1) (by omega) (by omega)
    refine Ev.step (fun k => by rw [laws_toTaskS.f]) ?_
    simp only [if_pos (show (0 : Int) ≤ (ps.length : Int) by omega), Int.toNat_natCast, if_pos (show ps.length ≤ 7036874417766 by omega)]
    have h := loop ps.length 0 (by omega) (by omega)
    simp only [List.take_zero, cvL, List.nil_append, Nat.sub_zero, Int.natCast_zero, Int.ofNat_zero] at h
    exact h
theorem toL_ev (ps : List Lk) (hb : ps.length + szC ps ≤ 1048576) : Ev (fun k => laws_toTaskS.f k ps) (cvL ps) := toS_ev (SizeOf.sizeOf ps) ps (Nat.le_refl _) hb
theorem to_ev (t : Lk) (hb : szT t ≤ 1048576) : Ev (fun k => laws_toTask.f k t.f0 t.f1 t.f2) (t.f0, t.f1, cvL t.f2) := by
  rw [szT_eq] at hb
  refine Ev.step (fun k => by rw [laws_toTask.f]) ?_
  exact Ev.bind (toL_ev t.f2 hb) (Ev.now _)

/-! comparisons -/
theorem eqS_ev (n : Nat) : ∀ ps : List Tk, SizeOf.sizeOf ps ≤ n → nodL ps ≤ 4000000000 → Ev (fun k => laws_eqTaskS.f k ps ps) true := by
  induction n with
  | zero => intro ps h; cases ps <;> simp at h
  | succ n ih =>
    intro ps hsz hb
    have hln := nodL_len ps
    have one : ∀ p ∈ ps, Ev (fun k => laws_eqTask.f k p.f0 p.f1 p.f2 p.f0 p.f1 p.f2) true := by
      intro p hp
      have hs := List.sizeOf_lt_of_mem hp
      have hs2 : SizeOf.sizeOf p.f2 < SizeOf.sizeOf p := by
        cases p with
        | mk a b c => simp only [S30.mk.sizeOf_spec]; omega
      have h3 := nodL_mem p hp
      rw [nodT_eq] at h3
      refine Ev.step (fun k => by rw [laws_eqTask.f]) ?_
      simp only [if_true]
      refine Ev.bind (ih p.f2 (by omega) (by omega)) ?_
      simp only [if_true]
      exact Ev.now true
    have loop : ∀ (d i : Nat), d = ps.length - i → i ≤ ps.length → Ev (fun k => laws_eqTaskS.l0 k ps ps (i : Int)) true := by
      intro d
      induction d with
      | zero =>
        intro i hd hi
        have e : i = ps.length := by omega
        subst e
        refine Ev.step (fun k => by rw [laws_eqTaskS.l0]) ?_
        simp only [if_neg (show ¬ ((ps.length : Int) < (ps.length : Int)) by omega)]
        exact Ev.now true
      | succ d ihd =>
        intro i hd hi
        have hlt : i < ps.length := by omega
        have hmem : ps[i] ∈ ps := List.getElem_mem hlt
        refine Ev.step (fun k => by rw [laws_eqTaskS.l0]) ?_
        simp only [if_pos (show (i : Int) < (ps.length : Int) by omega), if_pos (show (0 : Int) ≤ (i : Int) by omega), rd_tk ps i hlt]
        refine Ev.bind (one _ hmem) ?_
        simp only [if_true, wrap_nat i (by omega)]
        exact ihd (i + 1) (by omega) (by omega)
    refine Ev.step (fun k => by rw [laws_eqTaskS.f]) ?_
    simp only [if_true]
    exact loop ps.length 0 (by omega) (by omega)
theorem eqL_ev (ps : List Tk) (hb : nodL ps ≤ 4000000000) : Ev (fun k => laws_eqTaskS.f k ps ps) true := eqS_ev (SizeOf.sizeOf ps) ps (Nat.le_refl _) hb
theorem eqT_ev (t : Tk) (hb : nodT t ≤ 4000000000) : Ev (fun k => laws_eqTask.f k t.f0 t.f1 t.f2 t.f0 t.f1 t.f2) true := by
  rw [nodT_eq] at hb
  refine Ev.step (fun k => by rw [laws_eqTask.f]) ?_
  simp only [if_true]
  refine Ev.bind (eqL_ev t.f2 (by omega)) ?_
  simp only [if_true]
  exact Ev.now true
end Go.Proofs.Ytimmhlakmcehaaa.G
