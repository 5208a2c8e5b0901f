import Derived.Test.YtimmhlakmcehaaaG2
import Derived.Test.YtimmhlakmcehaaaG3
/- Plain facts on tasks: what the printed functions on tasks come to. -/
namespace Go.Proofs.Ytimmhlakmcehaaa.G
open Go.RowKit Go.Proofs.YtimmhlakmcehaaaW.PrintWords
set_option linter.unusedVariables false
set_option linter.unusedSimpArgs false

abbrev Tk := S30
theorem tk_size (t p : Tk) (hp : p ∈ t.f2) : SizeOf.sizeOf p < SizeOf.sizeOf t := by
  have h := List.sizeOf_lt_of_mem hp
  cases t with
  | mk a b c => simp only [S30.mk.sizeOf_spec] at *; omega
theorem tk_ind {P : Tk → Prop} (h : ∀ t : Tk, (∀ p ∈ t.f2, P p) → P t) : ∀ t, P t := by
  intro t
  induction hn : SizeOf.sizeOf t using Nat.strongRecOn generalizing t with
  | _ n ih => exact h t (fun p hp => ih (SizeOf.sizeOf p) (by rw [← hn]; exact tk_size t p hp) p rfl)

/-- How many parts a kind has, and the numbers that it may bear. -/
def shapeB (k n : Int) (len : Nat) : Bool :=
  if k = 0 then decide (0 ≤ n ∧ n ≤ 96) && decide (len = 0)
  else if k = 1 then decide (0 ≤ n ∧ n < 10) && decide (len = 0)
  else if k = 2 then decide (n = 0) && decide (len = 2)
  else if k = 3 then decide (n = 0) && decide (len = 2)
  else if k = 4 then decide (n = 0) && decide (len = 3)
  else if k = 5 then decide (0 ≤ n ∧ n < 10) && decide (len = 1)
  else false
mutual
def fitT : Tk → Bool
  | ⟨k, n, ps⟩ => shapeB k n ps.length && fitL ps
def fitL : List Tk → Bool
  | [] => true
  | p :: ps => fitT p && fitL ps
end
mutual
def nodT : Tk → Nat
  | ⟨_, _, ps⟩ => 1 + nodL ps
def nodL : List Tk → Nat
  | [] => 0
  | p :: ps => nodT p + nodL ps
end
/-- A task is one. -/
def okT (t : Tk) : Bool := fitT t && decide (nodT t ≤ 15)
theorem fitT_eq (t : Tk) : fitT t = (shapeB t.f0 t.f1 t.f2.length && fitL t.f2) := by cases t; simp [fitT]
theorem nodT_eq (t : Tk) : nodT t = 1 + nodL t.f2 := by cases t; simp [nodT]
theorem nodT_pos (t : Tk) : 1 ≤ nodT t := by rw [nodT_eq]; omega
theorem fitL_mem {ps : List Tk} (h : fitL ps = true) : ∀ p ∈ ps, fitT p = true := by
  induction ps with
  | nil => intro p hp; cases hp
  | cons q ps ih =>
    simp only [fitL, Bool.and_eq_true] at h
    intro p hp
    rcases List.mem_cons.1 hp with rfl | hp
    · exact h.1
    · exact ih h.2 p hp
theorem nodL_mem {ps : List Tk} : ∀ p ∈ ps, nodT p ≤ nodL ps := by
  induction ps with
  | nil => intro p hp; cases hp
  | cons q ps ih =>
    intro p hp
    simp only [nodL]
    rcases List.mem_cons.1 hp with rfl | hp
    · omega
    · have := ih p hp; omega
theorem nodL_len (ps : List Tk) : ps.length ≤ nodL ps := by
  induction ps with
  | nil => simp
  | cons q ps ih => simp only [nodL, List.length_cons]; have := nodT_pos q; omega
theorem shapeB_len {k n : Int} {len : Nat} (h : shapeB k n len = true) : len ≤ 3 := by
  unfold shapeB at h
  repeat' split at h
  all_goals first | (simp at h; done) | (simp only [Bool.and_eq_true, decide_eq_true_eq] at h; omega)
theorem okT_fit {t : Tk} (h : okT t = true) : fitT t = true := by simp only [okT, Bool.and_eq_true] at h; exact h.1
theorem okT_nod {t : Tk} (h : okT t = true) : nodT t ≤ 15 := by simp only [okT, Bool.and_eq_true, decide_eq_true_eq] at h; exact h.2
theorem okT_part {t : Tk} (h : okT t = true) : ∀ p ∈ t.f2, okT p = true := by
  intro p hp
  have h1 := okT_fit h
  have h2 := okT_nod h
  rw [fitT_eq, Bool.and_eq_true] at h1
  rw [nodT_eq] at h2
  have h3 := nodL_mem p hp
  simp only [okT, Bool.and_eq_true, decide_eq_true_eq]
  exact ⟨fitL_mem h1.2 p hp, by omega⟩
theorem okT_shape {t : Tk} (h : okT t = true) : shapeB t.f0 t.f1 t.f2.length = true := by
  have h1 := okT_fit h
  rw [fitT_eq, Bool.and_eq_true] at h1
  exact h1.1

/-! lists, read by number -/
theorem rd_tk (ps : List Tk) (i : Nat) (h : i < ps.length) : rd_T30 ps (i : Int) = ps[i] := by
  simp only [rd_T30, Int.toNat_natCast, List.getD_eq_getElem?_getD, List.getElem?_eq_getElem h, Option.getD_some]
theorem drop_tk {α : Type} (ps : List α) (i : Nat) (h : i < ps.length) : ps.drop i = ps[i] :: ps.drop (i + 1) := List.drop_eq_getElem_cons h
theorem wrap_nat (i : Nat) (h : i + 1 ≤ 9223372036854775807) : wrap64 ((i : Int) + 1) = ((i + 1 : Nat) : Int) := by unfold wrap64; omega
theorem wrap_id (x : Int) (h1 : -9223372036854775808 ≤ x) (h2 : x ≤ 9223372036854775807) : wrap64 x = x := by unfold wrap64; omega
theorem mt_nodrop {α : Type} (ps : List α) (i : Nat) (h : ps.length ≤ i) : ps.drop i = [] := List.drop_of_length_le h

/-! the shapes -/
theorem isKey_ev (a : Int) : impl_isKey.f a = some (decide (0 ≤ a ∧ a < 10)) := by
  unfold impl_isKey.f
  by_cases h : a ≥ 0
  · rw [if_pos h]; simp only [ge_iff_le] at h; simp [h]
  · rw [if_neg h]; simp only [ge_iff_le] at h; simp [h]
theorem isValue_ev (a : Int) : impl_isValue.f a = some (decide (0 ≤ a ∧ a ≤ 96)) := by
  unfold impl_isValue.f
  by_cases h : a ≥ 0
  · rw [if_pos h]; simp only [ge_iff_le] at h; simp [h]
  · rw [if_neg h]; simp only [ge_iff_le] at h; simp [h]
theorem ite_prop (P : Prop) [Decidable P] (c : Bool) : (if P then some c else some false) = some (decide P && c) := by by_cases h : P <;> simp [h]
theorem fits_now (k : Nat) (a b : Int) (l : List Tk) : impl_Task_fits.f (k + 1) a b l = some (shapeB a b l.length) := by
  unfold impl_Task_fits.f
  have e0 : ∀ m : Nat, ((l.length : Int) == (m : Int)) = decide (l.length = m) := fun m => by rw [Bool.eq_iff_iff]; simp only [beq_iff_eq, decide_eq_true_eq]; omega
  have e1 : ((l.length : Int) == 0) = decide (l.length = 0) := e0 0
  have e2 : ((l.length : Int) == 1) = decide (l.length = 1) := e0 1
  have e3 : ((l.length : Int) == 2) = decide (l.length = 2) := e0 2
  have e4 : ((l.length : Int) == 3) = decide (l.length = 3) := e0 3
  simp only [impl_Task_fits.j0, isKey_ev, isValue_ev, Option.bind_some, e1, e2, e3, e4, ite_prop, Bool.decide_eq_true]
  clear e0 e1 e2 e3 e4
  unfold shapeB
  by_cases h0 : a = 0
  · simp only [h0, if_true]
  by_cases h1 : a = 1
  · simp only [h0, h1, if_true, if_false, show ¬ ((1 : Int) = 0) by decide]
  by_cases h2 : a = 2
  · simp only [h2, if_true, if_false, show ¬ ((2 : Int) = 0) by decide, show ¬ ((2 : Int) = 1) by decide, show ((2 : Int) == 2) = true by decide]
  by_cases h3 : a = 3
  · simp only [h3, if_true, if_false, show ¬ ((3 : Int) = 0) by decide, show ¬ ((3 : Int) = 1) by decide, show ¬ ((3 : Int) = 2) by decide, show ((3 : Int) == 3) = true by decide]
  have h3b : (a == 3) = false := beq_eq_false_iff_ne.mpr h3
  by_cases h4 : a = 4
  · simp only [h4, if_true, if_false, show ¬ ((4 : Int) = 0) by decide, show ¬ ((4 : Int) = 1) by decide, show ¬ ((4 : Int) = 2) by decide, show ¬ ((4 : Int) = 3) by decide, show ((4 : Int) == 3) = false by decide, Bool.false_eq_true, decide_true, Bool.true_and]
  by_cases h5 : a = 5
  · simp only [h5, if_true, if_false, show ¬ ((5 : Int) = 0) by decide, show ¬ ((5 : Int) = 1) by decide, show ¬ ((5 : Int) = 2) by decide, show ¬ ((5 : Int) = 3) by decide, show ¬ ((5 : Int) = 4) by decide, show ((5 : Int) == 3) = false by decide, Bool.false_eq_true, decide_true, Bool.true_and]
  simp only [h0, h1, h2, h3, h4, h5, h3b, if_false, Bool.false_eq_true, decide_false, Bool.false_and]
theorem fits_ev (a b : Int) (l : List Tk) : Ev (fun k => impl_Task_fits.f k a b l) (shapeB a b l.length) := ⟨1, fun k hk => by
  obtain ⟨m, rfl⟩ : ∃ m, k = m + 1 := ⟨k - 1, by omega⟩
  exact fits_now m a b l⟩
end Go.Proofs.Ytimmhlakmcehaaa.G
