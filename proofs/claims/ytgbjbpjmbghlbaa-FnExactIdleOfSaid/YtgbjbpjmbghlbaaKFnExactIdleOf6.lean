-- Written by pack.py (ours): the claim's texts, cut down to what its theorem reaches.
import Derived.Lib.SlicesCompact
import Derived.Test.YtgbjbpjmbghlbaaKFnExactIdleOf5
section
namespace Go.Proofs.Ytgbjbpjmbghlbaa.G
open Go.RowKit Go.Proofs.YtgbjbpjmbghlbaaW.PrintWords
set_option linter.unusedVariables false
set_option linter.unusedSimpArgs false
theorem asc_ext : ∀ {a b : List Int}, a.Pairwise (· < ·) → b.Pairwise (· < ·) → (∀ x, x ∈ a ↔ x ∈ b) → a = b
  | [], [], _, _, _ => rfl
  | [], y :: ys, _, _, h => by have h2 := (h y).2 List.mem_cons_self; cases h2
  | x :: xs, [], _, _, h => by have h2 := (h x).1 List.mem_cons_self; cases h2
  | x :: xs, y :: ys, ha, hb, h => by
    obtain ⟨a1, a2⟩ := List.pairwise_cons.1 ha
    obtain ⟨b1, b2⟩ := List.pairwise_cons.1 hb
    have e : x = y := by
      rcases List.mem_cons.1 ((h x).1 List.mem_cons_self) with e | hx
      · exact e
      · rcases List.mem_cons.1 ((h y).2 List.mem_cons_self) with e | hy
        · exact e.symm
        · have h1 := b1 x hx
          have h2 := a1 y hy
          omega
    subst e
    have ht : xs = ys := asc_ext a2 b2 (fun z => by
      constructor
      · intro hz
        rcases List.mem_cons.1 ((h z).1 (List.mem_cons_of_mem _ hz)) with e | hz2
        · have := a1 z hz; omega
        · exact hz2
      · intro hz
        rcases List.mem_cons.1 ((h z).2 (List.mem_cons_of_mem _ hz)) with e | hz2
        · have := b1 z hz; omega
        · exact hz2)
    rw [ht]
theorem compact_mem (zs : List Int) (x : Int) : x ∈ Lib.compact zs ↔ x ∈ zs := by
  unfold Lib.compact Lib.compactUpTo
  rw [List.mem_map]
  constructor
  · rintro ⟨j, hj, rfl⟩
    have h1 := List.mem_range.1 (List.mem_filter.1 hj).1
    rw [getElem!_pos zs.toArray j (by simpa using h1)]
    simp
  · intro hx
    obtain ⟨i, hi, rfl⟩ := List.getElem_of_mem hx
    have key : ∀ (n i : Nat) (hi : i < zs.length), i = n → ∃ j, j ∈ (List.range zs.length).filter (Lib.keeps zs.toArray) ∧ zs.toArray[j]! = zs[i] := by
      intro n
      induction n with
      | zero =>
        intro i hi e
        subst e
        refine ⟨0, List.mem_filter.2 ⟨List.mem_range.2 hi, Lib.keeps_lt_one _ 0 (by omega)⟩, ?_⟩
        rw [getElem!_pos zs.toArray 0 (by simpa using hi)]
        simp
      | succ n ih =>
        intro i hi e
        subst e
        cases hk : Lib.keeps zs.toArray (n + 1) with
        | true =>
          refine ⟨n + 1, List.mem_filter.2 ⟨List.mem_range.2 hi, hk⟩, ?_⟩
          rw [getElem!_pos zs.toArray (n + 1) (by simpa using hi)]
          simp
        | false =>
          obtain ⟨j, hj, ej⟩ := ih n (by omega) rfl
          refine ⟨j, hj, ?_⟩
          rw [ej]
          by_cases h2 : zs.toArray[n + 1]! ≠ zs.toArray[n + 1 - 1]!
          · rw [Lib.keeps_pos h2] at hk; cases hk
          · simp only [ne_eq, Decidable.not_not, Nat.add_sub_cancel] at h2
            rw [getElem!_pos zs.toArray (n + 1) (by simpa using hi), getElem!_pos zs.toArray n (by simp; omega)] at h2
            simpa using h2.symm
    exact key i i hi rfl
theorem compact_asc {zs : List Int} (h : zs.Pairwise (· ≤ ·)) : (Lib.compact zs).Pairwise (· < ·) := by
  unfold Lib.compact Lib.compactUpTo
  rw [List.pairwise_map]
  refine List.Pairwise.imp_of_mem ?_ (List.Pairwise.filter _ List.pairwise_lt_range)
  intro i j hi hj hij
  have h1 := List.mem_range.1 (List.mem_filter.1 hi).1
  have h2 := List.mem_range.1 (List.mem_filter.1 hj).1
  have h3 := (List.mem_filter.1 hj).2
  have h4 : zs.toArray[j]! ≠ zs.toArray[j - 1]! := by
    intro e
    rw [Lib.keeps_neg (by omega) e] at h3
    cases h3
  rw [getElem!_pos zs.toArray j (by simpa using h2), getElem!_pos zs.toArray (j - 1) (by simp; omega)] at h4
  rw [getElem!_pos zs.toArray i (by simpa using h1), getElem!_pos zs.toArray j (by simpa using h2)]
  simp only [List.getElem_toArray] at h4 ⊢
  have hle : ∀ (a b : Nat) (ha : a < zs.length) (hb : b < zs.length), a ≤ b → zs[a] ≤ zs[b] := by
    intro a b ha hb hab
    by_cases e : a = b
    · subst e; exact Int.le_refl _
    · exact List.pairwise_iff_getElem.1 h a b ha hb (by omega)
  have h5 := hle i (j - 1) h1 (by omega) (by omega)
  have h6 := hle (j - 1) j (by omega) h2 (by omega)
  omega
theorem sort_asc (l : List Int) : (l.mergeSort fun x y => decide (x ≤ y)).Pairwise (· ≤ ·) := by
  have h := List.pairwise_mergeSort (le := fun x y : Int => decide (x ≤ y)) (fun a b c h1 h2 => by simp only [decide_eq_true_eq] at *; omega) (fun a b => by simp only [Bool.or_eq_true, decide_eq_true_eq]; omega) l
  exact h.imp (fun h => by simpa using h)
def sortC (l : List Int) : List Int := Lib.compact (l.mergeSort fun x y => decide (x ≤ y))
theorem sortC_mem (l : List Int) (x : Int) : x ∈ sortC l ↔ x ∈ l := by
  unfold sortC
  rw [compact_mem]
  exact List.mem_mergeSort
theorem sortC_asc (l : List Int) : (sortC l).Pairwise (· < ·) := compact_asc (sort_asc l)
theorem compact_len (zs : List Int) : (Lib.compact zs).length ≤ zs.length := by
  unfold Lib.compact Lib.compactUpTo
  rw [List.length_map]
  have := List.length_filter_le (Lib.keeps zs.toArray) (List.range zs.length)
  rw [List.length_range] at this
  exact this
theorem sortC_len (l : List Int) : (sortC l).length ≤ l.length := by
  have h := compact_len (l.mergeSort fun x y => decide (x ≤ y))
  rw [List.length_mergeSort] at h
  exact h
def minusL (l m : List Int) : List Int := (sortC l).filter fun n => !(m.contains n)
def w12 (l m : List Int) : List Int := ((List.range 10).map fun n : Nat => (n : Int)).filter fun n => decide (n ∈ l) && !decide (n ∈ m)
theorem minusL_asc (l m : List Int) : (minusL l m).Pairwise (· < ·) := (sortC_asc l).filter _
theorem minusL_mem (l m : List Int) (x : Int) : x ∈ minusL l m ↔ x ∈ l ∧ x ∉ m := by
  unfold minusL
  rw [List.mem_filter, sortC_mem]
  simp
theorem minusL_len (l m : List Int) : (minusL l m).length ≤ l.length := Nat.le_trans (List.length_filter_le _ _) (sortC_len l)
theorem w12_mem (l m : List Int) (x : Int) : x ∈ w12 l m ↔ (0 ≤ x ∧ x < 10) ∧ x ∈ l ∧ x ∉ m := by
  unfold w12
  rw [List.mem_filter, List.mem_map]
  constructor
  · rintro ⟨⟨n, hn, rfl⟩, h⟩
    rw [List.mem_range] at hn
    simp only [Bool.and_eq_true, decide_eq_true_eq, Bool.not_eq_true', decide_eq_false_iff_not] at h
    exact ⟨by omega, h⟩
  · rintro ⟨h0, h1, h2⟩
    exact ⟨⟨x.toNat, List.mem_range.2 (by omega), by omega⟩, by simp [h1, h2]⟩
theorem w12_asc (l m : List Int) : (w12 l m).Pairwise (· < ·) := by
  unfold w12
  refine List.Pairwise.filter _ ?_
  rw [List.pairwise_map]
  exact List.pairwise_lt_range.imp (fun h => by omega)
theorem w12_len (l m : List Int) : (w12 l m).length ≤ 10 := by
  unfold w12
  refine Nat.le_trans (List.length_filter_le _ _) ?_
  simp
theorem idle_w12 (l m : List Int) : (minusL l m).filter (fun n => !(!decide (0 ≤ n ∧ n < 10))) = w12 l m :=
  asc_ext ((minusL_asc l m).filter _) (w12_asc l m) (fun x => by
    rw [List.mem_filter, minusL_mem, w12_mem]
    simp only [Bool.not_not, decide_eq_true_eq]
    exact ⟨fun ⟨⟨a, b⟩, c⟩ => ⟨c, a, b⟩, fun ⟨c, a, b⟩ => ⟨⟨a, b⟩, c⟩⟩)
end Go.Proofs.Ytgbjbpjmbghlbaa.G
end
