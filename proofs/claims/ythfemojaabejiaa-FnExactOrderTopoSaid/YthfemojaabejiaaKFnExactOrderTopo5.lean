-- Written by pack.py (ours): the claim's texts, cut down to what its theorem reaches.
import Derived.Maps.OwnSet
import Derived.Test.YthfemojaabejiaaKFnExactOrderTopo4
section
namespace Go.Proofs.Ythfemojaabejiaa.G
open Go Go.Maps Go.WideShapes Go.ChangeMaps
set_option linter.unusedVariables false
set_option linter.unusedSimpArgs false
def BSet (w : World) (P : Program) (k e : TypeId) (b : Nat) (S : List Int) : Prop :=
  ∃ D : DataW Unit, w.ownsMap P k (plainElem P e) b S.length D ∧ Maps.size D = S.length ∧ ∀ x : Int, (Lit.int .i64 x).wf = true → D.atKey (.int .i64 x) (.lit (.bool false)) = .lit (.bool (decide (x ∈ S))) ∧ Maps.has D (.int .i64 x) = decide (x ∈ S)
theorem BSet.made (w : World) (P : Program) (k e : TypeId) : BSet (w.alloc (.map #[] 0)) P k e w.heap.size [] :=
  ⟨.map [], World.ownsMap_made w P k _, rfl, fun x _ => ⟨by simp [DataW.atKey], rfl⟩⟩
theorem BSet.lt {w : World} {P : Program} {k e : TypeId} {b : Nat} {S : List Int} (h : BSet w P k e b S) : b < w.heap.size := h.elim fun _ h => h.1.lt
theorem BSet.kept {w w' : World} {P : Program} {k e : TypeId} {b : Nat} {S : List Int} {row : Option Nat} (h : BSet w P k e b S) (hg : w.grownBy w' row) (hne : some b ≠ row) : BSet w' P k e b S := by
  obtain ⟨D, h1, h2⟩ := h
  exact ⟨D, h1.kept hg hne, h2⟩
theorem BSet.move {w w' : World} {P : Program} {k e : TypeId} {b : Nat} {S : List Int} (h : BSet w P k e b S) (hm : w'.heap[b]? = w.heap[b]?) : BSet w' P k e b S := by
  obtain ⟨D, ⟨es, clock, hb, h1⟩, h2⟩ := h
  exact ⟨D, ⟨es, clock, hm.trans hb, h1⟩, h2⟩
theorem BSet.put {w : World} {P : Program} {t k e : TypeId} {b : Nat} {S : List Int} (h : BSet w P k e b S) (ht : P.underlying t = some (.map k e)) (hk : P.underlying k = some (.int .i64)) (he : P.underlying e = some .bool)
    {x : Int} (hx : (Lit.int .i64 x).wf = true) (hn : x ∉ S) (hl : S.length < maxLen) : ∃ w', (Instr.mapUpdate t (.map (some b)) (.int .i64 x) (.bool true)).run P w = .ok () w' ∧ BSet w' P k e b (S ++ [x]) ∧ w.grownBy w' (some b) := by
  obtain ⟨D, h1, h2, h3⟩ := h
  have K : Keyed P k := int_keyed hk
  have T := h1.tidy K
  obtain ⟨w', hr, ho, hg⟩ := h1.update (t := t) (e := e) K ht hl (keyOf_int_mk hk hx) (plainElem_bool he true)
  have hkl : WideAt.IsKeyLit (.int .i64 x) := by first | exact trivial | exact hx | simp [WideAt.IsKeyLit] | constructor
  refine ⟨w', hr, ⟨D.put (.int .i64 x) (.lit (.bool true)), ?_, ?_, fun y hy => ?_⟩, hg⟩
  · rw [List.length_append, List.length_singleton]; exact ho
  · rw [Maps.size_put T, (h3 x hx).2, decide_eq_false hn, List.length_append, List.length_singleton, h2]
    rfl
  · by_cases e : y = x
    · subst e
      rw [Maps.atKey_put_same T.isMap hkl, Maps.has_put_same T.isMap hkl]
      simp
    · have hne : Lit.int .i64 y ≠ Lit.int .i64 x := fun h => e (by injection h)
      rw [Maps.atKey_put_other hne, Maps.has_put_other hne, (h3 y hy).1, (h3 y hy).2]
      have : (y ∈ S ++ [x]) = (y ∈ S) := by simp [e]
      simp [this]
theorem BSet.look {w : World} {P : Program} {t k e : TypeId} {b : Nat} {S : List Int} (h : BSet w P k e b S) (ht : P.underlying t = some (.map k e)) (hk : P.underlying k = some (.int .i64)) (he : P.underlying e = some .bool)
    (hz : (zeroValue e).run P w = .ok (.bool false) w) {x : Int} (hx : (Lit.int .i64 x).wf = true) : (Instr.lookup t (.map (some b)) (.int .i64 x) false).run P w = .ok (.bool (decide (x ∈ S))) w := by
  obtain ⟨D, h1, h2, h3⟩ := h
  obtain ⟨v, ps, hr, hv⟩ := h1.lookup (t := t) (e := e) (int_keyed hk) ht hz (plainElem_bool he false) (keyOf_int_mk hk hx)
  rw [(h3 x hx).1] at hv
  rw [hr]
  congr 1
  unfold plainElem at hv
  rw [he] at hv
  split at hv
  · rename_i y h4
    simp only [Option.some.injEq, Prod.mk.injEq, DataW.lit.injEq, Lit.bool.injEq] at hv
    rw [hv.1]
  · simp at hv
  · simp at hv
  · cases hv
theorem BSet.len {w : World} {P : Program} {t k e : TypeId} {b : Nat} {S : List Int} (h : BSet w P k e b S) (ht : P.underlying t = some (.map k e)) (ty : TypeId) : (Builtin.len_ #[t] ty #[.map (some b)]).run P w = .ok (.int .i64 (S.length : Int)) w := by
  obtain ⟨D, h1, h2, h3⟩ := h
  have := h1.len (t := t) (e := e) ht ty
  rw [h2] at this
  exact this
end Go.Proofs.Ythfemojaabejiaa.G
end
section
namespace Go.Proofs.Ythfemojaabejiaa.G
set_option linter.unusedVariables false
set_option linter.unusedSimpArgs false
namespace Topo
theorem sub_all : ∀ (a b : List Nat), a.Nodup → (∀ x ∈ a, x ∈ b) → b.length ≤ a.length → ∀ x ∈ b, x ∈ a
  | [], b, _, _, hl => fun x hx => by
    have : b = [] := List.length_eq_zero_iff.1 (by simpa using hl)
    rw [this] at hx
    cases hx
  | y :: t, b, hn, hs, hl => fun x hx => by
    rw [List.nodup_cons] at hn
    by_cases e : x = y
    · rw [e]; exact List.mem_cons_self
    · have hy : y ∈ b := hs y List.mem_cons_self
      have h1 : (b.erase y).length = b.length - 1 := List.length_erase_of_mem hy
      refine List.mem_cons_of_mem _ (sub_all t (b.erase y) hn.2 (fun z hz => ?_) (by simp only [List.length_cons] at hl; omega) x ((List.mem_erase_of_ne e).2 hx))
      exact (List.mem_erase_of_ne (fun ez => hn.1 (by rw [← ez]; exact hz))).2 (hs z (List.mem_cons_of_mem _ hz))
theorem sub_len : ∀ (a b : List Nat), a.Nodup → (∀ x ∈ a, x ∈ b) → a.length ≤ b.length
  | [], b, _, _ => Nat.zero_le _
  | y :: t, b, hn, hs => by
    rw [List.nodup_cons] at hn
    have hy : y ∈ b := hs y List.mem_cons_self
    have h1 : (b.erase y).length = b.length - 1 := List.length_erase_of_mem hy
    have h0 : 0 < b.length := List.length_pos_of_mem hy
    have h2 := sub_len t (b.erase y) hn.2 (fun z hz => (List.mem_erase_of_ne (fun ez => hn.1 (by rw [← ez]; exact hz))).2 (hs z (List.mem_cons_of_mem _ hz)))
    simp only [List.length_cons]
    omega
inductive Ord (n : Nat) (need : Nat → Bool) (may : Nat → List Nat) : List Nat → Prop
  | nil : Ord n need may []
  | snoc {out : List Nat} {k : Nat} : Ord n need may out → k < n → need k = true → k ∉ out → (∀ j ∈ may k, j ∈ out) → Ord n need may (out ++ [k])
theorem Ord.nodup {n : Nat} {need : Nat → Bool} {may : Nat → List Nat} {out : List Nat} (h : Ord n need may out) : out.Nodup := by
  induction h with
  | nil => exact List.nodup_nil
  | snoc _ _ _ hk _ ih =>
    rw [List.nodup_append]
    exact ⟨ih, by simp, fun a ha b hb e => by rw [List.mem_singleton] at hb; rw [e, hb] at ha; exact hk ha⟩
theorem Ord.mem {n : Nat} {need : Nat → Bool} {may : Nat → List Nat} {out : List Nat} (h : Ord n need may out) : ∀ k ∈ out, k < n ∧ need k = true := by
  induction h with
  | nil => intro k hk; cases hk
  | snoc _ h1 h2 _ _ ih =>
    intro k hk
    rcases List.mem_append.1 hk with hk | hk
    · exact ih k hk
    · rw [List.mem_singleton] at hk; subst hk; exact ⟨h1, h2⟩
theorem Ord.closed {n : Nat} {need : Nat → Bool} {may : Nat → List Nat} {out : List Nat} (h : Ord n need may out) : ∀ k ∈ out, ∀ j ∈ may k, j ∈ out := by
  induction h with
  | nil => intro k hk; cases hk
  | snoc _ _ _ _ h2 ih =>
    intro k hk j hj
    rcases List.mem_append.1 hk with hk | hk
    · exact List.mem_append_left _ (ih k hk j hj)
    · rw [List.mem_singleton] at hk; subst hk; exact List.mem_append_left _ (h2 j hj)
def free (need : Nat → Bool) (may : Nat → List Nat) (out : List Nat) (k : Nat) : Bool := (need k && !(out.contains k)) && (may k).all fun j => out.contains j
def pick (n : Nat) (need : Nat → Bool) (may : Nat → List Nat) (out : List Nat) : Option Nat := (List.range n).find? (free need may out)
theorem pick_some {n : Nat} {need : Nat → Bool} {may : Nat → List Nat} {out : List Nat} {k : Nat} (h : pick n need may out = some k) : k < n ∧ need k = true ∧ k ∉ out ∧ ∀ j ∈ may k, j ∈ out := by
  unfold pick at h
  have h1 := List.mem_of_find?_eq_some h
  have h2 := List.find?_some h
  rw [List.mem_range] at h1
  simp only [free, Bool.and_eq_true, Bool.not_eq_true', List.all_eq_true, List.contains_iff_mem] at h2
  refine ⟨h1, h2.1.1, fun hm => ?_, h2.2⟩
  have := h2.1.2
  rw [List.contains_iff_mem.2 hm] at this
  cases this
theorem pick_none {n : Nat} {need : Nat → Bool} {may : Nat → List Nat} {out : List Nat} (h : pick n need may out = none) {k : Nat} (hk : k < n) (hn : need k = true) (ho : k ∉ out) : ∃ j ∈ may k, j ∉ out := by
  unfold pick at h
  rw [List.find?_eq_none] at h
  have h2 := h k (List.mem_range.2 hk)
  have h3 : out.contains k = false := by
    cases e : out.contains k with
    | false => rfl
    | true => exact absurd (List.contains_iff_mem.1 e) ho
  simp only [free, hn, h3, Bool.not_false, Bool.and_self, Bool.true_and] at h2
  have h4 : ¬ ∀ j ∈ may k, j ∈ out := fun h5 => h2 (List.all_eq_true.2 fun j hj => List.contains_iff_mem.2 (h5 j hj))
  exact Classical.byContradiction fun h5 => h4 fun j hj => Classical.byContradiction fun h6 => h5 ⟨j, hj, h6⟩
def topo (n : Nat) (need : Nat → Bool) (may : Nat → List Nat) : Nat → List Nat → Option (List Nat)
  | 0, out => some out
  | m + 1, out => match pick n need may out with
    | none => none
    | some k => topo n need may m (out ++ [k])
theorem topo_ord {n : Nat} {need : Nat → Bool} {may : Nat → List Nat} : ∀ (m : Nat) {out r : List Nat}, Ord n need may out → topo n need may m out = some r → Ord n need may r ∧ r.length = out.length + m
  | 0, out, r, ho, h => by
    simp only [topo, Option.some.injEq] at h
    subst h
    exact ⟨ho, rfl⟩
  | m + 1, out, r, ho, h => by
    unfold topo at h
    split at h
    · cases h
    · rename_i k hk
      obtain ⟨h1, h2, h3, h4⟩ := pick_some hk
      obtain ⟨h5, h6⟩ := topo_ord m (ho.snoc h1 h2 h3 h4) h
      refine ⟨h5, ?_⟩
      rw [h6, List.length_append, List.length_singleton]
      omega
theorem topo_none {n : Nat} {need : Nat → Bool} {may : Nat → List Nat} : ∀ (m : Nat) {out : List Nat}, Ord n need may out → topo n need may m out = none → ∃ o, Ord n need may o ∧ o.length < out.length + m ∧ pick n need may o = none
  | 0, out, ho, h => by simp [topo] at h
  | m + 1, out, ho, h => by
    unfold topo at h
    split at h
    · rename_i hk
      exact ⟨out, ho, by omega, hk⟩
    · rename_i k hk
      obtain ⟨h1, h2, h3, h4⟩ := pick_some hk
      obtain ⟨o, h5, h6, h7⟩ := topo_none m (ho.snoc h1 h2 h3 h4) h
      rw [List.length_append, List.length_singleton] at h6
      exact ⟨o, h5, by omega, h7⟩
def needed (n : Nat) (need : Nat → Bool) : List Nat := (List.range n).filter need
theorem needed_nodup (n : Nat) (need : Nat → Bool) : (needed n need).Nodup := List.Pairwise.filter _ List.nodup_range
theorem needed_mem {n : Nat} {need : Nat → Bool} {k : Nat} : k ∈ needed n need ↔ k < n ∧ need k = true := by
  unfold needed
  rw [List.mem_filter, List.mem_range]
theorem needed_len (n : Nat) (need : Nat → Bool) : (needed n need).length ≤ n := by
  have := List.length_filter_le need (List.range n)
  rw [List.length_range] at this
  exact this
theorem Ord.full {n : Nat} {need : Nat → Bool} {may : Nat → List Nat} {out : List Nat} (h : Ord n need may out) (hl : (needed n need).length ≤ out.length) {k : Nat} (hk : k < n) (hn : need k = true) : k ∈ out :=
  sub_all out (needed n need) h.nodup (fun x hx => needed_mem.2 (h.mem x hx)) hl k (needed_mem.2 ⟨hk, hn⟩)
theorem Ord.len {n : Nat} {need : Nat → Bool} {may : Nat → List Nat} {out : List Nat} (h : Ord n need may out) : out.length ≤ (needed n need).length :=
  sub_len out _ h.nodup (fun x hx => needed_mem.2 (h.mem x hx))
theorem Ord.lacks {n : Nat} {need : Nat → Bool} {may : Nat → List Nat} {out : List Nat} (h : Ord n need may out) (hl : out.length < (needed n need).length) : ∃ k, k < n ∧ need k = true ∧ k ∉ out :=
  Classical.byContradiction fun hc => by
    have := sub_len (needed n need) out (needed_nodup n need) (fun x hx => Classical.byContradiction fun hx2 => hc ⟨x, (needed_mem.1 hx).1, (needed_mem.1 hx).2, hx2⟩)
    omega
def mark (may : Nat → List Nat) (D : List Bool) (k : Nat) : List Bool := D.set k ((may k).all fun j => D.getD j false)
def sweep (may : Nat → List Nat) (n : Nat) (D : List Bool) : List Bool := (List.range n).foldl (mark may) D
def sweeps (may : Nat → List Nat) (n : Nat) : Nat → List Bool
  | 0 => List.replicate n false
  | m + 1 => sweep may n (sweeps may n m)
theorem mark_len (may : Nat → List Nat) (D : List Bool) (k : Nat) : (mark may D k).length = D.length := List.length_set
theorem fold_len (may : Nat → List Nat) (l : List Nat) : ∀ D : List Bool, (l.foldl (mark may) D).length = D.length := by
  induction l with
  | nil => intro D; rfl
  | cons k l ih => intro D; rw [List.foldl_cons, ih, mark_len]
theorem sweeps_len (may : Nat → List Nat) (n : Nat) : ∀ m, (sweeps may n m).length = n
  | 0 => List.length_replicate
  | m + 1 => by unfold sweeps sweep; rw [fold_len, sweeps_len may n m]
theorem mark_get (may : Nat → List Nat) (D : List Bool) (k q : Nat) : (mark may D k).getD q false = if q = k ∧ k < D.length then (may k).all (fun j => D.getD j false) else D.getD q false := by
  unfold mark
  rw [List.getD_eq_getElem?_getD, List.getD_eq_getElem?_getD, List.getElem?_set]
  by_cases h : k = q
  · subst h
    by_cases h2 : k < D.length
    · rw [if_pos rfl, if_pos h2, if_pos ⟨rfl, h2⟩, Option.getD_some]
    · rw [if_pos rfl, if_neg h2, if_neg (fun h => h2 h.2), List.getElem?_eq_none (by omega)]
  · rw [if_neg h, if_neg (fun h2 => h h2.1.symm)]
def Done (D : List Bool) (S : List Nat) : Prop := ∀ k ∈ S, D.getD k false = true
theorem Done.mark {may : Nat → List Nat} {D : List Bool} {S : List Nat} (h : Done D S) (hc : ∀ k ∈ S, ∀ j ∈ may k, j ∈ S) (q : Nat) : Done (mark may D q) S := by
  intro k hk
  rw [mark_get]
  split
  · rename_i e
    rw [List.all_eq_true]
    intro j hj
    rw [← e.1] at hj
    exact h j (hc k hk j hj)
  · exact h k hk
theorem Done.fold {may : Nat → List Nat} {S : List Nat} (hc : ∀ k ∈ S, ∀ j ∈ may k, j ∈ S) (l : List Nat) : ∀ {D : List Bool}, Done D S → Done (l.foldl (Topo.mark may) D) S := by
  induction l with
  | nil => intro D h; exact h
  | cons q l ih => intro D h; rw [List.foldl_cons]; exact ih (h.mark hc q)
theorem Done.add {may : Nat → List Nat} {n : Nat} {D : List Bool} {S : List Nat} (h : Done D S) (hl : D.length = n) (hc : ∀ k ∈ S, ∀ j ∈ may k, j ∈ S) {k : Nat} (hk : k < n) (hm : ∀ j ∈ may k, j ∈ S) : Done (sweep may n D) (S ++ [k]) := by
  obtain ⟨l1, l2, e⟩ := List.append_of_mem (List.mem_range.2 hk)
  unfold sweep
  rw [e, List.foldl_append, List.foldl_cons]
  have h1 : Done (l1.foldl (Topo.mark may) D) S := Done.fold hc l1 h
  have hl1 : (l1.foldl (Topo.mark may) D).length = n := by rw [fold_len, hl]
  generalize l1.foldl (Topo.mark may) D = D1 at h1 hl1
  refine Done.fold (S := S ++ [k]) ?_ l2 ?_
  · intro x hx j hj
    rcases List.mem_append.1 hx with hx | hx
    · exact List.mem_append_left _ (hc x hx j hj)
    · rw [List.mem_singleton] at hx; subst hx; exact List.mem_append_left _ (hm j hj)
  · intro x hx
    rcases List.mem_append.1 hx with hx | hx
    · exact h1.mark hc k x hx
    · rw [List.mem_singleton] at hx
      subst hx
      rw [mark_get, if_pos ⟨rfl, by omega⟩, List.all_eq_true]
      exact fun j hj => h1 j (hm j hj)
theorem Ord.done {n : Nat} {need : Nat → Bool} {may : Nat → List Nat} {out : List Nat} (h : Ord n need may out) : Done (sweeps may n out.length) out := by
  induction h with
  | nil => intro k hk; cases hk
  | snoc ho h1 h2 h3 h4 ih =>
    rw [List.length_append, List.length_singleton]
    exact ih.add (sweeps_len may n _) ho.closed h1 h4
theorem Done.more {n : Nat} {may : Nat → List Nat} {S : List Nat} (hc : ∀ k ∈ S, ∀ j ∈ may k, j ∈ S) {a : Nat} (h : Done (sweeps may n a) S) : ∀ b, a ≤ b → Done (sweeps may n b) S := by
  intro b hb
  obtain ⟨d, rfl⟩ : ∃ d, b = a + d := ⟨b - a, by omega⟩
  clear hb
  induction d with
  | zero => exact h
  | succ d ih => exact Done.fold hc _ ih
theorem never {n : Nat} {may : Nat → List Nat} {S : Nat → Prop} (hs : ∀ k, S k → ∃ j ∈ may k, S j) (m : Nat) : ∀ k, S k → (sweeps may n m).getD k false = false := by
  have step : ∀ (l : List Nat) (D : List Bool), (∀ k, S k → D.getD k false = false) → ∀ k, S k → (l.foldl (mark may) D).getD k false = false := by
    intro l
    induction l with
    | nil => intro D h; exact h
    | cons q l ih =>
      intro D h
      rw [List.foldl_cons]
      refine ih _ fun k hk => ?_
      rw [mark_get]
      split
      · rename_i e
        obtain ⟨j, hj, hS⟩ := hs k hk
        rw [e.1] at hj
        cases hv : (may q).all fun j => D.getD j false with
        | false => rfl
        | true =>
          have := List.all_eq_true.1 hv j hj
          rw [h j hS] at this
          cases this
      · exact h k hk
  induction m with
  | zero =>
    intro k _
    unfold sweeps
    rw [List.getD_eq_getElem?_getD, List.getElem?_replicate]
    split <;> rfl
  | succ m ih => exact step _ _ ih
theorem safe_iff {n : Nat} {made : Nat → Bool} {may : Nat → List Nat} (hm : ∀ k, k < n → ∀ j ∈ may k, j < n ∧ made j = true) :
    (topo n made may (needed n made).length []).isSome = true ↔ ∀ k, k < n → (sweeps may n (n + 1)).getD k false = true := by
  constructor
  · intro h
    obtain ⟨out, ho⟩ := Option.isSome_iff_exists.1 h
    obtain ⟨h1, h2⟩ := topo_ord _ Ord.nil ho
    simp only [List.length_nil, Nat.zero_add] at h2
    have hlen := needed_len n made
    intro k hk
    have hmk : ∀ j ∈ may k, j ∈ out := fun j hj => h1.full (by omega) (hm k hk j hj).1 (hm k hk j hj).2
    have h3 : Done (sweeps may n (out.length + 1)) (out ++ [k]) := h1.done.add (sweeps_len may n _) h1.closed hk hmk
    refine (h3.more ?_ (n + 1) (by omega)) k (by simp)
    intro x hx j hj
    rcases List.mem_append.1 hx with hx | hx
    · exact List.mem_append_left _ (h1.closed x hx j hj)
    · rw [List.mem_singleton] at hx; subst hx; exact List.mem_append_left _ (hmk j hj)
  · intro h
    cases ht : topo n made may (needed n made).length [] with
    | some _ => rfl
    | none =>
      obtain ⟨o, h1, h2, h3⟩ := topo_none _ Ord.nil ht
      simp only [List.length_nil, Nat.zero_add] at h2
      obtain ⟨k, hk, hmk, hko⟩ := h1.lacks h2
      have := never (n := n) (may := may) (S := fun k => k < n ∧ made k = true ∧ k ∉ o) (fun x hx => by
        obtain ⟨j, hj, hjo⟩ := pick_none h3 hx.1 hx.2.1 hx.2.2
        exact ⟨j, hj, (hm x hx.1 j hj).1, (hm x hx.1 j hj).2, hjo⟩) (n + 1) k ⟨hk, hmk, hko⟩
      rw [h k hk] at this
      cases this
theorem topo_safe {n : Nat} {made need : Nat → Bool} {may : Nat → List Nat} (hs : (topo n made may (needed n made).length []).isSome = true) (hsub : ∀ k, k < n → need k = true → made k = true)
    (hcl : ∀ k, k < n → need k = true → ∀ j ∈ may k, j < n ∧ need j = true) : ∃ out, topo n need may (needed n need).length [] = some out ∧ pick n need may out = none := by
  obtain ⟨G, hG⟩ := Option.isSome_iff_exists.1 hs
  obtain ⟨g1, g2⟩ := topo_ord _ Ord.nil hG
  simp only [List.length_nil, Nat.zero_add] at g2
  have key : ∀ o, pick n need may o = none → ∀ k, k < n → need k = true → k ∈ o := by
    intro o hp
    have walk : ∀ G', Ord n made may G' → ∀ k ∈ G', need k = true → k ∈ o := by
      intro G' hG'
      induction hG' with
      | nil => intro k hk; cases hk
      | snoc _ h1 h2 h3 h4 ih =>
        intro k hk hn
        rcases List.mem_append.1 hk with hk | hk
        · exact ih k hk hn
        · rw [List.mem_singleton] at hk
          subst hk
          refine Classical.byContradiction fun hko => ?_
          obtain ⟨j, hj, hjo⟩ := pick_none hp h1 hn hko
          exact hjo (ih j (h4 j hj) (hcl _ h1 hn j hj).2)
    intro k hk hn
    exact walk G g1 k (g1.full (by omega) hk (hsub k hk hn)) hn
  cases ht : topo n need may (needed n need).length [] with
  | none =>
    obtain ⟨o, h1, h2, h3⟩ := topo_none _ Ord.nil ht
    simp only [List.length_nil, Nat.zero_add] at h2
    obtain ⟨k, hk, hn, hko⟩ := h1.lacks h2
    exact absurd (key o h3 k hk hn) hko
  | some out =>
    refine ⟨out, rfl, ?_⟩
    obtain ⟨h1, h2⟩ := topo_ord _ Ord.nil ht
    simp only [List.length_nil, Nat.zero_add] at h2
    cases hp : pick n need may out with
    | none => rfl
    | some k =>
      obtain ⟨h3, h4, h5, _⟩ := pick_some hp
      exact absurd (h1.full (by omega) h3 h4) h5
inductive Reach (made : Nat → Bool) (may : Nat → List Nat) (keys : List Nat) : Nat → Prop
  | base {k : Nat} : k ∈ keys → made k = true → Reach made may keys k
  | step {k j : Nat} : Reach made may keys k → j ∈ may k → made j = true → Reach made may keys j
theorem Reach.mono {made : Nat → Bool} {may : Nat → List Nat} {a b : List Nat} (h : ∀ k ∈ a, made k = true → Reach made may b k) {k : Nat} (hr : Reach made may a k) : Reach made may b k := by
  induction hr with
  | base hk hm => exact h _ hk hm
  | step _ hj hm ih => exact ih.step hj hm
structure Walked (made : Nat → Bool) (may : Nat → List Nat) (list out ext : List Nat) : Prop where
  nodup : ext.Nodup
  fresh : ∀ k ∈ ext, k ∉ out
  has : ∀ k ∈ list, made k = true → k ∈ out ++ ext
  closed : ∀ k ∈ ext, ∀ j ∈ may k, made j = true → j ∈ out ++ ext
  sound : ∀ k ∈ ext, made k = true ∧ Reach made may list k
theorem Walked.nil (made : Nat → Bool) (may : Nat → List Nat) (out : List Nat) : Walked made may [] out [] :=
  ⟨List.nodup_nil, fun k hk => (by cases hk), fun k hk => (by cases hk), fun k hk => (by cases hk), fun k hk => (by cases hk)⟩
theorem Walked.skip {made : Nat → Bool} {may : Nat → List Nat} {ks out ext : List Nat} (h : Walked made may ks out ext) {k : Nat} (hk : made k = false ∨ k ∈ out) : Walked made may (k :: ks) out ext := by
  refine ⟨h.nodup, h.fresh, fun x hx hm => ?_, h.closed, fun x hx => ⟨(h.sound x hx).1, Reach.mono (fun y hy hm => .base (List.mem_cons_of_mem _ hy) hm) (h.sound x hx).2⟩⟩
  rcases List.mem_cons.1 hx with rfl | hx
  · rcases hk with hk | hk
    · rw [hk] at hm; cases hm
    · exact List.mem_append_left _ hk
  · exact h.has x hx hm
theorem Walked.take {made : Nat → Bool} {may : Nat → List Nat} {ks out e1 e2 : List Nat} {k : Nat} (hm : made k = true) (hk : k ∉ out) (h1 : Walked made may (may k) (out ++ [k]) e1) (h2 : Walked made may ks (out ++ [k] ++ e1) e2) :
    Walked made may (k :: ks) out (k :: (e1 ++ e2)) := by
  have hin : ∀ x, x ∈ out ++ [k] ++ e1 ++ e2 → x ∈ out ++ k :: (e1 ++ e2) := by
    intro x hx
    simp only [List.mem_append, List.mem_cons, List.mem_singleton, List.not_mem_nil, or_false] at hx ⊢
    rcases hx with ((hx | hx) | hx) | hx
    · exact .inl hx
    · exact .inr (.inl hx)
    · exact .inr (.inr (.inl hx))
    · exact .inr (.inr (.inr hx))
  have hR : Reach made may (k :: ks) k := .base List.mem_cons_self hm
  refine ⟨?_, fun x hx => ?_, fun x hx hmx => ?_, fun x hx j hj hmj => ?_, fun x hx => ?_⟩
  · rw [List.nodup_cons, List.nodup_append]
    refine ⟨fun hx => ?_, h1.nodup, h2.nodup, fun a ha b hb e => ?_⟩
    · rcases List.mem_append.1 hx with hx | hx
      · exact h1.fresh k hx (by simp)
      · exact h2.fresh k hx (by simp)
    · subst e
      exact h2.fresh a hb (List.mem_append_right _ ha)
  · rcases List.mem_cons.1 hx with rfl | hx
    · exact hk
    · rcases List.mem_append.1 hx with hx | hx
      · exact fun ho => h1.fresh x hx (List.mem_append_left _ ho)
      · exact fun ho => h2.fresh x hx (List.mem_append_left _ (List.mem_append_left _ ho))
  · rcases List.mem_cons.1 hx with rfl | hx
    · simp
    · exact hin x (h2.has x hx hmx)
  · rcases List.mem_cons.1 hx with rfl | hx
    · exact hin j (List.mem_append_left _ (h1.has j hj hmj))
    · rcases List.mem_append.1 hx with hx | hx
      · exact hin j (List.mem_append_left _ (h1.closed x hx j hj hmj))
      · exact hin j (h2.closed x hx j hj hmj)
  · rcases List.mem_cons.1 hx with rfl | hx
    · exact ⟨hm, hR⟩
    · rcases List.mem_append.1 hx with hx | hx
      · exact ⟨(h1.sound x hx).1, Reach.mono (fun y hy hmy => hR.step hy hmy) (h1.sound x hx).2⟩
      · exact ⟨(h2.sound x hx).1, Reach.mono (fun y hy hmy => .base (List.mem_cons_of_mem _ hy) hmy) (h2.sound x hx).2⟩
theorem Walked.iff {made : Nat → Bool} {may : Nat → List Nat} {keys ext : List Nat} (h : Walked made may keys [] ext) (k : Nat) : k ∈ ext ↔ Reach made may keys k := by
  refine ⟨fun hk => (h.sound k hk).2, fun hr => ?_⟩
  induction hr with
  | base hk hm => simpa using h.has _ hk hm
  | step _ hj hm ih => simpa using h.closed _ ih _ hj hm
structure Queued (n : Nat) (made : Nat → Bool) (may : Nat → List Nat) (keys row : List Nat) (i : Nat) (D : List Bool) : Prop where
  len : D.length = n
  pre : ∃ r, row = keys ++ r
  sound : ∀ k ∈ row, k < n ∧ (made k = true → Reach made may keys k)
  mark : ∀ k, D.getD k false = true → made k = true ∧ Reach made may keys k ∧ ∀ j ∈ may k, j ∈ row
  did : ∀ j (h : j < row.length), j < i → made row[j] = true → D.getD row[j] false = true
theorem Queued.start {n : Nat} (made : Nat → Bool) (may : Nat → List Nat) {keys : List Nat} (hk : ∀ k ∈ keys, k < n) : Queued n made may keys keys 0 (List.replicate n false) :=
  ⟨List.length_replicate, ⟨[], by simp⟩, fun k h => ⟨hk k h, fun hm => .base h hm⟩, fun k h => (by
    rw [List.getD_eq_getElem?_getD, List.getElem?_replicate] at h
    split at h <;> cases h), fun j h h0 => by omega⟩
theorem Queued.skip {n : Nat} {made : Nat → Bool} {may : Nat → List Nat} {keys row : List Nat} {i : Nat} {D : List Bool} (h : Queued n made may keys row i D) (hi : i < row.length) (hk : made row[i] = false ∨ D.getD row[i] false = true) : Queued n made may keys row (i + 1) D := by
  refine ⟨h.len, h.pre, h.sound, h.mark, fun j hj hji hm => ?_⟩
  by_cases e : j = i
  · subst e
    rcases hk with hk | hk
    · rw [hk] at hm; cases hm
    · exact hk
  · exact h.did j hj (by omega) hm
theorem Queued.take {n : Nat} {made : Nat → Bool} {may : Nat → List Nat} {keys row : List Nat} {i : Nat} {D : List Bool} (hmay : ∀ k, k < n → ∀ j ∈ may k, j < n ∧ made j = true) (h : Queued n made may keys row i D) (hi : i < row.length) (hk : made row[i] = true) :
    Queued n made may keys (row ++ may row[i]) (i + 1) (D.set row[i] true) := by
  obtain ⟨hkn, hkr⟩ := h.sound _ (List.getElem_mem hi)
  have hset : ∀ q, (D.set row[i] true).getD q false = if q = row[i] then true else D.getD q false := by
    intro q
    rw [List.getD_eq_getElem?_getD, List.getD_eq_getElem?_getD, List.getElem?_set]
    by_cases e : row[i] = q
    · rw [if_pos e, if_pos (by rw [h.len]; exact hkn), if_pos e.symm, Option.getD_some]
    · rw [if_neg e, if_neg (fun e2 => e e2.symm)]
  refine ⟨by rw [List.length_set]; exact h.len, ?_, fun x hx => ?_, fun x hx => ?_, fun j hj hji hm => ?_⟩
  · obtain ⟨r, hr⟩ := h.pre
    exact ⟨r ++ may row[i], by rw [← List.append_assoc, ← hr]⟩
  · rcases List.mem_append.1 hx with hx | hx
    · exact h.sound x hx
    · exact ⟨(hmay _ hkn x hx).1, fun hm => (hkr hk).step hx hm⟩
  · rw [hset] at hx
    split at hx
    · rename_i e
      subst e
      exact ⟨hk, hkr hk, fun j hj => List.mem_append_right _ hj⟩
    · obtain ⟨h1, h2, h3⟩ := h.mark x hx
      exact ⟨h1, h2, fun j hj => List.mem_append_left _ (h3 j hj)⟩
  · rw [List.getElem_append_left (by omega)] at hm ⊢
    rw [hset]
    split
    · rfl
    · rename_i hne
      have hji' : j < i := by
        rcases Nat.lt_or_ge j i with hlt | hge
        · exact hlt
        · have e : j = i := by omega
          subst e
          exact absurd rfl hne
      exact h.did j (by omega) hji' hm
theorem Queued.iff {n : Nat} {made : Nat → Bool} {may : Nat → List Nat} {keys row : List Nat} {D : List Bool} (h : Queued n made may keys row row.length D) (k : Nat) : D.getD k false = true ↔ Reach made may keys k := by
  refine ⟨fun hk => (h.mark k hk).2.1, fun hr => ?_⟩
  have inrow : ∀ x ∈ row, made x = true → D.getD x false = true := by
    intro x hx hm
    obtain ⟨j, hj, rfl⟩ := List.getElem_of_mem hx
    exact h.did j hj hj hm
  induction hr with
  | base hk hm =>
    obtain ⟨r, hr⟩ := h.pre
    exact inrow _ (by rw [hr]; exact List.mem_append_left _ hk) hm
  | step _ hj hm ih => exact inrow _ ((h.mark _ ih).2.2 _ hj) hm
end Topo
end Go.Proofs.Ythfemojaabejiaa.G
end
section
namespace Go.Proofs.Ythfemojaabejiaa.G
open Go.RowKit Go.Proofs.YthfemojaabejiaaW.PrintWords Go.Proofs.YthfemojaabejiaaW.PrintLast Go.Proofs.YthfemojaabejiaaW.PrintMore
set_option linter.unusedVariables false
set_option linter.unusedSimpArgs false
def idxFrom {α : Type} (P : α → Bool) : List α → Nat → Int
  | [], _ => -1
  | x :: xs, i => if P x = true then (i : Int) else idxFrom P xs (i + 1)
theorem idx_any {α : Type} (P : α → Bool) : ∀ (l : List α) (i : Nat), decide (0 ≤ idxFrom P l i) = l.any P
  | [], i => rfl
  | x :: xs, i => by
    unfold idxFrom
    by_cases h : P x = true
    · rw [if_pos h]; simp [h]
    · rw [if_neg h, idx_any P xs (i + 1)]; simp [h]
theorem enters_fn {P : Program} {f : FuncId} {fn : Func} {c : Code} (hf : P.funcs[f]? = some fn) (hname : (fn.name == "runtime.NumGoroutine") = false) (hb : fn.body = some c) : ∀ (args : Array Value) (W : World), (callFunc f args).run P W = .ok (.enter f args) W := by
  intro args w
  have h1 : fn.name ≠ "runtime.NumGoroutine" := by simpa using hname
  simp [callFunc, hf, h1, hb, mark]
def Tells (c : Nat) (lb : Array Value) {α : Type} (enc : α → Value) (P : α → Bool) (w : World) (l : List α) : Prop :=
  ∀ x ∈ l, ∀ W, Below w.heap.size w W → Calls Try.prog c (#[enc x] ++ lb) W fun e W' => e = .returned (.bool (P x)) ∧ Below W.heap.size W W'
set_option maxHeartbeats 8000000 in
set_option maxRecDepth 100000 in
theorem indexFunc_int (c : Nat) (lb : Array Value) (P : Int → Bool) (A : Option Addr) (cap : Nat) (l : List Int) (w : World) (hr : Kd.C (Kd.int .i64) w A l.length l) (hrun : ∀ (args : Array Value) (W : World), (callFunc c args).run Try.prog W = .ok (.enter c args) W) (hT : Tells c lb (Value.int .i64) P w l) :
    Calls Try.prog 148 #[.slice A l.length cap, .func (.func c) #[] lb] w fun e w' => e = .returned (.int .i64 (idxFrom P l 0)) ∧ Below w.heap.size w w' := by
  have HR := qM hr
  have HT := qM hT
  have hE := hrun
  clear hr hT hrun
  go_enter Try.func148, Try.ntmps148
  go_wp2
  go_loopg [8] l.length (fun kq v8 w' => ∃ i : Nat, v8 = .int .i64 (i : Int) ∧ Aside0 (i + kq = l.length) ∧ Aside0 (idxFrom P l 0 = idxFrom P (l.drop i) i) ∧ Aside0 (Below w.heap.size w w'))
  case atStart => exact ⟨0, by simp, ⟨by omega⟩, ⟨by simp⟩, ⟨Below.refl _ _⟩⟩
  case round =>
    obtain ⟨i, rfl, HI, HP, HB⟩ := hrel
    cases gk with
    | zero =>
      have hi : i = l.length := by have := HI.out; omega
      subst hi
      have hb : decide ((l.length : Int) < (l.length : Int)) = false := decide_eq_false (by omega)
      have hres : idxFrom P l 0 = -1 := by rw [HP.out, List.drop_length]; rfl
      have HRes := qM hres
      clear hres HP
      go_wp2
      go_ret
      exact ⟨by rw [HRes.out]; rfl, HB.out⟩
    | succ gk =>
      have hlt : i < l.length := by have := HI.out; omega
      have hb : decide ((i : Int) < (l.length : Int)) = true := decide_eq_true (by omega)
      obtain ⟨ad, e, hx⟩ := Kd.at_int HR.out (i : Int) (by omega) (by omega)
      cases e
      have hlen := HR.out.2.1
      have hmax : (i : Int) + 1 ≤ 9223372036854775807 := by omega
      have hcell : wr.cell? (ad.add i) = some (.int .i64 (rd l (i : Int))) := by
        have h1 := (HB.out.cell (qL w _ hx)).trans hx
        simpa using h1
      have p0 : (0 ≤ (i : Int)) = True := eq_true (by omega)
      have q0 : ((i : Int) < (l.length : Int)) = True := eq_true (by omega)
      clear hx
      have hstep : idxFrom P l 0 = if P (rd l (i : Int)) = true then (i : Int) else idxFrom P (l.drop (i + 1)) (i + 1) := by
        rw [HP.out, List.drop_eq_getElem_cons hlt, idxFrom]
        simp [rd, List.getElem?_eq_getElem hlt]
      have HS := qM hstep
      clear hstep HP
      go_wp2_with fail
      refine (HT.out _ (by simp only [rd, Int.toNat_natCast, List.getD_eq_getElem?_getD, List.getElem?_eq_getElem hlt, Option.getD_some]; exact List.getElem_mem hlt) wr HB.out).mono ?_
      rintro e w1 ⟨rfl, hb1⟩
      have HB1 := qM (HB.out.trans (hb1.mono HB.out.size))
      clear hb1 HB hcell
      by_cases hP : P (rd l (i : Int)) = true
      · have HR1 := qM (HS.out.trans (if_pos hP))
        go_wp2
        go_ret
        exact ⟨by rw [HR1.out]; rfl, HB1.out⟩
      · have HR1 := qM (HS.out.trans (if_neg hP))
        have hP' : P (rd l (i : Int)) = false := by simpa using hP
        clear hP
        go_wp2
        go_roundg gk
        case measure => omega
        case rel => exact ⟨i + 1, by go_num, ⟨by have := HI.out; omega⟩, ⟨HR1.out⟩, HB1⟩
set_option maxHeartbeats 8000000 in
set_option maxRecDepth 100000 in
theorem containsFunc_int (c : Nat) (lb : Array Value) (P : Int → Bool) (A : Option Addr) (cap : Nat) (l : List Int) (w : World) (hr : Kd.C (Kd.int .i64) w A l.length l) (hrun : ∀ (args : Array Value) (W : World), (callFunc c args).run Try.prog W = .ok (.enter c args) W) (hT : Tells c lb (Value.int .i64) P w l) :
    Calls Try.prog 112 #[.slice A l.length cap, .func (.func c) #[] lb] w fun e w' => e = .returned (.bool (l.any P)) ∧ Below w.heap.size w w' := by
  have HR := qM hr
  have HT := qM hT
  have HE := qM hrun
  clear hr hT hrun
  have hany : decide (0 ≤ idxFrom P l 0) = l.any P := idx_any P l 0
  have HA := qM hany
  clear hany
  generalize hx : l.any P = b at HA ⊢
  clear hx
  go_enter Try.func112, Try.ntmps112
  go_wp2_with (go_at_call 148; refine (indexFunc_int c lb P A cap l _ HR.out HE.out HT.out).mono ?_; rintro e w1 ⟨rfl, hb1⟩)
  go_ret
  exact ⟨by rw [← HA.out]; rfl, hb1⟩
end Go.Proofs.Ythfemojaabejiaa.G
end
section
namespace Go.Proofs.Ythfemojaabejiaa.G
open Go.RowKit Go.Proofs.YthfemojaabejiaaW.PrintWords Go.Proofs.YthfemojaabejiaaW.PrintLast Go.Proofs.YthfemojaabejiaaW.PrintMore
open Go
set_option linter.unusedVariables false
set_option linter.unusedSimpArgs false
def castL (l : List Nat) : List Int := l.map fun (x : Nat) => (x : Int)
theorem castL_len (l : List Nat) : (castL l).length = l.length := by simp [castL]
theorem castL_mem (l : List Nat) (x : Nat) : ((x : Int) ∈ castL l) ↔ x ∈ l := by
  unfold castL
  rw [List.mem_map]
  constructor
  · rintro ⟨y, hy, e⟩
    have : y = x := by omega
    rw [← this]
    exact hy
  · intro h
    exact ⟨x, h, rfl⟩
theorem castL_snoc (l : List Nat) (x : Nat) : castL (l ++ [x]) = castL l ++ [(x : Int)] := by simp [castL]
theorem castL_app (l m : List Nat) : castL (l ++ m) = castL l ++ castL m := by simp [castL]
theorem castL_rd (l : List Nat) (i : Nat) (h : i < l.length) : rd (castL l) (i : Int) = (l[i] : Int) := by
  simp only [rd, Int.toNat_natCast, List.getD_eq_getElem?_getD]
  rw [List.getElem?_eq_getElem (by rw [castL_len]; exact h), Option.getD_some]
  simp [castL]
section
variable {P : Program} {ops : Array Oper} {Q : Exit → Act → World → Prop} {rest : List Oper}
theorem goesV_ {oi : Oper} {N : Option Tmp} {a : Act} {w : World} {K : Act → World → Prop} {f : FuncId} {fn : Func} {ar : Array Operand} {ts : Array TypeId} (hf : P.funcs[f]? = some fn) (hname : (fn.name == "runtime.NumGoroutine") = false) (hb : fn.body.isSome = true) (args : Array Value)
    (hw : Region.wanted oi (yielded ops a.tmps) = true) (hN : oi.dst = N) {x : Operand} (hop : oi.op = .call { callee := .value x, args := ar, argTypes := ts }) {first cap : Array Value} (hx : a.eval x = .func (.func f) first cap) (hargs : first ++ ar.map a.eval ++ cap = args)
    (h : Calls P f args w fun e w' => ∃ v, e = .returned v ∧ K (a.put N v) w') : if Region.wanted oi (yielded ops a.tmps) = true then Oper.wp P oi a w K Q else K (a.put N undef) w := by
  refine call_ f args hw hN ?_ h
  have he := enters_ hf hname hb args w
  unfold execOp
  simp [hop, resolve, Deferred.ofValue, hx, invoke, hargs, he]
theorem wpList_bset_put {w : World} {o : Oper} {a : Act} (hg : o.guard = none) (m x v : Operand) (t : TypeId) (hop : o.op = Op.mapUpdate t m x v) {k e : TypeId} {b : Nat} {S : List Int} (h : BSet w P k e b S)
    (ht : P.underlying t = some (.map k e)) (hk : P.underlying k = some (.int .i64)) (he : P.underlying e = some .bool) (y : Int) (hm : a.eval m = .map (some b)) (hx : a.eval x = .int .i64 y) (hv : a.eval v = .bool true) (hy : (Lit.int .i64 y).wf = true) (hn : y ∉ S) (hl : S.length < maxLen)
    (hK : ∀ w', BSet w' P k e b (S ++ [y]) → w.grownBy w' (some b) → wpList P ops Q rest (a.put o.dst undef) w') : wpList P ops Q (o :: rest) a w := by
  refine wpList_plain hg fun K' hK' => ?_
  obtain ⟨w', hrun, r1, r2⟩ := h.put ht hk he hy hn hl
  unfold Oper.wp
  simp [execOp, hop, hm, hx, hv, hrun, Result.andThen]
  exact hK' _ _ (hK w' r1 r2)
end
theorem zeroBool (w : World) : (zeroValue 4).run Try.prog w = .ok (.bool false) w := by kernel_rfl
structure ReachAt (w0 : World) (Bs Bo Bw Bn M : Nat) (A0 : Option Addr) (c0 n0 : Nat) (A1 : Option Addr) (c1 n1 : Nat) (S : List Nat) (W : World) : Prop where
  below : Below w0.heap.size w0 W
  hs : W.heap[Bs]? = some (.cells #[.slice A0 n0 c0, .slice A1 n1 c1] 30 (0, 0))
  ho : W.heap[Bo]? = some (.cells #[.map (some M)] 81 (0, 0))
  hw : W.heap[Bw]? = some (.cells #[.func (.func 114) #[] #[.pointer (some ⟨Bs, 0, none⟩), .pointer (some ⟨Bo, 0, none⟩), .pointer (some ⟨Bw, 0, none⟩), .pointer (some ⟨Bn, 0, none⟩)]] 145 (0, 0))
  hn : W.heap[Bn]? = some (.cells #[.func (.func 64) #[.agg #[.slice A0 n0 c0, .slice A1 n1 c1]] #[]] 84 (0, 0))
  hm : BSet W Try.prog 3 4 M (castL S)
  base : w0.heap.size ≤ M
section
variable {w0 W W' : World} {Bs Bo Bw Bn M : Nat} {A0 : Option Addr} {c0 n0 : Nat} {A1 : Option Addr} {c1 n1 : Nat} {S : List Nat}
theorem ReachAt.on (h : ReachAt w0 Bs Bo Bw Bn M A0 c0 n0 A1 c1 n1 S W) (hb : Below W.heap.size W W') : ReachAt w0 Bs Bo Bw Bn M A0 c0 n0 A1 c1 n1 S W' :=
  ⟨h.below.trans (hb.mono h.below.size), blk_below h.hs hb, blk_below h.ho hb, blk_below h.hw hb, blk_below h.hn hb, h.hm.move (hb.block M h.hm.lt), h.base⟩
theorem BSet.isMap {P : Program} {k e : TypeId} {b : Nat} {S : List Int} (h : BSet W P k e b S) : ∃ es clock, W.heap[b]? = some (.map es clock) := by
  obtain ⟨D, ⟨es, clock, hb, _⟩, _⟩ := h
  exact ⟨es, clock, hb⟩
theorem BSet.ne {P : Program} {k e : TypeId} {b g : Nat} {S : List Int} {cs : Array Value} {t : TypeId} (h : BSet W P k e b S) (hg : W.heap[g]? = some (.cells cs t (0, 0))) : g ≠ b := by
  rintro rfl
  obtain ⟨es, clock, hb⟩ := h.isMap
  rw [hb] at hg
  cases hg
theorem BSet.far {P : Program} {k e : TypeId} {b : Nat} {S : List Int} {a : Addr} {v : Value} (h : BSet W P k e b S) (hc : W.cell? a = some v) : a.block ≠ b := by
  intro e
  obtain ⟨es, clock, hb⟩ := h.isMap
  have : W.cell? a = none := by simp [World.cell?, e, hb]
  rw [this] at hc
  cases hc
theorem ReachAt.put (h : ReachAt w0 Bs Bo Bw Bn M A0 c0 n0 A1 c1 n1 S W) {k : Nat} (hg : W.grownBy W' (some M)) (hm : BSet W' Try.prog 3 4 M (castL S ++ [(k : Int)])) : ReachAt w0 Bs Bo Bw Bn M A0 c0 n0 A1 c1 n1 (S ++ [k]) W' :=
  have ne : ∀ {g : Nat} {cs : Array Value} {t : TypeId}, W.heap[g]? = some (.cells cs t (0, 0)) → some g ≠ some M := fun hg e => h.hm.ne hg (Option.some.inj e)
  ⟨h.below.grown hg h.below.size (fun k hk => by cases hk; exact h.base), blk_grown h.hs hg (ne h.hs), blk_grown h.ho hg (ne h.ho), blk_grown h.hw hg (ne h.hw), blk_grown h.hn hg (ne h.hn), by rw [castL_snoc]; exact hm, h.base⟩
end
def ReachP (w0 : World) (Bs Bo Bw Bn M : Nat) (A0 : Option Addr) (c0 n0 : Nat) (A1 : Option Addr) (c1 n1 : Nat) (made : Nat → Bool) (may : Nat → List Nat) (L S : List Nat) (W : World) (e : Ending) (W' : World) : Prop :=
  e = .returned (.tuple #[]) ∧ ∃ ext, Topo.Walked made may L S ext ∧ ReachAt w0 Bs Bo Bw Bn M A0 c0 n0 A1 c1 n1 (S ++ ext) W' ∧ Kept W W' (fun k => k = M)
end Go.Proofs.Ythfemojaabejiaa.G
end
section
namespace Go.Proofs.Ythfemojaabejiaa.G
open Go.RowKit Go.Proofs.YthfemojaabejiaaW.PrintWords Go.Proofs.YthfemojaabejiaaW.PrintLast Go.Proofs.YthfemojaabejiaaW.PrintMore
set_option linter.unusedVariables false
set_option linter.unusedSimpArgs false
theorem makes_nat (made : List Bool) (tasks : List Tk) (x : Nat) : impl_Sheet_makes.f made tasks (x : Int) = some (made.getD x false) := by
  unfold impl_Sheet_makes.f impl_Sheet_has.f
  rw [if_pos (by omega)]
  by_cases h : x < made.length
  · simp [h, rdOf]
  · simp [h]
set_option maxHeartbeats 16000000 in
set_option maxRecDepth 100000 in
theorem reach_w {w0 : World} {Bs Bo Bw Bn M : Nat} {A0 : Option Addr} {c0 : Nat} {made : List Bool} {A1 : Option Addr} {c1 : Nat} {tasks : List Tk} (may : Nat → List Nat)
    (hr0 : Kd.C Kd.bool w0 A0 made.length made) (hc0 : made.length ≤ c0) (hr1 : Kd.C k141 w0 A1 tasks.length tasks) (hc1 : tasks.length ≤ c1) (hml : made.length ≤ 1000000)
    (hmay : ∀ k, k < made.length → made.getD k false = true → ∃ kr, impl_Sheet_may.f kr made tasks (k : Int) = some (castL (may k))) :
    ∀ (m : Nat) (L S : List Nat) (W : World) (A : Option Addr) (c : Nat), made.length < m + S.length → S.Nodup → (∀ k ∈ S, k < made.length) → ReachAt w0 Bs Bo Bw Bn M A0 c0 made.length A1 c1 tasks.length S W → Kd.C (Kd.int .i64) W A L.length (castL L) →
      Calls Try.prog 114 #[.slice A L.length c, .pointer (some ⟨Bs, 0, none⟩), .pointer (some ⟨Bo, 0, none⟩), .pointer (some ⟨Bw, 0, none⟩), .pointer (some ⟨Bn, 0, none⟩)] W (ReachP w0 Bs Bo Bw Bn M A0 c0 made.length A1 c1 tasks.length (fun k => made.getD k false) may L S W) := by
  intro m
  induction m with
  | zero =>
    intro L S W A c hm hnd hlt
    have := Topo.sub_len S (List.range made.length) hnd (fun x hx => List.mem_range.2 (hlt x hx))
    rw [List.length_range] at this
    omega
  | succ m ih =>
    intro L S W A c hm hnd hlt hRA hrL
    have HI := qM ih
    have HM := qM hm
    have HND := qM hnd
    have HLT := qM hlt
    have HRA := qM hRA
    have HRL := qM hrL
    have HR0 := qM hr0
    have HC0 := qM hc0
    have HR1 := qM hr1
    have HC1 := qM hc1
    have HML := qM hml
    have HMAY := qM hmay
    have hu0 := Try.underlying30
    have hlen := hrL.2.1
    clear ih hm hnd hlt hRA hrL hr0 hc0 hr1 hc1 hml hmay
    go_enter Try.func114, Try.ntmps114
    go_wp2
    go_loopg [10] L.length (fun kq v10 w' => ∃ (i : Nat) (ext : List Nat), v10 = .int .i64 (i : Int) ∧ Aside0 (i + kq = L.length) ∧ Aside0 (∀ e2, Topo.Walked (fun k => made.getD k false) may (L.drop i) (S ++ ext) e2 → Topo.Walked (fun k => made.getD k false) may L S (ext ++ e2)) ∧ Aside0 ((S ++ ext).Nodup ∧ ∀ k ∈ S ++ ext, k < made.length) ∧ Aside0 (ReachAt w0 Bs Bo Bw Bn M A0 c0 made.length A1 c1 tasks.length (S ++ ext) w') ∧ Aside0 (Kept W w' (fun k => k = M)))
    case atStart => exact ⟨0, [], by simp, ⟨by omega⟩, ⟨fun e2 h => by simpa using h⟩, ⟨by rw [List.append_nil]; exact ⟨HND.out, HLT.out⟩⟩, ⟨by rw [List.append_nil]; exact HRA.out⟩, ⟨Kept.refl _ _⟩⟩
    case round =>
      obtain ⟨i, ext, rfl, HIK, HWK, HSX, RA, KP⟩ := hrel
      cases gk with
      | zero =>
        have hi : i = L.length := by have := HIK.out; omega
        subst hi
        have hb : decide ((L.length : Int) < (L.length : Int)) = false := decide_eq_false (by omega)
        go_wp2
        go_end0
        refine ⟨rfl, ext, ?_, RA.out, KP.out⟩
        have h1 := HWK.out [] (by rw [List.drop_length]; exact Topo.Walked.nil _ _ _)
        rwa [List.append_nil] at h1
      | succ gk =>
        have hlt : i < L.length := by have := HIK.out; omega
        have hb : decide ((i : Int) < (L.length : Int)) = true := decide_eq_true (by omega)
        obtain ⟨ad, e, hx⟩ := Kd.at_int HRL.out (i : Int) (by omega) (by omega)
        cases e
        rw [castL_rd L i hlt] at hx
        have hxd : L.drop i = L[i] :: L.drop (i + 1) := List.drop_eq_getElem_cons hlt
        generalize L[i] = x at hx hxd
        have HXD := qM hxd
        have hmax : (i : Int) + 1 ≤ 9223372036854775807 := by omega
        have hcell : wr.cell? (ad.add i) = some (.int .i64 (x : Int)) := by
          have h1 := cell_kept hx KP.out (HRA.out.hm.far hx)
          simpa only [Int.toNat_natCast] using h1
        have p0 : (0 ≤ (i : Int)) = True := eq_true (by omega)
        have q0 : ((i : Int) < (L.length : Int)) = True := eq_true (by omega)
        have HMK := qM (makes_nat made tasks x)
        have hs0 : wr.cell? ⟨Bs, 0, none⟩ = some (.slice A0 made.length c0) := (qC RA.out.hs 0).trans rfl
        have hs1 : wr.cell? ⟨Bs, 1, none⟩ = some (.slice A1 tasks.length c1) := (qC RA.out.hs 1).trans rfl
        clear hx hxd
        cases hmd : made.getD x false with
        | false =>
          rw [hmd] at HMK
          have HMD := qM hmd
          clear hmd
          go_wp2_with (go_at_call 115; refine (impl_Sheet_makes.calls A0 c0 made A1 c1 tasks (x : Int) _ _ (qB HR0.out RA.out.below) HC0.out (qB HR1.out RA.out.below) HC1.out HMK.out).mono ?_; rintro e w1 ⟨rfl, hb1⟩; have RA1 := qM (RA.out.on hb1); have KP1 := qM (KP.out.below hb1); clear hb1 hs0 hs1 hcell)
          go_roundg gk
          case measure => omega
          case rel => exact ⟨i + 1, ext, by go_num, ⟨by have := HIK.out; omega⟩, ⟨fun e2 h => HWK.out e2 (by rw [HXD.out]; exact h.skip (.inl HMD.out))⟩, HSX, RA1, KP1⟩
        | true =>
          rw [hmd] at HMK
          have HMD := qM hmd
          have hxl : x < made.length := by
            rcases Nat.lt_or_ge x made.length with h | h
            · exact h
            · rw [List.getD_eq_getElem?_getD, List.getElem?_eq_none h] at hmd; cases hmd
          have HXL := qM hxl
          have hwf : (Lit.int .i64 (x : Int)).wf = true := WalkArith.wf_i64 (by have := HML.out; omega)
          have HWF := qM hwf
          clear hmd hxl hwf
          by_cases hin : x ∈ S ++ ext
          · have hdin : decide ((x : Int) ∈ castL (S ++ ext)) = true := decide_eq_true ((castL_mem _ _).2 hin)
            have HIN := qM hin
            have HDIN := qM hdin
            clear hin hdin
            go_wp2_with (go_at_call 115; refine (impl_Sheet_makes.calls A0 c0 made A1 c1 tasks (x : Int) _ _ (qB HR0.out RA.out.below) HC0.out (qB HR1.out RA.out.below) HC1.out HMK.out).mono ?_; rintro e w1 ⟨rfl, hb1⟩; have RA1 := qM (RA.out.on hb1); have KP1 := qM (KP.out.below hb1); clear hb1 hs0 hs1 hcell; have ho0 : w1.cell? ⟨Bo, 0, none⟩ = some (.map (some M)) := (qC RA1.out.ho 0).trans rfl; have hlk := RA1.out.hm.look Try.underlying81 Try.underlying3 Try.underlying4 (zeroBool _) HWF.out; rw [HDIN.out] at hlk)
            go_roundg gk
            case measure => omega
            case rel => exact ⟨i + 1, ext, by go_num, ⟨by have := HIK.out; omega⟩, ⟨fun e2 h => HWK.out e2 (by rw [HXD.out]; exact h.skip (.inr HIN.out))⟩, HSX, RA1, KP1⟩
          · have hdin : decide ((x : Int) ∈ castL (S ++ ext)) = false := decide_eq_false (fun h => hin ((castL_mem _ _).1 h))
            have HIN := qM hin
            have HDIN := qM hdin
            have HNI : Aside0 (((x : Int)) ∉ castL (S ++ ext)) := ⟨fun h => hin ((castL_mem _ _).1 h)⟩
            have hsl : (S ++ ext).length ≤ made.length := by
              have := Topo.sub_len (S ++ ext) (List.range made.length) HSX.out.1 (fun x hx => List.mem_range.2 (HSX.out.2 x hx))
              rwa [List.length_range] at this
            have HSL : Aside0 ((castL (S ++ ext)).length < maxLen) := ⟨by rw [castL_len]; have := HML.out; unfold maxLen; omega⟩
            have HSN := qM hsl
            clear hin hdin hsl
            go_wp2_with (first
              | (go_at_call 115; refine (impl_Sheet_makes.calls A0 c0 made A1 c1 tasks (x : Int) _ _ (qB HR0.out RA.out.below) HC0.out (qB HR1.out RA.out.below) HC1.out HMK.out).mono ?_; rintro e w1 ⟨rfl, hb1⟩; have RA1 := qM (RA.out.on hb1); have KP1 := qM (KP.out.below hb1); clear hb1 hs0 hs1 hcell; have ho0 : w1.cell? ⟨Bo, 0, none⟩ = some (.map (some M)) := (qC RA1.out.ho 0).trans rfl; have hlk := RA1.out.hm.look Try.underlying81 Try.underlying3 Try.underlying4 (zeroBool _) HWF.out; rw [HDIN.out] at hlk)
              | (at_mapUpdate; refine wpList_bset_put rfl _ _ _ 81 rfl RA1.out.hm Try.underlying81 Try.underlying3 Try.underlying4 (x : Int) rfl rfl rfl HWF.out HNI.out HSL.out ?_; intro w2 hm2 hg2; have RA2 := qM (RA1.out.put hg2 hm2); have KP2 := qM (Kept.of_grown hg2 KP1.out (fun k hk => .inl (Option.some.inj hk).symm)); clear hm2 hg2 hlk ho0))
            obtain ⟨kr, hkr⟩ := HMAY.out x HXL.out HMD.out
            have HKR := qM hkr
            clear hkr
            have hw0 : w2.cell? ⟨Bw, 0, none⟩ = some _ := (qC RA2.out.hw 0).trans rfl
            have hn0 : w2.cell? ⟨Bn, 0, none⟩ = some _ := (qC RA2.out.hn 0).trans rfl
            refine start_ (n := 5) (S := fun w' => w'.cell? ⟨Bw, 0, none⟩ = some (.func (.func 114) #[] #[.pointer (some ⟨Bs, 0, none⟩), .pointer (some ⟨Bo, 0, none⟩), .pointer (some ⟨Bw, 0, none⟩), .pointer (some ⟨Bn, 0, none⟩)]) ∧ w'.cell? ⟨Bn, 0, none⟩ = some (.func (.func 64) #[.agg #[.slice A0 made.length c0, .slice A1 tasks.length c1]] #[])) (ds := []) #[false, false, false, false, false] (by kernel_rfl) rfl rfl ⟨hw0, hn0⟩ (fun hHeld => ?_)
            have RA3 := qM (RA2.out.on (qD (Below.refl w2.heap.size w2)))
            have KP3 := qM (KP2.out.drew)
            clear hw0 hn0
            generalize w2.drew = w3 at RA3 KP3 hHeld ⊢
            refine pure_ (i := 2) (N := (some 27)) (v := ?_) (a' := ?_) #[false, false, true, false, false] rfl rfl (by kernel_rfl) (fun _ _ _ h => h) (Or.inl ⟨by rfl, ?_⟩) ?_ ?_
            rotate_left
            · intro w'
              go_simp
              with_reducible rfl
            rotate_left
            · simp only [Act.put, List.setIfInBounds_toArray, List.set_cons_zero, List.set_cons_succ, i64_w, i32_w]
              rfl
            refine take_ (i := 0) (N := (some 25)) (v := ?_) (a' := ?_) #[true, false, true, false, false] rfl rfl (by kernel_rfl) (fun _ _ _ h => h) (Or.inl ⟨by rfl, ?_⟩) hHeld ?_ ?_
            rotate_left
            · rintro w' ⟨s0, s1⟩
              go_simp
              with_reducible rfl
            rotate_left
            · simp only [Act.put, List.setIfInBounds_toArray, List.set_cons_zero, List.set_cons_succ, i64_w, i32_w]
              rfl
            refine take_ (i := 1) (N := (some 26)) (v := ?_) (a' := ?_) #[true, true, true, false, false] rfl rfl (by kernel_rfl) (fun _ _ _ h => h) (Or.inl ⟨by rfl, ?_⟩) hHeld ?_ ?_
            rotate_left
            · rintro w' ⟨s0, s1⟩
              go_simp
              with_reducible rfl
            rotate_left
            · simp only [Act.put, List.setIfInBounds_toArray, List.set_cons_zero, List.set_cons_succ, i64_w, i32_w]
              rfl
            refine one_ (i := 3) (N := (some 28)) #[true, true, true, true, false] rfl rfl (by kernel_rfl) (by decide) (fun K hK => ?_)
            refine goesV_ Try.func64 (by kernel_rfl) rfl #[.agg #[.slice A0 made.length c0, .slice A1 tasks.length c1], .int .i64 (x : Int)] (by rfl) rfl rfl (by rfl) (by first | rfl | (simp only [List.map_toArray, List.map_cons, List.map_nil, List.append_toArray, List.cons_append, List.nil_append, List.append_nil]; rfl)) ?_
            refine (impl_Sheet_may.calls kr A0 c0 made A1 c1 tasks (x : Int) _ _ (qB HR0.out RA3.out.below) HC0.out (qB HR1.out RA3.out.below) HC1.out HKR.out).mono ?_
            rintro e w4 ⟨vm, rfl, hvm, hb4⟩
            refine ⟨_, rfl, ?_⟩
            have RA4 := qM (RA3.out.on hb4)
            have KP4 := qM (KP3.out.below hb4)
            obtain ⟨Am, cm, rfl, _, hCm⟩ := Kd.R_reads hvm
            rw [castL_len] at hCm ⊢
            have HCM := qM hCm
            clear hb4 hvm hCm hHeld
            have hw0 : w4.cell? ⟨Bw, 0, none⟩ = some _ := (qC RA4.out.hw 0).trans rfl
            have hn0 : w4.cell? ⟨Bn, 0, none⟩ = some _ := (qC RA4.out.hn 0).trans rfl
            refine hK.out _ _ ⟨hw0, hn0⟩ (fun hHeld => ?_)
            clear hK K hw0 hn0
            refine norm_ (a' := ?_) ?_ ?_
            rotate_left
            · show Act.put _ (some 28) _ = _
              simp only [Act.put, List.setIfInBounds_toArray, List.set_cons_zero, List.set_cons_succ, i64_w, i32_w]
              rfl
            refine one_ (i := 4) (N := (some 29)) #[true, true, true, true, true] rfl rfl (by kernel_rfl) (by decide) (fun K hK => ?_)
            refine goesV_ Try.func114 (by kernel_rfl) rfl #[.slice Am (may x).length cm, .pointer (some ⟨Bs, 0, none⟩), .pointer (some ⟨Bo, 0, none⟩), .pointer (some ⟨Bw, 0, none⟩), .pointer (some ⟨Bn, 0, none⟩)] (by rfl) rfl rfl (by rfl) (by first | rfl | (simp only [List.map_toArray, List.map_cons, List.map_nil, List.append_toArray, List.cons_append, List.nil_append, List.append_nil]; rfl)) ?_
            refine (HI.out (may x) (S ++ ext ++ [x]) w4 Am cm (by have := HM.out; simp only [List.length_append, List.length_singleton]; omega) (by rw [List.nodup_append]; exact ⟨HSX.out.1, by simp, fun a ha b hb e => by rw [List.mem_singleton] at hb; rw [e, hb] at ha; exact HIN.out ha⟩) (fun k hk => by rcases List.mem_append.1 hk with hk | hk; (· exact HSX.out.2 k hk); (· rw [List.mem_singleton] at hk; rw [hk]; exact HXL.out)) RA4.out HCM.out).mono ?_
            rintro e w5 ⟨rfl, e1, hW5, hR5, hK5⟩
            refine ⟨_, rfl, ?_⟩
            have RA5 := qM hR5
            have KP5 := qM (KP4.out.then_ hK5 (fun k hk => .inl hk))
            have HW5 := qM hW5
            clear hW5 hR5 hK5 hHeld
            have hw0 : w5.cell? ⟨Bw, 0, none⟩ = some _ := (qC RA5.out.hw 0).trans rfl
            have hn0 : w5.cell? ⟨Bn, 0, none⟩ = some _ := (qC RA5.out.hn 0).trans rfl
            refine hK.out _ _ ⟨hw0, hn0⟩ (fun hHeld => ?_)
            clear hK K hw0 hn0
            refine norm_ (a' := ?_) ?_ ?_
            rotate_left
            · show Act.put _ (some 29) _ = _
              simp only [Act.put, List.setIfInBounds_toArray, List.set_cons_zero, List.set_cons_succ, i64_w, i32_w]
              rfl
            refine done_ (by kernel_rfl) ?_
            clear hHeld
            have HEQ : Aside0 (S ++ ext ++ [x] ++ e1 = S ++ (ext ++ x :: e1)) := ⟨by simp⟩
            have HSX5 : Aside0 ((S ++ (ext ++ x :: e1)).Nodup ∧ ∀ k ∈ S ++ (ext ++ x :: e1), k < made.length) := ⟨by
              rw [← HEQ.out]
              refine ⟨?_, fun k hk => ?_⟩
              · rw [List.nodup_append, List.nodup_append]
                refine ⟨⟨HSX.out.1, by simp, fun a ha b hb e => by rw [List.mem_singleton] at hb; rw [e, hb] at ha; exact HIN.out ha⟩, HW5.out.nodup, fun a ha b hb e => HW5.out.fresh b hb (e ▸ ha)⟩
              · rcases List.mem_append.1 hk with hk | hk
                · rcases List.mem_append.1 hk with hk | hk
                  · exact HSX.out.2 k hk
                  · rw [List.mem_singleton] at hk; rw [hk]; exact HXL.out
                · have h1 := (HW5.out.sound k hk).1
                  rcases Nat.lt_or_ge k made.length with h | h
                  · exact h
                  · rw [List.getD_eq_getElem?_getD, List.getElem?_eq_none h] at h1; cases h1⟩
            go_wp2
            go_roundg gk
            case measure => omega
            case rel => exact ⟨i + 1, ext ++ x :: e1, by go_num, ⟨by have := HIK.out; omega⟩, ⟨fun e2 h => by
              have h2 := Topo.Walked.take (made := fun k => made.getD k false) (k := x) (ks := L.drop (i + 1)) (e2 := e2) HMD.out HIN.out HW5.out (by rw [HEQ.out]; exact h)
              have h3 := HWK.out _ (by rw [HXD.out]; exact h2)
              simpa using h3⟩, HSX5, ⟨by rw [← HEQ.out]; exact RA5.out⟩, KP5⟩
end Go.Proofs.Ythfemojaabejiaa.G
end
