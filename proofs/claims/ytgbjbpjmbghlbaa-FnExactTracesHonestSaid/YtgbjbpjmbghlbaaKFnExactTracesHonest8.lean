-- Written by pack.py (ours): the claim's texts, cut down to what its theorem reaches.
import Derived.ChangeArms
import Derived.DataReads
import Derived.Lib.SmallJoins
import Derived.Deep.Slices
import Derived.Deep.Strs
import Derived.Test.YtgbjbpjmbghlbaaKFnExactTracesHonest7
set_option maxHeartbeats 8000000
set_option maxRecDepth 100000
set_option linter.unusedVariables false
set_option linter.unusedSimpArgs false
section
namespace Go.Proofs.YtgbjbpjmbghlbaaW.OpenData
open Go.RowKit Go.Proofs.YtgbjbpjmbghlbaaW.PrintWords
def Opens (P : Program) (t : TypeId) {α : Type} (d : Kd α) (ex : α → Prop) (n : Nat) : Prop :=
  ∀ {H : Type} (enc : TypeId × Value → H) (w : World) (fuel : Nat) (cs : List Value) (x : DataW H × List MemPlace), fuel ≤ n →
    DataW.trod enc P w 0 (fun _ => true) true fuel t cs = some x → ∃ a, d.K w a cs ∧ ex a
theorem opens_int {P : Program} {t : TypeId} {k : IntKind} (ht : P.underlying t = some (.int k)) (n : Nat) : Opens P t (Kd.int k) (fun x => (Lit.int k x).wf = true) n := by
  intro H enc w fuel cs x _ h
  obtain ⟨m, rfl, _, hw⟩ := DataW.trod_int ht h
  exact ⟨m, rfl, hw⟩
theorem opens_bool {P : Program} {t : TypeId} (ht : P.underlying t = some .bool) (n : Nat) : Opens P t Kd.bool (fun _ => True) n := by
  intro H enc w fuel cs x _ h
  obtain ⟨m, rfl, _⟩ := DataW.trod_bool ht h
  exact ⟨m, rfl, trivial⟩
theorem list_of {α : Type} (p : Nat → α → Prop) (n : Nat) (h : ∀ i, i < n → ∃ x, p i x) : ∃ l : List α, l.length = n ∧ ∀ i x, l[i]? = some x → p i x := by
  induction n with
  | zero => exact ⟨[], rfl, fun i x h => by simp at h⟩
  | succ n ih =>
    obtain ⟨l, hl, hp⟩ := ih (fun i hi => h i (by omega))
    obtain ⟨y, hy⟩ := h n (by omega)
    refine ⟨l ++ [y], by simp [hl], fun i x hx => ?_⟩
    rcases Nat.lt_or_ge i l.length with hi | hi
    · rw [List.getElem?_append_left hi] at hx
      exact hp i x hx
    · have hi' : i = l.length := by
        have := (List.getElem?_eq_some_iff.1 hx).1
        simp at this
        omega
      subst hi'
      have : y = x := by simpa using hx
      subst this
      rw [hl]
      exact hy
theorem add_add_ (a : Addr) (i j : Nat) : (a.add i).add j = a.add (i + j) := Go.Deep.add_add a i j
theorem opens_slice {P : Program} {t e : TypeId} {α : Type} {d : Kd α} {ex : α → Prop} {n : Nat} (ht : P.underlying t = some (.slice e)) (hc : P.cellsOf e = d.sz) (h : Opens P e d ex n) :
    Opens P t (Kd.slice e d) (fun xs => xs.length ≤ maxLen ∧ ∀ x ∈ xs, ex x) (n + 1) := by
  intro H enc w fuel cs x hfu hr
  rcases DataW.trod_slice ht hr with ⟨rfl, _⟩ | ⟨a, len, cap, elems, rest, m, rfl, rfl, _, _, hl, hm, hlen, hel, _⟩
  · exact ⟨[], ⟨none, 0, rfl, Nat.le_refl _, rfl, by simp, fun h => absurd h (by simp)⟩, by simp, by simp⟩
  · have key : ∀ i, i < len → ∃ y : α, ex y ∧ ∃ c : List Value, c.length = d.sz ∧ d.K w y c ∧ ∀ j u, c[j]? = some u → w.cell? (a.add (i * d.sz + j)) = some u := by
      intro i hi
      have h1 := hel i hi
      rw [List.getElem?_eq_getElem (by omega)] at h1
      obtain ⟨cs', h2, h3⟩ := Option.bind_eq_some_iff.1 h1
      obtain ⟨y, hy, he⟩ := h enc w m cs' _ (by omega) h3
      obtain ⟨_, h4, h5⟩ := World.cells?_some h2
      refine ⟨y, he, cs', by rw [h4, hc], hy, fun j u hu => ?_⟩
      have hj : j < P.cellsOf e := by rw [← h4]; exact (List.getElem?_eq_some_iff.1 hu).1
      have h6 := h5 j hj
      rw [hu, add_add_, hc] at h6
      exact h6
    obtain ⟨xs, hxl, hxs⟩ := list_of (fun i y => ex y ∧ ∃ c : List Value, c.length = d.sz ∧ d.K w y c ∧ ∀ j u, c[j]? = some u → w.cell? (a.add (i * d.sz + j)) = some u) len key
    subst hxl
    refine ⟨xs, ⟨some a, cap, rfl, hl, rfl, ?_, fun _ => ⟨a, rfl, fun j p hj => (hxs j p hj).2⟩⟩, by omega, fun x hx => ?_⟩
    · have : maxLen = 9223372036854775807 := by decide
      omega
    · obtain ⟨i, hi, rfl⟩ := List.mem_iff_getElem.1 hx
      exact (hxs i _ (List.getElem?_eq_getElem hi)).1
theorem opens_imp {P : Program} {t : TypeId} {α : Type} {d : Kd α} {ex ex' : α → Prop} {n m : Nat} (h : Opens P t d ex n) (hm : m ≤ n) (hex : ∀ x, ex x → ex' x) : Opens P t d ex' m := by
  intro H enc w fuel cs x hfu hr
  obtain ⟨a, hK, he⟩ := h enc w fuel cs x (by omega) hr
  exact ⟨a, hK, hex a he⟩
theorem opens_struct3 {P : Program} {t : TypeId} {f0 f1 f2 : Field} {α β γ δ : Type} {d0 : Kd α} {d1 : Kd β} {d2 : Kd γ} {e0 : α → Prop} {e1 : β → Prop} {e2 : γ → Prop} {n : Nat} (g : δ → α × β × γ) (gi : α → β → γ → δ) (hg : ∀ a b c, g (gi a b c) = (a, b, c))
    (ht : P.underlying t = some (.struct #[f0, f1, f2])) (hs : P.cellsOf t = d0.sz + d1.sz + d2.sz) (o0 : f0.offset = 0) (o1 : f1.offset = d0.sz) (o2 : f2.offset = d0.sz + d1.sz) (c0 : P.cellsOf f0.type = d0.sz) (c1 : P.cellsOf f1.type = d1.sz) (c2 : P.cellsOf f2.type = d2.sz)
    (h0 : Opens P f0.type d0 e0 n) (h1 : Opens P f1.type d1 e1 n) (h2 : Opens P f2.type d2 e2 n) :
    Opens P t (Kd.iso (Kd.pair d0 (Kd.pair d1 d2)) g) (fun x => e0 (g x).1 ∧ e1 (g x).2.1 ∧ e2 (g x).2.2) (n + 1) := by
  intro H enc w fuel cs x hfu hr
  obtain ⟨xs, m, rfl, _, hl, hlen, hf⟩ := DataW.trod_struct ht hr
  match xs, hlen with
  | [y0, y1, y2], _ =>
    have r0 := hf 0 f0 rfl
    have r1 := hf 1 f1 rfl
    have r2 := hf 2 f2 rfl
    rw [o0, c0] at r0
    rw [o1, c1] at r1
    rw [o2, c2] at r2
    obtain ⟨a, hK0, he0⟩ := h0 enc w m _ _ (by omega) r0
    obtain ⟨b, hK1, he1⟩ := h1 enc w m _ _ (by omega) r1
    obtain ⟨c, hK2, he2⟩ := h2 enc w m _ _ (by omega) r2
    refine ⟨gi a b c, ?_, by simp only [hg]; exact ⟨he0, he1, he2⟩⟩
    show ∃ k0 k1, cs = k0 ++ k1 ∧ d0.K w (g (gi a b c)).1 k0 ∧ ∃ k2 k3, k1 = k2 ++ k3 ∧ d1.K w (g (gi a b c)).2.1 k2 ∧ d2.K w (g (gi a b c)).2.2 k3
    rw [hg]
    rw [List.drop_zero] at hK0
    refine ⟨cs.take d0.sz, cs.drop d0.sz, (List.take_append_drop _ _).symm, hK0, (cs.drop d0.sz).take d1.sz, (cs.drop d0.sz).drop d1.sz, (List.take_append_drop _ _).symm, hK1, ?_⟩
    rw [List.drop_drop]
    rw [List.take_of_length_le (by rw [List.length_drop]; omega)] at hK2
    exact hK2
theorem opens_struct2 {P : Program} {t : TypeId} {f0 f1 : Field} {α β δ : Type} {d0 : Kd α} {d1 : Kd β} {e0 : α → Prop} {e1 : β → Prop} {n : Nat} (g : δ → α × β) (gi : α → β → δ) (hg : ∀ a b, g (gi a b) = (a, b))
    (ht : P.underlying t = some (.struct #[f0, f1])) (hs : P.cellsOf t = d0.sz + d1.sz) (o0 : f0.offset = 0) (o1 : f1.offset = d0.sz) (c0 : P.cellsOf f0.type = d0.sz) (c1 : P.cellsOf f1.type = d1.sz)
    (h0 : Opens P f0.type d0 e0 n) (h1 : Opens P f1.type d1 e1 n) :
    Opens P t (Kd.iso (Kd.pair d0 d1) g) (fun x => e0 (g x).1 ∧ e1 (g x).2) (n + 1) := by
  intro H enc w fuel cs x hfu hr
  obtain ⟨xs, m, rfl, _, hl, hlen, hf⟩ := DataW.trod_struct ht hr
  match xs, hlen with
  | [y0, y1], _ =>
    have r0 := hf 0 f0 rfl
    have r1 := hf 1 f1 rfl
    rw [o0, c0] at r0
    rw [o1, c1] at r1
    obtain ⟨a, hK0, he0⟩ := h0 enc w m _ _ (by omega) r0
    obtain ⟨b, hK1, he1⟩ := h1 enc w m _ _ (by omega) r1
    refine ⟨gi a b, ?_, by simp only [hg]; exact ⟨he0, he1⟩⟩
    show ∃ k0 k1, cs = k0 ++ k1 ∧ d0.K w (g (gi a b)).1 k0 ∧ d1.K w (g (gi a b)).2 k1
    rw [hg]
    rw [List.drop_zero] at hK0
    refine ⟨cs.take d0.sz, cs.drop d0.sz, (List.take_append_drop _ _).symm, hK0, ?_⟩
    rw [List.take_of_length_le (by rw [List.length_drop]; omega)] at hK1
    exact hK1
theorem opens_fix {P : Program} {t : TypeId} {α : Type} {F : Kd α → Kd α} {sz : Nat} {E : List Nat} {hs : ∀ n, (Kd.upto F sz E n).sz = sz} {hE : ∀ n q, q ∈ (Kd.upto F sz E n).E → q ∈ E} {ex : α → Prop}
    (step : ∀ (d : Kd α) (n : Nat), d.sz = sz → Opens P t d ex n → Opens P t (F d) ex (n + 1)) (n : Nat) : Opens P t (Kd.fix F sz E hs hE) ex n := by
  have key : ∀ n, Opens P t (Kd.upto F sz E (n + 1)) ex n := by
    intro n
    induction n with
    | zero =>
      intro H enc w fuel cs x hfu hr
      obtain rfl : fuel = 0 := by omega
      simp [DataW.trod] at hr
    | succ n ih => exact step _ n (hs _) ih
  intro H enc w fuel cs x hfu hr
  obtain ⟨a, hK, he⟩ := key n enc w fuel cs x hfu hr
  exact ⟨a, ⟨_, hK⟩, he⟩
theorem open_row {P : Program} {t e : TypeId} {α : Type} {d : Kd α} {ex : List α → Prop} (h : ∀ n, Opens P t (Kd.slice e d) ex n) {H : Type} {enc : TypeId × Value → H} {w : World} {v : Value} {x : DataW H} {p : List MemPlace} {r : Reach} {b0 : Nat} (ht : P.underlying t = some (.slice e)) (hv : Value.okWide P w r b0 t v)
    (hr : DataW.Trod enc P w 0 (fun _ => true) true t v x p) : ∃ A c xs, v = .slice A xs.length c ∧ xs.length ≤ c ∧ d.C w A xs.length xs ∧ ex xs := by
  obtain ⟨a0, l0, c0, rfl⟩ := Go.WideShapes.okWide_slice ht hv
  obtain ⟨fuel, hf⟩ := hr
  obtain ⟨xs, ⟨A, c, e1, hl, hC⟩, he⟩ := h fuel enc w fuel _ _ (Nat.le_refl _) hf
  simp only [Value.cells, List.cons.injEq, and_true] at e1
  exact ⟨A, c, xs, e1, hl, hC, he⟩
end Go.Proofs.YtgbjbpjmbghlbaaW.OpenData
end
section
namespace Go.Proofs.Ytgbjbpjmbghlbaa.G
open Go.RowKit Go.Proofs.YtgbjbpjmbghlbaaW.PrintWords Go.Proofs.YtgbjbpjmbghlbaaW.OpenData
mutual
def ex_t24 : S24 → Prop
  | ⟨_, _, ps⟩ => ps.length ≤ 9223372036854775807 ∧ ex_c24 ps
def ex_c24 : List S24 → Prop
  | [] => True
  | p :: ps => ex_t24 p ∧ ex_c24 ps
end
theorem ex_c24_of {ps : List S24} (h : ∀ p ∈ ps, ex_t24 p) : ex_c24 ps := by
  induction ps with
  | nil => simp [ex_c24]
  | cons q ps ih => simp only [ex_c24]; exact ⟨h q (by simp), ih (fun p hp => h p (by simp [hp]))⟩
theorem opens_t24 : ∀ n, Opens Try.prog 24 k24 ex_t24 n := fun n => opens_fix (fun d n hs h => opens_imp (opens_struct3 (fun x : S24 => (x.f0, x.f1, x.f2)) S24.mk (fun _ _ _ => rfl) Try.underlying24 (by kernel_rfl) rfl rfl rfl (by kernel_rfl) (by kernel_rfl) (by kernel_rfl) (opens_int Try.underlying3 (n + 1)) (opens_int Try.underlying3 (n + 1)) (opens_slice Try.underlying22 (by rw [hs]; kernel_rfl) h)) (by omega) (fun x hx => by
  cases x
  simp only [ex_t24]
  exact ⟨hx.2.2.1, ex_c24_of hx.2.2.2⟩)) n
def ex_sl24 (xs : List (S24)) : Prop := xs.length ≤ 9223372036854775807 ∧ ∀ x ∈ xs, (ex_t24) x
theorem opens_sl24 : ∀ n, Opens Try.prog 22 (Kd.slice 24 k24) ex_sl24 n := fun n => opens_imp (opens_slice Try.underlying22 (by kernel_rfl) ((opens_t24) n)) (Nat.le_succ n) (fun _ h => h)
def ex_t165 (x : S165) : Prop := (fun x : Int => (Lit.int .i64 x).wf = true) x.f0 ∧ (fun x : Int => (Lit.int .i64 x).wf = true) x.f1
theorem opens_t165 : ∀ n, Opens Try.prog 165 k165 ex_t165 n := fun n => opens_imp (opens_struct2 (fun x : S165 => (x.f0, x.f1)) S165.mk (fun _ _  => rfl) Try.underlying165 (by kernel_rfl) rfl rfl (by kernel_rfl) (by kernel_rfl) ((fun n => opens_int Try.underlying3 n) n) ((fun n => opens_int Try.underlying3 n) n)) (Nat.le_succ n) (fun _ h => h)
def ex_sl165 (xs : List (S165)) : Prop := xs.length ≤ 9223372036854775807 ∧ ∀ x ∈ xs, (ex_t165) x
theorem opens_sl165 : ∀ n, Opens Try.prog 79 (Kd.slice 165 k165) ex_sl165 n := fun n => opens_imp (opens_slice Try.underlying79 (by kernel_rfl) ((opens_t165) n)) (Nat.le_succ n) (fun _ h => h)
def ex_t81 (x : S81) : Prop := (fun x : Int => (Lit.int .i64 x).wf = true) x.f0 ∧ (ex_sl165) x.f1 ∧ (fun x : Int => (Lit.int .i64 x).wf = true) x.f2
theorem opens_t81 : ∀ n, Opens Try.prog 81 k81 ex_t81 n := fun n => opens_imp (opens_struct3 (fun x : S81 => (x.f0, x.f1, x.f2)) S81.mk (fun _ _ _  => rfl) Try.underlying81 (by kernel_rfl) rfl rfl rfl (by kernel_rfl) (by kernel_rfl) (by kernel_rfl) ((fun n => opens_int Try.underlying3 n) n) ((opens_sl165) n) ((fun n => opens_int Try.underlying3 n) n)) (Nat.le_succ n) (fun _ h => h)
def ex_sl81 (xs : List (S81)) : Prop := xs.length ≤ 9223372036854775807 ∧ ∀ x ∈ xs, (ex_t81) x
theorem opens_sl81 : ∀ n, Opens Try.prog 49 (Kd.slice 81 k81) ex_sl81 n := fun n => opens_imp (opens_slice Try.underlying49 (by kernel_rfl) ((opens_t81) n)) (Nat.le_succ n) (fun _ h => h)
def ex_sl4 (xs : List (Bool)) : Prop := xs.length ≤ 9223372036854775807 ∧ ∀ x ∈ xs, (fun _ : Bool => True) x
theorem opens_sl4 : ∀ n, Opens Try.prog 46 (Kd.slice 4 Kd.bool) ex_sl4 n := fun n => opens_imp (opens_slice Try.underlying46 (by kernel_rfl) ((fun n => opens_bool Try.underlying4 n) n)) (Nat.le_succ n) (fun _ h => h)
end Go.Proofs.Ytgbjbpjmbghlbaa.G
end
section
namespace Go.Proofs.Ytgbjbpjmbghlbaa.G
open Go.RowKit Go.Proofs.YtgbjbpjmbghlbaaW.PrintWords
abbrev Lk := S24
theorem lk_size (t p : Lk) (hp : p ∈ t.f2) : SizeOf.sizeOf p < SizeOf.sizeOf t := by
  have h := List.sizeOf_lt_of_mem hp
  cases t with
  | mk a b c => simp only [S24.mk.sizeOf_spec] at *; omega
theorem lk_ind {P : Lk → Prop} (h : ∀ t : Lk, (∀ p ∈ t.f2, P p) → P t) : ∀ t, P t := by
  intro t
  induction hn : SizeOf.sizeOf t using Nat.strongRecOn generalizing t with
  | _ n ih => exact h t (fun p hp => ih (SizeOf.sizeOf p) (by rw [← hn]; exact lk_size t p hp) p rfl)
theorem rd_lk (ps : List Lk) (i : Nat) (h : i < ps.length) : rd_T24 ps (i : Int) = ps[i] := by
  simp only [rd_T24, Int.toNat_natCast, List.getD_eq_getElem?_getD, List.getElem?_eq_getElem h, Option.getD_some]
abbrev bdT := ex_t24
abbrev bdL := ex_c24
mutual
def szT : Lk → Nat
  | ⟨_, _, ps⟩ => ps.length + szC ps
def szC : List Lk → Nat
  | [] => 0
  | p :: ps => szT p + szC ps
end
mutual
def cvT : Lk → Tk
  | ⟨k, n, ps⟩ => ⟨k, n, cvL ps⟩
def cvL : List Lk → List Tk
  | [] => []
  | p :: ps => cvT p :: cvL ps
end
theorem bdT_eq (t : Lk) : bdT t = (t.f2.length ≤ 9223372036854775807 ∧ bdL t.f2) := by cases t; simp [bdT, bdL, ex_t24]
theorem szT_eq (t : Lk) : szT t = t.f2.length + szC t.f2 := by cases t; simp [szT]
theorem cvT_eq (t : Lk) : cvT t = ⟨t.f0, t.f1, cvL t.f2⟩ := by cases t; simp [cvT]
theorem cvL_map (ps : List Lk) : cvL ps = ps.map cvT := by
  induction ps with
  | nil => simp [cvL]
  | cons p ps ih => simp [cvL, ih]
theorem cvL_length (ps : List Lk) : (cvL ps).length = ps.length := by rw [cvL_map, List.length_map]
theorem bdL_mem {ps : List Lk} (h : bdL ps) : ∀ p ∈ ps, bdT p := by
  induction ps with
  | nil => intro p hp; cases hp
  | cons q ps ih =>
    simp only [bdL, ex_c24] at h
    intro p hp
    rcases List.mem_cons.1 hp with rfl | hp
    · exact h.1
    · exact ih h.2 p hp
theorem bdL_of {ps : List Lk} (h : ∀ p ∈ ps, bdT p) : bdL ps := ex_c24_of h
theorem szC_mem {ps : List Lk} : ∀ p ∈ ps, szT p ≤ szC ps := by
  induction ps with
  | nil => intro p hp; cases hp
  | cons q ps ih =>
    intro p hp
    simp only [szC]
    rcases List.mem_cons.1 hp with rfl | hp
    · omega
    · have := ih p hp; omega
theorem nod_cv : ∀ t : Lk, nodT (cvT t) = 1 + szT t := by
  refine lk_ind fun t ih => ?_
  rw [cvT_eq, nodT_eq, szT_eq]
  congr 1
  show nodL (cvL t.f2) = t.f2.length + szC t.f2
  generalize t.f2 = ps at ih
  induction ps with
  | nil => simp [cvL, nodL, szC]
  | cons p ps ihp =>
    simp only [cvL, nodL, szC, List.length_cons]
    rw [ih p (by simp), ihp (fun q hq => ih q (by simp [hq]))]
    omega
theorem nodL_cv (ps : List Lk) : nodL (cvL ps) = ps.length + szC ps := by
  have h := nod_cv ⟨0, 0, ps⟩
  rw [cvT_eq, nodT_eq, szT_eq] at h
  simp only at h
  omega
def leftOf (n : Nat) (left : Int) : Int := if (n : Int) ≤ left then left - n else -1
theorem leftOf_yes {n : Nat} {left : Int} (h : (n : Int) ≤ left) : leftOf n left = left - n := if_pos h
theorem leftOf_no {n : Nat} {left : Int} (h : ¬ (n : Int) ≤ left) : leftOf n left = -1 := if_neg h
theorem leftOf_add {a b : Nat} {left : Int} (h : (a : Int) ≤ left) : leftOf b (left - a) = leftOf (a + b) left := by
  unfold leftOf
  split <;> split <;> omega
theorem leftOf_zero {left : Int} (h : 0 ≤ left) : leftOf 0 left = left := by unfold leftOf; split <;> omega
theorem leftOf_neg {n : Nat} {left : Int} (h0 : 0 ≤ left) : leftOf n left < 0 ↔ ¬ (n : Int) ≤ left := by unfold leftOf; split <;> omega
theorem szS_ev (n : Nat) : ∀ ps : List Lk, SizeOf.sizeOf ps ≤ n → ps.length ≤ 9223372036854775807 → bdL ps → ∀ left : Int, 0 ≤ left → left ≤ 1048576 →
    Ev (fun k => laws_szTaskS.f k ps left) (leftOf (ps.length + szC ps) left) := by
  induction n with
  | zero => intro ps h; cases ps <;> simp at h
  | succ n ih =>
    intro ps hsz hlen hbd left h0 h1
    have one : ∀ p ∈ ps, ∀ lf : Int, 0 ≤ lf → lf ≤ 1048576 → Ev (fun k => laws_szTask.f k p.f0 p.f1 p.f2 lf) (leftOf (szT p) lf) := by
      intro p hp lf g0 g1
      have hb := bdL_mem hbd p hp
      rw [bdT_eq] at hb
      have hs := List.sizeOf_lt_of_mem hp
      have hs2 : SizeOf.sizeOf p.f2 < SizeOf.sizeOf p := by
        cases p with
        | mk a b c => simp only [S24.mk.sizeOf_spec]; omega
      refine Ev.step (fun k => by rw [laws_szTask.f]) ?_
      refine Ev.bind (ih p.f2 (by omega) hb.1 hb.2 lf g0 g1) ?_
      rw [szT_eq]
      by_cases hc : leftOf (p.f2.length + szC p.f2) lf < 0
      · simp only [if_pos hc]
        rw [leftOf_no ((leftOf_neg g0).1 hc)]
        exact Ev.now _
      · simp only [if_neg hc]
        exact Ev.now _
    have loop : ps.length ≤ 1048576 → ∀ (d i : Nat) (lf : Int), d = ps.length - i → i ≤ ps.length → 0 ≤ lf → lf ≤ 1048576 → Ev (fun k => laws_szTaskS.l0 k ps lf (i : Int)) (leftOf (szC (ps.drop i)) lf) := by
      intro hl20 d
      induction d with
      | zero =>
        intro i lf hd hi g0 g1
        have e : i = ps.length := by omega
        subst e
        refine Ev.step (fun k => by rw [laws_szTaskS.l0]) ?_
        simp only [if_neg (show ¬ ((ps.length : Int) < (ps.length : Int)) by omega), List.drop_length, szC]
        exact Ev.eq (Ev.now lf) (leftOf_zero g0).symm
      | succ d ihd =>
        intro i lf hd hi g0 g1
        have hlt : i < ps.length := by omega
        have hmem : ps[i] ∈ ps := List.getElem_mem hlt
        rw [drop_tk ps i hlt, szC]
        refine Ev.step (fun k => by rw [laws_szTaskS.l0]) ?_
        simp only [if_pos (show (i : Int) < (ps.length : Int) by omega), if_pos (show (0 : Int) ≤ (i : Int) by omega), rd_lk ps i hlt]
        refine Ev.bind (one _ hmem lf g0 g1) ?_
        by_cases hc : (szT ps[i] : Int) ≤ lf
        · rw [leftOf_yes hc]
          simp only [if_neg (show ¬ (lf - (szT ps[i] : Int) < 0) by omega), wrap_nat i (by omega)]
          exact Ev.eq (ihd (i + 1) (lf - szT ps[i]) (by omega) (by omega) (by omega) (by omega)) (leftOf_add hc)
        · rw [leftOf_no hc]
          simp only [if_pos (show (-1 : Int) < 0 by omega)]
          exact Ev.eq (Ev.now (-1)) (leftOf_no (by omega)).symm
    refine Ev.step (fun k => by rw [laws_szTaskS.f]) ?_
    simp only [wrap_id (left - (ps.length : Int)) (by omega) (by omega)]
    by_cases hc : left - (ps.length : Int) < 0
    · simp only [if_pos hc]
      exact Ev.eq (Ev.now (-1)) (leftOf_no (by omega)).symm
    · simp only [if_neg hc]
      refine Ev.eq (loop (by omega) ps.length 0 (left - ps.length) (by omega) (by omega) (by omega) (by omega)) ?_
      rw [List.drop_zero]
      exact leftOf_add (by omega)
theorem szL_ev (ps : List Lk) (hlen : ps.length ≤ 9223372036854775807) (hbd : bdL ps) (left : Int) (h0 : 0 ≤ left) (h1 : left ≤ 1048576) :
    Ev (fun k => laws_szTaskS.f k ps left) (leftOf (ps.length + szC ps) left) := szS_ev (SizeOf.sizeOf ps) ps (Nat.le_refl _) hlen hbd left h0 h1
theorem toS_ev (n : Nat) : ∀ ps : List Lk, SizeOf.sizeOf ps ≤ n → ps.length + szC ps ≤ 1048576 → Ev (fun k => laws_toTaskS.f k ps) (cvL ps) := by
  induction n with
  | zero => intro ps h; cases ps <;> simp at h
  | succ n ih =>
    intro ps hsz hb
    have one : ∀ p ∈ ps, Ev (fun k => laws_toTask.f k p.f0 p.f1 p.f2) (p.f0, p.f1, cvL p.f2) := by
      intro p hp
      have hs := List.sizeOf_lt_of_mem hp
      have hs2 : SizeOf.sizeOf p.f2 < SizeOf.sizeOf p := by
        cases p with
        | mk a b c => simp only [S24.mk.sizeOf_spec]; omega
      have h3 := szC_mem p hp
      rw [szT_eq] at h3
      refine Ev.step (fun k => by rw [laws_toTask.f]) ?_
      refine Ev.bind (ih p.f2 (by omega) (by omega)) ?_
      exact Ev.now _
    have loop : ∀ (d i : Nat), d = ps.length - i → i ≤ ps.length → Ev (fun k => laws_toTaskS.l0 k ps (cvL (ps.take i) ++ List.replicate (ps.length - i) z30) (i : Int)) (cvL ps) := by
      intro d
      induction d with
      | zero =>
        intro i hd hi
        have e : i = ps.length := by omega
        subst e
        refine Ev.step (fun k => by rw [laws_toTaskS.l0]) ?_
        simp only [if_neg (show ¬ ((ps.length : Int) < (ps.length : Int)) by omega), Nat.sub_self, List.replicate_zero, List.append_nil, List.take_length]
        exact Ev.now _
      | succ d ihd =>
        intro i hd hi
        have hlt : i < ps.length := by omega
        have hmem : ps[i] ∈ ps := List.getElem_mem hlt
        have hl : (cvL (ps.take i) ++ List.replicate (ps.length - i) z30).length = ps.length := by simp [cvL_length]; omega
        refine Ev.step (fun k => by rw [laws_toTaskS.l0]) ?_
        simp only [if_pos (show (i : Int) < (ps.length : Int) by omega), if_pos (show (0 : Int) ≤ (i : Int) by omega), rd_lk ps i hlt, hl]
        refine Ev.bind (one _ hmem) ?_
        simp only [wrap_nat i (by omega), Int.toNat_natCast]
        have e : (cvL (ps.take i) ++ List.replicate (ps.length - i) z30).set i ⟨ps[i].f0, ps[i].f1, cvL ps[i].f2⟩ = cvL (ps.take (i + 1)) ++ List.replicate (ps.length - (i + 1)) z30 := by
          rw [List.set_append_right _ _ (by rw [cvL_length, jA]; omega), cvL_length, jA, Nat.min_eq_left (by omega), Nat.sub_self]
          rw [show ps.length - i = (ps.length - (i + 1)) + 1 by omega, List.replicate_succ, qU, ← cvT_eq, List.take_succ_eq_append_getElem hlt]
          rw [cvL_map, cvL_map, List.map_append, List.map_singleton, List.append_assoc, List.singleton_append]
        rw [e]
        exact ihd (i + 1) (by omega) (by omega)
    refine Ev.step (fun k => by rw [laws_toTaskS.f]) ?_
    simp only [if_pos (show (0 : Int) ≤ (ps.length : Int) by omega), Int.toNat_natCast, if_pos (show ps.length ≤ 7036874417766 by omega)]
    have h := loop ps.length 0 (by omega) (by omega)
    simp only [List.take_zero, cvL, List.nil_append, Nat.sub_zero, Int.natCast_zero, Int.ofNat_zero] at h
    exact h
theorem toL_ev (ps : List Lk) (hb : ps.length + szC ps ≤ 1048576) : Ev (fun k => laws_toTaskS.f k ps) (cvL ps) := toS_ev (SizeOf.sizeOf ps) ps (Nat.le_refl _) hb
theorem eqS_ev (n : Nat) : ∀ ps : List Tk, SizeOf.sizeOf ps ≤ n → nodL ps ≤ 4000000000 → Ev (fun k => laws_eqTaskS.f k ps ps) true := by
  induction n with
  | zero => intro ps h; cases ps <;> simp at h
  | succ n ih =>
    intro ps hsz hb
    have hln := nodL_len ps
    have one : ∀ p ∈ ps, Ev (fun k => laws_eqTask.f k p.f0 p.f1 p.f2 p.f0 p.f1 p.f2) true := by
      intro p hp
      have hs := List.sizeOf_lt_of_mem hp
      have hs2 : SizeOf.sizeOf p.f2 < SizeOf.sizeOf p := by
        cases p with
        | mk a b c => simp only [S30.mk.sizeOf_spec]; omega
      have h3 := nodL_mem p hp
      rw [nodT_eq] at h3
      refine Ev.step (fun k => by rw [laws_eqTask.f]) ?_
      simp only [if_true]
      refine Ev.bind (ih p.f2 (by omega) (by omega)) ?_
      simp only [if_true]
      exact Ev.now true
    have loop : ∀ (d i : Nat), d = ps.length - i → i ≤ ps.length → Ev (fun k => laws_eqTaskS.l0 k ps ps (i : Int)) true := by
      intro d
      induction d with
      | zero =>
        intro i hd hi
        have e : i = ps.length := by omega
        subst e
        refine Ev.step (fun k => by rw [laws_eqTaskS.l0]) ?_
        simp only [if_neg (show ¬ ((ps.length : Int) < (ps.length : Int)) by omega)]
        exact Ev.now true
      | succ d ihd =>
        intro i hd hi
        have hlt : i < ps.length := by omega
        have hmem : ps[i] ∈ ps := List.getElem_mem hlt
        refine Ev.step (fun k => by rw [laws_eqTaskS.l0]) ?_
        simp only [if_pos (show (i : Int) < (ps.length : Int) by omega), if_pos (show (0 : Int) ≤ (i : Int) by omega), rd_tk ps i hlt]
        refine Ev.bind (one _ hmem) ?_
        simp only [if_true, wrap_nat i (by omega)]
        exact ihd (i + 1) (by omega) (by omega)
    refine Ev.step (fun k => by rw [laws_eqTaskS.f]) ?_
    simp only [if_true]
    exact loop ps.length 0 (by omega) (by omega)
theorem eqL_ev (ps : List Tk) (hb : nodL ps ≤ 4000000000) : Ev (fun k => laws_eqTaskS.f k ps ps) true := eqS_ev (SizeOf.sizeOf ps) ps (Nat.le_refl _) hb
end Go.Proofs.Ytgbjbpjmbghlbaa.G
end
section
namespace Go.Proofs.Ytgbjbpjmbghlbaa.G
open Go.RowKit Go.Proofs.YtgbjbpjmbghlbaaW.PrintWords
def sumL {α : Type} (sz : α → Nat) : List α → Nat
  | [] => 0
  | x :: xs => sz x + sumL sz xs
theorem sumL_mem {α : Type} (sz : α → Nat) {l : List α} : ∀ x ∈ l, sz x ≤ sumL sz l := by
  induction l with
  | nil => intro x hx; cases hx
  | cons y ys ih =>
    intro x hx
    simp only [sumL]
    rcases List.mem_cons.1 hx with rfl | hx
    · omega
    · have := ih x hx; omega
theorem szLoop {α : Type} (l : List α) (F : Nat → Int → Int → Option Int) (one : Nat → α → Int → Option Int) (sz : α → Nat)
    (hend : ∀ k lf, F (k + 1) lf (l.length : Int) = some lf)
    (hstep : ∀ k lf (i : Nat) (h : i < l.length), F (k + 1) lf (i : Int) = (one k l[i] lf).bind fun t => if t < 0 then some (-1) else F k t ((i + 1 : Nat) : Int))
    (hone : ∀ x ∈ l, ∀ lf : Int, 0 ≤ lf → lf ≤ 1048576 → Ev (fun k => one k x lf) (leftOf (sz x) lf)) :
    ∀ (d i : Nat) (lf : Int), d = l.length - i → i ≤ l.length → 0 ≤ lf → lf ≤ 1048576 → Ev (fun k => F k lf (i : Int)) (leftOf (sumL sz (l.drop i)) lf) := by
  intro d
  induction d with
  | zero =>
    intro i lf hd hi g0 g1
    have e : i = l.length := by omega
    subst e
    refine Ev.step (fun k => hend k lf) ?_
    simp only [List.drop_length, sumL]
    exact Ev.eq (Ev.now lf) (leftOf_zero g0).symm
  | succ d ihd =>
    intro i lf hd hi g0 g1
    have hlt : i < l.length := by omega
    rw [drop_tk l i hlt, sumL]
    refine Ev.step (fun k => hstep k lf i hlt) ?_
    refine Ev.bind (hone _ (List.getElem_mem hlt) lf g0 g1) ?_
    by_cases hc : (sz l[i] : Int) ≤ lf
    · rw [leftOf_yes hc]
      simp only [if_neg (show ¬ (lf - (sz l[i] : Int) < 0) by omega)]
      exact Ev.eq (ihd (i + 1) (lf - sz l[i]) (by omega) (by omega) (by omega) (by omega)) (leftOf_add hc)
    · rw [leftOf_no hc]
      simp only [if_pos (show (-1 : Int) < 0 by omega)]
      exact Ev.eq (Ev.now (-1)) (leftOf_no (by omega)).symm
theorem toLoop {α β γ : Type} (l : List α) (F : Nat → List β → Int → Option (List β)) (one : Nat → α → Option γ) (mk : γ → β) (cv : α → β) (z : β)
    (hend : ∀ k out, F (k + 1) out (l.length : Int) = some out)
    (hstep : ∀ k out (i : Nat) (h : i < l.length), out.length = l.length → F (k + 1) out (i : Int) = (one k l[i]).bind fun t => F k (out.set i (mk t)) ((i + 1 : Nat) : Int))
    (hone : ∀ x ∈ l, ∃ c, Ev (fun k => one k x) c ∧ mk c = cv x) : Ev (fun k => F k (List.replicate l.length z) 0) (l.map cv) := by
  have loop : ∀ (d i : Nat), d = l.length - i → i ≤ l.length → Ev (fun k => F k ((l.take i).map cv ++ List.replicate (l.length - i) z) (i : Int)) (l.map cv) := by
    intro d
    induction d with
    | zero =>
      intro i hd hi
      have e : i = l.length := by omega
      subst e
      refine Ev.step (fun k => hend k _) ?_
      simp only [Nat.sub_self, List.replicate_zero, List.append_nil, List.take_length]
      exact Ev.now _
    | succ d ihd =>
      intro i hd hi
      have hlt : i < l.length := by omega
      have hl : ((l.take i).map cv ++ List.replicate (l.length - i) z).length = l.length := by simp; omega
      refine Ev.step (fun k => hstep k _ i hlt hl) ?_
      obtain ⟨c, hc, hm⟩ := hone _ (List.getElem_mem hlt)
      refine Ev.bind hc ?_
      rw [hm]
      have e : ((l.take i).map cv ++ List.replicate (l.length - i) z).set i (cv l[i]) = (l.take (i + 1)).map cv ++ List.replicate (l.length - (i + 1)) z := by
        rw [List.set_append_right _ _ (by rw [List.length_map, jA]; omega), List.length_map, jA, Nat.min_eq_left (by omega), Nat.sub_self]
        rw [show l.length - i = (l.length - (i + 1)) + 1 by omega, List.replicate_succ, qU, List.take_succ_eq_append_getElem hlt]
        rw [List.map_append, List.map_singleton, List.append_assoc, List.singleton_append]
      rw [e]
      exact ihd (i + 1) (by omega) (by omega)
  have h := loop l.length 0 (by omega) (by omega)
  simp only [List.take_zero, jE, List.nil_append, Nat.sub_zero, Int.natCast_zero, Int.ofNat_zero] at h
  exact h
theorem allLoop {α : Type} (l : List α) (F : Nat → Int → Option Bool) (one : Nat → α → Option Bool) (p : α → Bool)
    (hend : ∀ k, F (k + 1) (l.length : Int) = some true)
    (hstep : ∀ k (i : Nat) (h : i < l.length), F (k + 1) (i : Int) = (one k l[i]).bind fun t => if t = true then F k ((i + 1 : Nat) : Int) else some false)
    (hone : ∀ x ∈ l, Ev (fun k => one k x) (p x)) : ∀ (d i : Nat), d = l.length - i → i ≤ l.length → Ev (fun k => F k (i : Int)) ((l.drop i).all p) := by
  intro d
  induction d with
  | zero =>
    intro i hd hi
    have e : i = l.length := by omega
    subst e
    refine Ev.step (fun k => hend k) ?_
    simp only [List.drop_length, List.all_nil]
    exact Ev.now true
  | succ d ihd =>
    intro i hd hi
    have hlt : i < l.length := by omega
    rw [drop_tk l i hlt, List.all_cons]
    refine Ev.step (fun k => hstep k i hlt) ?_
    refine Ev.bind (hone _ (List.getElem_mem hlt)) ?_
    cases hp : p l[i] with
    | true => simp only [if_true, Bool.true_and]; exact ihd (i + 1) (by omega) (by omega)
    | false => simp only [Bool.false_eq_true, if_false, Bool.false_and]; exact Ev.now false
theorem eqLoop {α : Type} (l : List α) (F : Nat → Int → Option Bool) (one : Nat → α → Option Bool)
    (hend : ∀ k, F (k + 1) (l.length : Int) = some true)
    (hstep : ∀ k (i : Nat) (h : i < l.length), F (k + 1) (i : Int) = (one k l[i]).bind fun t => if t = true then F k ((i + 1 : Nat) : Int) else some false)
    (hone : ∀ x ∈ l, Ev (fun k => one k x) true) : Ev (fun k => F k 0) true := by
  have h := allLoop l F one (fun _ => true) hend hstep hone l.length 0 (by omega) (by omega)
  simp only [List.drop_zero, List.all_eq_true, implies_true] at h
  exact Ev.eq h (by simp)
abbrev Trc := S87
theorem rd_fk (l : List Fk) (i : Nat) (h : i < l.length) : rd_T117 l (i : Int) = l[i] := by
  simp only [rd_T117, Int.toNat_natCast, List.getD_eq_getElem?_getD, List.getElem?_eq_getElem h, Option.getD_some]
theorem rd_trc (l : List Trc) (i : Nat) (h : i < l.length) : rd_T87 l (i : Int) = l[i] := by
  simp only [rd_T87, Int.toNat_natCast, List.getD_eq_getElem?_getD, List.getElem?_eq_getElem h, Option.getD_some]
def fkOk (f : Fk) : Bool := decide (0 ≤ f.f0 ∧ f.f0 < 10) && decide (0 ≤ f.f1 ∧ f.f1 ≤ 96)
def trOk (t : Trc) : Bool := ((decide (0 ≤ t.f0 ∧ t.f0 < 10) && decide (0 ≤ t.f2 ∧ t.f2 ≤ 96)) && decide ((onceL t.f1).length = t.f1.length)) && t.f1.all fkOk
theorem onceF_nodup (out : List Fk) (f : Fk) (h : (out.map (·.f0)).Nodup) : ((onceF out f).map (·.f0)).Nodup := by
  unfold onceF
  split
  · exact h
  · rename_i hn
    rw [List.map_append, List.map_singleton, List.nodup_append]
    refine ⟨h, by simp, ?_⟩
    intro a ha b hb
    have hb' : b = f.f0 := by simpa using hb
    subst hb'
    rintro rfl
    apply hn
    obtain ⟨g, hg, he⟩ := List.mem_map.1 ha
    exact List.any_eq_true.2 ⟨g, hg, by simp [he]⟩
theorem onceF_mem (out : List Fk) (f g : Fk) (h : g ∈ onceF out f) : g ∈ out ∨ g = f := by
  unfold onceF at h
  split at h
  · exact .inl h
  · simpa using h
theorem fold_once (l : List Fk) : ∀ out : List Fk, (out.map (·.f0)).Nodup → ((l.foldl onceF out).map (·.f0)).Nodup ∧ ∀ g ∈ l.foldl onceF out, g ∈ out ∨ g ∈ l := by
  induction l with
  | nil => intro out h; exact ⟨h, fun g hg => .inl hg⟩
  | cons f l ih =>
    intro out h
    obtain ⟨h1, h2⟩ := ih (onceF out f) (onceF_nodup out f h)
    refine ⟨h1, fun g hg => ?_⟩
    rcases h2 g hg with h3 | h3
    · rcases onceF_mem out f g h3 with h4 | h4
      · exact .inl h4
      · exact .inr (by simp [h4])
    · exact .inr (by simp [h3])
theorem onceL_nodup (l : List Fk) : ((onceL l).map (·.f0)).Nodup := (fold_once l [] (by simp)).1
theorem onceL_mem (l : List Fk) : ∀ g ∈ onceL l, g ∈ l := by
  intro g hg
  rcases (fold_once l [] (by simp)).2 g hg with h | h
  · cases h
  · exact h
theorem onceL_length (l : List Fk) : (onceL l).length ≤ l.length := by
  have := onceL_len l l.length (Nat.le_refl _)
  rwa [List.take_length] at this
theorem few_keys : ∀ (n : Nat) (l : List Int), l.Nodup → (∀ x ∈ l, 0 ≤ x ∧ x < (n : Int)) → l.length ≤ n := by
  intro n
  induction n with
  | zero =>
    intro l _ h
    cases l with
    | nil => simp
    | cons x xs => have := h x (by simp); omega
  | succ n ih =>
    intro l hn h
    by_cases hm : (n : Int) ∈ l
    · have h1 := List.length_erase_of_mem hm
      have h2 : ∀ x ∈ l.erase (n : Int), 0 ≤ x ∧ x < (n : Int) := by
        intro x hx
        have h3 := (List.Nodup.mem_erase_iff hn).1 hx
        have h4 := h x h3.2
        have h5 := h3.1
        omega
      have h6 := ih _ (hn.erase (n : Int)) h2
      have h7 : 0 < l.length := List.length_pos_of_mem hm
      omega
    · have h2 : ∀ x ∈ l, 0 ≤ x ∧ x < (n : Int) := by
        intro x hx
        have h4 := h x hx
        have h5 : x ≠ (n : Int) := fun e => hm (e ▸ hx)
        omega
      have := ih l hn h2
      omega
theorem trOk_len {t : Trc} (h : trOk t = true) : t.f1.length ≤ 10 := by
  simp only [trOk, Bool.and_eq_true, decide_eq_true_eq] at h
  have h1 := few_keys 10 ((onceL t.f1).map (·.f0)) (onceL_nodup t.f1) (fun x hx => by
    obtain ⟨g, hg, rfl⟩ := List.mem_map.1 hx
    have h2 := List.all_eq_true.1 h.2 g (onceL_mem t.f1 g hg)
    simp only [fkOk, Bool.and_eq_true, decide_eq_true_eq] at h2
    exact h2.1)
  rw [List.length_map] at h1
  omega
theorem implFk_ev (a b : Int) : impl_Trace_ok_1.f a b = some (!fkOk ⟨a, b⟩) := by
  unfold impl_Trace_ok_1.f fkOk
  simp only [isKey_ev, isValue_ev, Option.bind_some]
  by_cases h : 0 ≤ a ∧ a < 10
  · simp [h]
  · simp [h]
theorem implFks_ev (l : List Fk) : impl_Trace_ok_1_any.f l = some (!(l.all fkOk)) := by
  unfold impl_Trace_ok_1_any.f
  rw [if_pos (fun x _ => by rw [implFk_ev]; rfl)]
  congr 1
  rw [List.all_eq_not_any_not, Bool.not_not]
  congr 1
  funext x
  rw [implFk_ev]
  rfl
theorem implTr_ev (t : Trc) (h : t.f1.length < 8796093022208) : impl_Trace_ok.f t.f0 t.f1 t.f2 = some (trOk t) := by
  unfold impl_Trace_ok.f trOk
  simp only [isKey_ev, isValue_ev, Option.bind_some, impl_once.f, if_pos h, implFks_ev, Bool.not_not]
  have e : ((onceL t.f1).length : Int) = (t.f1.length : Int) ↔ (onceL t.f1).length = t.f1.length := by omega
  simp only [e]
  by_cases h1 : 0 ≤ t.f0 ∧ t.f0 < 10
  · by_cases h2 : 0 ≤ t.f2 ∧ t.f2 ≤ 96
    · by_cases h3 : (onceL t.f1).length = t.f1.length
      · simp [h1, h2, h3]
      · simp [h1, h2, h3]
    · simp [h1, h2]
  · simp [h1]
def trsOk (l : List Trc) : Bool := decide (l.length ≤ 60) && l.all trOk
theorem implTrs_ev (l : List Trc) (h : ∀ t ∈ l, t.f1.length < 8796093022208) : impl_TracesOk.f l = some (trsOk l) := by
  have h1 : ∀ t ∈ l, impl_TracesOk_1.f t.f0 t.f1 t.f2 = some (!trOk t) := by
    intro t ht
    unfold impl_TracesOk_1.f
    rw [implTr_ev t (h t ht), Option.bind_some]
  have h2 : impl_TracesOk_1_any.f l = some (!(l.all trOk)) := by
    unfold impl_TracesOk_1_any.f
    rw [if_pos (fun x hx => by rw [h1 x hx]; rfl)]
    congr 1
    rw [List.all_eq_not_any_not, Bool.not_not]
    clear h
    induction l with
    | nil => rfl
    | cons t l ih =>
      simp only [List.any_cons]
      rw [h1 t (by simp), ih (fun x hx => h1 x (by simp [hx]))]
      rfl
  unfold impl_TracesOk.f trsOk
  by_cases hl : l.length ≤ 60
  · rw [if_pos (by omega), h2]
    simp [hl]
  · rw [if_neg (by omega)]
    simp [hl]
theorem l5Once_inner (l out : List Fk) (i : Nat) (hi : i < l.length) (hol : out.length ≤ 4000000000) (rest : Ev (fun k => spec_l5Once.l0 k l (onceF out l[i]) (wrap64 ((i : Int) + 1))) (onceL l)) :
    ∀ (d j : Nat) (b : Bool), d = out.length - j → j ≤ out.length → (b || (out.drop j).any fun g => g.f0 == l[i].f0) = (out.any fun g => g.f0 == l[i].f0) → Ev (fun k => spec_l5Once.l1 k l out (i : Int) b (j : Int)) (onceL l) := by
  intro d
  induction d with
  | zero =>
    intro j b hd hj hb
    have e : j = out.length := by omega
    subst e
    rw [List.drop_length, List.any_nil, Bool.or_false] at hb
    refine Ev.step (fun k => by rw [spec_l5Once.l1]) ?_
    simp only [if_neg (show ¬ ((out.length : Int) < (out.length : Int)) by omega)]
    unfold onceF at rest
    cases b with
    | true =>
      rw [if_pos hb.symm] at rest
      simp only [if_true]
      exact rest
    | false =>
      rw [if_neg (by rw [← hb]; decide)] at rest
      simp only [Bool.false_eq_true, if_false, if_pos (show (0 : Int) ≤ (i : Int) by omega), if_pos (show (i : Int) < (l.length : Int) by omega), if_pos (show out.length < 8796093022208 by omega), rd_fk l i hi]
      exact rest
  | succ d ihd =>
    intro j b hd hj hb
    have hlt : j < out.length := by omega
    refine Ev.step (fun k => by rw [spec_l5Once.l1]) ?_
    rw [drop_tk out j hlt, List.any_cons] at hb
    simp only [if_pos (show (j : Int) < (out.length : Int) by omega), wrap_nat j (by omega)]
    cases b with
    | true =>
      simp only [if_true]
      exact ihd (j + 1) true (by omega) (by omega) (by rw [← hb]; simp)
    | false =>
      simp only [Bool.false_eq_true, if_false, if_pos (show (0 : Int) ≤ (j : Int) by omega), if_pos (show (0 : Int) ≤ (i : Int) by omega), if_pos (show (i : Int) < (l.length : Int) by omega), rd_fk l i hi, rd_fk out j hlt]
      exact ihd (j + 1) _ (by omega) (by omega) (by rw [← hb, Bool.false_or])
theorem l5Once_loop (l : List Fk) (hl : l.length ≤ 4000000000) : ∀ (d i : Nat), d = l.length - i → i ≤ l.length → Ev (fun k => spec_l5Once.l0 k l ((l.take i).foldl onceF []) (i : Int)) (onceL l) := by
  intro d
  induction d with
  | zero =>
    intro i hd hi
    have e : i = l.length := by omega
    subst e
    refine Ev.step (fun k => by rw [spec_l5Once.l0]) ?_
    simp only [if_neg (show ¬ ((l.length : Int) < (l.length : Int)) by omega), List.take_length]
    exact Ev.now _
  | succ d ihd =>
    intro i hd hi
    have hlt : i < l.length := by omega
    refine Ev.step (fun k => by rw [spec_l5Once.l0]) ?_
    simp only [if_pos (show (i : Int) < (l.length : Int) by omega)]
    have h := ihd (i + 1) (by omega) (by omega)
    rw [onceL_take l i hlt] at h
    have hol := onceL_len l i (by omega)
    refine l5Once_inner l _ i hlt (by omega) (by rw [wrap_nat i (by omega)]; exact h) _ 0 false rfl (by omega) ?_
    rw [List.drop_zero, Bool.false_or]
theorem l5Once_ev (l : List Fk) (hl : l.length ≤ 4000000000) : Ev (fun k => spec_l5Once.f k l) (onceL l) := by
  unfold spec_l5Once.f
  exact l5Once_loop l hl l.length 0 (by omega) (by omega)
theorem l5One_loop (t : Trc) (hl : t.f1.length ≤ 10) : ∀ (d i : Nat), d = t.f1.length - i → i ≤ t.f1.length → Ev (fun k => spec_l5One.l0 k (i : Int) t.f0 t.f1 t.f2) ((t.f1.drop i).all fkOk && decide ((onceL t.f1).length = t.f1.length)) := by
  intro d
  induction d with
  | zero =>
    intro i hd hi
    have e : i = t.f1.length := by omega
    subst e
    refine Ev.step (fun k => by rw [spec_l5One.l0]) ?_
    simp only [if_neg (show ¬ ((t.f1.length : Int) < (t.f1.length : Int)) by omega), List.drop_length, List.all_nil, Bool.true_and]
    refine Ev.bind (l5Once_ev t.f1 (by omega)) ?_
    refine Ev.of_eq ?_
    congr 1
    rw [Bool.eq_iff_iff]
    simp only [beq_iff_eq, decide_eq_true_eq]
    omega
  | succ d ihd =>
    intro i hd hi
    have hlt : i < t.f1.length := by omega
    refine Ev.step (fun k => by rw [spec_l5One.l0]) ?_
    rw [drop_tk t.f1 i hlt, List.all_cons]
    simp only [if_pos (show (i : Int) < (t.f1.length : Int) by omega), if_pos (show (0 : Int) ≤ (i : Int) by omega), rd_fk t.f1 i hlt, l6In_ev, Option.bind_some, wrap_nat i (by omega)]
    have e9 : (0 ≤ t.f1[i].f0 ∧ t.f1[i].f0 ≤ 9) ↔ (0 ≤ t.f1[i].f0 ∧ t.f1[i].f0 < 10) := by omega
    simp only [fkOk, decide_eq_true_eq, e9]
    by_cases h1 : 0 ≤ t.f1[i].f0 ∧ t.f1[i].f0 < 10
    · by_cases h2 : 0 ≤ t.f1[i].f1 ∧ t.f1[i].f1 ≤ 96
      · simp only [if_pos h1, if_pos h2, decide_eq_true h1, decide_eq_true h2, Bool.true_and]
        exact ihd (i + 1) (by omega) (by omega)
      · simp only [if_pos h1, if_neg h2, decide_eq_true h1, decide_eq_false h2, Bool.and_false, Bool.false_and]
        exact Ev.now false
    · simp only [if_neg h1, decide_eq_false h1, Bool.false_and]
      exact Ev.now false
theorem l5One_ev (t : Trc) : Ev (fun k => spec_l5One.f k t.f0 t.f1 t.f2) (trOk t) := by
  unfold spec_l5One.f
  have bad : Ev (fun k => spec_l5One.j0 k true t.f0 t.f1 t.f2) false := by
    refine Ev.step (fun k => by rw [spec_l5One.j0]) ?_
    simp only [if_true]
    exact Ev.now false
  by_cases hl : t.f1.length ≤ 10
  · simp only [if_neg (show ¬ ((t.f1.length : Int) > 10) by omega), l6In_ev, Option.bind_some]
    have e9 : (0 ≤ t.f0 ∧ t.f0 ≤ 9) ↔ (0 ≤ t.f0 ∧ t.f0 < 10) := by omega
    simp only [decide_eq_true_eq, e9]
    by_cases h1 : 0 ≤ t.f0 ∧ t.f0 < 10
    · simp only [if_pos h1]
      refine Ev.step (fun k => by rw [spec_l5One.j0]) ?_
      by_cases h2 : 0 ≤ t.f2 ∧ t.f2 ≤ 96
      · simp only [decide_eq_true h2, Bool.not_true, Bool.false_eq_true, if_false]
        refine Ev.eq (l5One_loop t hl t.f1.length 0 (by omega) (by omega)) ?_
        rw [List.drop_zero, trOk, decide_eq_true h1, decide_eq_true h2, Bool.and_comm]
        simp
      · simp only [decide_eq_false h2, Bool.not_false, if_true]
        exact Ev.eq (Ev.now false) (by rw [trOk, decide_eq_false h2]; simp)
    · simp only [if_neg h1]
      exact Ev.eq bad (by rw [trOk, decide_eq_false h1]; simp)
  · simp only [if_pos (show ((t.f1.length : Int) > 10) by omega)]
    refine Ev.eq bad ?_
    cases h : trOk t with
    | false => rfl
    | true => exact absurd (trOk_len h) hl
theorem specTrs_loop (l : List Trc) (hl : l.length ≤ 60) : ∀ (d i : Nat), d = l.length - i → i ≤ l.length → Ev (fun k => spec_TracesOk.l0 k l (i : Int)) ((l.drop i).all trOk) := by
  intro d
  induction d with
  | zero =>
    intro i hd hi
    have e : i = l.length := by omega
    subst e
    refine Ev.step (fun k => by rw [spec_TracesOk.l0]) ?_
    simp only [if_neg (show ¬ ((l.length : Int) < (l.length : Int)) by omega), List.drop_length, List.all_nil]
    exact Ev.now true
  | succ d ihd =>
    intro i hd hi
    have hlt : i < l.length := by omega
    refine Ev.step (fun k => by rw [spec_TracesOk.l0]) ?_
    rw [drop_tk l i hlt, List.all_cons]
    simp only [if_pos (show (i : Int) < (l.length : Int) by omega), if_pos (show (0 : Int) ≤ (i : Int) by omega), rd_trc l i hlt]
    refine Ev.bind (l5One_ev _) ?_
    cases h : trOk l[i] with
    | true =>
      simp only [if_true, Bool.true_and, wrap_nat i (by omega)]
      exact ihd (i + 1) (by omega) (by omega)
    | false =>
      simp only [Bool.false_eq_true, if_false, Bool.false_and]
      exact Ev.now false
theorem specTrs_ev (l : List Trc) : Ev (fun k => spec_TracesOk.f k l) (trsOk l) := by
  unfold spec_TracesOk.f trsOk
  by_cases hl : l.length ≤ 60
  · simp only [if_neg (show ¬ ((l.length : Int) > 60) by omega), decide_eq_true hl, Bool.true_and]
    exact specTrs_loop l hl l.length 0 (by omega) (by omega)
  · simp only [if_pos (show ((l.length : Int) > 60) by omega), decide_eq_false hl, Bool.false_and]
    exact Ev.now false
abbrev Lf := S165
abbrev Ltr := S81
theorem rd_lf (l : List Lf) (i : Nat) (h : i < l.length) : rd_T165 l (i : Int) = l[i] := by
  simp only [rd_T165, Int.toNat_natCast, List.getD_eq_getElem?_getD, List.getElem?_eq_getElem h, Option.getD_some]
theorem rd_ltr (l : List Ltr) (i : Nat) (h : i < l.length) : rd_T81 l (i : Int) = l[i] := by
  simp only [rd_T81, Int.toNat_natCast, List.getD_eq_getElem?_getD, List.getElem?_eq_getElem h, Option.getD_some]
def cvF (f : Lf) : Fk := ⟨f.f0, f.f1⟩
def cvTr (t : Ltr) : Trc := ⟨t.f0, t.f1.map cvF, t.f2⟩
def szTrs (l : List Ltr) : Nat := l.length + sumL (fun t => t.f1.length) l
theorem szFs_ev (l : List Lf) (hl : l.length ≤ 9223372036854775807) (left : Int) (h0 : 0 ≤ left) (h1 : left ≤ 1048576) : laws_szFetchS.f l left = some (leftOf l.length left) := by
  unfold laws_szFetchS.f
  simp only [wrap_id (left - (l.length : Int)) (by omega) (by omega)]
  by_cases hc : left - (l.length : Int) < 0
  · simp only [if_pos hc]; rw [leftOf_no (by omega)]
  · simp only [if_neg hc]; rw [leftOf_yes (by omega)]
theorem szTr_ev (t : Ltr) (hl : t.f1.length ≤ 9223372036854775807) (left : Int) (h0 : 0 ≤ left) (h1 : left ≤ 1048576) : laws_szTrace.f t.f0 t.f1 t.f2 left = some (leftOf t.f1.length left) := by
  unfold laws_szTrace.f
  rw [szFs_ev t.f1 hl left h0 h1, Option.bind_some]
  by_cases hc : leftOf t.f1.length left < 0
  · rw [if_pos hc, leftOf_no ((leftOf_neg h0).1 hc)]
  · rw [if_neg hc]
theorem szTrs_ev (l : List Ltr) (hl : l.length ≤ 9223372036854775807) (hb : ∀ t ∈ l, t.f1.length ≤ 9223372036854775807) (left : Int) (h0 : 0 ≤ left) (h1 : left ≤ 1048576) :
    Ev (fun k => laws_szTraceS.f k l left) (leftOf (szTrs l) left) := by
  unfold laws_szTraceS.f
  simp only [wrap_id (left - (l.length : Int)) (by omega) (by omega)]
  by_cases hc : left - (l.length : Int) < 0
  · simp only [if_pos hc]
    exact Ev.eq (Ev.now (-1)) (leftOf_no (by unfold szTrs; omega)).symm
  · simp only [if_neg hc]
    have h := szLoop l (fun k lf i => laws_szTraceS.l0 k l lf i) (fun _ t lf => laws_szTrace.f t.f0 t.f1 t.f2 lf) (fun t => t.f1.length)
      (fun k lf => by simp only [laws_szTraceS.l0, if_neg (show ¬ ((l.length : Int) < (l.length : Int)) by omega)])
      (fun k lf i hi => by simp only [laws_szTraceS.l0, if_pos (show (i : Int) < (l.length : Int) by omega), if_pos (show (0 : Int) ≤ (i : Int) by omega), rd_ltr l i hi, wrap_nat i (by omega)])
      (fun t ht lf g0 g1 => Ev.of_eq (szTr_ev t (hb t ht) lf g0 g1))
      l.length 0 (left - l.length) (by omega) (by omega) (by omega) (by omega)
    refine Ev.eq h ?_
    rw [List.drop_zero]
    exact leftOf_add (by omega)
theorem toFs_ev (l : List Lf) (hl : l.length ≤ 1048576) : Ev (fun k => laws_toFetchS.f k l) (l.map cvF) := by
  unfold laws_toFetchS.f
  simp only [if_pos (show (0 : Int) ≤ (l.length : Int) by omega), Int.toNat_natCast, if_pos (show l.length ≤ 17592186044416 by omega)]
  refine toLoop l (fun k out i => laws_toFetchS.l0 k l out i) (fun _ f => laws_toFetch.f f.f0 f.f1) (fun c => (⟨c.1, c.2⟩ : Fk)) cvF z117
    (fun k out => by simp only [laws_toFetchS.l0, if_neg (show ¬ ((l.length : Int) < (l.length : Int)) by omega)])
    (fun k out i hi ho => by simp only [laws_toFetchS.l0, ho, if_pos (show (i : Int) < (l.length : Int) by omega), if_pos (show (0 : Int) ≤ (i : Int) by omega), rd_lf l i hi, wrap_nat i (by omega), Int.toNat_natCast])
    (fun f hf => ⟨(f.f0, f.f1), Ev.of_eq rfl, rfl⟩)
theorem toTr_ev (t : Ltr) (hl : t.f1.length ≤ 1048576) : Ev (fun k => laws_toTrace.f k t.f0 t.f1 t.f2) (t.f0, t.f1.map cvF, t.f2) := by
  unfold laws_toTrace.f
  exact Ev.bind (toFs_ev t.f1 hl) (Ev.now _)
theorem toTrs_ev (l : List Ltr) (hl : szTrs l ≤ 1048576) : Ev (fun k => laws_toTraceS.f k l) (l.map cvTr) := by
  unfold szTrs at hl
  unfold laws_toTraceS.f
  simp only [if_pos (show (0 : Int) ≤ (l.length : Int) by omega), Int.toNat_natCast, if_pos (show l.length ≤ 7036874417766 by omega)]
  refine toLoop l (fun k out i => laws_toTraceS.l0 k l out i) (fun k t => laws_toTrace.f k t.f0 t.f1 t.f2) (fun c => (⟨c.1, c.2.1, c.2.2⟩ : Trc)) cvTr z87
    (fun k out => by simp only [laws_toTraceS.l0, if_neg (show ¬ ((l.length : Int) < (l.length : Int)) by omega)])
    (fun k out i hi ho => by simp only [laws_toTraceS.l0, ho, if_pos (show (i : Int) < (l.length : Int) by omega), if_pos (show (0 : Int) ≤ (i : Int) by omega), rd_ltr l i hi, wrap_nat i (by omega), Int.toNat_natCast])
    (fun t ht => ⟨_, toTr_ev t (by have := sumL_mem (fun t : Ltr => t.f1.length) t ht; (try dsimp only at this); omega), rfl⟩)
theorem eqFs_ev (l : List Fk) (hl : l.length ≤ 4000000000) : Ev (fun k => laws_eqFetchS.f k l l) true := by
  unfold laws_eqFetchS.f
  simp only [if_true]
  exact eqLoop l (fun k i => laws_eqFetchS.l0 k l l i) (fun _ f => laws_eqFetch.f f.f0 f.f1 f.f0 f.f1)
    (fun k => by simp only [laws_eqFetchS.l0, if_neg (show ¬ ((l.length : Int) < (l.length : Int)) by omega)])
    (fun k i hi => by simp only [laws_eqFetchS.l0, if_pos (show (i : Int) < (l.length : Int) by omega), if_pos (show (0 : Int) ≤ (i : Int) by omega), rd_fk l i hi, wrap_nat i (by omega)])
    (fun f hf => Ev.of_eq (by simp [laws_eqFetch.f]))
theorem eqTr_ev (t : Trc) (hl : t.f1.length ≤ 4000000000) : Ev (fun k => laws_eqTrace.f k t.f0 t.f1 t.f2 t.f0 t.f1 t.f2) true := by
  unfold laws_eqTrace.f
  simp only [if_true]
  refine Ev.bind (eqFs_ev t.f1 hl) ?_
  simp only [if_true]
  exact Ev.now true
theorem eqTrs_ev (l : List Trc) (hl : l.length ≤ 4000000000) (hb : ∀ t ∈ l, t.f1.length ≤ 4000000000) : Ev (fun k => laws_eqTraceS.f k l l) true := by
  unfold laws_eqTraceS.f
  simp only [if_true]
  exact eqLoop l (fun k i => laws_eqTraceS.l0 k l l i) (fun k t => laws_eqTrace.f k t.f0 t.f1 t.f2 t.f0 t.f1 t.f2)
    (fun k => by simp only [laws_eqTraceS.l0, if_neg (show ¬ ((l.length : Int) < (l.length : Int)) by omega)])
    (fun k i hi => by simp only [laws_eqTraceS.l0, if_pos (show (i : Int) < (l.length : Int) by omega), if_pos (show (0 : Int) ≤ (i : Int) by omega), rd_trc l i hi, wrap_nat i (by omega)])
    (fun t ht => eqTr_ev t (hb t ht))
theorem cvTrs_len {l : List Ltr} (hl : szTrs l ≤ 1048576) : ∀ t ∈ l.map cvTr, t.f1.length ≤ 1048576 := by
  intro t ht
  obtain ⟨u, hu, rfl⟩ := List.mem_map.1 ht
  have := sumL_mem (fun t : Ltr => t.f1.length) u hu
  (try dsimp only at this)
  unfold szTrs at hl
  simp only [cvTr, List.length_map]
  omega
def rowsOk : List Bool → List Tk → Bool
  | m :: ms, t :: ts => (okT t && (m || ((t.f0 == 0) && (t.f1 == 0)))) && rowsOk ms ts
  | _, _ => true
def sheetOk (made : List Bool) (tasks : List Tk) : Bool := (decide (made.length = tasks.length) && decide (made.length ≤ 10)) && rowsOk made tasks
theorem rd_bool (l : List Bool) (i : Nat) (h : i < l.length) : rdOf false l (i : Int) = l[i] := by
  simp only [rdOf, Int.toNat_natCast, List.getD_eq_getElem?_getD, List.getElem?_eq_getElem h, Option.getD_some]
theorem sheetOk_len {made : List Bool} {tasks : List Tk} (h : sheetOk made tasks = true) : made.length = tasks.length ∧ made.length ≤ 10 := by
  simp only [sheetOk, Bool.and_eq_true, decide_eq_true_eq] at h
  exact h.1
theorem rowsOk_at : ∀ {made : List Bool} {tasks : List Tk}, rowsOk made tasks = true → ∀ i (h1 : i < made.length) (h2 : i < tasks.length), okT tasks[i] = true ∧ (made[i] = false → tasks[i].f0 = 0 ∧ tasks[i].f1 = 0)
  | m :: ms, t :: ts, h, 0, _, _ => by
    simp only [rowsOk, Bool.and_eq_true, Bool.or_eq_true, beq_iff_eq] at h
    refine ⟨h.1.1, fun hm => ?_⟩
    simp only [List.getElem_cons_zero] at hm ⊢
    rcases h.1.2 with h2 | h2
    · rw [hm] at h2; cases h2
    · exact h2
  | m :: ms, t :: ts, h, i + 1, h1, h2 => by
    simp only [rowsOk, Bool.and_eq_true] at h
    simp only [List.getElem_cons_succ]
    exact rowsOk_at h.2 i (by simpa using h1) (by simpa using h2)
  | [], _, _, i, h1, _ => by simp at h1
  | _ :: _, [], _, i, _, h2 => by simp at h2
theorem sheetOk_at {made : List Bool} {tasks : List Tk} (h : sheetOk made tasks = true) : ∀ i (h1 : i < made.length) (h2 : i < tasks.length), okT tasks[i] = true ∧ (made[i] = false → tasks[i].f0 = 0 ∧ tasks[i].f1 = 0) := by
  simp only [sheetOk, Bool.and_eq_true] at h
  exact rowsOk_at h.2
theorem sheetOk_mem {made : List Bool} {tasks : List Tk} (h : sheetOk made tasks = true) : ∀ t ∈ tasks, okT t = true := by
  intro t ht
  obtain ⟨i, hi, rfl⟩ := List.mem_iff_getElem.1 ht
  exact (sheetOk_at h i (by have := sheetOk_len h; omega) hi).1
theorem implSheet_loop (made : List Bool) (tasks : List Tk) (he : made.length = tasks.length) (hl : made.length ≤ 10) :
    ∀ (d i : Nat), d = tasks.length - i → i ≤ tasks.length → Ev (fun k => impl_SheetOk.l0 k tasks (tasks.length : Int) (i : Int) made tasks) (rowsOk (made.drop i) (tasks.drop i)) := by
  intro d
  induction d with
  | zero =>
    intro i hd hi
    have e : i = tasks.length := by omega
    subst e
    refine Ev.step (fun k => by rw [impl_SheetOk.l0]) ?_
    simp only [if_neg (show ¬ ((tasks.length : Int) < (tasks.length : Int)) by omega), List.drop_length]
    exact Ev.eq (Ev.now true) (by unfold rowsOk; split <;> simp_all)
  | succ d ihd =>
    intro i hd hi
    have hlt : i < tasks.length := by omega
    have hlm : i < made.length := by omega
    rw [drop_tk made i hlm, drop_tk tasks i hlt, rowsOk]
    refine Ev.step (fun k => by rw [impl_SheetOk.l0]) ?_
    simp only [if_pos (show (i : Int) < (tasks.length : Int) by omega), if_pos (show (0 : Int) ≤ (i : Int) by omega), if_pos (show (i : Int) < (made.length : Int) by omega), rd_tk tasks i hlt, rd_bool made i hlm]
    refine Ev.bind (implOk_ev _) ?_
    have hn := ihd (i + 1) (by omega) (by omega)
    cases h : okT tasks[i] with
    | false =>
      simp only [Bool.false_eq_true, if_false, Bool.false_and]
      exact Ev.now false
    | true =>
      cases hm : made[i] with
      | true =>
        simp only [if_true, Bool.true_and, Bool.true_or, wrap_nat i (by omega)]
        exact hn
      | false =>
        simp only [if_true, Bool.true_and, Bool.false_or, Bool.false_eq_true, if_false, wrap_nat i (by omega)]
        by_cases h0 : tasks[i].f0 = 0
        · by_cases h1 : tasks[i].f1 = 0
          · simp only [h0, h1, if_true, beq_self_eq_true, Bool.true_and]
            exact hn
          · simp only [h0, h1, if_true, if_false, beq_self_eq_true, beq_eq_false_iff_ne.mpr h1, Bool.true_and, Bool.and_false, Bool.false_and]
            exact Ev.now false
        · simp only [h0, if_false, beq_eq_false_iff_ne.mpr h0, Bool.false_and]
          exact Ev.now false
theorem implSheet_ev (made : List Bool) (tasks : List Tk) : Ev (fun k => impl_SheetOk.f k made tasks) (sheetOk made tasks) := by
  unfold impl_SheetOk.f
  by_cases he : made.length = tasks.length
  · simp only [if_pos (show (made.length : Int) = (tasks.length : Int) by omega)]
    refine Ev.step (fun k => by rw [impl_SheetOk.j0]) ?_
    by_cases hl : made.length ≤ 10
    · simp only [decide_eq_false (show ¬ ((made.length : Int) > 10) by omega), Bool.false_eq_true, if_false]
      refine Ev.eq (implSheet_loop made tasks he hl tasks.length 0 (by omega) (by omega)) ?_
      rw [List.drop_zero, List.drop_zero, sheetOk, decide_eq_true he, decide_eq_true hl]
      simp
    · simp only [decide_eq_true (show ((made.length : Int) > 10) by omega), if_true]
      exact Ev.eq (Ev.now false) (by rw [sheetOk, decide_eq_false hl]; simp)
  · simp only [if_neg (show ¬ ((made.length : Int) = (tasks.length : Int)) by omega)]
    refine Ev.step (fun k => by rw [impl_SheetOk.j0]) ?_
    simp only [if_true]
    exact Ev.eq (Ev.now false) (by rw [sheetOk, decide_eq_false he]; simp)
theorem specSheet_loop (made : List Bool) (tasks : List Tk) (he : made.length = tasks.length) (hl : made.length ≤ 10) (hb : ∀ t ∈ tasks, (nodT t : Int) ≤ 4000000000) :
    ∀ (d i : Nat), d = made.length - i → i ≤ made.length → Ev (fun k => spec_SheetOk.l0 k (i : Int) made tasks) (rowsOk (made.drop i) (tasks.drop i)) := by
  intro d
  induction d with
  | zero =>
    intro i hd hi
    have e : i = made.length := by omega
    subst e
    refine Ev.step (fun k => by rw [spec_SheetOk.l0]) ?_
    simp only [if_neg (show ¬ ((made.length : Int) < (made.length : Int)) by omega), List.drop_length]
    exact Ev.eq (Ev.now true) (by unfold rowsOk; rfl)
  | succ d ihd =>
    intro i hd hi
    have hlt : i < tasks.length := by omega
    have hlm : i < made.length := by omega
    rw [drop_tk made i hlm, drop_tk tasks i hlt, rowsOk]
    refine Ev.step (fun k => by rw [spec_SheetOk.l0]) ?_
    simp only [if_pos (show (i : Int) < (tasks.length : Int) by omega), if_pos (show (0 : Int) ≤ (i : Int) by omega), if_pos (show (i : Int) < (made.length : Int) by omega), rd_tk tasks i hlt, rd_bool made i hlm]
    refine Ev.bind (specOk_ev _ (hb _ (List.getElem_mem hlt))) ?_
    have hn := ihd (i + 1) (by omega) (by omega)
    cases h : okT tasks[i] with
    | false =>
      simp only [Bool.false_eq_true, if_false, Bool.false_and]
      exact Ev.now false
    | true =>
      cases hm : made[i] with
      | true =>
        simp only [if_true, Bool.true_and, Bool.true_or, wrap_nat i (by omega)]
        exact hn
      | false =>
        simp only [if_true, Bool.true_and, Bool.false_or, Bool.false_eq_true, if_false, wrap_nat i (by omega)]
        by_cases h0 : tasks[i].f0 = 0
        · by_cases h1 : tasks[i].f1 = 0
          · simp only [h0, h1, if_true, beq_self_eq_true, Bool.true_and]
            exact hn
          · simp only [h0, h1, if_true, if_false, beq_self_eq_true, beq_eq_false_iff_ne.mpr h1, Bool.true_and, Bool.and_false, Bool.false_and]
            exact Ev.now false
        · simp only [h0, if_false, beq_eq_false_iff_ne.mpr h0, Bool.false_and]
          exact Ev.now false
theorem specSheet_ev (made : List Bool) (tasks : List Tk) (hb : ∀ t ∈ tasks, (nodT t : Int) ≤ 4000000000) : Ev (fun k => spec_SheetOk.f k made tasks) (sheetOk made tasks) := by
  unfold spec_SheetOk.f
  by_cases he : made.length = tasks.length
  · simp only [if_pos (show (made.length : Int) = (tasks.length : Int) by omega)]
    refine Ev.step (fun k => by rw [spec_SheetOk.j0]) ?_
    by_cases hl : made.length ≤ 10
    · simp only [decide_eq_false (show ¬ ((made.length : Int) > 10) by omega), Bool.false_eq_true, if_false]
      refine Ev.eq (specSheet_loop made tasks he hl hb made.length 0 (by omega) (by omega)) ?_
      rw [List.drop_zero, List.drop_zero, sheetOk, decide_eq_true he, decide_eq_true hl]
      simp
    · simp only [decide_eq_true (show ((made.length : Int) > 10) by omega), if_true]
      exact Ev.eq (Ev.now false) (by rw [sheetOk, decide_eq_false hl]; simp)
  · simp only [if_neg (show ¬ ((made.length : Int) = (tasks.length : Int)) by omega)]
    refine Ev.step (fun k => by rw [spec_SheetOk.j0]) ?_
    simp only [if_true]
    exact Ev.eq (Ev.now false) (by rw [sheetOk, decide_eq_false he]; simp)
theorem szB_ev (l : List Bool) (hlen : l.length ≤ 9223372036854775807) (left : Int) (h0 : 0 ≤ left) (h1 : left ≤ 1048576) : laws_szBoolS.f l left = some (leftOf l.length left) := by
  unfold laws_szBoolS.f
  rw [wrap_id (left - (l.length : Int)) (by omega) (by omega)]
  by_cases hc : (l.length : Int) ≤ left
  · rw [if_neg (by omega), leftOf_yes hc]
  · rw [if_pos (by omega), leftOf_no hc]
def szSh (made : List Bool) (tasks : List Lk) : Nat := made.length + (tasks.length + szC tasks)
theorem szSheet_ev (made : List Bool) (tasks : List Lk) (hm : made.length ≤ 9223372036854775807) (hlen : tasks.length ≤ 9223372036854775807) (hbd : bdL tasks) (left : Int) (h0 : 0 ≤ left) (h1 : left ≤ 1048576) :
    Ev (fun k => laws_szSheet.f k made tasks left) (leftOf (szSh made tasks) left) := by
  unfold laws_szSheet.f
  simp only [szB_ev made hm left h0 h1, Option.bind_some]
  unfold szSh
  by_cases hc : (made.length : Int) ≤ left
  · rw [leftOf_yes hc]
    simp only [if_neg (show ¬ (left - (made.length : Int) < 0) by omega)]
    refine Ev.bind (szL_ev tasks hlen hbd (left - made.length) (by omega) (by omega)) ?_
    rw [leftOf_add hc]
    by_cases hn : leftOf (made.length + (tasks.length + szC tasks)) left < 0
    · simp only [if_pos hn]
      rw [leftOf_no ((leftOf_neg h0).1 hn)]
      exact Ev.now _
    · simp only [if_neg hn]
      exact Ev.now _
  · rw [leftOf_no hc]
    simp only [if_pos (show (-1 : Int) < 0 by omega)]
    exact Ev.eq (Ev.now (-1)) (leftOf_no (by omega)).symm
theorem toB_ev (l : List Bool) (hb : l.length ≤ 1048576) : Ev (fun k => laws_toBoolS.f k l) l := by
  have loop : ∀ (d i : Nat), d = l.length - i → i ≤ l.length → Ev (fun k => laws_toBoolS.l0 k l (l.take i ++ List.replicate (l.length - i) false) (i : Int)) l := by
    intro d
    induction d with
    | zero =>
      intro i hd hi
      have e : i = l.length := by omega
      subst e
      refine Ev.step (fun k => by rw [laws_toBoolS.l0]) ?_
      simp only [if_neg (show ¬ ((l.length : Int) < (l.length : Int)) by omega), Nat.sub_self, List.replicate_zero, List.append_nil, List.take_length]
      exact Ev.now _
    | succ d ihd =>
      intro i hd hi
      have hlt : i < l.length := by omega
      have hl : (l.take i ++ List.replicate (l.length - i) false).length = l.length := by simp; omega
      refine Ev.step (fun k => by rw [laws_toBoolS.l0]) ?_
      simp only [if_pos (show (i : Int) < (l.length : Int) by omega), if_pos (show (0 : Int) ≤ (i : Int) by omega), rd_bool l i hlt, hl]
      simp only [wrap_nat i (by omega), Int.toNat_natCast]
      have e : (l.take i ++ List.replicate (l.length - i) false).set i l[i] = l.take (i + 1) ++ List.replicate (l.length - (i + 1)) false := by
        rw [List.set_append_right _ _ (by rw [jA]; omega), jA, Nat.min_eq_left (by omega), Nat.sub_self]
        rw [show l.length - i = (l.length - (i + 1)) + 1 by omega, List.replicate_succ, qU, List.take_succ_eq_append_getElem hlt, List.append_assoc, List.singleton_append]
      rw [e]
      exact ihd (i + 1) (by omega) (by omega)
  unfold laws_toBoolS.f
  simp only [if_pos (show (0 : Int) ≤ (l.length : Int) by omega), Int.toNat_natCast, if_pos (show l.length ≤ 281474976710656 by omega)]
  have h := loop l.length 0 (by omega) (by omega)
  simp only [List.take_zero, List.nil_append, Nat.sub_zero, Int.natCast_zero, Int.ofNat_zero] at h
  exact h
theorem toSheet_ev (made : List Bool) (tasks : List Lk) (hb : szSh made tasks ≤ 1048576) : Ev (fun k => laws_toSheet.f k made tasks) (made, cvL tasks) := by
  unfold szSh at hb
  unfold laws_toSheet.f
  refine Ev.bind (toB_ev made (by omega)) ?_
  refine Ev.bind (toL_ev tasks (by omega)) ?_
  exact Ev.now _
theorem eqB_ev (l : List Bool) (hb : l.length ≤ 4000000000) : Ev (fun k => laws_eqBoolS.f k l l) true := by
  have loop : ∀ (d i : Nat), d = l.length - i → i ≤ l.length → Ev (fun k => laws_eqBoolS.l0 k l l (i : Int)) true := by
    intro d
    induction d with
    | zero =>
      intro i hd hi
      have e : i = l.length := by omega
      subst e
      refine Ev.step (fun k => by rw [laws_eqBoolS.l0]) ?_
      simp only [if_neg (show ¬ ((l.length : Int) < (l.length : Int)) by omega)]
      exact Ev.now true
    | succ d ihd =>
      intro i hd hi
      have hlt : i < l.length := by omega
      refine Ev.step (fun k => by rw [laws_eqBoolS.l0]) ?_
      simp only [if_pos (show (i : Int) < (l.length : Int) by omega), if_pos (show (0 : Int) ≤ (i : Int) by omega), bne_self_eq_false, Bool.false_eq_true, if_false, wrap_nat i (by omega)]
      exact ihd (i + 1) (by omega) (by omega)
  unfold laws_eqBoolS.f
  simp only [if_true]
  exact loop l.length 0 (by omega) (by omega)
theorem eqSheet_ev (made : List Bool) (tasks : List Tk) (hm : made.length ≤ 4000000000) (hb : nodL tasks ≤ 4000000000) : Ev (fun k => laws_eqSheet.f k made tasks made tasks) true := by
  unfold laws_eqSheet.f
  refine Ev.bind (eqB_ev made hm) ?_
  simp only [if_true]
  refine Ev.bind (eqL_ev tasks hb) ?_
  simp only [if_true]
  exact Ev.now true
theorem nod_le_of_szSh {made : List Bool} {tasks : List Lk} (hb : szSh made tasks ≤ 1048576) : nodL (cvL tasks) ≤ 1048576 := by
  unfold szSh at hb
  rw [nodL_cv]
  omega
theorem nod_mem_of_szSh {made : List Bool} {tasks : List Lk} (hb : szSh made tasks ≤ 1048576) : ∀ t ∈ cvL tasks, (nodT t : Int) ≤ 4000000000 := by
  intro t ht
  have h1 := nod_le_of_szSh hb
  have h2 := nodL_mem t ht
  omega
def valsOkF (l : List Int) : Bool := decide (l.length ≤ 10) && l.all isVal
theorem implValsF_ev (l : List Int) : impl_valuesOk.f l = some (valsOkF l) := by
  unfold impl_valuesOk.f valsOkF impl_areValues.f
  by_cases h : l.length ≤ 10
  · rw [if_pos (by omega)]; simp [h]
  · rw [if_neg (by omega)]; simp [h]
theorem l2OfR_ev (l : List Int) (k : Int) (h : 0 ≤ k) : spec_l2Of.f l k = some (atV l k) := by
  unfold spec_l2Of.f atV
  by_cases h2 : k < (l.length : Int)
  · rw [if_pos h2, if_pos h, if_pos ⟨h, h2⟩]
  · rw [if_neg h2, if_neg (by omega)]
def Rep (D : List Int → Int → Int → TR) (x : Int) (fs : List Fk) : Prop :=
  (∀ (pre post : List Int) (lk : Int), D (pre ++ (fs.map (·.f1) ++ post)) (pre.length : Int) lk = (x, true, ((pre.length + fs.length : Nat) : Int), lk)) ∧
  (∀ (pre : List Int) (m : Nat) (f : Fk) (lk : Int), fs[m]? = some f → D (pre ++ (fs.map (·.f1)).take m) (pre.length : Int) lk = (0, false, ((pre.length + m : Nat) : Int), f.f0))
theorem rep_get (n x : Int) : Rep (fun got a lk => getT got a lk n) x [⟨n, x⟩] := by
  refine ⟨fun pre post lk => ?_, fun pre m f lk hf => ?_⟩
  · have e : rd (pre ++ ([(⟨n, x⟩ : Fk)].map (·.f1) ++ post)) (pre.length : Int) = x := by
      simp [rd, List.getD_eq_getElem?_getD]
    show getT (pre ++ ([(⟨n, x⟩ : Fk)].map (·.f1) ++ post)) (pre.length : Int) lk n = _
    unfold getT
    rw [if_neg (by simp only [List.length_append, jD, jE, List.length_cons, List.length_nil]; omega), e]
    rfl
  · match m, hf with
    | 0, hf =>
      simp only [List.getElem?_cons_zero, Option.some.injEq] at hf
      subst hf
      unfold getT
      simp
    | m + 1, hf => simp at hf
theorem rep_pure (x : Int) : Rep (fun _ a lk => (x, true, a, lk)) x [] := ⟨fun pre post lk => rfl, fun pre m f lk hf => by simp at hf⟩
theorem rep_seq {D : List Int → Int → Int → TR} {E : List Int → Int → Int → Int → TR} {v u : Int} {fs gs : List Fk} (h : Rep D v fs) (g : Rep (fun got a lk => E got v a lk) u gs) : Rep (fun got a lk => seqT (D got a lk) (E got)) u (fs ++ gs) := by
  refine ⟨fun pre post lk => ?_, fun pre m f lk hf => ?_⟩
  · have e1 := h.1 pre (gs.map (·.f1) ++ post) lk
    have e2 := g.1 (pre ++ fs.map (·.f1)) post lk
    simp only at e2
    rw [List.map_append, List.append_assoc]
    simp only [e1, seqT, if_true]
    rw [show pre ++ (fs.map (·.f1) ++ (gs.map (·.f1) ++ post)) = (pre ++ fs.map (·.f1)) ++ (gs.map (·.f1) ++ post) by simp]
    rw [show ((pre.length + fs.length : Nat) : Int) = ((pre ++ fs.map (·.f1)).length : Int) by simp, e2]
    simp only [List.length_append, List.length_map]
    rw [Nat.add_assoc]
  · rw [List.map_append]
    by_cases hm : m < fs.length
    · rw [List.getElem?_append_left hm] at hf
      rw [List.take_append_of_le_length (by rw [List.length_map]; omega)]
      simp only [h.2 pre m f lk hf, seqT, Bool.false_eq_true, if_false]
    · rw [List.getElem?_append_right (by omega)] at hf
      have e0 : (fs.map (·.f1) ++ gs.map (·.f1)).take m = fs.map (·.f1) ++ (gs.map (·.f1)).take (m - fs.length) := by
        rw [List.take_append, List.length_map, List.take_of_length_le (by rw [List.length_map]; omega)]
      rw [e0]
      have e1 := h.1 pre ((gs.map (·.f1)).take (m - fs.length)) lk
      have e2 := g.2 (pre ++ fs.map (·.f1)) (m - fs.length) f lk hf
      simp only at e2
      simp only [e1, seqT, if_true]
      rw [← List.append_assoc]
      rw [show ((pre.length + fs.length : Nat) : Int) = ((pre ++ fs.map (·.f1)).length : Int) by simp, e2]
      simp only [List.length_append, List.length_map]
      rw [show pre.length + fs.length + (m - fs.length) = pre.length + m by omega]
theorem rep_congr {D D' : List Int → Int → Int → TR} {x : Int} {fs : List Fk} (h : Rep D x fs) (e : D' = D) : Rep D' x fs := e ▸ h
theorem rep_doT (vs : List Int) {t : Tk} (h : Fits t) : Rep (fun got a lk => doT got t a lk) (runT vs t).1 (runT vs t).2 := by
  induction h with
  | num n h0 h1 => rw [runT_num]; exact rep_congr (rep_pure n) (by funext got a lk; exact doT_num got n a lk)
  | get n h0 h1 => rw [runT_get]; exact rep_congr (rep_get n _) (by funext got a lk; exact doT_get got n a lk)
  | add x y _ _ ihx ihy =>
    rw [runT_add]
    have h := rep_seq (E := fun got v a lk => seqT (doT got y a lk) fun u a lk => ((v + u) % 97, true, a, lk)) ihx (rep_seq (E := fun got u a lk => (((runT vs x).1 + u) % 97, true, a, lk)) ihy (rep_pure _))
    rw [List.append_nil] at h
    exact rep_congr h (by funext got a lk; exact doT_add got x y a lk)
  | mul x y _ _ ihx ihy =>
    rw [runT_mul]
    have h := rep_seq (E := fun got v a lk => seqT (doT got y a lk) fun u a lk => ((v * u) % 97, true, a, lk)) ihx (rep_seq (E := fun got u a lk => (((runT vs x).1 * u) % 97, true, a, lk)) ihy (rep_pure _))
    rw [List.append_nil] at h
    exact rep_congr h (by funext got a lk; exact doT_mul got x y a lk)
  | iff x y z _ _ _ ihx ihy ihz =>
    by_cases hv : (runT vs x).1 = 0
    · rw [runT_if0 vs x y z hv]
      have h := rep_seq (E := fun got v a lk => if v = 0 then doT got z a lk else doT got y a lk) ihx (rep_congr ihz (by funext got a lk; rw [if_pos hv]))
      exact rep_congr h (by funext got a lk; exact doT_if got x y z a lk)
    · rw [runT_if1 vs x y z hv]
      have h := rep_seq (E := fun got v a lk => if v = 0 then doT got z a lk else doT got y a lk) ihx (rep_congr ihy (by funext got a lk; rw [if_neg hv]))
      exact rep_congr h (by funext got a lk; exact doT_if got x y z a lk)
  | «at» n h0 h1 x _ ihx =>
    rw [runT_at]
    have h := rep_seq (E := fun got v a lk => getT got a lk ((n + v) % 10)) ihx (rep_get ((n + (runT vs x).1) % 10) (atV vs ((n + (runT vs x).1) % 10)))
    exact rep_congr h (by funext got a lk; exact doT_at got n x a lk)
theorem runT_keys {vs : List Int} (hv : vs.all isVal = true) {t : Tk} (h : Fits t) : ∀ f ∈ (runT vs t).2, 0 ≤ f.f0 ∧ f.f0 ≤ 9 ∧ f.f1 = atV vs f.f0 := by
  induction h with
  | num n h0 h1 => rw [runT_num]; intro f hf; cases hf
  | get n h0 h1 =>
    rw [runT_get]
    intro f hf
    simp only [List.mem_singleton] at hf
    subst hf
    exact ⟨h0, h1, rfl⟩
  | add x y _ _ ihx ihy =>
    rw [runT_add]
    intro f hf
    rcases List.mem_append.1 hf with hf | hf
    · exact ihx f hf
    · exact ihy f hf
  | mul x y _ _ ihx ihy =>
    rw [runT_mul]
    intro f hf
    rcases List.mem_append.1 hf with hf | hf
    · exact ihx f hf
    · exact ihy f hf
  | iff x y z _ _ _ ihx ihy ihz =>
    by_cases hz : (runT vs x).1 = 0
    · rw [runT_if0 vs x y z hz]
      intro f hf
      rcases List.mem_append.1 hf with hf | hf
      · exact ihx f hf
      · exact ihz f hf
    · rw [runT_if1 vs x y z hz]
      intro f hf
      rcases List.mem_append.1 hf with hf | hf
      · exact ihx f hf
      · exact ihy f hf
  | «at» n h0 h1 x hx ihx =>
    rw [runT_at]
    have hval := runT_val hv hx
    intro f hf
    rcases List.mem_append.1 hf with hf | hf
    · exact ihx f hf
    · simp only [List.mem_singleton] at hf
      subst hf
      refine ⟨?_, ?_, rfl⟩ <;> simp only <;> omega
theorem next_f (t : Tk) (hf : fitT t = true) (got : List Int) (hg : got.all isVal = true) (hl : got.length ≤ 1000000) : spec_l2Next.f t.f0 t.f1 t.f2 got = some ((doT got t 0 0).1, (doT got t 0 0).2.2.2, (doT got t 0 0).2.1) := by
  have e : (⟨t.f0, t.f1, t.f2⟩ : Tk) = t := by cases t; rfl
  unfold spec_l2Next.f
  rw [e, if_pos ⟨hf, hg, hl⟩]
theorem run_loop (vs : List Int) (hv : vs.all isVal = true) (t : Tk) (hf : fitT t = true) (hn : (runT vs t).2.length ≤ 1000) :
    ∀ (d i : Nat), d = (runT vs t).2.length - i → i ≤ (runT vs t).2.length →
      Ev (fun k => spec_l2Run.l0 k vs ((runT vs t).2.take i) (((runT vs t).2.take i).map (·.f1)) (doT (((runT vs t).2.take i).map (·.f1)) t 0 0).1 (doT (((runT vs t).2.take i).map (·.f1)) t 0 0).2.2.2 (doT (((runT vs t).2.take i).map (·.f1)) t 0 0).2.1 t.f0 t.f1 t.f2) (runT vs t) := by
  have hrep := rep_doT vs (fits_of t hf)
  have hkeys := runT_keys hv (fits_of t hf)
  have hall : ∀ i, (((runT vs t).2.take i).map (·.f1)).all isVal = true := by
    intro i
    rw [List.all_eq_true]
    intro x hx
    obtain ⟨f, hfm, rfl⟩ := List.mem_map.1 hx
    have h1 := hkeys f (List.mem_of_mem_take hfm)
    have h2 := atV_val hv f.f0
    simp only [isVal, decide_eq_true_eq]
    rw [h1.2.2]
    exact h2
  intro d
  induction d with
  | zero =>
    intro i hd hi
    have e : i = (runT vs t).2.length := by omega
    subst e
    rw [List.take_length]
    have h := hrep.1 [] [] 0
    simp only [List.nil_append, List.append_nil, List.length_nil, Int.natCast_zero, Int.ofNat_zero] at h
    have h' : doT ((runT vs t).2.map (·.f1)) t 0 0 = ((runT vs t).1, true, ((0 + (runT vs t).2.length : Nat) : Int), 0) := h
    rw [h']
    refine Ev.step (fun k => by rw [spec_l2Run.l0]) ?_
    simp only [if_true]
    exact Ev.now _
  | succ d ihd =>
    intro i hd hi
    have hlt : i < (runT vs t).2.length := by omega
    have h := hrep.2 [] i (runT vs t).2[i] 0 (List.getElem?_eq_getElem hlt)
    simp only [List.nil_append, List.length_nil, Int.natCast_zero, Int.ofNat_zero] at h
    rw [← List.map_take] at h
    have h' : doT (((runT vs t).2.take i).map (·.f1)) t 0 0 = (0, false, ((0 + i : Nat) : Int), ((runT vs t).2[i]).f0) := h
    rw [h']
    have hk := hkeys _ (List.getElem_mem hlt)
    have e1 : ((runT vs t).2.take i).map (·.f1) ++ [atV vs ((runT vs t).2[i]).f0] = ((runT vs t).2.take (i + 1)).map (·.f1) := by
      rw [List.take_succ_eq_append_getElem hlt, List.map_append, List.map_singleton, hk.2.2]
    have e2 : (runT vs t).2.take i ++ [(⟨((runT vs t).2[i]).f0, atV vs ((runT vs t).2[i]).f0⟩ : Fk)] = (runT vs t).2.take (i + 1) := by
      rw [List.take_succ_eq_append_getElem hlt]
      congr 2
      rw [← hk.2.2]
    refine Ev.step (fun k => by rw [spec_l2Run.l0]) ?_
    simp only [Bool.false_eq_true, if_false, l2OfR_ev vs _ hk.1, Option.bind_some]
    simp only [if_pos (show ((runT vs t).2.take i).length < 8796093022208 by rw [jA]; omega), if_pos (show (((runT vs t).2.take i).map (·.f1)).length < 17592186044416 by rw [List.length_map, jA]; omega), e1, e2]
    simp only [next_f t hf _ (hall (i + 1)) (by rw [List.length_map, jA]; omega), Option.bind_some]
    exact ihd (i + 1) (by omega) (by omega)
theorem l2Run_ev (vs : List Int) (hv : vs.all isVal = true) (t : Tk) (hf : fitT t = true) (hn : nodT t ≤ 1000) : Ev (fun k => spec_l2Run.f k t.f0 t.f1 t.f2 vs) (runT vs t) := by
  unfold spec_l2Run.f
  have hl := runT_len vs (fits_of t hf)
  simp only [Option.bind_some, next_f t hf [] (by rfl) (by simp)]
  have h := run_loop vs hv t hf (by omega) (runT vs t).2.length 0 (by omega) (by omega)
  simp only [List.take_zero, jE] at h
  exact h
theorem rd_fkH (l : List Fk) (i : Nat) (h : i < l.length) : rd_T117 l (i : Int) = l[i] := by
  simp only [rd_T117, Int.toNat_natCast, List.getD_eq_getElem?_getD, List.getElem?_eq_getElem h, Option.getD_some]
theorem rd_trcH (l : List Trc) (i : Nat) (h : i < l.length) : rd_T87 l (i : Int) = l[i] := by
  simp only [rd_T87, Int.toNat_natCast, List.getD_eq_getElem?_getD, List.getElem?_eq_getElem h, Option.getD_some]
def eqU : List Fk → List Fk → Bool
  | [], [] => true
  | f :: fs, g :: gs => (f.f0 == g.f0 && f.f1 == g.f1) && eqU fs gs
  | _, _ => false
theorem eqU_len : ∀ {a b : List Fk}, eqU a b = true → a.length = b.length
  | [], [], _ => rfl
  | [], _ :: _, h => by simp [eqU] at h
  | _ :: _, [], h => by simp [eqU] at h
  | f :: fs, g :: gs, h => by
    simp only [eqU, Bool.and_eq_true] at h
    simp only [List.length_cons, eqU_len h.2]
def sameTr (a : Int) (u : List Fk) (b : Int) (c : Int) (v : List Fk) (d : Int) : Bool := (decide (a = c) && decide (b = d)) && eqU u v
theorem ne_or (a b c d : Int) : ((!(a == b)) || (!(c == d))) = !((a == b) && (c == d)) := by cases (a == b) <;> cases (c == d) <;> rfl
theorem equal_loop (u v : List Fk) (hl : u.length ≤ 4000000000) (he : u.length = v.length) : ∀ (d i : Nat), d = u.length - i → i ≤ u.length → Ev (fun k => slices_Equal_Fetch.l0 k u v (u.length : Int) (i : Int)) (eqU (u.drop i) (v.drop i)) := by
  intro d
  induction d with
  | zero =>
    intro i hd hi
    have e : i = u.length := by omega
    refine Ev.step (fun k => by rw [slices_Equal_Fetch.l0]) ?_
    simp only [if_neg (show ¬ ((i : Int) < (u.length : Int)) by omega)]
    refine Ev.eq (Ev.now true) ?_
    rw [List.drop_of_length_le (by omega), List.drop_of_length_le (by omega)]
    rfl
  | succ d ih =>
    intro i hd hi
    have hlt : i < u.length := by omega
    have h := ih (i + 1) (by omega) (by omega)
    refine Ev.step (fun k => by rw [slices_Equal_Fetch.l0]) ?_
    simp only [if_pos (show (i : Int) < (u.length : Int) by omega), if_pos (show (0 : Int) ≤ (i : Int) by omega), if_pos (show (i : Int) < (v.length : Int) by omega), rd_fkH u i hlt, rd_fkH v i (by omega), wrap_nat i (by omega), ne_or]
    rw [List.drop_eq_getElem_cons hlt, List.drop_eq_getElem_cons (show i < v.length by omega), eqU]
    cases hc : ((u[i].f0 == v[i].f0) && (u[i].f1 == v[i].f1)) with
    | true => simp only [Bool.not_true, Bool.false_eq_true, if_false, Bool.true_and]; exact h
    | false => simp only [Bool.not_false, if_true, Bool.false_and]; exact Ev.now _
theorem equal_ev (u v : List Fk) (hl : u.length ≤ 4000000000) : Ev (fun k => slices_Equal_Fetch.f k u v) (eqU u v) := by
  unfold slices_Equal_Fetch.f
  by_cases he : u.length = v.length
  · simp only [if_pos (show (u.length : Int) = (v.length : Int) by omega)]
    have h := equal_loop u v hl he u.length 0 (by omega) (by omega)
    rw [List.drop_zero, List.drop_zero] at h
    exact h
  · simp only [if_neg (show ¬ ((u.length : Int) = (v.length : Int)) by omega)]
    refine Ev.eq (Ev.now _) ?_
    cases h : eqU u v with
    | true => exact absurd (eqU_len h) he
    | false => rfl
theorem implSameTr_ev (a : Int) (u : List Fk) (b : Int) (c : Int) (v : List Fk) (d : Int) (hl : u.length ≤ 4000000000) : Ev (fun k => impl_Trace_same.f k a u b c v d) (sameTr a u b c v d) := by
  unfold impl_Trace_same.f sameTr
  by_cases h1 : a = c
  · simp only [if_pos h1, decide_eq_true h1]
    by_cases h2 : b = d
    · simp only [if_pos h2, decide_eq_true h2, Bool.and_self, Bool.true_and]
      exact Ev.bind (equal_ev u v hl) (Ev.now _)
    · simp only [if_neg h2, decide_eq_false h2, Bool.and_false, Bool.false_and]
      exact Ev.now _
  · simp only [if_neg h1, decide_eq_false h1, Bool.false_and]
    exact Ev.now _
theorem specSame_loop (a : Int) (u : List Fk) (b : Int) (c : Int) (v : List Fk) (d : Int) (hl : u.length ≤ 4000000000) (he : u.length = v.length) : ∀ (m i : Nat), m = u.length - i → i ≤ u.length → Ev (fun k => spec_l5Same.l0 k (i : Int) a u b c v d) (eqU (u.drop i) (v.drop i)) := by
  intro m
  induction m with
  | zero =>
    intro i hd hi
    refine Ev.step (fun k => by rw [spec_l5Same.l0]) ?_
    simp only [if_neg (show ¬ ((i : Int) < (u.length : Int)) by omega)]
    refine Ev.eq (Ev.now true) ?_
    rw [List.drop_of_length_le (by omega), List.drop_of_length_le (by omega)]
    rfl
  | succ m ih =>
    intro i hd hi
    have hlt : i < u.length := by omega
    have h := ih (i + 1) (by omega) (by omega)
    refine Ev.step (fun k => by rw [spec_l5Same.l0]) ?_
    simp only [if_pos (show (i : Int) < (u.length : Int) by omega), if_pos (show (0 : Int) ≤ (i : Int) by omega), if_pos (show (i : Int) < (v.length : Int) by omega), rd_fkH u i hlt, rd_fkH v i (by omega), wrap_nat i (by omega), ne_or]
    rw [List.drop_eq_getElem_cons hlt, List.drop_eq_getElem_cons (show i < v.length by omega), eqU]
    cases hc : ((u[i].f0 == v[i].f0) && (u[i].f1 == v[i].f1)) with
    | true => simp only [Bool.not_true, Bool.false_eq_true, if_false, Bool.true_and]; exact h
    | false => simp only [Bool.not_false, if_true, Bool.false_and]; exact Ev.now _
theorem specSameTr_ev (a : Int) (u : List Fk) (b : Int) (c : Int) (v : List Fk) (d : Int) (hl : u.length ≤ 4000000000) : Ev (fun k => spec_l5Same.f k a u b c v d) (sameTr a u b c v d) := by
  have bad : sameTr a u b c v d = false → Ev (fun k => spec_l5Same.j0 k true a u b c v d) (sameTr a u b c v d) := fun e => by
    refine Ev.step (fun k => by rw [spec_l5Same.j0]) ?_
    simp only [if_true]
    exact Ev.eq (Ev.now _) e.symm
  unfold spec_l5Same.f
  by_cases h1 : a = c
  · simp only [if_pos h1]
    by_cases h2 : b = d
    · simp only [if_pos h2]
      by_cases he : u.length = v.length
      · have e0 : ((u.length : Int) != (v.length : Int)) = false := by simp [he]
        rw [e0]
        refine Ev.step (fun k => by rw [spec_l5Same.j0]) ?_
        simp only [Bool.false_eq_true, if_false]
        have h := specSame_loop a u b c v d hl he u.length 0 (by omega) (by omega)
        rw [List.drop_zero, List.drop_zero] at h
        exact Ev.eq h (by simp [sameTr, h1, h2])
      · have e0 : ((u.length : Int) != (v.length : Int)) = true := by simp; omega
        rw [e0]
        refine bad ?_
        unfold sameTr
        cases h : eqU u v with
        | true => exact absurd (eqU_len h) he
        | false => simp
    · simp only [if_neg h2]
      exact bad (by simp [sameTr, h2])
  · simp only [if_neg h1]
    exact bad (by simp [sameTr, h1])
def backF (o : List Int) (u : List Fk) : List Int := u.foldl (fun o f => o.set f.f0.toNat f.f1) o
def backL (u : List Fk) : List Int := backF (List.replicate 10 0) u
theorem backF_len (u : List Fk) : ∀ o, (backF o u).length = o.length := by
  induction u with
  | nil => intro o; rfl
  | cons f u ih => intro o; unfold backF at ih ⊢; rw [List.foldl_cons, ih, List.length_set]
theorem backF_val (u : List Fk) : ∀ o : List Int, o.all isVal = true → u.all fkOk = true → (backF o u).all isVal = true := by
  induction u with
  | nil => intro o h _; exact h
  | cons f u ih =>
    intro o h hu
    rw [List.all_cons, Bool.and_eq_true] at hu
    unfold backF at ih ⊢
    rw [List.foldl_cons]
    refine ih _ ?_ hu.2
    rw [List.all_eq_true]
    intro x hx
    rcases List.mem_or_eq_of_mem_set hx with hx | rfl
    · exact List.all_eq_true.1 h x hx
    · have h2 := hu.1
      simp only [fkOk, Bool.and_eq_true, decide_eq_true_eq] at h2
      exact decide_eq_true h2.2
theorem backL_ok {u : List Fk} (hu : u.all fkOk = true) : valsOkF (backL u) = true := by
  have h1 := backF_len u (List.replicate 10 0)
  rw [List.length_replicate] at h1
  have h2 := backF_val u (List.replicate 10 0) (by decide) hu
  unfold valsOkF backL
  rw [h1, h2]
  rfl
theorem back_step {u : List Fk} (i : Nat) (hi : i < u.length) : backF (List.replicate 10 0) (u.take (i + 1)) = (backF (List.replicate 10 0) (u.take i)).set (u[i].f0.toNat) u[i].f1 := by
  unfold backF
  rw [List.take_succ_eq_append_getElem hi, List.foldl_append]
  rfl
theorem implBack_ev (t : Trc) (hl : t.f1.length ≤ 100) (hu : t.f1.all fkOk = true) : Ev (fun k => impl_Trace_values.f k t.f0 t.f1 t.f2 10) (backL t.f1) := by
  unfold impl_Trace_values.f
  have loop : ∀ (d i : Nat), d = t.f1.length - i → i ≤ t.f1.length → Ev (fun k => impl_Trace_values.l0 k 10 (backF (List.replicate 10 0) (t.f1.take i)) t.f1 (t.f1.length : Int) (i : Int)) (backL t.f1) := by
    intro d
    induction d with
    | zero =>
      intro i hd hi
      refine Ev.step (fun k => by rw [impl_Trace_values.l0]) ?_
      simp only [if_neg (show ¬ ((i : Int) < (t.f1.length : Int)) by omega)]
      refine Ev.eq (Ev.now _) ?_
      rw [List.take_of_length_le (by omega)]
      rfl
    | succ d ih =>
      intro i hd hi
      have hlt : i < t.f1.length := by omega
      have h := ih (i + 1) (by omega) (by omega)
      have hf := List.all_eq_true.1 hu _ (List.getElem_mem hlt)
      simp only [fkOk, Bool.and_eq_true, decide_eq_true_eq] at hf
      have hlen := backF_len (t.f1.take i) (List.replicate 10 0)
      rw [List.length_replicate] at hlen
      rw [back_step i hlt] at h
      refine Ev.step (fun k => by rw [impl_Trace_values.l0]) ?_
      simp only [if_pos (show (i : Int) < (t.f1.length : Int) by omega), if_pos (show (0 : Int) ≤ (i : Int) by omega), rd_fkH t.f1 i hlt, if_pos hf.1.2, if_pos hf.1.1, hlen, if_pos (show (t.f1[i]).f0 < ((10 : Nat) : Int) by omega), wrap_nat i (by omega)]
      exact h
  have h := loop t.f1.length 0 (by omega) (by omega)
  simp only [if_pos (show (0 : Int) ≤ 10 by omega)]
  exact h
theorem specBack_ev (t : Trc) (hl : t.f1.length ≤ 100) (hu : t.f1.all fkOk = true) : Ev (fun k => spec_l5Back.f k t.f0 t.f1 t.f2) (backL t.f1) := by
  unfold spec_l5Back.f
  have loop : ∀ (d i : Nat), d = t.f1.length - i → i ≤ t.f1.length → Ev (fun k => spec_l5Back.l0 k (backF (List.replicate 10 0) (t.f1.take i)) (i : Int) t.f0 t.f1 t.f2) (backL t.f1) := by
    intro d
    induction d with
    | zero =>
      intro i hd hi
      refine Ev.step (fun k => by rw [spec_l5Back.l0]) ?_
      simp only [if_neg (show ¬ ((i : Int) < (t.f1.length : Int)) by omega)]
      refine Ev.eq (Ev.now _) ?_
      rw [List.take_of_length_le (by omega)]
      rfl
    | succ d ih =>
      intro i hd hi
      have hlt : i < t.f1.length := by omega
      have h := ih (i + 1) (by omega) (by omega)
      have hf := List.all_eq_true.1 hu _ (List.getElem_mem hlt)
      simp only [fkOk, Bool.and_eq_true, decide_eq_true_eq] at hf
      have hlen := backF_len (t.f1.take i) (List.replicate 10 0)
      rw [List.length_replicate] at hlen
      rw [back_step i hlt] at h
      refine Ev.step (fun k => by rw [spec_l5Back.l0]) ?_
      simp only [if_pos (show (i : Int) < (t.f1.length : Int) by omega), if_pos (show (0 : Int) ≤ (i : Int) by omega), rd_fkH t.f1 i hlt, if_pos hf.1.1, hlen, if_pos (show (t.f1[i]).f0 < ((10 : Nat) : Int) by omega), wrap_nat i (by omega)]
      exact h
  have h := loop t.f1.length 0 (by omega) (by omega)
  first
  | exact h
  | (simp only [if_pos (show (10 : Int) ≤ 35184372088832 by omega)]; exact h)
  | (simp only [if_pos (show (10 : Nat) ≤ 35184372088832 by omega)]; exact h)
  | simpa using h
theorem runH_len {t : Tk} (ht : okT t = true) (vs : List Int) : (runT vs t).2.length ≤ 15 := Nat.le_trans (runT_len vs (fits_of t (okT_fit ht))) (okT_nod ht)
theorem valsH_all {vs : List Int} (hv : valsOkF vs = true) : vs.all isVal = true := by simp only [valsOkF, Bool.and_eq_true] at hv; exact hv.2
theorem implOfH_ev (key : Int) (hk : 0 ≤ key ∧ key < 10) (t : Tk) (ht : okT t = true) (vs : List Int) (hv : valsOkF vs = true) : Ev (fun k => impl_TraceOf.f k key t.f0 t.f1 t.f2 vs) (key, onceL (runT vs t).2, (runT vs t).1, true) := by
  unfold impl_TraceOf.f
  refine Ev.bind (implOk_ev t) ?_
  simp only [ht, if_true, implValsF_ev, Option.bind_some, hv, isKey_ev, decide_eq_true hk, Bool.not_true]
  refine Ev.step (fun k => by rw [impl_TraceOf.j0]) ?_
  simp only [Bool.false_eq_true, if_false]
  have e : (⟨t.f0, t.f1, t.f2⟩ : Tk) = t := by cases t; rfl
  have hn := okT_nod ht
  have hf : impl_Task_fetched.f t.f0 t.f1 t.f2 vs = some (runT vs t) := by
    unfold impl_Task_fetched.f
    rw [e, if_pos ⟨okT_fit ht, valsH_all hv, by omega⟩]
  have hl := runH_len ht vs
  simp only [hf, Option.bind_some, impl_once.f, if_pos (show (runT vs t).2.length < 8796093022208 by omega)]
  exact Ev.now _
theorem specOfH_ev (key : Int) (t : Tk) (ht : okT t = true) (vs : List Int) (hv : valsOkF vs = true) : Ev (fun k => spec_l5Of.f k key t.f0 t.f1 t.f2 vs) (key, onceL (runT vs t).2, (runT vs t).1) := by
  have hl := runH_len ht vs
  unfold spec_l5Of.f
  refine Ev.bind (l2Run_ev vs (valsH_all hv) t (okT_fit ht) (by have := okT_nod ht; omega)) ?_
  exact Ev.bind (l5Once_ev (runT vs t).2 (by omega)) (Ev.now _)
def honB (made : List Bool) (ts : List Tk) (t : Trc) : Bool := if t.f0 < (made.length : Int) ∧ rdOf false made t.f0 = true then sameTr t.f0 (onceL (runT (backL t.f1) (rd_T30 ts t.f0)).2) (runT (backL t.f1) (rd_T30 ts t.f0)).1 t.f0 t.f1 t.f2 else false
theorem makesH_f (made : List Bool) (ts : List Tk) (a : Int) (h : 0 ≤ a) : impl_Sheet_makes.f made ts a = some (decide (a < (made.length : Int)) && rdOf false made a) := by
  unfold impl_Sheet_makes.f impl_Sheet_has.f
  simp only [if_pos (show a ≥ 0 from h), Option.bind_some]
  by_cases h2 : a < (made.length : Int)
  · simp only [decide_eq_true h2, if_true, if_pos h, if_pos h2, Bool.true_and]
  · simp only [decide_eq_false h2, Bool.false_eq_true, if_false, Bool.false_and]
theorem trOk_parts {t : Trc} (h : trOk t = true) : (0 ≤ t.f0 ∧ t.f0 < 10) ∧ t.f1.all fkOk = true ∧ t.f1.length ≤ 10 := by
  have h2 := trOk_len h
  simp only [trOk, Bool.and_eq_true, decide_eq_true_eq] at h
  exact ⟨h.1.1.1, h.2, h2⟩
theorem rd_ok {made : List Bool} {ts : List Tk} (hs : sheetOk made ts = true) {a : Int} (h0 : 0 ≤ a) (h1 : a < (made.length : Int)) : a < (ts.length : Int) ∧ okT (rd_T30 ts a) = true := by
  have hl := sheetOk_len hs
  obtain ⟨i, rfl⟩ : ∃ i : Nat, a = (i : Int) := ⟨a.toNat, by omega⟩
  have hi : i < ts.length := by omega
  rw [rd_tk ts i hi]
  exact ⟨by omega, sheetOk_mem hs _ (List.getElem_mem hi)⟩
theorem implHon_ev (made : List Bool) (ts : List Tk) (hs : sheetOk made ts = true) (t : Trc) (ht : trOk t = true) : Ev (fun k => impl_Trace_honest.f k t.f0 t.f1 t.f2 made ts) (honB made ts t) := by
  obtain ⟨hk, hu, hl⟩ := trOk_parts ht
  unfold impl_Trace_honest.f
  simp only [makesH_f made ts t.f0 hk.1, Option.bind_some]
  by_cases h1 : t.f0 < (made.length : Int)
  · simp only [decide_eq_true h1, Bool.true_and]
    cases h2 : rdOf false made t.f0 with
    | true =>
      obtain ⟨h3, h4⟩ := rd_ok hs hk.1 h1
      simp only [if_true, if_pos hk.1, if_pos h3]
      refine Ev.bind (implBack_ev t (by omega) hu) ?_
      refine Ev.bind (implOfH_ev t.f0 hk _ h4 (backL t.f1) (backL_ok hu)) ?_
      have h5 := onceL_length (runT (backL t.f1) (rd_T30 ts t.f0)).2
      have h6 := runH_len h4 (backL t.f1)
      refine Ev.bind (implSameTr_ev _ _ _ _ _ _ (by (try dsimp only); omega)) ?_
      exact Ev.eq (Ev.now _) (by simp only [honB, if_pos (And.intro h1 h2)])
    | false =>
      simp only [Bool.false_eq_true, if_false]
      exact Ev.eq (Ev.now _) (by simp [honB, h2])
  · simp only [decide_eq_false h1, Bool.false_and, Bool.false_eq_true, if_false]
    exact Ev.eq (Ev.now _) (by simp [honB, h1])
theorem honAny_ev (made : List Bool) (ts : List Tk) (hs : sheetOk made ts = true) (l : List Trc) (hl : l.all trOk = true) : Ev (fun k => impl_TracesHonest_1_any.f k l made ts) (!(l.all (honB made ts))) := by
  have h : ∃ K, ∀ k, K ≤ k → ∀ x ∈ l, impl_Trace_honest.f k x.f0 x.f1 x.f2 made ts = some (honB made ts x) := by
    induction l with
    | nil => exact ⟨0, fun k _ x hx => by cases hx⟩
    | cons y ys ih =>
      rw [List.all_cons, Bool.and_eq_true] at hl
      obtain ⟨K1, h1⟩ := ih hl.2
      obtain ⟨K2, h2⟩ := implHon_ev made ts hs y hl.1
      refine ⟨K1 + K2, fun k hk x hx => ?_⟩
      rcases List.mem_cons.1 hx with rfl | hx
      · exact h2 k (by omega)
      · exact h1 k (by omega) x hx
  obtain ⟨K, h⟩ := h
  refine ⟨K, fun k hk => ?_⟩
  have hh := h k hk
  show impl_TracesHonest_1_any.f k l made ts = _
  unfold impl_TracesHonest_1_any.f
  rw [if_pos (fun x hx => by rw [hh x hx]; rfl)]
  congr 1
  clear h hl
  induction l with
  | nil => rfl
  | cons y ys ih =>
    rw [List.any_cons, List.all_cons, hh y (by simp), ih (fun x hx => hh x (by simp [hx])), Option.getD_some, Bool.not_and]
def honestL (made : List Bool) (ts : List Tk) (l : List Trc) : Bool := sheetOk made ts && (trsOk l && l.all (honB made ts))
theorem implHonest_ev (made : List Bool) (ts : List Tk) (l : List Trc) (hf : ∀ t ∈ l, t.f1.length < 8796093022208) : Ev (fun k => impl_TracesHonest.f k made ts l) (honestL made ts l) := by
  unfold impl_TracesHonest.f honestL
  refine Ev.bind (implSheet_ev made ts) ?_
  cases hs : sheetOk made ts with
  | false => simp only [Bool.false_eq_true, if_false, Bool.false_and]; exact Ev.now _
  | true =>
    simp only [if_true, implTrs_ev l hf, Option.bind_some, Bool.true_and]
    cases ht : trsOk l with
    | false => simp only [Bool.false_eq_true, if_false, Bool.false_and]; exact Ev.now _
    | true =>
      simp only [if_true, Bool.true_and]
      refine Ev.bind (honAny_ev made ts hs l (by simp only [trsOk, Bool.and_eq_true] at ht; exact ht.2)) ?_
      exact Ev.eq (Ev.now _) (by rw [Bool.not_not])
theorem specHon_loop (made : List Bool) (ts : List Tk) (hs : sheetOk made ts = true) (l : List Trc) (hl : l.all trOk = true) (hn : l.length ≤ 60) : ∀ (d i : Nat), d = l.length - i → i ≤ l.length → Ev (fun k => spec_TracesHonest.l0 k l (i : Int) made ts) ((l.drop i).all (honB made ts)) := by
  intro d
  induction d with
  | zero =>
    intro i hd hi
    refine Ev.step (fun k => by rw [spec_TracesHonest.l0]) ?_
    simp only [if_neg (show ¬ ((i : Int) < (l.length : Int)) by omega)]
    refine Ev.eq (Ev.now _) ?_
    rw [List.drop_of_length_le (by omega)]
    rfl
  | succ d ih =>
    intro i hd hi
    have hlt : i < l.length := by omega
    have h := ih (i + 1) (by omega) (by omega)
    have ht := List.all_eq_true.1 hl _ (List.getElem_mem hlt)
    obtain ⟨hk, hu, hlu⟩ := trOk_parts ht
    rw [List.drop_eq_getElem_cons hlt, List.all_cons]
    refine Ev.step (fun k => by rw [spec_TracesHonest.l0]) ?_
    simp only [if_pos (show (i : Int) < (l.length : Int) by omega), if_pos (show (0 : Int) ≤ (i : Int) by omega), rd_trcH l i hlt, wrap_nat i (by omega)]
    by_cases h1 : (l[i]).f0 < (made.length : Int)
    · obtain ⟨h3, h4⟩ := rd_ok hs hk.1 h1
      simp only [if_neg (show ¬ ((l[i]).f0 ≥ (made.length : Int)) by omega), if_pos hk.1, if_pos h1, if_pos h3]
      cases h2 : rdOf false made (l[i]).f0 with
      | true =>
        simp only [if_true]
        refine Ev.bind (specBack_ev _ (by omega) hu) ?_
        refine Ev.bind (specOfH_ev _ _ h4 _ (backL_ok hu)) ?_
        have h5 := onceL_length (runT (backL (l[i]).f1) (rd_T30 ts (l[i]).f0)).2
        have h6 := runH_len h4 (backL (l[i]).f1)
        refine Ev.bind (specSameTr_ev _ _ _ _ _ _ (by (try dsimp only); omega)) ?_
        have e : honB made ts l[i] = sameTr (l[i]).f0 (onceL (runT (backL (l[i]).f1) (rd_T30 ts (l[i]).f0)).2) (runT (backL (l[i]).f1) (rd_T30 ts (l[i]).f0)).1 (l[i]).f0 (l[i]).f1 (l[i]).f2 := by
          simp only [honB, if_pos (And.intro h1 h2)]
        rw [← e]
        cases honB made ts l[i] with
        | true => simp only [if_true, Bool.true_and]; exact h
        | false => simp only [Bool.false_eq_true, if_false, Bool.false_and]; exact Ev.now _
      | false =>
        simp only [Bool.false_eq_true, if_false]
        exact Ev.eq (Ev.now _) (by simp [honB, h2])
    · simp only [if_pos (show (l[i]).f0 ≥ (made.length : Int) by omega)]
      exact Ev.eq (Ev.now _) (by simp [honB, h1])
theorem specHonest_ev (made : List Bool) (ts : List Tk) (hb : ∀ t ∈ ts, (nodT t : Int) ≤ 4000000000) (l : List Trc) : Ev (fun k => spec_TracesHonest.f k made ts l) (honestL made ts l) := by
  have bad : honestL made ts l = false → Ev (fun k => spec_TracesHonest.j0 k l true made ts) (honestL made ts l) := fun e => by
    refine Ev.step (fun k => by rw [spec_TracesHonest.j0]) ?_
    simp only [if_true]
    exact Ev.eq (Ev.now _) e.symm
  unfold spec_TracesHonest.f
  refine Ev.bind (specSheet_ev made ts hb) ?_
  cases hs : sheetOk made ts with
  | false => simp only [Bool.false_eq_true, if_false]; exact bad (by simp [honestL, hs])
  | true =>
    simp only [if_true]
    refine Ev.bind (specTrs_ev l) ?_
    cases ht : trsOk l with
    | false => simp only [Bool.not_false]; exact bad (by simp [honestL, ht])
    | true =>
      simp only [Bool.not_true]
      refine Ev.step (fun k => by rw [spec_TracesHonest.j0]) ?_
      simp only [Bool.false_eq_true, if_false]
      simp only [trsOk, Bool.and_eq_true, decide_eq_true_eq] at ht
      have h := specHon_loop made ts hs l ht.2 ht.1 l.length 0 (by omega) (by omega)
      rw [List.drop_zero] at h
      exact Ev.eq h (by simp [honestL, hs, trsOk, ht.1, ht.2])
end Go.Proofs.Ytgbjbpjmbghlbaa.G
end
section
namespace Go.Proofs.Ytgbjbpjmbghlbaa.G
open Go.RowKit Go.Proofs.YtgbjbpjmbghlbaaW.PrintWords
open Classical in
noncomputable def laws_FnExactTracesHonest.f (k : Nat) (l0_0 : List Bool) (l0_1 : List S24) (l1 : List S81) : Option Bool := if l0_0.length ≤ 9223372036854775807 ∧ l0_1.length ≤ 9223372036854775807 ∧ bdL l0_1 ∧ l1.length ≤ 9223372036854775807 ∧ (∀ t ∈ l1, t.f1.length ≤ 9223372036854775807) then some true else none
theorem laws_FnExactTracesHonest.calls (k : Nat) (A0_0 : Option Addr) (c0_0 : Nat) (l0_0 : List Bool) (A0_1 : Option Addr) (c0_1 : Nat) (l0_1 : List S24) (A1 : Option Addr) (c1 : Nat) (l1 : List S81) (r : Bool) (w : World) (hr0_0 : Kd.C Kd.bool w A0_0 l0_0.length l0_0) (hc0_0 : l0_0.length ≤ c0_0) (hr0_1 : Kd.C k24 w A0_1 l0_1.length l0_1) (hc0_1 : l0_1.length ≤ c0_1) (hr1 : Kd.C k81 w A1 l1.length l1) (hc1 : l1.length ≤ c1) (h : laws_FnExactTracesHonest.f k l0_0 l0_1 l1 = some r) :
    Calls Try.prog 7 #[.agg #[.slice A0_0 l0_0.length c0_0, .slice A0_1 l0_1.length c0_1], .slice A1 l1.length c1] w fun e w' => e = .returned (.bool r) ∧ Below w.heap.size w w' := by
  unfold laws_FnExactTracesHonest.f at h
  split at h
  · rename_i hb
    obtain rfl := jF h
    obtain ⟨K1, H1⟩ := (szSheet_ev l0_0 l0_1 hb.1 hb.2.1 hb.2.2.1 1048576 (by omega) (by omega)).rounds
    by_cases hc : ((szSh l0_0 l0_1 : Nat) : Int) ≤ 1048576
    · rw [leftOf_yes hc] at H1
      have hs : szSh l0_0 l0_1 ≤ 1048576 := by omega
      obtain ⟨K2, H2⟩ := (szTrs_ev l1 hb.2.2.2.1 hb.2.2.2.2 (1048576 - (szSh l0_0 l0_1 : Int)) (by omega) (by omega)).rounds
      by_cases hd : ((szTrs l1 : Nat) : Int) ≤ 1048576 - (szSh l0_0 l0_1 : Int)
      · rw [leftOf_yes hd] at H2
        have ht : szTrs l1 ≤ 1048576 := by omega
        have hml : l0_0.length ≤ 1048576 := by unfold szSh at hs; omega
        have hlen := cvTrs_len (l := l1) (by omega)
        have hll : (l1.map cvTr).length ≤ 1048576 := by rw [List.length_map]; unfold szTrs at ht; omega
        have hnl : nodL (cvL l0_1) ≤ 1048576 := nod_le_of_szSh hs
        obtain ⟨K3, H3⟩ := (toSheet_ev l0_0 l0_1 hs).rounds
        obtain ⟨K4, H4⟩ := (toTrs_ev l1 ht).rounds
        obtain ⟨K5, H5⟩ := (specHonest_ev l0_0 (cvL l0_1) (nod_mem_of_szSh hs) (l1.map cvTr)).rounds
        obtain ⟨K6, H6⟩ := (implHonest_ev l0_0 (cvL l0_1) (l1.map cvTr) (fun t ht => by have := hlen t ht; omega)).rounds
        obtain ⟨K7, H7⟩ := (eqSheet_ev l0_0 (cvL l0_1) (by omega) (by omega)).rounds
        obtain ⟨K8, H8⟩ := (eqTrs_ev (l1.map cvTr) (by omega) (fun t ht => by have := hlen t ht; omega)).rounds
        exact lw_FnExactTracesHonest A0_0 c0_0 l0_0 A0_1 c0_1 l0_1 A1 c1 l1 w hr0_0 hc0_0 hr0_1 hc0_1 hr1 hc1 _ _ _ _ _ _ K1 H1 K2 H2 K3 H3 K4 H4 K5 H5 K6 H6 K7 H7 K8 H8 (by omega) (by omega)
      · rw [leftOf_no hd] at H2
        exact lw_FnExactTracesHonest_e1 A0_0 c0_0 l0_0 A0_1 c0_1 l0_1 A1 c1 l1 w hr0_0 hc0_0 hr0_1 hc0_1 hr1 hc1 _ _ K1 H1 K2 H2 (by omega) (by omega)
    · rw [leftOf_no hc] at H1
      exact lw_FnExactTracesHonest_e0 A0_0 c0_0 l0_0 A0_1 c0_1 l0_1 A1 c1 l1 w hr0_0 hc0_0 hr0_1 hc0_1 hr1 hc1 _ K1 H1 (by omega)
  · cases h
theorem pure_FnExactTracesHonest (made : List Bool) (hm : made.length ≤ 9223372036854775807 ∧ ∀ x ∈ made, True) (tasks : List Lk) (hb : tasks.length ≤ 9223372036854775807 ∧ ∀ x ∈ tasks, bdT x) (ts : List Ltr) (ht : ts.length ≤ 9223372036854775807 ∧ ∀ x ∈ ts, ex_t81 x) : ∃ k, laws_FnExactTracesHonest.f k made tasks ts = some true :=
  ⟨0, if_pos ⟨hm.1, hb.1, bdL_of hb.2, ht.1, fun t h => (ht.2 t h).2.1.1⟩⟩
end Go.Proofs.Ytgbjbpjmbghlbaa.G
end
