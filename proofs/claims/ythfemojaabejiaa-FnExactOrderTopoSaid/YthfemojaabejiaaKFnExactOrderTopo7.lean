-- Written by pack.py (ours): the claim's texts, cut down to what its theorem reaches.
import Derived.Test.YthfemojaabejiaaKFnExactOrderTopo6
section
namespace Go.Proofs.Ythfemojaabejiaa.G
open Go.RowKit Go.Proofs.YthfemojaabejiaaW.PrintWords
set_option linter.unusedVariables false
set_option linter.unusedSimpArgs false
structure Ist {α : Type} (d : Kd α) : Prop where
  set : ∀ {w : World} {base : Nat} {ok : Nat → Prop} {x : α} {cs : List Value} {j : Nat} {z0 : Int} (z : Int), cs[j]? = some (.int .i64 z0) → d.M w base ok x cs → d.M w base ok x (cs.set j (.int .i64 z))
  mv : ∀ {w : World} {base : Nat} {ok : Nat → Prop} {x : α} {cs : List Value} {g o : Nat} {z0 : Int} (z : Int), w.cell? ⟨g, o, none⟩ = some (.int .i64 z0) → d.M w base ok x cs → d.M (w.setCell ⟨g, o, none⟩ (.int .i64 z)) base ok x cs
theorem chunk_set {inner : List Value} {o a n : Nat} (u : Value) (h1 : a ≤ o) (h2 : o < a + n) : ((inner.set o u).drop a).take n = ((inner.drop a).take n).set (o - a) u := by
  apply List.ext_getElem?
  intro q
  rw [List.getElem?_take, List.getElem?_drop, List.getElem?_set, List.getElem?_set, List.getElem?_take, List.getElem?_drop, List.length_take, List.length_drop]
  by_cases hq : q < n
  · rw [if_pos hq, if_pos hq]
    by_cases e : o = a + q
    · rw [if_pos e, if_pos (show o - a = q by omega)]
      by_cases hl : o < inner.length
      · rw [if_pos (by omega), if_pos (by omega)]
      · rw [if_neg (by omega), if_neg (by omega)]
    · rw [if_neg e, if_neg (by omega)]
  · rw [if_neg hq, if_neg hq]
    rw [if_neg (by omega)]
theorem chunk_far {inner : List Value} {o a n : Nat} (u : Value) (h : ¬ (a ≤ o ∧ o < a + n)) : ((inner.set o u).drop a).take n = (inner.drop a).take n := by
  apply List.ext_getElem?
  intro q
  rw [List.getElem?_take, List.getElem?_drop, List.getElem?_set, List.getElem?_take, List.getElem?_drop]
  by_cases hq : q < n
  · rw [if_pos hq, if_pos hq, if_neg (by omega)]
  · rw [if_neg hq, if_neg hq]
theorem ist_R {α : Type} {d : Kd α} (hd : Ist d) {e : Nat} {w : World} {base : Nat} {ok : Nat → Prop} {v : Value} {xs : List α} {g o : Nat} {z0 : Int} (z : Int) (hc : w.cell? ⟨g, o, none⟩ = some (.int .i64 z0)) (h : d.R e w base ok v xs) : d.R e (w.setCell ⟨g, o, none⟩ (.int .i64 z)) base ok v xs := by
  obtain ⟨h0, inner, ho, hr⟩ := h
  by_cases hg : v.ownBlock = some g
  · obtain ⟨A, c, rfl⟩ : ∃ A c, v = .slice A xs.length c := own_slice ho
    obtain ⟨gb, ho2⟩ : ∃ ad : Addr, A = some ad := by
      cases A with
      | none => simp [Value.ownBlock] at hg
      | some ad => exact ⟨ad, rfl⟩
    subst ho2
    have hgb : gb = ⟨g, 0, none⟩ := by
      rcases ho.2 with ⟨h1, _⟩ | ⟨g', cap, cur, h1, _⟩
      · cases h1
      · injection h1 with h1 _ _
        injection h1 with h1
        have h2 : gb.block = g := by simpa [Value.ownBlock] using hg
        rw [h1] at h2
        rw [h1, ← h2]
    subst hgb
    refine ⟨h0, inner.set o (.int .i64 z), (ho.stored o _).1, by rw [List.length_set]; exact hr.1, fun j p hj => ?_⟩
    have hM := hr.2 j p hj
    by_cases hin : j * d.sz ≤ o ∧ o < j * d.sz + d.sz
    · rw [chunk_set _ hin.1 hin.2]
      refine hd.mv z hc (hd.set (z0 := z0) z ?_ hM)
      have hlen := d.K_len (d.K_of_M hM)
      rw [List.length_take, List.length_drop] at hlen
      have hol : o < inner.length := by omega
      have h3 := ho.cells (g := g) (by simp [Value.ownBlock]) o _ (List.getElem?_eq_getElem hol)
      rw [add_plain, hc] at h3
      injection h3 with h3
      rw [List.getElem?_take, if_pos (by omega), List.getElem?_drop, show j * d.sz + (o - j * d.sz) = o by omega, List.getElem?_eq_getElem hol, h3]
    · rw [chunk_far _ hin]
      exact hd.mv z hc hM
  · exact ⟨h0, inner, own_setCell ho (fun e => hg e.symm) _, hr.imp_ (fun p c hp => hd.mv z hc hp)⟩
def anyInt : Kd Unit where
  sz := 1
  E := []
  K := fun _ _ cs => ∃ z : Int, cs = [.int .i64 z]
  M := fun _ _ _ _ cs => ∃ z : Int, cs = [.int .i64 z]
  K_len := by rintro w x cs ⟨z, rfl⟩; rfl
  K_one := by
    rintro w x cs ⟨z, rfl⟩ u hu
    rw [List.mem_singleton.1 hu]
    rfl
  K_below := fun _ h => h
  K_of_M := fun h => h
  M_mono := fun _ h => h
  M_bound := fun h => h
  M_move := fun _ h => h
  M_lower := fun _ h => h
theorem ist_anyInt : Ist anyInt := by
  refine ⟨?_, ?_⟩
  · rintro w base ok x cs j z0 z hj ⟨z1, rfl⟩
    cases j with
    | zero => exact ⟨z, rfl⟩
    | succ j => simp at hj
  · rintro w base ok x cs g o z0 z _ h
    exact h
theorem ist_slice {α : Type} {d : Kd α} (e : Nat) (hd : Ist d) : Ist (Kd.slice e d) := by
  refine ⟨?_, ?_⟩
  · rintro w base ok x cs j z0 z hj ⟨v, rfl, h⟩
    obtain ⟨A, c, rfl⟩ := Kd.R_slice h
    cases j with
    | zero => simp at hj
    | succ j => simp at hj
  · rintro w base ok x cs g o z0 z hc ⟨v, rfl, h⟩
    exact ⟨v, rfl, ist_R hd z hc h⟩
theorem ist_pair {α β : Type} {a : Kd α} {b : Kd β} (ha : Ist a) (hb : Ist b) : Ist (Kd.pair a b) := by
  refine ⟨?_, ?_⟩
  · rintro w base ok x cs j z0 z hj ⟨c0, c1, rfl, h0, h1⟩
    by_cases hl : j < c0.length
    · rw [List.getElem?_append_left hl] at hj
      exact ⟨c0.set j (.int .i64 z), c1, by rw [List.set_append_left _ _ hl], ha.set z hj h0, h1⟩
    · rw [List.getElem?_append_right (by omega)] at hj
      exact ⟨c0, c1.set (j - c0.length) (.int .i64 z), by rw [List.set_append_right _ _ (by omega)], h0, hb.set z hj h1⟩
  · rintro w base ok x cs g o z0 z hc ⟨c0, c1, rfl, h0, h1⟩
    exact ⟨c0, c1, rfl, ha.mv z hc h0, hb.mv z hc h1⟩
theorem ist_iso {α β : Type} {d : Kd α} (f : β → α) (hd : Ist d) : Ist (Kd.iso d f) := ⟨fun z hj h => hd.set z hj h, fun z hc h => hd.mv z hc h⟩
theorem ist_bot {α : Type} (sz : Nat) (E : List Nat) : Ist (Kd.bot (α := α) sz E) := ⟨fun _ _ h => h.elim, fun _ _ h => h.elim⟩
theorem ist_upto {α : Type} {F : Kd α → Kd α} {sz : Nat} {E : List Nat} (hF : ∀ d, Ist d → Ist (F d)) : ∀ n, Ist (Kd.upto F sz E n)
  | 0 => ist_bot sz E
  | n + 1 => hF _ (ist_upto hF n)
theorem ist_fix {α : Type} {F : Kd α → Kd α} {sz : Nat} {E : List Nat} {hs : ∀ n, (Kd.upto F sz E n).sz = sz} {hE : ∀ n q, q ∈ (Kd.upto F sz E n).E → q ∈ E} (hF : ∀ d, Ist d → Ist (F d)) : Ist (Kd.fix F sz E hs hE) := by
  refine ⟨?_, ?_⟩
  · rintro w base ok x cs j z0 z hj ⟨n, h⟩
    exact ⟨n, (ist_upto hF n).set z hj h⟩
  · rintro w base ok x cs g o z0 z hc ⟨n, h⟩
    exact ⟨n, (ist_upto hF n).mv z hc h⟩
theorem R_map {α β : Type} {d : Kd α} {d' : Kd β} (f : α → β) (hs : d.sz = d'.sz) (hM : ∀ w base ok x cs, d.M w base ok x cs → d'.M w base ok (f x) cs) {e : Nat} {w : World} {base : Nat} {ok : Nat → Prop} {v : Value} {xs : List α} (h : d.R e w base ok v xs) : d'.R e w base ok v (xs.map f) := by
  obtain ⟨h0, inner, ho, hr⟩ := h
  refine ⟨h0, inner, by rw [List.length_map, ← hs]; exact ho, by rw [List.length_map, ← hs]; exact hr.1, fun j p hj => ?_⟩
  rw [List.getElem?_map] at hj
  obtain ⟨x, hx, rfl⟩ := Option.map_eq_some_iff.1 hj
  rw [← hs]
  exact hM _ _ _ _ _ (hr.2 j x hx)
structure Marked (w w' : World) (base : Nat) (ok : Nat → Prop) : Prop where
  below : Below base w w'
  kept : Kept w w' ok
  size : w'.heap.size = w.heap.size
  rows : ∀ {α : Type} {d : Kd α}, Ist d → ∀ {e b : Nat} {o : Nat → Prop} {v : Value} {xs : List α}, d.R e w b o v xs → d.R e w' b o v xs
theorem Marked.refl (w : World) (base : Nat) (ok : Nat → Prop) : Marked w w base ok := ⟨Below.refl _ _, Kept.refl _ _, rfl, fun _ _ _ _ _ _ h => h⟩
theorem Marked.trans {w w1 w2 : World} {base : Nat} {ok : Nat → Prop} (h : Marked w w1 base ok) (k : Marked w1 w2 base ok) : Marked w w2 base ok :=
  ⟨h.below.trans k.below, h.kept.then_ k.kept (fun _ hk => .inl hk), k.size.trans h.size, fun hd _ _ _ _ _ hr => k.rows hd (h.rows hd hr)⟩
theorem Marked.mono {w w1 : World} {base base' : Nat} {ok ok' : Nat → Prop} (h : Marked w w1 base ok) (hb : base' ≤ base) (hk : ∀ k, ok k → ok' k) : Marked w w1 base' ok' := ⟨h.below.mono hb, h.kept.mono hk, h.size, h.rows⟩
theorem Marked.drew {w w1 : World} {base : Nat} {ok : Nat → Prop} (h : Marked w w1 base ok) (n : Nat) : Marked w (w1.drewN n) base ok := ⟨qN h.below n, h.kept.drewN n, h.size, fun hd _ _ _ _ _ hr => Kd.R_drewN (h.rows hd hr) n⟩
theorem Marked.store {w w1 : World} {base : Nat} {ok : Nat → Prop} (h : Marked w w1 base ok) {g o : Nat} {z0 : Int} (z : Int) (hc : w1.cell? ⟨g, o, none⟩ = some (.int .i64 z0)) (hg : ok g) (hb : base ≤ g) : Marked w (w1.setCell ⟨g, o, none⟩ (.int .i64 z)) base ok :=
  ⟨h.below.setCell hb _, h.kept.setCell (.inl hg) _, by simpa [World.setCell] using h.size, fun hd _ _ _ _ _ hr => ist_R hd z hc (h.rows hd hr)⟩
end Go.Proofs.Ythfemojaabejiaa.G
end
section
namespace Go.Proofs.Ythfemojaabejiaa.G
open Go.RowKit Go.Proofs.YthfemojaabejiaaW.PrintWords
set_option linter.unusedVariables false
set_option linter.unusedSimpArgs false
def OwnI {α : Type} (d : Kd α) (e : Nat) (W0 W : World) (lo hi : Nat) (v : Value) (xs : List α) : Prop := W0.heap.size ≤ lo ∧ hi ≤ W.heap.size ∧ Kd.R d e W W0.heap.size (fun k => lo ≤ k ∧ k < hi) v xs
def OwnS {α : Type} (d : Kd α) (e : Nat) (W0 W : World) (lo hi : Nat) (v : Value) (xs : List α) : Prop := W0.heap.size ≤ lo ∧ hi ≤ W.heap.size ∧ Kd.S d e W W0.heap.size (fun k => lo ≤ k ∧ k < hi) v xs
section
variable {α : Type} {d : Kd α} {e : Nat} {W0 W W' : World} {lo hi lo' hi' : Nat} {ok : Nat → Prop} {v : Value} {xs : List α}
theorem OwnI.new (hB : W0.heap.size ≤ W.heap.size) (hl : W.heap.size ≤ W'.heap.size) (ho : Kd.R d e W' W.heap.size ok v xs) : OwnI d e W0 W' W.heap.size W'.heap.size v xs :=
  ⟨hB, Nat.le_refl _, Kd.R_lower (Kd.R_mono (Kd.R_bound ho) (fun k hk => ⟨hk.2.1, hk.2.2.1⟩)) hB⟩
theorem OwnS.new (hB : W0.heap.size ≤ W.heap.size) (hl : W.heap.size ≤ W'.heap.size) (ho : Kd.S d e W' W.heap.size ok v xs) : OwnS d e W0 W' W.heap.size W'.heap.size v xs :=
  ⟨hB, Nat.le_refl _, Kd.S_lower (Kd.S_mono (Kd.S_bound ho) (fun k hk => ⟨hk.2.1, hk.2.2.1⟩)) hB⟩
theorem OwnI.below (h : OwnI d e W0 W lo hi v xs) (hb : Below W.heap.size W W') : OwnI d e W0 W' lo hi v xs := ⟨h.1, Nat.le_trans h.2.1 hb.size, Kd.R_below h.2.2 hb⟩
theorem OwnS.below (h : OwnS d e W0 W lo hi v xs) (hb : Below W.heap.size W W') : OwnS d e W0 W' lo hi v xs := ⟨h.1, Nat.le_trans h.2.1 hb.size, Kd.S_below h.2.2 hb⟩
theorem OwnI.kept (h : OwnI d e W0 W lo hi v xs) (hk : Kept W W' (fun k => lo' ≤ k ∧ k < hi')) (hd : hi ≤ lo' ∨ hi' ≤ lo) : OwnI d e W0 W' lo hi v xs :=
  ⟨h.1, Nat.le_trans h.2.1 hk.1, Kd.R_kept h.2.2 hk (fun k h1 h2 => by omega)⟩
theorem OwnS.kept (h : OwnS d e W0 W lo hi v xs) (hk : Kept W W' (fun k => lo' ≤ k ∧ k < hi')) (hd : hi ≤ lo' ∨ hi' ≤ lo) : OwnS d e W0 W' lo hi v xs :=
  ⟨h.1, Nat.le_trans h.2.1 hk.1, Kd.S_kept h.2.2 hk (fun k h1 h2 => by omega)⟩
theorem OwnI.reads (h : OwnI d e W0 W lo hi v xs) : ∃ A c, v = .slice A xs.length c ∧ xs.length ≤ c ∧ d.C W A xs.length xs := Kd.R_reads h.2.2
theorem OwnS.reads (h : OwnS d e W0 W lo hi v xs) : ∃ A c, v = .slice A xs.length c ∧ xs.length ≤ c ∧ d.C W A xs.length xs := Kd.S_reads h.2.2
theorem OwnI.slice (h : OwnI d e W0 W lo hi v xs) : ∃ A c, v = .slice A xs.length c := Kd.R_slice h.2.2
theorem OwnS.slice (h : OwnS d e W0 W lo hi v xs) : ∃ A c, v = .slice A xs.length c := Kd.S_slice h.2.2
theorem OwnI.C {A : Option Addr} {n c : Nat} (h : OwnI d e W0 W lo hi (.slice A n c) xs) : d.C W A xs.length xs := (Kd.R_reads' h.2.2).2.2
theorem OwnS.C {A : Option Addr} {n c : Nat} (h : OwnS d e W0 W lo hi (.slice A n c) xs) : d.C W A xs.length xs := (Kd.S_reads' h.2.2).2.2
theorem OwnI.room {A : Option Addr} {n c : Nat} (h : OwnI d e W0 W lo hi (.slice A n c) xs) : xs.length ≤ c := by have h1 := Kd.R_reads' h.2.2; omega
theorem OwnS.room {A : Option Addr} {n c : Nat} (h : OwnS d e W0 W lo hi (.slice A n c) xs) : xs.length ≤ c := by have h1 := Kd.S_reads' h.2.2; omega
theorem OwnI.len {A : Option Addr} {n c : Nat} (h : OwnI d e W0 W lo hi (.slice A n c) xs) : xs.length = n := (Kd.R_reads' h.2.2).1.symm
theorem OwnS.len {A : Option Addr} {n c : Nat} (h : OwnS d e W0 W lo hi (.slice A n c) xs) : xs.length = n := (Kd.S_reads' h.2.2).1.symm
theorem blkI {g : Nat} {o : Obj} (hb : W.heap[g]? = some o) (hk : Kept W W' (fun k => lo' ≤ k ∧ k < hi')) (hd : g < lo' ∨ hi' ≤ g) : W'.heap[g]? = some o := blk_kept hb hk (by omega)
end
theorem own_back {α : Type} {d : Kd α} (hE : d.E = []) {e : Nat} {W0 W W' : World} {lo hi : Nat} {v : Value} {xs ys : List α} {ok : Nat → Prop} (h : OwnI d e W0 W lo hi v xs) (hk : Kept W W' (fun k => lo ≤ k ∧ k < hi)) (h' : Kd.R d e W' W0.heap.size ok v ys) : OwnI d e W0 W' lo hi v ys :=
  ⟨h.1, Nat.le_trans h.2.1 hk.1, Kd.R_mono (Kd.R_tight hE h') (fun k e => h.2.2.1 k e.symm)⟩
end Go.Proofs.Ythfemojaabejiaa.G
end
section
namespace Go.Proofs.Ythfemojaabejiaa.G
open Go.RowKit Go.Proofs.YthfemojaabejiaaW.PrintWords Go.Proofs.YthfemojaabejiaaW.PrintLast Go.Proofs.YthfemojaabejiaaW.PrintMore
set_option linter.unusedVariables false
set_option linter.unusedSimpArgs false
theorem lwInt (k : Nat) {W0 W : World} {lo hi : Nat} {v : Value} {xs ys : List Int} {a r : Int} (hB : Below W0.heap.size W0 W) (h : OwnI (Kd.int .i64) 3 W0 W lo hi v xs) (hf : laws_markIntS.f k xs a = some (r, ys)) :
    Calls Try.prog 24 #[v, .int .i64 a] W fun e W' => e = .returned (.int .i64 r) ∧ OwnI (Kd.int .i64) 3 W0 W' lo hi v ys ∧ Below W0.heap.size W0 W' ∧ Kept W W' (fun k => lo ≤ k ∧ k < hi) :=
  (laws_markIntS.calls k _ v xs a r ys W0 W hB h.2.2 hf).mono fun e W' ⟨h1, h2, h3, h4⟩ => ⟨h1, own_back rfl h h4 h2, h3, h4⟩
end Go.Proofs.Ythfemojaabejiaa.G
end
section
namespace Go.Proofs.Ythfemojaabejiaa.G
open Go.RowKit Go.Proofs.YthfemojaabejiaaW.PrintWords Go.Proofs.YthfemojaabejiaaW.PrintLast Go.Proofs.YthfemojaabejiaaW.PrintMore
set_option linter.unusedVariables false
set_option linter.unusedSimpArgs false
section
variable {α β : Type} {d : Kd α} {d' : Kd β} {e e' : Nat} {W0 W W' : World} {lo hi : Nat} {ok ok' : Nat → Prop} {b b' : Nat} {u v : Value} {xs ys : List α} {zs : List β}
def InSpan (u : Value) (lo hi : Nat) (k : Nat) : Prop := some k = u.ownBlock ∧ (lo ≤ k ∧ k < hi)
theorem own_ne (h : d.R e W b ok v xs) (h' : d'.R e' W b' ok' u zs) (hne : e ≠ e') : ∀ k, v.ownBlock = some k → some k ≠ u.ownBlock := by
  intro k hk hk'
  obtain ⟨c, hc⟩ := Kd.R_typed h k hk
  obtain ⟨c', hc'⟩ := Kd.R_typed h' k hk'.symm
  rw [hc] at hc'
  injection hc' with hc'
  injection hc' with _ hc'
  exact hne hc'
theorem OwnI.tight (h : OwnI d e W0 W lo hi v xs) (hE : d.E = []) : d.R e W W0.heap.size (InSpan v lo hi) v xs := Kd.R_tight2 hE h.2.2
theorem OwnI.apart (h : OwnI d e W0 W lo hi v xs) (hE : d.E = []) (hk : Kept W W' (InSpan u lo hi)) (hne : ∀ k, v.ownBlock = some k → some k ≠ u.ownBlock) : OwnI d e W0 W' lo hi v xs :=
  ⟨h.1, Nat.le_trans h.2.1 hk.1, Kd.R_mono (Kd.R_kept (h.tight hE) hk (fun k h1 h2 => hne k h1.1.symm h2.1)) (fun k h => h.2)⟩
theorem OwnI.apartT (h : OwnI d e W0 W lo hi v xs) (hu : d'.R e' W b' ok' u zs) (ht : ∀ q, q ∈ e :: d.E → q ≠ e') (hk : Kept W W' (InSpan u lo hi)) : OwnI d e W0 W' lo hi v xs :=
  ⟨h.1, Nat.le_trans h.2.1 hk.1, Kd.R_mono (Kd.R_kept (Kd.R_apartR h.2.2 hu ht) hk (fun k h1 h2 => h1.2 h2.1)) (fun k h => h.1)⟩
theorem OwnS.apartT (h : OwnS d e W0 W lo hi v xs) (hu : d'.R e' W b' ok' u zs) (ht : ∀ q, q ∈ e :: d.E → q ≠ e') (hk : Kept W W' (InSpan u lo hi)) : OwnS d e W0 W' lo hi v xs :=
  ⟨h.1, Nat.le_trans h.2.1 hk.1, Kd.S_mono (Kd.S_kept (Kd.S_apart' h.2.2 (Kd.R_typed hu) ht) hk (fun k h1 h2 => h1.2 h2.1)) (fun k h => h.1)⟩
theorem span_kept (hk : Kept W W' (InSpan u lo hi)) : Kept W W' (fun k => lo ≤ k ∧ k < hi) := hk.mono fun _ h => h.2
theorem OwnI.alloc (h : OwnI d e W0 W lo hi v xs) (o : Obj) : OwnI d e W0 (W.alloc o) lo hi v xs := h.below (qA (Below.refl _ _) o)
theorem OwnS.alloc (h : OwnS d e W0 W lo hi v xs) (o : Obj) : OwnS d e W0 (W.alloc o) lo hi v xs := h.below (qA (Below.refl _ _) o)
end
end Go.Proofs.Ythfemojaabejiaa.G
end
section
namespace Go.Proofs.Ythfemojaabejiaa.G
open Go.RowKit Go.Proofs.YthfemojaabejiaaW.PrintWords Go.Proofs.YthfemojaabejiaaW.PrintLast Go.Proofs.YthfemojaabejiaaW.PrintMore
set_option linter.unusedVariables false
set_option linter.unusedSimpArgs false
theorem lwBoolT (k : Nat) {W0 W : World} {lo hi : Nat} {v : Value} {xs ys : List Bool} {a r : Int} (hB : Below W0.heap.size W0 W) (h : OwnI Kd.bool 4 W0 W lo hi v xs) (hf : laws_markBoolS.f k xs a = some (r, ys)) :
    Calls Try.prog 72 #[v, .int .i64 a] W fun e W' => e = .returned (.int .i64 r) ∧ OwnI Kd.bool 4 W0 W' lo hi v ys ∧ Below W0.heap.size W0 W' ∧ Kept W W' (InSpan v lo hi) :=
  (laws_markBoolS.calls k _ v xs a r ys W0 W hB (h.tight rfl) hf).mono fun e W' ⟨h1, h2, h3, h4⟩ => ⟨h1, own_back rfl h (span_kept h4) h2, h3, h4⟩
end Go.Proofs.Ythfemojaabejiaa.G
end
section
namespace Go.Proofs.Ythfemojaabejiaa.G
open Go.RowKit Go.Proofs.YthfemojaabejiaaW.PrintWords Go.Proofs.YthfemojaabejiaaW.PrintLast Go.Proofs.YthfemojaabejiaaW.PrintMore
set_option linter.unusedVariables false
set_option linter.unusedSimpArgs false
inductive Sh where
  | mk : List Sh → Sh
def Sh.parts : Sh → List Sh
  | .mk ps => ps
mutual
def Sh.cnt : Sh → Nat
  | .mk ps => 1 + Sh.cntL ps
def Sh.cntL : List Sh → Nat
  | [] => 0
  | p :: ps => Sh.cnt p + Sh.cntL ps
end
mutual
def shT : S141 → Sh
  | ⟨_, _, ps⟩ => .mk (shL ps)
def shL : List S141 → List Sh
  | [] => []
  | p :: ps => shT p :: shL ps
end
theorem shL_map (ps : List S141) : shL ps = ps.map shT := by
  induction ps with
  | nil => simp [shL]
  | cons p ps ih => simp [shL, ih]
theorem shT_parts (t : S141) : (shT t).parts = t.f2.map shT := by
  cases t
  simp only [shT, Sh.parts, shL_map]
theorem cnt_parts (s : Sh) : s.cnt = 1 + Sh.cntL s.parts := by cases s; simp [Sh.cnt, Sh.parts]
theorem cntL_take (ss : List Sh) (i : Nat) (h : i < ss.length) : Sh.cntL (ss.take (i + 1)) = Sh.cntL (ss.take i) + ss[i].cnt := by
  induction ss generalizing i with
  | nil => simp at h
  | cons s ss ih =>
    cases i with
    | zero => simp [Sh.cntL]
    | succ i =>
      have := ih i (by simpa using h)
      simp only [List.take_succ_cons, Sh.cntL, List.getElem_cons_succ, this]
      omega
theorem cntL_le (ss : List Sh) (i : Nat) (h : i < ss.length) : Sh.cntL (ss.take i) + ss[i].cnt ≤ Sh.cntL ss := by
  induction ss generalizing i with
  | nil => simp at h
  | cons s ss ih =>
    cases i with
    | zero => simp [Sh.cntL]
    | succ i =>
      have := ih i (by simpa using h)
      simp only [List.take_succ_cons, Sh.cntL, List.getElem_cons_succ]
      omega
def FSh (d : Kd Sh) : Kd Sh := Kd.iso (Kd.pair anyInt (Kd.pair anyInt (Kd.slice 141 d))) (fun s : Sh => ((), (), s.parts))
theorem FSh_sub : Kd.Sub FSh [141] := Kd.sub_iso _ (Kd.sub_pair (Kd.sub_const _ (by decide)) (Kd.sub_pair (Kd.sub_const _ (by decide)) (Kd.sub_slice 141 (by decide) Kd.sub_id)))
theorem FSh_sz : ∀ n, (Kd.upto FSh 3 [141] n).sz = 3 := Kd.upto_sz (fun _ => rfl)
def kSh : Kd Sh := Kd.fix FSh 3 [141] FSh_sz (Kd.upto_E FSh_sub)
theorem ist_FSh (d : Kd Sh) (h : Ist d) : Ist (FSh d) := ist_iso _ (ist_pair ist_anyInt (ist_pair ist_anyInt (ist_slice _ h)))
theorem ist_kSh : Ist kSh := ist_fix ist_FSh
theorem kSh_openM {w : World} {base : Nat} {ok : Nat → Prop} {x : Sh} {cs : List Value} (h : kSh.M w base ok x cs) : ∃ (a b : Int) (v : Value), cs = [.int .i64 a, .int .i64 b, v] ∧ kSh.R 141 w base ok v x.parts := by
  obtain ⟨n, h⟩ := h
  cases n with
  | zero => exact h.elim
  | succ n =>
    obtain ⟨_, _, rfl, ⟨a, rfl⟩, ⟨_, _, rfl, ⟨b, rfl⟩, ⟨v, rfl, g⟩⟩⟩ := h
    exact ⟨a, b, v, rfl, Kd.fix_R g⟩
theorem sh_upto : ∀ (n : Nat) {w : World} {base : Nat} {ok : Nat → Prop} {x : S141} {cs : List Value}, (Kd.upto F141 3 [141] n).M w base ok x cs → (Kd.upto FSh 3 [141] n).M w base ok (shT x) cs := by
  intro n
  induction n with
  | zero => intro w base ok x cs h; exact h.elim
  | succ n ih =>
    intro w base ok x cs h
    obtain ⟨_, _, rfl, rfl, ⟨_, _, rfl, rfl, ⟨v, rfl, g⟩⟩⟩ := h
    refine ⟨_, _, rfl, ⟨_, rfl⟩, ⟨_, _, rfl, ⟨_, rfl⟩, ⟨v, rfl, ?_⟩⟩⟩
    show (Kd.upto FSh 3 [141] n).R _ w base ok v (shT x).parts
    rw [shT_parts]
    exact R_map shT ((sz141 n).trans (FSh_sz n).symm) (fun _ _ _ _ _ h => ih h) g
theorem sh_R {w : World} {base : Nat} {ok : Nat → Prop} {v : Value} {xs : List S141} (h : k141.R 141 w base ok v xs) : kSh.R 141 w base ok v (xs.map shT) :=
  R_map shT rfl (fun w base ok x cs h => by obtain ⟨n, h⟩ := h; exact ⟨n, sh_upto n h⟩) h
set_option maxHeartbeats 8000000 in
set_option maxRecDepth 100000 in
theorem markTask_w : ∀ (N : Nat) (ss : List Sh) (_ : Sh.cntL ss ≤ N) (A : Option Addr) (c : Nat) (k : Int) (w : World) (base : Nat) (ok : Nat → Prop) (_ : kSh.R 141 w base ok (.slice A ss.length c) ss) (_ : 0 ≤ k) (_ : k + 2 * (Sh.cntL ss : Int) ≤ 4611686018427387904),
    Calls Try.prog 73 #[.slice A ss.length c, .int .i64 k] w fun e w' => e = .returned (.int .i64 (k + 2 * (Sh.cntL ss : Int))) ∧ Marked w w' base ok := by
  intro N
  induction N using Nat.strongRecOn with
  | _ N ih =>
  intro ss hN A c k w base ok hR h0 hk
  have HI := qM ih
  have HR := qM hR
  have HN := qM hN
  have H0 := qM (And.intro h0 hk)
  clear ih hR hN h0 hk
  go_enter Try.func73, Try.ntmps73
  go_wp2
  go_loopg [1, 5] ss.length (fun kq v1 v5 w' => ∃ (i : Nat) (x1 x5 : Int), v1 = .int .i64 x1 ∧ v5 = .int .i64 x5 ∧ Aside0 (x1 = k + 2 * (Sh.cntL (ss.take i) : Int)) ∧ Aside0 (x5 = (i : Int)) ∧ Aside0 (i + kq = ss.length) ∧ Aside0 (Marked w w' base ok))
  case atStart => exact ⟨0, k, 0, rfl, rfl, ⟨by simp [Sh.cntL]⟩, ⟨rfl⟩, ⟨by omega⟩, ⟨Marked.refl _ _ _⟩⟩
  case round =>
    obtain ⟨i, x1, x5, rfl, rfl, HX1, HX5, HIK, HM⟩ := hrel
    cases gk with
    | zero =>
      have hb : decide (x5 < (ss.length : Int)) = false := decide_eq_false (by have := HX5.out; have := HIK.out; omega)
      have HE : Aside0 (x1 = k + 2 * (Sh.cntL ss : Int)) := ⟨by have h1 := HX1.out; have h2 := HIK.out; rw [List.take_of_length_le (by omega)] at h1; exact h1⟩
      clear HX1
      go_wp2
      go_ret
      exact ⟨by rw [HE.out]; rfl, HM.out⟩
    | succ gk =>
      have HLT : Aside0 (i < ss.length) := ⟨by have := HIK.out; omega⟩
      have hb : decide (x5 < (ss.length : Int)) = true := decide_eq_true (by have := HX5.out; have := HLT.out; omega)
      have HC := qM (cntL_le ss i HLT.out)
      have HC2 := qM (cntL_take ss i HLT.out)
      have HCP := qM (cnt_parts (ss[i]'HLT.out))
      have HRr := qM (HM.out.rows ist_kSh HR.out)
      have hp : 0 ≤ x5 := by have := HX5.out; omega
      have hq : x5 < (ss.length : Int) := by have := HX5.out; have := HLT.out; omega
      have HP := qM hp
      have HQ := qM hq
      obtain ⟨g, cap, e, hbg, _, _, _⟩ := Kd.R_form HRr.out (by have := HLT.out; omega)
      cases e
      have hOKg := HRr.out.1 g rfl
      have HG := qM (And.intro hOKg hbg)
      clear hOKg hbg
      obtain ⟨ce, hcl, hM, hcc, hfr⟩ := Kd.R_elem HRr.out (.mk []) x5 hp hq
      obtain ⟨a, b, v, rfl, _⟩ := kSh_openM hM
      have hx0 : wr.cell? ⟨g, x5.toNat * 3, none⟩ = some (.int .i64 a) := hcc 0 _ rfl
      have hf0 : wr.frozen? ⟨g, x5.toNat * 3, none⟩ = false := hfr 0
      have HX0 := qM hx0
      clear hcl hcc hfr hM
      have hp' : (0 ≤ x5) = True := eq_true hp
      have hq' : (x5 < (ss.length : Int)) = True := eq_true hq
      clear hp hq
      have HEI0 : Aside0 (ss.getD x5.toNat (.mk []) = ss[i]'HLT.out) := ⟨by rw [HX5.out, Int.toNat_natCast, List.getD_eq_getElem?_getD, List.getElem?_eq_getElem HLT.out, Option.getD_some]⟩
      go_wp2_with (first
        | ((with_reducible refine gate_store (t := 3) (p := 16) rfl ?_); refine store_event (t := 3) (p := 16) (v := ?vo_1) (w1 := (wr.setCell ⟨g, x5.toNat * 3, none⟩ (.int .i64 x1))) ?hg ?ho ?hn ?hr ?_; (case ho => rfl); (case hg => rfl); (case hn => rfl); (case hr => first | (go_simp; done) | (go_simp; rfl)); intro w9 hw; have HM9 := qM (show Marked w w9 base ok from by rw [hw]; exact HM.out.store _ HX0.out HG.out.1 HG.out.2); clear hw hx0 hf0;
           obtain ⟨ce, hcl, hM, hcc, hfr⟩ := Kd.R_elem (HM9.out.rows ist_kSh HR.out) (.mk []) x5 HP.out HQ.out; obtain ⟨a9, b9, v9, rfl, _⟩ := kSh_openM hM; have hx1 : w9.cell? ⟨g, x5.toNat * 3 + 1, none⟩ = some (.int .i64 b9) := hcc 1 _ rfl; have hf1 : w9.frozen? ⟨g, x5.toNat * 3 + 1, none⟩ = false := hfr 1; have HX1' := qM hx1; clear hcl hcc hfr hM)
        | ((with_reducible refine gate_store (t := 3) (p := 23) rfl ?_); refine store_event (t := 3) (p := 23) (v := ?vo_2) (w1 := (w9.setCell ⟨g, x5.toNat * 3 + 1, none⟩ (.int .i64 (wrap64 (x1 + 1))))) ?hg ?ho ?hn ?hr ?_; (case ho => rfl); (case hg => rfl); (case hn => rfl); (case hr => first | (go_simp; done) | (go_simp; rfl)); intro w11 hw; have HM11 := qM (show Marked w w11 base ok from by rw [hw]; exact HM9.out.store _ HX1'.out HG.out.1 HG.out.2); clear hw hx1 hf1;
           obtain ⟨ce, hcl, hM, hcc, hfr⟩ := Kd.R_elem (HM11.out.rows ist_kSh HR.out) (.mk []) x5 HP.out HQ.out; have hsi := HEI0.out; clear HEI0; generalize ss.getD x5.toNat (.mk []) = si at hM hsi; have HEI := qM hsi; clear hsi; obtain ⟨a11, b11, v11, rfl, hRv⟩ := kSh_openM hM; obtain ⟨Av, cv, rfl⟩ := Kd.R_slice hRv; have HRV := qM hRv; have hx2 : w11.cell? ⟨g, x5.toNat * 3 + 2, none⟩ = some (.slice Av si.parts.length cv) := hcc 2 _ rfl; clear hcl hcc hfr hM hRv))
      have hA : Sh.cntL si.parts < N := by
        rw [HEI.out]
        have h1 := HC.out
        have h2 := HCP.out
        have h3 := HN.out
        omega
      have hB : 0 ≤ wrap64 (wrap64 (x1 + 1) + 1) := by
        have h1 := HX1.out
        have h2 := H0.out
        have h3 := HC.out
        have h4 := HCP.out
        unfold wrap64
        omega
      have hD : wrap64 (wrap64 (x1 + 1) + 1) + 2 * (Sh.cntL si.parts : Int) ≤ 4611686018427387904 := by
        rw [HEI.out]
        have h1 := HX1.out
        have h2 := H0.out
        have h3 := HC.out
        have h4 := HCP.out
        unfold wrap64
        omega
      have HCALL := qM (HI.out _ hA si.parts (Nat.le_refl _) Av cv (wrap64 (wrap64 (x1 + 1) + 1)) w11 base _ HRV.out hB hD)
      clear hA hB hD
      with_reducible refine HCALL.out.mono ?_
      rintro e w1 ⟨rfl, hm⟩
      have HMM := qM (HM11.out.trans (hm.mono (Nat.le_refl _) (fun _ hk => hk.1)))
      clear hm
      go_wp2
      go_roundg gk
      case measure => omega
      case rel => exact ⟨i + 1, _, _, rfl, rfl, ⟨by rw [HEI.out]; have h1 := HX1.out; have h2 := H0.out; have h3 := HC.out; have h4 := HCP.out; have h5 := HC2.out; unfold wrap64; omega⟩, ⟨by have h1 := HX5.out; have h2 := HLT.out; have h3 := (Kd.R_reads' HR.out).2.2.2.1; unfold wrap64; omega⟩, ⟨by have := HIK.out; omega⟩, HMM⟩
end Go.Proofs.Ythfemojaabejiaa.G
end
section
namespace Go.Proofs.Ythfemojaabejiaa.G
open Go.RowKit Go.Proofs.YthfemojaabejiaaW.PrintWords Go.Proofs.YthfemojaabejiaaW.PrintLast Go.Proofs.YthfemojaabejiaaW.PrintMore
set_option linter.unusedVariables false
set_option linter.unusedSimpArgs false
theorem lwTaskS {W0 W : World} {lo hi : Nat} {v : Value} {xs : List S141} {a : Int} (hB : Below W0.heap.size W0 W) (h : OwnI k141 141 W0 W lo hi v xs) (h0 : 0 ≤ a) (h1 : a + 2 * (Sh.cntL (xs.map shT) : Int) ≤ 4611686018427387904) :
    Calls Try.prog 73 #[v, .int .i64 a] W fun e W' => e = .returned (.int .i64 (a + 2 * (Sh.cntL (xs.map shT) : Int))) ∧ Below W0.heap.size W0 W' ∧ Kept W W' (fun k => lo ≤ k ∧ k < hi) := by
  obtain ⟨A, c, rfl⟩ := h.slice
  have hR := sh_R h.2.2
  have hl : (xs.map shT).length = xs.length := List.length_map ..
  have := markTask_w _ (xs.map shT) (Nat.le_refl _) A c a W W0.heap.size _ (by rw [hl]; exact hR) h0 h1
  rw [hl] at this
  exact this.mono fun e W' ⟨e1, hm⟩ => ⟨e1, hB.trans hm.below, hm.kept⟩
end Go.Proofs.Ythfemojaabejiaa.G
end
section
namespace Go.Proofs.Ythfemojaabejiaa.G
open Go.RowKit Go.Proofs.YthfemojaabejiaaW.PrintWords Go.Proofs.YthfemojaabejiaaW.PrintLast Go.Proofs.YthfemojaabejiaaW.PrintMore
set_option linter.unusedVariables false
set_option linter.unusedSimpArgs false
set_option maxHeartbeats 8000000 in
set_option maxRecDepth 100000 in
theorem lwSheet (k : Nat) {W0 W : World} {lo hi : Nat} {v0 v1 : Value} {bs bs' : List Bool} {ts : List S141} {a r : Int} (hB : Below W0.heap.size W0 W) (h0 : OwnI Kd.bool 4 W0 W lo hi v0 bs) (h1 : OwnI k141 141 W0 W lo hi v1 ts) (hf : laws_markBoolS.f k bs a = some (r, bs')) (hr0 : 0 ≤ r) (hr1 : r + 2 * (Sh.cntL (ts.map shT) : Int) ≤ 4611686018427387904) :
    Calls Try.prog 23 #[.agg #[v0, v1], .int .i64 a] W fun e W' => e = .returned (.int .i64 (r + 2 * (Sh.cntL (ts.map shT) : Int))) ∧ Below W0.heap.size W0 W' ∧ Kept W W' (fun k => lo ≤ k ∧ k < hi) := by
  obtain ⟨A0, c0, rfl⟩ := h0.slice
  obtain ⟨A1, c1, rfl⟩ := h1.slice
  have hu := Try.underlying30
  have hbx := heap_alloc_new W (.cells #[.slice A0 bs.length c0, .slice A1 ts.length c1] 30)
  have CK := qM (lwBoolT k (qA hB (.cells #[.slice A0 bs.length c0, .slice A1 ts.length c1] 30)) (h0.alloc _) hf)
  have H0 := qM (h0.alloc (.cells #[.slice A0 bs.length c0, .slice A1 ts.length c1] 30))
  have H1 := qM (h1.alloc (.cells #[.slice A0 bs.length c0, .slice A1 ts.length c1] 30))
  have BX := qM hbx
  have HHI := qM h0.2.1
  have KA := qM ((Kept.refl W (fun k => lo ≤ k ∧ k < hi)).alloc (.cells #[.slice A0 bs.length c0, .slice A1 ts.length c1] 30))
  have HR0 := qM hr0
  have HR1 := qM hr1
  have hx0 : (W.alloc (.cells #[.slice A0 bs.length c0, .slice A1 ts.length c1] 30)).cell? ⟨W.heap.size, 0, none⟩ = some (.slice A0 bs.length c0) := (qC hbx 0).trans rfl
  clear h0 h1 hf hbx hB hr0 hr1
  go_enter Try.func23, Try.ntmps23
  go_wp2_with fail
  with_reducible refine CK.out.mono ?_
  rintro e w1 ⟨rfl, ho, hb, hk⟩
  have BX1 := qM (blk_kept BX.out hk (fun h => by have h1 := h.2.2; have h2 := HHI.out; omega))
  have H11 := qM (H1.out.apartT H0.out.2.2 (by decide) hk)
  have KA1 := qM (KA.out.then_ hk (fun k h => .inl h.2))
  have HB1 := qM hb
  clear CK ho hb hk H0 H1 BX KA hx0
  have hx1 : w1.cell? ⟨W.heap.size, 1, none⟩ = some (.slice A1 ts.length c1) := (qC BX1.out 1).trans rfl
  have CK := qM (lwTaskS (a := r) HB1.out H11.out HR0.out HR1.out)
  go_wp2_with fail
  with_reducible refine CK.out.mono ?_
  rintro e w2 ⟨rfl, hb, hk⟩
  have KA2 := qM (KA1.out.then_ hk (fun k h => .inl h))
  have HB2 := qM hb
  clear CK hb hk BX1 H11 KA1 HB1 hx1
  go_wp2
  go_ret
  exact ⟨rfl, HB2.out, KA2.out⟩
end Go.Proofs.Ythfemojaabejiaa.G
end
section
namespace Go.Proofs.Ythfemojaabejiaa.G
open Go.RowKit Go.Proofs.YthfemojaabejiaaW.PrintWords Go.Proofs.YthfemojaabejiaaW.PrintLast Go.Proofs.YthfemojaabejiaaW.PrintMore
set_option linter.unusedVariables false
set_option linter.unusedSimpArgs false
set_option maxHeartbeats 8000000 in
set_option maxRecDepth 100000 in
theorem lw_FnExactOrderTopo (A0_0 : Option Addr) (c0_0 : Nat) (l0_0 : List (Bool)) (A0_1 : Option Addr) (c0_1 : Nat) (l0_1 : List (S138)) (A1 : Option Addr) (c1 : Nat) (l1 : List (Int)) (w : World) (hr0_0 : Kd.C Kd.bool w A0_0 l0_0.length l0_0) (hc0_0 : l0_0.length ≤ c0_0) (hr0_1 : Kd.C k138 w A0_1 l0_1.length l0_1) (hc0_1 : l0_1.length ≤ c0_1) (hr1 : Kd.C (Kd.int .i64) w A1 l1.length l1) (hc1 : l1.length ≤ c1) (hl_l1 : (l1.length : Int) ≤ 1048576) (r1 : Int) (r2 : List Bool) (r3 : List (S141)) (r4 : List Int) (r5 : List Int) (r6 : Bool) (m7 : List Bool) (k8 : Int) (m9 : List (Int)) (k10 : Int) (m11 : List (Int)) (k12 : Int) (K1 : Nat) (H1 : laws_szSheet.f K1 l0_0 l0_1 1048576 = some r1) (K2 : Nat) (H2 : laws_toSheet.f K2 l0_0 l0_1 = some (r2, r3)) (K3 : Nat) (H3 : laws_toIntS.f K3 l1 = some r4) (K4 : Nat) (H4 : spec_OrderTopo.f K4 r2 r3 r4 = some (r5, r6)) (H5 : impl_OrderTopo.f r2 r3 r4 = some (r5, r6)) (K6 : Nat) (H6 : laws_eqIntS.f K6 r5 r5 = some true) (K7 : Nat) (H7 : laws_eqSheet.f K7 r2 r3 r2 r3 = some true) (K8 : Nat) (H8 : laws_eqIntS.f K8 r4 r4 = some true) (K9 : Nat) (H9 : laws_markBoolS.f K9 r2 1 = some (k8, m7)) (K10 : Nat) (H10 : laws_markIntS.f K10 r4 (k8 + 2 * (Sh.cntL (r3.map shT) : Int)) = some (k10, m9)) (K11 : Nat) (H11 : laws_markIntS.f K11 r5 1 = some (k12, m11)) (K12 : Nat) (H12 : laws_heldIntS.f K12 m11 1 = some k12) (hx_1 : 0 ≤ r1) (hx_2 : 0 ≤ k8) (hx_3 : k8 + 2 * (Sh.cntL (r3.map shT) : Int) ≤ 4611686018427387904) (hx_4 : 0 ≤ k10) (hx_5 : 0 ≤ k12) :
   Calls Try.prog 4 #[.agg #[.slice A0_0 l0_0.length c0_0, .slice A0_1 l0_1.length c0_1], .slice A1 l1.length c1] w fun e w' => e = .returned (.bool true) ∧ Below w.heap.size w w' := by
 have hu25 := Try.underlying25
 have hu30 := Try.underlying30
 have HR0_0 := qM hr0_0
 have HC0_0 := qM hc0_0
 clear hr0_0 hc0_0
 have HR0_1 := qM hr0_1
 have HC0_1 := qM hc0_1
 clear hr0_1 hc0_1
 have HR1 := qM hr1
 have HC1 := qM hc1
 clear hr1 hc1
 have G1 := qM H1
 clear H1
 have G2 := qM H2
 clear H2
 have G3 := qM H3
 clear H3
 have G4 := qM H4
 clear H4
 have G5 := qM H5
 clear H5
 have G6 := qM H6
 clear H6
 have G7 := qM H7
 clear H7
 have G8 := qM H8
 clear H8
 have G9 := qM H9
 clear H9
 have G10 := qM H10
 clear H10
 have G11 := qM H11
 clear H11
 have G12 := qM H12
 clear H12
 have HX1 := qM hx_1
 have HX2 := qM hx_2
 have HX3 := qM hx_3
 have HX4 := qM hx_4
 have HX5 := qM hx_5
 have hd_1 : decide (r1 < 0) = false := decide_eq_false (by omega)
 have hd_2 : decide (k8 < 0) = false := decide_eq_false (by omega)
 have hd_4 : decide (k10 < 0) = false := decide_eq_false (by omega)
 have hd_5 : decide (k12 < 0) = false := decide_eq_false (by omega)
 have hds_1 : decide (k8 + 2 * (Sh.cntL (r3.map shT) : Int) < 0) = false := decide_eq_false (by omega)
 have hdl_l1 : decide ((l1.length : Int) > 1048576) = false := decide_eq_false (by omega)
 clear hx_1 hx_2 hx_3 hx_4 hx_5 hl_l1
 have HB := qM (Below.refl w.heap.size w)
 go_enter Try.func4, Try.ntmps4
 have hx1 : (w.alloc (.cells #[.slice A0_0 l0_0.length c0_0, .slice A0_1 l0_1.length c0_1] 25)).cell? ⟨w.heap.size, 0, none⟩ = some (.slice A0_0 l0_0.length c0_0) := (qC (show (w.alloc (.cells #[.slice A0_0 l0_0.length c0_0, .slice A0_1 l0_1.length c0_1] 25)).heap[w.heap.size]? = some (.cells #[.slice A0_0 l0_0.length c0_0, .slice A0_1 l0_1.length c0_1] 25 (0, 0)) from by have h_ := heap_alloc_new w (.cells #[.slice A0_0 l0_0.length c0_0, .slice A0_1 l0_1.length c0_1] 25); simpa using h_) 0).trans rfl
 have hx2 : (w.alloc (.cells #[.slice A0_0 l0_0.length c0_0, .slice A0_1 l0_1.length c0_1] 25)).cell? ⟨w.heap.size, 1, none⟩ = some (.slice A0_1 l0_1.length c0_1) := (qC (show (w.alloc (.cells #[.slice A0_0 l0_0.length c0_0, .slice A0_1 l0_1.length c0_1] 25)).heap[w.heap.size]? = some (.cells #[.slice A0_0 l0_0.length c0_0, .slice A0_1 l0_1.length c0_1] 25 (0, 0)) from by have h_ := heap_alloc_new w (.cells #[.slice A0_0 l0_0.length c0_0, .slice A0_1 l0_1.length c0_1] 25); simpa using h_) 1).trans rfl
 have CK := qM (laws_szSheet.calls K1 A0_0 c0_0 l0_0 A0_1 c0_1 l0_1 1048576 r1 (w.alloc (.cells #[.slice A0_0 l0_0.length c0_0, .slice A0_1 l0_1.length c0_1] 25)) (qB HR0_0.out (qA HB.out _)) HC0_0.out (qB HR0_1.out (qA HB.out _)) HC0_1.out G1.out)
 go_wp2_with fail
 with_reducible refine CK.out.mono ?_
 rintro e w3 ⟨rfl, hb0⟩
 have hb := hb0
 clear CK hb0
 clear hx1 hx2
 have hW_ : Below w.heap.size w w3 := (qA (Below.refl w.heap.size w) _).trans (hb.mono (qA (Below.refl w.heap.size w) _).size)
 have SZ1 := qM (Nat.le_trans (Nat.succ_le_of_lt (blk_lt (show (w.alloc (.cells #[.slice A0_0 l0_0.length c0_0, .slice A0_1 l0_1.length c0_1] 25)).heap[w.heap.size]? = some (.cells #[.slice A0_0 l0_0.length c0_0, .slice A0_1 l0_1.length c0_1] 25 (0, 0)) from by have h_ := heap_alloc_new w (.cells #[.slice A0_0 l0_0.length c0_0, .slice A0_1 l0_1.length c0_1] 25); simpa using h_)) : w.heap.size + 1 ≤ (w.alloc (.cells #[.slice A0_0 l0_0.length c0_0, .slice A0_1 l0_1.length c0_1] 25)).heap.size) hb.size)
 have SS1 := SZ1
 clear SZ1
 have BX0 := qM ((hb.block _ (blk_lt (show (w.alloc (.cells #[.slice A0_0 l0_0.length c0_0, .slice A0_1 l0_1.length c0_1] 25)).heap[w.heap.size]? = some (.cells #[.slice A0_0 l0_0.length c0_0, .slice A0_1 l0_1.length c0_1] 25 (0, 0)) from by have h_ := heap_alloc_new w (.cells #[.slice A0_0 l0_0.length c0_0, .slice A0_1 l0_1.length c0_1] 25); simpa using h_))).trans (show (w.alloc (.cells #[.slice A0_0 l0_0.length c0_0, .slice A0_1 l0_1.length c0_1] 25)).heap[w.heap.size]? = some (.cells #[.slice A0_0 l0_0.length c0_0, .slice A0_1 l0_1.length c0_1] 25 (0, 0)) from by have h_ := heap_alloc_new w (.cells #[.slice A0_0 l0_0.length c0_0, .slice A0_1 l0_1.length c0_1] 25); simpa using h_))
 replace HB := qM (HB.out.trans (hW_.mono HB.out.size))
 clear hb hW_
 have hx4 : w3.cell? ⟨w.heap.size, 0, none⟩ = some (.slice A0_0 l0_0.length c0_0) := (qC BX0.out 0).trans rfl
 have hx5 : w3.cell? ⟨w.heap.size, 1, none⟩ = some (.slice A0_1 l0_1.length c0_1) := (qC BX0.out 1).trans rfl
 have CK := qM (laws_toSheet.calls K2 A0_0 c0_0 l0_0 A0_1 c0_1 l0_1 r2 r3 w3 (qB HR0_0.out HB.out) HC0_0.out (qB HR0_1.out HB.out) HC0_1.out G2.out)
 go_wp2_with fail
 with_reducible refine CK.out.mono ?_
 rintro e w6 ⟨v0_, v1_, rfl, ho0, ho1, hb0⟩
 have hb := hb0
 clear CK hb0
 clear hx4 hx5
 have hW_ := hb
 replace BX0 := qM ((hb.block _ (blk_lt BX0.out)).trans BX0.out)
 obtain ⟨lo1, elo1⟩ : ∃ n_, w3.heap.size = n_ := ⟨_, rfl⟩
 obtain ⟨hi1, ehi1⟩ : ∃ n_, w6.heap.size = n_ := ⟨_, rfl⟩
 have hn_0 := OwnI.new (W0 := w) HB.out.size hb.size ho0
 rw [elo1, ehi1] at hn_0
 obtain ⟨Ao7, co7, rfl⟩ := hn_0.slice
 have HOo7 := qM hn_0
 clear hn_0 ho0
 have hn_1 := OwnI.new (W0 := w) HB.out.size hb.size ho1
 rw [elo1, ehi1] at hn_1
 obtain ⟨Ao8, co8, rfl⟩ := hn_1.slice
 have HOo8 := qM hn_1
 clear hn_1 ho1
 have SP1 := qM (And.intro (by have h_ := hb.size; rw [elo1, ehi1] at h_; exact h_ : lo1 ≤ hi1) (And.intro (Nat.le_of_eq elo1 : w3.heap.size ≤ lo1) (Nat.le_of_eq ehi1.symm : hi1 ≤ w6.heap.size)))
 have SS2 := qM (And.intro SP1.out SS1.out)
 clear SS1
 clear SP1
 replace HB := qM (HB.out.trans (hW_.mono HB.out.size))
 clear hb hW_ elo1 ehi1
 have CK := qM (laws_toIntS.calls K3 A1 c1 l1 r4 w6 (qB HR1.out HB.out) HC1.out G3.out)
 go_wp2_with fail
 with_reducible refine CK.out.mono ?_
 rintro e w9 ⟨v0_, rfl, ho0, hb0⟩
 have hb := hb0
 clear CK hb0
 have hW_ := hb
 replace BX0 := qM ((hb.block _ (blk_lt BX0.out)).trans BX0.out)
 replace HOo7 := qM (HOo7.out.below hW_)
 replace HOo8 := qM (HOo8.out.below hW_)
 obtain ⟨lo2, elo2⟩ : ∃ n_, w6.heap.size = n_ := ⟨_, rfl⟩
 obtain ⟨hi2, ehi2⟩ : ∃ n_, w9.heap.size = n_ := ⟨_, rfl⟩
 have hn_0 := OwnI.new (W0 := w) HB.out.size hb.size ho0
 rw [elo2, ehi2] at hn_0
 obtain ⟨Ao10, co10, rfl⟩ := hn_0.slice
 have HOo10 := qM hn_0
 clear hn_0 ho0
 have SP2 := qM (And.intro (by have h_ := hb.size; rw [elo2, ehi2] at h_; exact h_ : lo2 ≤ hi2) (And.intro (Nat.le_of_eq elo2 : w6.heap.size ≤ lo2) (Nat.le_of_eq ehi2.symm : hi2 ≤ w9.heap.size)))
 have SS3 := qM (And.intro SP2.out SS2.out)
 clear SS2
 clear SP2
 replace HB := qM (HB.out.trans (hW_.mono HB.out.size))
 clear hb hW_ elo2 ehi2
 have CK := qM (spec_OrderTopo.calls K4 Ao7 co7 r2 Ao8 co8 r3 Ao10 co10 r4 r5 r6 w9 HOo7.out.C HOo7.out.room HOo8.out.C HOo8.out.room HOo10.out.C HOo10.out.room G4.out)
 go_wp2_with fail
 with_reducible refine CK.out.mono ?_
 rintro e w11 ⟨v0_, rfl, ho0, hb0⟩
 have hb := hb0
 clear CK hb0
 have hW_ := hb
 replace BX0 := qM ((hb.block _ (blk_lt BX0.out)).trans BX0.out)
 replace HOo7 := qM (HOo7.out.below hW_)
 replace HOo8 := qM (HOo8.out.below hW_)
 replace HOo10 := qM (HOo10.out.below hW_)
 obtain ⟨lo3, elo3⟩ : ∃ n_, w9.heap.size = n_ := ⟨_, rfl⟩
 obtain ⟨hi3, ehi3⟩ : ∃ n_, w11.heap.size = n_ := ⟨_, rfl⟩
 have hn_0 := OwnI.new (W0 := w) HB.out.size hb.size ho0
 rw [elo3, ehi3] at hn_0
 obtain ⟨Ao12, co12, rfl⟩ := hn_0.slice
 have HOo12 := qM hn_0
 clear hn_0 ho0
 have SP3 := qM (And.intro (by have h_ := hb.size; rw [elo3, ehi3] at h_; exact h_ : lo3 ≤ hi3) (And.intro (Nat.le_of_eq elo3 : w9.heap.size ≤ lo3) (Nat.le_of_eq ehi3.symm : hi3 ≤ w11.heap.size)))
 have SS4 := qM (And.intro SP3.out SS3.out)
 clear SS3
 clear SP3
 replace HB := qM (HB.out.trans (hW_.mono HB.out.size))
 clear hb hW_ elo3 ehi3
 have hx13 : w11.cell? ⟨w.heap.size, 0, none⟩ = some (.slice A0_0 l0_0.length c0_0) := (qC BX0.out 0).trans rfl
 have hx14 : w11.cell? ⟨w.heap.size, 1, none⟩ = some (.slice A0_1 l0_1.length c0_1) := (qC BX0.out 1).trans rfl
 have CK := qM (laws_toSheet.calls K2 A0_0 c0_0 l0_0 A0_1 c0_1 l0_1 r2 r3 w11 (qB HR0_0.out HB.out) HC0_0.out (qB HR0_1.out HB.out) HC0_1.out G2.out)
 go_wp2_with fail
 with_reducible refine CK.out.mono ?_
 rintro e w15 ⟨v0_, v1_, rfl, ho0, ho1, hb0⟩
 have hb := hb0
 clear CK hb0
 clear hx13 hx14
 have hW_ := hb
 replace BX0 := qM ((hb.block _ (blk_lt BX0.out)).trans BX0.out)
 replace HOo7 := qM (HOo7.out.below hW_)
 replace HOo8 := qM (HOo8.out.below hW_)
 replace HOo10 := qM (HOo10.out.below hW_)
 replace HOo12 := qM (HOo12.out.below hW_)
 obtain ⟨lo4, elo4⟩ : ∃ n_, w11.heap.size = n_ := ⟨_, rfl⟩
 obtain ⟨hi4, ehi4⟩ : ∃ n_, w15.heap.size = n_ := ⟨_, rfl⟩
 have hn_0 := OwnI.new (W0 := w) HB.out.size hb.size ho0
 rw [elo4, ehi4] at hn_0
 obtain ⟨Ao16, co16, rfl⟩ := hn_0.slice
 have HOo16 := qM hn_0
 clear hn_0 ho0
 have hn_1 := OwnI.new (W0 := w) HB.out.size hb.size ho1
 rw [elo4, ehi4] at hn_1
 obtain ⟨Ao17, co17, rfl⟩ := hn_1.slice
 have HOo17 := qM hn_1
 clear hn_1 ho1
 have SP4 := qM (And.intro (by have h_ := hb.size; rw [elo4, ehi4] at h_; exact h_ : lo4 ≤ hi4) (And.intro (Nat.le_of_eq elo4 : w11.heap.size ≤ lo4) (Nat.le_of_eq ehi4.symm : hi4 ≤ w15.heap.size)))
 have SS5 := qM (And.intro SP4.out SS4.out)
 clear SS4
 clear SP4
 replace HB := qM (HB.out.trans (hW_.mono HB.out.size))
 clear hb hW_ elo4 ehi4
 have CK := qM (laws_toIntS.calls K3 A1 c1 l1 r4 (w15.alloc (.cells #[.slice Ao16 r2.length co16, .slice Ao17 r3.length co17] 30)) (qB HR1.out (qA HB.out _)) HC1.out G3.out)
 go_wp2_with fail
 with_reducible refine CK.out.mono ?_
 rintro e w18 ⟨v0_, rfl, ho0, hb0⟩
 have hb := hb0
 clear CK hb0
 have hW_ : Below w15.heap.size w15 w18 := (qA (Below.refl w15.heap.size w15) _).trans (hb.mono (qA (Below.refl w15.heap.size w15) _).size)
 replace BX0 := qM ((hb.block _ (blk_lt (qa BX0.out _))).trans (qa BX0.out _))
 have BX1 := qM ((hb.block _ (blk_lt (show (w15.alloc (.cells #[.slice Ao16 r2.length co16, .slice Ao17 r3.length co17] 30)).heap[w15.heap.size]? = some (.cells #[.slice Ao16 r2.length co16, .slice Ao17 r3.length co17] 30 (0, 0)) from by have h_ := heap_alloc_new w15 (.cells #[.slice Ao16 r2.length co16, .slice Ao17 r3.length co17] 30); simpa using h_))).trans (show (w15.alloc (.cells #[.slice Ao16 r2.length co16, .slice Ao17 r3.length co17] 30)).heap[w15.heap.size]? = some (.cells #[.slice Ao16 r2.length co16, .slice Ao17 r3.length co17] 30 (0, 0)) from by have h_ := heap_alloc_new w15 (.cells #[.slice Ao16 r2.length co16, .slice Ao17 r3.length co17] 30); simpa using h_))
 replace HOo7 := qM (HOo7.out.below hW_)
 replace HOo8 := qM (HOo8.out.below hW_)
 replace HOo10 := qM (HOo10.out.below hW_)
 replace HOo12 := qM (HOo12.out.below hW_)
 replace HOo16 := qM (HOo16.out.below hW_)
 replace HOo17 := qM (HOo17.out.below hW_)
 obtain ⟨lo5, elo5⟩ : ∃ n_, (w15.alloc (.cells #[.slice Ao16 r2.length co16, .slice Ao17 r3.length co17] 30)).heap.size = n_ := ⟨_, rfl⟩
 obtain ⟨hi5, ehi5⟩ : ∃ n_, w18.heap.size = n_ := ⟨_, rfl⟩
 have hn_0 := OwnI.new (W0 := w) (qA HB.out _).size hb.size ho0
 rw [elo5, ehi5] at hn_0
 obtain ⟨Ao19, co19, rfl⟩ := hn_0.slice
 have HOo19 := qM hn_0
 clear hn_0 ho0
 have SP5 := qM (And.intro (by have h_ := hb.size; rw [elo5, ehi5] at h_; exact h_ : lo5 ≤ hi5) (And.intro (by have h_ := (Nat.succ_le_of_lt (blk_lt (show (w15.alloc (.cells #[.slice Ao16 r2.length co16, .slice Ao17 r3.length co17] 30)).heap[w15.heap.size]? = some (.cells #[.slice Ao16 r2.length co16, .slice Ao17 r3.length co17] 30 (0, 0)) from by have h_ := heap_alloc_new w15 (.cells #[.slice Ao16 r2.length co16, .slice Ao17 r3.length co17] 30); simpa using h_)) : w15.heap.size + 1 ≤ (w15.alloc (.cells #[.slice Ao16 r2.length co16, .slice Ao17 r3.length co17] 30)).heap.size); rw [elo5] at h_; exact h_ : w15.heap.size + 1 ≤ lo5) (Nat.le_of_eq ehi5.symm : hi5 ≤ w18.heap.size)))
 have SS6 := qM (And.intro SP5.out SS5.out)
 clear SS5
 clear SP5
 replace HB := qM (HB.out.trans (hW_.mono HB.out.size))
 clear hb hW_ elo5 ehi5
 have hx20 : w18.cell? ⟨w15.heap.size, 0, none⟩ = some (.slice Ao16 r2.length co16) := (qC BX1.out 0).trans rfl
 have hx21 : w18.cell? ⟨w15.heap.size, 1, none⟩ = some (.slice Ao17 r3.length co17) := (qC BX1.out 1).trans rfl
 have CK := qM (impl_OrderTopo.calls Ao16 co16 r2 Ao17 co17 r3 Ao19 co19 r4 r5 r6 w18 HOo16.out.C HOo16.out.room HOo17.out.C HOo17.out.room HOo19.out.C HOo19.out.room G5.out)
 go_wp2_with fail
 with_reducible refine CK.out.mono ?_
 rintro e w22 ⟨v0_, rfl, ho0, hb0⟩
 have hb := hb0
 clear CK hb0
 clear hx20 hx21
 have hW_ := hb
 replace BX0 := qM ((hb.block _ (blk_lt BX0.out)).trans BX0.out)
 replace BX1 := qM ((hb.block _ (blk_lt BX1.out)).trans BX1.out)
 replace HOo7 := qM (HOo7.out.below hW_)
 replace HOo8 := qM (HOo8.out.below hW_)
 replace HOo10 := qM (HOo10.out.below hW_)
 replace HOo12 := qM (HOo12.out.below hW_)
 replace HOo16 := qM (HOo16.out.below hW_)
 replace HOo17 := qM (HOo17.out.below hW_)
 replace HOo19 := qM (HOo19.out.below hW_)
 obtain ⟨lo6, elo6⟩ : ∃ n_, w18.heap.size = n_ := ⟨_, rfl⟩
 obtain ⟨hi6, ehi6⟩ : ∃ n_, w22.heap.size = n_ := ⟨_, rfl⟩
 have hn_0 := OwnI.new (W0 := w) HB.out.size hb.size ho0
 rw [elo6, ehi6] at hn_0
 obtain ⟨Ao23, co23, rfl⟩ := hn_0.slice
 have HOo23 := qM hn_0
 clear hn_0 ho0
 have SP6 := qM (And.intro (by have h_ := hb.size; rw [elo6, ehi6] at h_; exact h_ : lo6 ≤ hi6) (And.intro (Nat.le_of_eq elo6 : w18.heap.size ≤ lo6) (Nat.le_of_eq ehi6.symm : hi6 ≤ w22.heap.size)))
 have SS7 := qM (And.intro SP6.out SS6.out)
 clear SS6
 clear SP6
 replace HB := qM (HB.out.trans (hW_.mono HB.out.size))
 clear hb hW_ elo6 ehi6
 have CK := qM (laws_eqIntS.calls K6 Ao23 co23 r5 Ao12 co12 r5 true w22 HOo23.out.C HOo23.out.room HOo12.out.C HOo12.out.room G6.out)
 go_wp2_with fail
 with_reducible refine CK.out.mono ?_
 rintro e w24 ⟨rfl, hb0⟩
 have hb := hb0.below
 clear CK hb0
 have hW_ := hb
 have SZ2 := qM hb.size
 have SS8 := qM (And.intro SZ2.out SS7.out)
 clear SS7
 clear SZ2
 replace BX0 := qM ((hb.block _ (blk_lt BX0.out)).trans BX0.out)
 replace BX1 := qM ((hb.block _ (blk_lt BX1.out)).trans BX1.out)
 replace HOo7 := qM (HOo7.out.below hW_)
 replace HOo8 := qM (HOo8.out.below hW_)
 replace HOo10 := qM (HOo10.out.below hW_)
 replace HOo12 := qM (HOo12.out.below hW_)
 replace HOo16 := qM (HOo16.out.below hW_)
 replace HOo17 := qM (HOo17.out.below hW_)
 replace HOo19 := qM (HOo19.out.below hW_)
 replace HOo23 := qM (HOo23.out.below hW_)
 replace HB := qM (HB.out.trans (hW_.mono HB.out.size))
 clear hb hW_
 try go_wp2_with fail
 refine start_ (n := 5) (S := fun w' => w'.cell? ⟨w15.heap.size, 0, none⟩ = some (.slice Ao16 r2.length co16) ∧ w'.cell? ⟨w15.heap.size, 1, none⟩ = some (.slice Ao17 r3.length co17) ∧ w'.cell? ⟨w.heap.size, 0, none⟩ = some (.slice A0_0 l0_0.length c0_0) ∧ w'.cell? ⟨w.heap.size, 1, none⟩ = some (.slice A0_1 l0_1.length c0_1)) (ds := []) #[false, false, false, false, false] (by kernel_rfl) rfl rfl ⟨(qC (qd BX1.out) 0).trans rfl, (qC (qd BX1.out) 1).trans rfl, (qC (qd BX0.out) 0).trans rfl, (qC (qd BX0.out) 1).trans rfl⟩ (fun hHeld => ?_)
 have hW_ := qD (Below.refl w24.heap.size w24)
 have SZ3 := qM (Nat.le_trans (Nat.le_refl w24.heap.size : w24.heap.size ≤ w24.heap.size) (qD (Below.refl w24.heap.size w24)).size)
 replace BX0 := qM (qd BX0.out)
 replace BX1 := qM (qd BX1.out)
 generalize w24.drew = w25 at hW_ hHeld SZ3 BX0 BX1 ⊢
 have SS9 := qM (And.intro SZ3.out SS8.out)
 clear SS8
 clear SZ3
 replace HOo7 := qM (HOo7.out.below hW_)
 replace HOo8 := qM (HOo8.out.below hW_)
 replace HOo10 := qM (HOo10.out.below hW_)
 replace HOo12 := qM (HOo12.out.below hW_)
 replace HOo16 := qM (HOo16.out.below hW_)
 replace HOo17 := qM (HOo17.out.below hW_)
 replace HOo19 := qM (HOo19.out.below hW_)
 replace HOo23 := qM (HOo23.out.below hW_)
 replace HB := qM (HB.out.trans (hW_.mono HB.out.size))
 clear hW_
 refine take_ (i := 0) (N := some 52) (v := ?_) (a' := ?_) #[true, false, false, false, false] rfl rfl (by kernel_rfl) (fun _ _ _ h => h) (Or.inl ⟨by rfl, ?_⟩) hHeld ?_ ?_
 rotate_left
 · rintro w' ⟨s0, s1, s2, s3⟩
   go_simp
   with_reducible rfl
 rotate_left
 · simp only [Act.put, List.setIfInBounds_toArray, List.set_cons_zero, List.set_cons_succ, i64_w, i32_w]
   rfl
 refine take_ (i := 1) (N := some 53) (v := ?_) (a' := ?_) #[true, true, false, false, false] rfl rfl (by kernel_rfl) (fun _ _ _ h => h) (Or.inl ⟨by rfl, ?_⟩) hHeld ?_ ?_
 rotate_left
 · rintro w' ⟨s0, s1, s2, s3⟩
   go_simp
   with_reducible rfl
 rotate_left
 · simp only [Act.put, List.setIfInBounds_toArray, List.set_cons_zero, List.set_cons_succ, i64_w, i32_w]
   rfl
 have CK := qM (laws_toSheet.calls K2 A0_0 c0_0 l0_0 A0_1 c0_1 l0_1 r2 r3 w25 (qB HR0_0.out HB.out) HC0_0.out (qB HR0_1.out HB.out) HC0_1.out G2.out)
 refine one_ (i := 2) (N := some 54) #[true, true, true, false, false] rfl rfl (by kernel_rfl) (by decide) (fun K hK => ?_)
 refine goes_ Try.func16 (by kernel_rfl) rfl #[.agg #[.slice A0_0 l0_0.length c0_0, .slice A0_1 l0_1.length c0_1]] (by rfl) rfl rfl (by (try simp only [List.map_toArray, List.map_cons, List.map_nil]); first | done | rfl) ?_
 with_reducible refine CK.out.mono ?_
 rintro e w26 ⟨v0_, v1_, rfl, ho0, ho1, hb0⟩
 refine ⟨_, rfl, ?_⟩
 have hb := hb0
 clear CK hb0
 have hW_ := hb
 replace BX0 := qM ((hb.block _ (blk_lt BX0.out)).trans BX0.out)
 replace BX1 := qM ((hb.block _ (blk_lt BX1.out)).trans BX1.out)
 replace HOo7 := qM (HOo7.out.below hW_)
 replace HOo8 := qM (HOo8.out.below hW_)
 replace HOo10 := qM (HOo10.out.below hW_)
 replace HOo12 := qM (HOo12.out.below hW_)
 replace HOo16 := qM (HOo16.out.below hW_)
 replace HOo17 := qM (HOo17.out.below hW_)
 replace HOo19 := qM (HOo19.out.below hW_)
 replace HOo23 := qM (HOo23.out.below hW_)
 obtain ⟨lo7, elo7⟩ : ∃ n_, w25.heap.size = n_ := ⟨_, rfl⟩
 obtain ⟨hi7, ehi7⟩ : ∃ n_, w26.heap.size = n_ := ⟨_, rfl⟩
 have hn_0 := OwnI.new (W0 := w) HB.out.size hb.size ho0
 rw [elo7, ehi7] at hn_0
 obtain ⟨Ao27, co27, rfl⟩ := hn_0.slice
 have HOo27 := qM hn_0
 clear hn_0 ho0
 have hn_1 := OwnI.new (W0 := w) HB.out.size hb.size ho1
 rw [elo7, ehi7] at hn_1
 obtain ⟨Ao28, co28, rfl⟩ := hn_1.slice
 have HOo28 := qM hn_1
 clear hn_1 ho1
 have SP7 := qM (And.intro (by have h_ := hb.size; rw [elo7, ehi7] at h_; exact h_ : lo7 ≤ hi7) (And.intro (Nat.le_of_eq elo7 : w25.heap.size ≤ lo7) (Nat.le_of_eq ehi7.symm : hi7 ≤ w26.heap.size)))
 have SS10 := qM (And.intro SP7.out SS9.out)
 clear SS9
 clear SP7
 replace HB := qM (HB.out.trans (hW_.mono HB.out.size))
 clear hb hW_ elo7 ehi7
 refine hK.out _ _ ⟨(qC BX1.out 0).trans rfl, (qC BX1.out 1).trans rfl, (qC BX0.out 0).trans rfl, (qC BX0.out 1).trans rfl⟩ (fun hHeld => ?_)
 clear hK K
 refine norm_ (a' := ?_) ?_ ?_
 rotate_left
 · show Act.put _ (some 54) _ = _
   simp only [Act.put, List.setIfInBounds_toArray, List.set_cons_zero, List.set_cons_succ, i64_w, i32_w]
   rfl
 have CK := qM (laws_eqSheet.calls K7 Ao16 co16 r2 Ao17 co17 r3 Ao27 co27 r2 Ao28 co28 r3 true w26 HOo16.out.C HOo16.out.room HOo17.out.C HOo17.out.room HOo27.out.C HOo27.out.room HOo28.out.C HOo28.out.room G7.out)
 refine one_ (i := 3) (N := some 55) #[true, true, true, true, false] rfl rfl (by kernel_rfl) (by decide) (fun K hK => ?_)
 refine goes_ Try.func18 (by kernel_rfl) rfl #[.agg #[.slice Ao16 r2.length co16, .slice Ao17 r3.length co17], .agg #[.slice Ao27 r2.length co27, .slice Ao28 r3.length co28]] (by rfl) rfl rfl (by (try simp only [List.map_toArray, List.map_cons, List.map_nil]); first | done | rfl) ?_
 with_reducible refine CK.out.mono ?_
 rintro e w29 ⟨rfl, hb0⟩
 refine ⟨_, rfl, ?_⟩
 have hb := hb0
 clear CK hb0
 have hW_ := hb
 have SZ4 := qM hb.size
 have SS11 := qM (And.intro SZ4.out SS10.out)
 clear SS10
 clear SZ4
 replace BX0 := qM ((hb.block _ (blk_lt BX0.out)).trans BX0.out)
 replace BX1 := qM ((hb.block _ (blk_lt BX1.out)).trans BX1.out)
 replace HOo7 := qM (HOo7.out.below hW_)
 replace HOo8 := qM (HOo8.out.below hW_)
 replace HOo10 := qM (HOo10.out.below hW_)
 replace HOo12 := qM (HOo12.out.below hW_)
 replace HOo16 := qM (HOo16.out.below hW_)
 replace HOo17 := qM (HOo17.out.below hW_)
 replace HOo19 := qM (HOo19.out.below hW_)
 replace HOo23 := qM (HOo23.out.below hW_)
 replace HOo27 := qM (HOo27.out.below hW_)
 replace HOo28 := qM (HOo28.out.below hW_)
 replace HB := qM (HB.out.trans (hW_.mono HB.out.size))
 clear hb hW_
 refine hK.out _ _ ⟨(qC BX1.out 0).trans rfl, (qC BX1.out 1).trans rfl, (qC BX0.out 0).trans rfl, (qC BX0.out 1).trans rfl⟩ (fun hHeld => ?_)
 clear hK K
 refine norm_ (a' := ?_) ?_ ?_
 rotate_left
 · show Act.put _ (some 55) _ = _
   simp only [Act.put, List.setIfInBounds_toArray, List.set_cons_zero, List.set_cons_succ, i64_w, i32_w]
   rfl
 refine pure_ (i := 4) (N := some 56) (v := ?_) (a' := ?_) #[true, true, true, true, true] rfl rfl (by kernel_rfl) (fun _ _ _ h => h) (Or.inl ⟨by rfl, ?_⟩) ?_ ?_
 rotate_left
 · intro w'
   go_simp
   with_reducible rfl
 rotate_left
 · simp only [Act.put, List.setIfInBounds_toArray, List.set_cons_zero, List.set_cons_succ, i64_w, i32_w]
   rfl
 refine done_ (by kernel_rfl) ?_
 clear hHeld
 have CK := qM (laws_toIntS.calls K3 A1 c1 l1 r4 w29 (qB HR1.out HB.out) HC1.out G3.out)
 go_wp2_with fail
 with_reducible refine CK.out.mono ?_
 rintro e w30 ⟨v0_, rfl, ho0, hb0⟩
 have hb := hb0
 clear CK hb0
 have hW_ := hb
 replace BX0 := qM ((hb.block _ (blk_lt BX0.out)).trans BX0.out)
 replace BX1 := qM ((hb.block _ (blk_lt BX1.out)).trans BX1.out)
 replace HOo7 := qM (HOo7.out.below hW_)
 replace HOo8 := qM (HOo8.out.below hW_)
 replace HOo10 := qM (HOo10.out.below hW_)
 replace HOo12 := qM (HOo12.out.below hW_)
 replace HOo16 := qM (HOo16.out.below hW_)
 replace HOo17 := qM (HOo17.out.below hW_)
 replace HOo19 := qM (HOo19.out.below hW_)
 replace HOo23 := qM (HOo23.out.below hW_)
 replace HOo27 := qM (HOo27.out.below hW_)
 replace HOo28 := qM (HOo28.out.below hW_)
 obtain ⟨lo8, elo8⟩ : ∃ n_, w29.heap.size = n_ := ⟨_, rfl⟩
 obtain ⟨hi8, ehi8⟩ : ∃ n_, w30.heap.size = n_ := ⟨_, rfl⟩
 have hn_0 := OwnI.new (W0 := w) HB.out.size hb.size ho0
 rw [elo8, ehi8] at hn_0
 obtain ⟨Ao31, co31, rfl⟩ := hn_0.slice
 have HOo31 := qM hn_0
 clear hn_0 ho0
 have SP8 := qM (And.intro (by have h_ := hb.size; rw [elo8, ehi8] at h_; exact h_ : lo8 ≤ hi8) (And.intro (Nat.le_of_eq elo8 : w29.heap.size ≤ lo8) (Nat.le_of_eq ehi8.symm : hi8 ≤ w30.heap.size)))
 have SS12 := qM (And.intro SP8.out SS11.out)
 clear SS11
 clear SP8
 replace HB := qM (HB.out.trans (hW_.mono HB.out.size))
 clear hb hW_ elo8 ehi8
 have CK := qM (laws_eqIntS.calls K8 Ao19 co19 r4 Ao31 co31 r4 true w30 HOo19.out.C HOo19.out.room HOo31.out.C HOo31.out.room G8.out)
 go_wp2_with fail
 with_reducible refine CK.out.mono ?_
 rintro e w32 ⟨rfl, hb0⟩
 have hb := hb0.below
 clear CK hb0
 have hW_ := hb
 have SZ5 := qM hb.size
 have SS13 := qM (And.intro SZ5.out SS12.out)
 clear SS12
 clear SZ5
 replace BX0 := qM ((hb.block _ (blk_lt BX0.out)).trans BX0.out)
 replace BX1 := qM ((hb.block _ (blk_lt BX1.out)).trans BX1.out)
 replace HOo7 := qM (HOo7.out.below hW_)
 replace HOo8 := qM (HOo8.out.below hW_)
 replace HOo10 := qM (HOo10.out.below hW_)
 replace HOo12 := qM (HOo12.out.below hW_)
 replace HOo16 := qM (HOo16.out.below hW_)
 replace HOo17 := qM (HOo17.out.below hW_)
 replace HOo19 := qM (HOo19.out.below hW_)
 replace HOo23 := qM (HOo23.out.below hW_)
 replace HOo27 := qM (HOo27.out.below hW_)
 replace HOo28 := qM (HOo28.out.below hW_)
 replace HOo31 := qM (HOo31.out.below hW_)
 replace HB := qM (HB.out.trans (hW_.mono HB.out.size))
 clear hb hW_
 have hx33 : w32.cell? ⟨w15.heap.size, 0, none⟩ = some (.slice Ao16 r2.length co16) := (qC BX1.out 0).trans rfl
 have hx34 : w32.cell? ⟨w15.heap.size, 1, none⟩ = some (.slice Ao17 r3.length co17) := (qC BX1.out 1).trans rfl
 have CK := qM (lwSheet K9 HB.out HOo16.out HOo17.out G9.out HX2.out HX3.out)
 go_wp2_with fail
 with_reducible refine CK.out.mono ?_
 rintro e w35 ⟨rfl, hb, hk⟩
 clear CK
 clear hx33 hx34
 have SZ6 := qM hk.1
 have SS14 := qM (And.intro SZ6.out SS13.out)
 clear SS13
 clear SZ6
 replace BX0 := qM (blkI BX0.out hk (by have s_ := SS14.out; omega))
 replace BX1 := qM (blkI BX1.out hk (by have s_ := SS14.out; omega))
 replace HOo7 := qM (HOo7.out.kept hk (by have s_ := SS14.out; omega))
 replace HOo8 := qM (HOo8.out.kept hk (by have s_ := SS14.out; omega))
 replace HOo10 := qM (HOo10.out.kept hk (by have s_ := SS14.out; omega))
 replace HOo12 := qM (HOo12.out.kept hk (by have s_ := SS14.out; omega))
 replace HOo19 := qM (HOo19.out.kept hk (by have s_ := SS14.out; omega))
 replace HOo23 := qM (HOo23.out.kept hk (by have s_ := SS14.out; omega))
 replace HOo27 := qM (HOo27.out.kept hk (by have s_ := SS14.out; omega))
 replace HOo28 := qM (HOo28.out.kept hk (by have s_ := SS14.out; omega))
 replace HOo31 := qM (HOo31.out.kept hk (by have s_ := SS14.out; omega))
 clear HOo16
 clear HOo17
 replace HB := qM hb
 clear hb hk
 have CK := qM (lwInt K10 HB.out HOo19.out G10.out)
 go_wp2_with fail
 with_reducible refine CK.out.mono ?_
 rintro e w36 ⟨rfl, ho0, hb, hk⟩
 clear CK
 have SZ7 := qM hk.1
 have SS15 := qM (And.intro SZ7.out SS14.out)
 clear SS14
 clear SZ7
 replace BX0 := qM (blkI BX0.out hk (by have s_ := SS15.out; omega))
 replace BX1 := qM (blkI BX1.out hk (by have s_ := SS15.out; omega))
 replace HOo7 := qM (HOo7.out.kept hk (by have s_ := SS15.out; omega))
 replace HOo8 := qM (HOo8.out.kept hk (by have s_ := SS15.out; omega))
 replace HOo10 := qM (HOo10.out.kept hk (by have s_ := SS15.out; omega))
 replace HOo12 := qM (HOo12.out.kept hk (by have s_ := SS15.out; omega))
 replace HOo23 := qM (HOo23.out.kept hk (by have s_ := SS15.out; omega))
 replace HOo27 := qM (HOo27.out.kept hk (by have s_ := SS15.out; omega))
 replace HOo28 := qM (HOo28.out.kept hk (by have s_ := SS15.out; omega))
 replace HOo31 := qM (HOo31.out.kept hk (by have s_ := SS15.out; omega))
 replace HOo19 := qM ho0
 have HLo19 := qM (ho0.len : m9.length = r4.length)
 replace HB := qM hb
 clear hb hk ho0
 have CK := qM (laws_eqIntS.calls K6 Ao23 co23 r5 Ao12 co12 r5 true w36 HOo23.out.C HOo23.out.room HOo12.out.C HOo12.out.room G6.out)
 go_wp2_with fail
 with_reducible refine CK.out.mono ?_
 rintro e w37 ⟨rfl, hb0⟩
 have hb := hb0.below
 clear CK hb0
 have hW_ := hb
 have SZ8 := qM hb.size
 have SS16 := qM (And.intro SZ8.out SS15.out)
 clear SS15
 clear SZ8
 replace BX0 := qM ((hb.block _ (blk_lt BX0.out)).trans BX0.out)
 replace BX1 := qM ((hb.block _ (blk_lt BX1.out)).trans BX1.out)
 replace HOo7 := qM (HOo7.out.below hW_)
 replace HOo8 := qM (HOo8.out.below hW_)
 replace HOo10 := qM (HOo10.out.below hW_)
 replace HOo12 := qM (HOo12.out.below hW_)
 replace HOo19 := qM (HOo19.out.below hW_)
 replace HOo23 := qM (HOo23.out.below hW_)
 replace HOo27 := qM (HOo27.out.below hW_)
 replace HOo28 := qM (HOo28.out.below hW_)
 replace HOo31 := qM (HOo31.out.below hW_)
 replace HB := qM (HB.out.trans (hW_.mono HB.out.size))
 clear hb hW_
 have CK := qM (lwInt K11 HB.out HOo23.out G11.out)
 go_wp2_with fail
 with_reducible refine CK.out.mono ?_
 rintro e w38 ⟨rfl, ho0, hb, hk⟩
 clear CK
 have SZ9 := qM hk.1
 have SS17 := qM (And.intro SZ9.out SS16.out)
 clear SS16
 clear SZ9
 replace BX0 := qM (blkI BX0.out hk (by have s_ := SS17.out; omega))
 replace BX1 := qM (blkI BX1.out hk (by have s_ := SS17.out; omega))
 replace HOo7 := qM (HOo7.out.kept hk (by have s_ := SS17.out; omega))
 replace HOo8 := qM (HOo8.out.kept hk (by have s_ := SS17.out; omega))
 replace HOo10 := qM (HOo10.out.kept hk (by have s_ := SS17.out; omega))
 replace HOo12 := qM (HOo12.out.kept hk (by have s_ := SS17.out; omega))
 replace HOo19 := qM (HOo19.out.kept hk (by have s_ := SS17.out; omega))
 replace HOo27 := qM (HOo27.out.kept hk (by have s_ := SS17.out; omega))
 replace HOo28 := qM (HOo28.out.kept hk (by have s_ := SS17.out; omega))
 replace HOo31 := qM (HOo31.out.kept hk (by have s_ := SS17.out; omega))
 replace HOo23 := qM ho0
 have HLo23 := qM (ho0.len : m11.length = r5.length)
 replace HB := qM hb
 clear hb hk ho0
 have CK0 := laws_heldIntS.calls K12 Ao23 co23 m11 1 k12 w38 HOo23.out.C HOo23.out.room G12.out
 rw [HLo23.out] at CK0
 have CK := qM CK0
 clear CK0
 go_wp2_with fail
 with_reducible refine CK.out.mono ?_
 rintro e w39 ⟨rfl, hb0⟩
 have hb := hb0.below
 clear CK hb0
 have hW_ := hb
 have SZ10 := qM hb.size
 have SS18 := qM (And.intro SZ10.out SS17.out)
 clear SS17
 clear SZ10
 replace BX0 := qM ((hb.block _ (blk_lt BX0.out)).trans BX0.out)
 replace BX1 := qM ((hb.block _ (blk_lt BX1.out)).trans BX1.out)
 replace HOo7 := qM (HOo7.out.below hW_)
 replace HOo8 := qM (HOo8.out.below hW_)
 replace HOo10 := qM (HOo10.out.below hW_)
 replace HOo12 := qM (HOo12.out.below hW_)
 replace HOo19 := qM (HOo19.out.below hW_)
 replace HOo23 := qM (HOo23.out.below hW_)
 replace HOo27 := qM (HOo27.out.below hW_)
 replace HOo28 := qM (HOo28.out.below hW_)
 replace HOo31 := qM (HOo31.out.below hW_)
 replace HB := qM (HB.out.trans (hW_.mono HB.out.size))
 clear hb hW_
 have hx40 : w39.cell? ⟨w.heap.size, 0, none⟩ = some (.slice A0_0 l0_0.length c0_0) := (qC BX0.out 0).trans rfl
 have hx41 : w39.cell? ⟨w.heap.size, 1, none⟩ = some (.slice A0_1 l0_1.length c0_1) := (qC BX0.out 1).trans rfl
 have CK := qM (laws_toSheet.calls K2 A0_0 c0_0 l0_0 A0_1 c0_1 l0_1 r2 r3 w39 (qB HR0_0.out HB.out) HC0_0.out (qB HR0_1.out HB.out) HC0_1.out G2.out)
 go_wp2_with fail
 with_reducible refine CK.out.mono ?_
 rintro e w42 ⟨v0_, v1_, rfl, ho0, ho1, hb0⟩
 have hb := hb0
 clear CK hb0
 clear hx40 hx41
 have hW_ := hb
 replace BX0 := qM ((hb.block _ (blk_lt BX0.out)).trans BX0.out)
 replace BX1 := qM ((hb.block _ (blk_lt BX1.out)).trans BX1.out)
 replace HOo7 := qM (HOo7.out.below hW_)
 replace HOo8 := qM (HOo8.out.below hW_)
 replace HOo10 := qM (HOo10.out.below hW_)
 replace HOo12 := qM (HOo12.out.below hW_)
 replace HOo19 := qM (HOo19.out.below hW_)
 replace HOo23 := qM (HOo23.out.below hW_)
 replace HOo27 := qM (HOo27.out.below hW_)
 replace HOo28 := qM (HOo28.out.below hW_)
 replace HOo31 := qM (HOo31.out.below hW_)
 obtain ⟨lo9, elo9⟩ : ∃ n_, w39.heap.size = n_ := ⟨_, rfl⟩
 obtain ⟨hi9, ehi9⟩ : ∃ n_, w42.heap.size = n_ := ⟨_, rfl⟩
 have hn_0 := OwnI.new (W0 := w) HB.out.size hb.size ho0
 rw [elo9, ehi9] at hn_0
 obtain ⟨Ao43, co43, rfl⟩ := hn_0.slice
 have HOo43 := qM hn_0
 clear hn_0 ho0
 have hn_1 := OwnI.new (W0 := w) HB.out.size hb.size ho1
 rw [elo9, ehi9] at hn_1
 obtain ⟨Ao44, co44, rfl⟩ := hn_1.slice
 have HOo44 := qM hn_1
 clear hn_1 ho1
 have SP9 := qM (And.intro (by have h_ := hb.size; rw [elo9, ehi9] at h_; exact h_ : lo9 ≤ hi9) (And.intro (Nat.le_of_eq elo9 : w39.heap.size ≤ lo9) (Nat.le_of_eq ehi9.symm : hi9 ≤ w42.heap.size)))
 have SS19 := qM (And.intro SP9.out SS18.out)
 clear SS18
 clear SP9
 replace HB := qM (HB.out.trans (hW_.mono HB.out.size))
 clear hb hW_ elo9 ehi9
 have CK := qM (laws_toIntS.calls K3 A1 c1 l1 r4 w42 (qB HR1.out HB.out) HC1.out G3.out)
 go_wp2_with fail
 with_reducible refine CK.out.mono ?_
 rintro e w45 ⟨v0_, rfl, ho0, hb0⟩
 have hb := hb0
 clear CK hb0
 have hW_ := hb
 replace BX0 := qM ((hb.block _ (blk_lt BX0.out)).trans BX0.out)
 replace BX1 := qM ((hb.block _ (blk_lt BX1.out)).trans BX1.out)
 replace HOo7 := qM (HOo7.out.below hW_)
 replace HOo8 := qM (HOo8.out.below hW_)
 replace HOo10 := qM (HOo10.out.below hW_)
 replace HOo12 := qM (HOo12.out.below hW_)
 replace HOo19 := qM (HOo19.out.below hW_)
 replace HOo23 := qM (HOo23.out.below hW_)
 replace HOo27 := qM (HOo27.out.below hW_)
 replace HOo28 := qM (HOo28.out.below hW_)
 replace HOo31 := qM (HOo31.out.below hW_)
 replace HOo43 := qM (HOo43.out.below hW_)
 replace HOo44 := qM (HOo44.out.below hW_)
 obtain ⟨lo10, elo10⟩ : ∃ n_, w42.heap.size = n_ := ⟨_, rfl⟩
 obtain ⟨hi10, ehi10⟩ : ∃ n_, w45.heap.size = n_ := ⟨_, rfl⟩
 have hn_0 := OwnI.new (W0 := w) HB.out.size hb.size ho0
 rw [elo10, ehi10] at hn_0
 obtain ⟨Ao46, co46, rfl⟩ := hn_0.slice
 have HOo46 := qM hn_0
 clear hn_0 ho0
 have SP10 := qM (And.intro (by have h_ := hb.size; rw [elo10, ehi10] at h_; exact h_ : lo10 ≤ hi10) (And.intro (Nat.le_of_eq elo10 : w42.heap.size ≤ lo10) (Nat.le_of_eq ehi10.symm : hi10 ≤ w45.heap.size)))
 have SS20 := qM (And.intro SP10.out SS19.out)
 clear SS19
 clear SP10
 replace HB := qM (HB.out.trans (hW_.mono HB.out.size))
 clear hb hW_ elo10 ehi10
 have CK := qM (impl_OrderTopo.calls Ao43 co43 r2 Ao44 co44 r3 Ao46 co46 r4 r5 r6 w45 HOo43.out.C HOo43.out.room HOo44.out.C HOo44.out.room HOo46.out.C HOo46.out.room G5.out)
 go_wp2_with fail
 with_reducible refine CK.out.mono ?_
 rintro e w47 ⟨v0_, rfl, ho0, hb0⟩
 have hb := hb0
 clear CK hb0
 have hW_ := hb
 replace BX0 := qM ((hb.block _ (blk_lt BX0.out)).trans BX0.out)
 replace BX1 := qM ((hb.block _ (blk_lt BX1.out)).trans BX1.out)
 replace HOo7 := qM (HOo7.out.below hW_)
 replace HOo8 := qM (HOo8.out.below hW_)
 replace HOo10 := qM (HOo10.out.below hW_)
 replace HOo12 := qM (HOo12.out.below hW_)
 replace HOo19 := qM (HOo19.out.below hW_)
 replace HOo23 := qM (HOo23.out.below hW_)
 replace HOo27 := qM (HOo27.out.below hW_)
 replace HOo28 := qM (HOo28.out.below hW_)
 replace HOo31 := qM (HOo31.out.below hW_)
 replace HOo43 := qM (HOo43.out.below hW_)
 replace HOo44 := qM (HOo44.out.below hW_)
 replace HOo46 := qM (HOo46.out.below hW_)
 obtain ⟨lo11, elo11⟩ : ∃ n_, w45.heap.size = n_ := ⟨_, rfl⟩
 obtain ⟨hi11, ehi11⟩ : ∃ n_, w47.heap.size = n_ := ⟨_, rfl⟩
 have hn_0 := OwnI.new (W0 := w) HB.out.size hb.size ho0
 rw [elo11, ehi11] at hn_0
 obtain ⟨Ao48, co48, rfl⟩ := hn_0.slice
 have HOo48 := qM hn_0
 clear hn_0 ho0
 have SP11 := qM (And.intro (by have h_ := hb.size; rw [elo11, ehi11] at h_; exact h_ : lo11 ≤ hi11) (And.intro (Nat.le_of_eq elo11 : w45.heap.size ≤ lo11) (Nat.le_of_eq ehi11.symm : hi11 ≤ w47.heap.size)))
 have SS21 := qM (And.intro SP11.out SS20.out)
 clear SS20
 clear SP11
 replace HB := qM (HB.out.trans (hW_.mono HB.out.size))
 clear hb hW_ elo11 ehi11
 have CK := qM (laws_eqIntS.calls K6 Ao48 co48 r5 Ao12 co12 r5 true w47 HOo48.out.C HOo48.out.room HOo12.out.C HOo12.out.room G6.out)
 go_wp2_with fail
 with_reducible refine CK.out.mono ?_
 rintro e w49 ⟨rfl, hb0⟩
 have hb := hb0.below
 clear CK hb0
 have hW_ := hb
 have SZ11 := qM hb.size
 have SS22 := qM (And.intro SZ11.out SS21.out)
 clear SS21
 clear SZ11
 replace BX0 := qM ((hb.block _ (blk_lt BX0.out)).trans BX0.out)
 replace BX1 := qM ((hb.block _ (blk_lt BX1.out)).trans BX1.out)
 replace HOo7 := qM (HOo7.out.below hW_)
 replace HOo8 := qM (HOo8.out.below hW_)
 replace HOo10 := qM (HOo10.out.below hW_)
 replace HOo12 := qM (HOo12.out.below hW_)
 replace HOo19 := qM (HOo19.out.below hW_)
 replace HOo23 := qM (HOo23.out.below hW_)
 replace HOo27 := qM (HOo27.out.below hW_)
 replace HOo28 := qM (HOo28.out.below hW_)
 replace HOo31 := qM (HOo31.out.below hW_)
 replace HOo43 := qM (HOo43.out.below hW_)
 replace HOo44 := qM (HOo44.out.below hW_)
 replace HOo46 := qM (HOo46.out.below hW_)
 replace HOo48 := qM (HOo48.out.below hW_)
 replace HB := qM (HB.out.trans (hW_.mono HB.out.size))
 clear hb hW_
 have CK0 := laws_heldIntS.calls K12 Ao23 co23 m11 1 k12 w49 HOo23.out.C HOo23.out.room G12.out
 rw [HLo23.out] at CK0
 have CK := qM CK0
 clear CK0
 go_wp2_with fail
 with_reducible refine CK.out.mono ?_
 rintro e w50 ⟨rfl, hb0⟩
 have hb := hb0.below
 clear CK hb0
 have hW_ := hb
 have SZ12 := qM hb.size
 have SS23 := qM (And.intro SZ12.out SS22.out)
 clear SS22
 clear SZ12
 replace BX0 := qM ((hb.block _ (blk_lt BX0.out)).trans BX0.out)
 replace BX1 := qM ((hb.block _ (blk_lt BX1.out)).trans BX1.out)
 replace HOo7 := qM (HOo7.out.below hW_)
 replace HOo8 := qM (HOo8.out.below hW_)
 replace HOo10 := qM (HOo10.out.below hW_)
 replace HOo12 := qM (HOo12.out.below hW_)
 replace HOo19 := qM (HOo19.out.below hW_)
 replace HOo23 := qM (HOo23.out.below hW_)
 replace HOo27 := qM (HOo27.out.below hW_)
 replace HOo28 := qM (HOo28.out.below hW_)
 replace HOo31 := qM (HOo31.out.below hW_)
 replace HOo43 := qM (HOo43.out.below hW_)
 replace HOo44 := qM (HOo44.out.below hW_)
 replace HOo46 := qM (HOo46.out.below hW_)
 replace HOo48 := qM (HOo48.out.below hW_)
 replace HB := qM (HB.out.trans (hW_.mono HB.out.size))
 clear hb hW_
 go_wp2
 go_ret
 exact ⟨rfl, HB.out⟩
set_option maxHeartbeats 8000000 in
set_option maxRecDepth 100000 in
theorem lw_FnExactOrderTopo_e0 (A0_0 : Option Addr) (c0_0 : Nat) (l0_0 : List (Bool)) (A0_1 : Option Addr) (c0_1 : Nat) (l0_1 : List (S138)) (A1 : Option Addr) (c1 : Nat) (l1 : List (Int)) (w : World) (hr0_0 : Kd.C Kd.bool w A0_0 l0_0.length l0_0) (hc0_0 : l0_0.length ≤ c0_0) (hr0_1 : Kd.C k138 w A0_1 l0_1.length l0_1) (hc0_1 : l0_1.length ≤ c0_1) (hr1 : Kd.C (Kd.int .i64) w A1 l1.length l1) (hc1 : l1.length ≤ c1) (hl_l1 : (l1.length : Int) > 1048576)   :
   Calls Try.prog 4 #[.agg #[.slice A0_0 l0_0.length c0_0, .slice A0_1 l0_1.length c0_1], .slice A1 l1.length c1] w fun e w' => e = .returned (.bool true) ∧ Below w.heap.size w w' := by
 have hu25 := Try.underlying25
 have hu30 := Try.underlying30
 have HR0_0 := qM hr0_0
 have HC0_0 := qM hc0_0
 clear hr0_0 hc0_0
 have HR0_1 := qM hr0_1
 have HC0_1 := qM hc0_1
 clear hr0_1 hc0_1
 have HR1 := qM hr1
 have HC1 := qM hc1
 clear hr1 hc1
 have hdl_l1 : decide ((l1.length : Int) > 1048576) = true := decide_eq_true (by omega)
 clear hl_l1
 have HB := qM (Below.refl w.heap.size w)
 go_enter Try.func4, Try.ntmps4
 go_wp2
 go_ret
 exact ⟨rfl, (qA HB.out _)⟩
set_option maxHeartbeats 8000000 in
set_option maxRecDepth 100000 in
theorem lw_FnExactOrderTopo_e1 (A0_0 : Option Addr) (c0_0 : Nat) (l0_0 : List (Bool)) (A0_1 : Option Addr) (c0_1 : Nat) (l0_1 : List (S138)) (A1 : Option Addr) (c1 : Nat) (l1 : List (Int)) (w : World) (hr0_0 : Kd.C Kd.bool w A0_0 l0_0.length l0_0) (hc0_0 : l0_0.length ≤ c0_0) (hr0_1 : Kd.C k138 w A0_1 l0_1.length l0_1) (hc0_1 : l0_1.length ≤ c0_1) (hr1 : Kd.C (Kd.int .i64) w A1 l1.length l1) (hc1 : l1.length ≤ c1) (hl_l1 : (l1.length : Int) ≤ 1048576) (r1 : Int) (K1 : Nat) (H1 : laws_szSheet.f K1 l0_0 l0_1 1048576 = some r1) (hx_1 : r1 < 0) :
   Calls Try.prog 4 #[.agg #[.slice A0_0 l0_0.length c0_0, .slice A0_1 l0_1.length c0_1], .slice A1 l1.length c1] w fun e w' => e = .returned (.bool true) ∧ Below w.heap.size w w' := by
 have hu25 := Try.underlying25
 have hu30 := Try.underlying30
 have HR0_0 := qM hr0_0
 have HC0_0 := qM hc0_0
 clear hr0_0 hc0_0
 have HR0_1 := qM hr0_1
 have HC0_1 := qM hc0_1
 clear hr0_1 hc0_1
 have HR1 := qM hr1
 have HC1 := qM hc1
 clear hr1 hc1
 have G1 := qM H1
 clear H1
 have HX1 := qM hx_1
 have hd_1 : decide (r1 < 0) = true := decide_eq_true (by omega)
 have hdl_l1 : decide ((l1.length : Int) > 1048576) = false := decide_eq_false (by omega)
 clear hx_1 hl_l1
 have HB := qM (Below.refl w.heap.size w)
 go_enter Try.func4, Try.ntmps4
 have hx1 : (w.alloc (.cells #[.slice A0_0 l0_0.length c0_0, .slice A0_1 l0_1.length c0_1] 25)).cell? ⟨w.heap.size, 0, none⟩ = some (.slice A0_0 l0_0.length c0_0) := (qC (show (w.alloc (.cells #[.slice A0_0 l0_0.length c0_0, .slice A0_1 l0_1.length c0_1] 25)).heap[w.heap.size]? = some (.cells #[.slice A0_0 l0_0.length c0_0, .slice A0_1 l0_1.length c0_1] 25 (0, 0)) from by have h_ := heap_alloc_new w (.cells #[.slice A0_0 l0_0.length c0_0, .slice A0_1 l0_1.length c0_1] 25); simpa using h_) 0).trans rfl
 have hx2 : (w.alloc (.cells #[.slice A0_0 l0_0.length c0_0, .slice A0_1 l0_1.length c0_1] 25)).cell? ⟨w.heap.size, 1, none⟩ = some (.slice A0_1 l0_1.length c0_1) := (qC (show (w.alloc (.cells #[.slice A0_0 l0_0.length c0_0, .slice A0_1 l0_1.length c0_1] 25)).heap[w.heap.size]? = some (.cells #[.slice A0_0 l0_0.length c0_0, .slice A0_1 l0_1.length c0_1] 25 (0, 0)) from by have h_ := heap_alloc_new w (.cells #[.slice A0_0 l0_0.length c0_0, .slice A0_1 l0_1.length c0_1] 25); simpa using h_) 1).trans rfl
 have CK := qM (laws_szSheet.calls K1 A0_0 c0_0 l0_0 A0_1 c0_1 l0_1 1048576 r1 (w.alloc (.cells #[.slice A0_0 l0_0.length c0_0, .slice A0_1 l0_1.length c0_1] 25)) (qB HR0_0.out (qA HB.out _)) HC0_0.out (qB HR0_1.out (qA HB.out _)) HC0_1.out G1.out)
 go_wp2_with fail
 with_reducible refine CK.out.mono ?_
 rintro e w3 ⟨rfl, hb0⟩
 have hb := hb0
 clear CK hb0
 clear hx1 hx2
 have hW_ : Below w.heap.size w w3 := (qA (Below.refl w.heap.size w) _).trans (hb.mono (qA (Below.refl w.heap.size w) _).size)
 have SZ1 := qM (Nat.le_trans (Nat.succ_le_of_lt (blk_lt (show (w.alloc (.cells #[.slice A0_0 l0_0.length c0_0, .slice A0_1 l0_1.length c0_1] 25)).heap[w.heap.size]? = some (.cells #[.slice A0_0 l0_0.length c0_0, .slice A0_1 l0_1.length c0_1] 25 (0, 0)) from by have h_ := heap_alloc_new w (.cells #[.slice A0_0 l0_0.length c0_0, .slice A0_1 l0_1.length c0_1] 25); simpa using h_)) : w.heap.size + 1 ≤ (w.alloc (.cells #[.slice A0_0 l0_0.length c0_0, .slice A0_1 l0_1.length c0_1] 25)).heap.size) hb.size)
 have SS1 := SZ1
 clear SZ1
 have BX0 := qM ((hb.block _ (blk_lt (show (w.alloc (.cells #[.slice A0_0 l0_0.length c0_0, .slice A0_1 l0_1.length c0_1] 25)).heap[w.heap.size]? = some (.cells #[.slice A0_0 l0_0.length c0_0, .slice A0_1 l0_1.length c0_1] 25 (0, 0)) from by have h_ := heap_alloc_new w (.cells #[.slice A0_0 l0_0.length c0_0, .slice A0_1 l0_1.length c0_1] 25); simpa using h_))).trans (show (w.alloc (.cells #[.slice A0_0 l0_0.length c0_0, .slice A0_1 l0_1.length c0_1] 25)).heap[w.heap.size]? = some (.cells #[.slice A0_0 l0_0.length c0_0, .slice A0_1 l0_1.length c0_1] 25 (0, 0)) from by have h_ := heap_alloc_new w (.cells #[.slice A0_0 l0_0.length c0_0, .slice A0_1 l0_1.length c0_1] 25); simpa using h_))
 replace HB := qM (HB.out.trans (hW_.mono HB.out.size))
 clear hb hW_
 go_wp2
 go_ret
 exact ⟨rfl, HB.out⟩
end Go.Proofs.Ythfemojaabejiaa.G
end
