-- Written by pack.py (ours): the claim's texts, cut down to what its theorem reaches.
import Derived.Sort.OwnSortedInts
import Derived.Test.YtgbjbpjmbghlbaaKFnHiddenOf9
section
namespace Go.Proofs.Ytgbjbpjmbghlbaa.G
open Go.RowKit Go.Proofs.YtgbjbpjmbghlbaaW.PrintWords Go.Proofs.YtgbjbpjmbghlbaaW.PrintLast Go.Proofs.YtgbjbpjmbghlbaaW.PrintMore Go.Sort
set_option linter.unusedVariables false
set_option linter.unusedSimpArgs false
theorem own_cutI {w : World} {base e g cap : Nat} {a b : List Value} (h : w.ownsRow base e 1 (.slice (some ⟨g, 0, none⟩) (a ++ b).length cap) (a ++ b).length (a ++ b)) : w.ownsRow base e 1 (.slice (some ⟨g, 0, none⟩) a.length cap) a.length a := by
  obtain ⟨_, h⟩ := h
  rcases h with ⟨h, _⟩ | ⟨g', cap', cur, e1, h1, h2, h3, h4, h5, h6⟩
  · cases h
  · injection e1 with e1 e2 e3
    injection e1 with e1
    injection e1 with e1
    subst e1
    subst e3
    refine ⟨by simp, .inr ⟨g, cap, cur, rfl, h1, h2, by rw [List.length_append] at h3; omega, h4, h5, ?_⟩⟩
    rw [Nat.mul_one] at h6 ⊢
    have h7 := congrArg (List.take a.length) h6
    rw [List.take_take, Nat.min_eq_left (by rw [List.length_append]; omega), List.take_left'  rfl] at h7
    exact h7
theorem cut_sorted {w : World} {base e g cap : Nat} {cur : Array Value} {ss ml : List Int} (hg : base ≤ g) (hblk : w.heap[g]? = some (.cells cur e (0, 0))) (h1 : ss.length ≤ cap) (h2 : cap ≤ maxLen) (h3 : cur.size = cap * 1) (hml : ml.length ≤ ss.length) (q : Nat) :
    (putRow (Value.int .i64) (Sort.ahead w q) g 0 (ml ++ List.replicate (ss.length - ml.length) 0).toArray).ownsRow base e 1 (.slice (some ⟨g, 0, none⟩) ml.length cap) ml.length (ml.map (Value.int .i64)) := by
  have hll : (ml ++ List.replicate (ss.length - ml.length) 0).length = ss.length := by rw [List.length_append, List.length_replicate]; omega
  have h := ownsRow_sortedI (n := q) (os := #[]) (ss := ss) hll hg hblk h1 h2 h3
  rw [grow_empty, List.map_append] at h
  have e1 : ss.length = (ml.map (Value.int .i64) ++ (List.replicate (ss.length - ml.length) 0).map (Value.int .i64)).length := by rw [← List.map_append, List.length_map, hll]
  have h' : (putRow (Value.int .i64) (Sort.ahead w q) g 0 (ml ++ List.replicate (ss.length - ml.length) 0).toArray).ownsRow base e 1 (.slice (some ⟨g, 0, none⟩) (ml.map (Value.int .i64) ++ (List.replicate (ss.length - ml.length) 0).map (Value.int .i64)).length cap) (ml.map (Value.int .i64) ++ (List.replicate (ss.length - ml.length) 0).map (Value.int .i64)).length (ml.map (Value.int .i64) ++ (List.replicate (ss.length - ml.length) 0).map (Value.int .i64)) := by
    rw [← e1]; exact h
  have h2 := own_cutI h'
  rw [List.length_map] at h2
  exact h2
set_option maxHeartbeats 8000000 in
set_option maxRecDepth 100000 in
theorem del_none (A : Option Addr) (c : Nat) (l : List Int) (hz : l.length = 0) (g : Nat) (lb : Array Value) (eg : ∀ args w, (callFunc g args).run Try.prog w = .ok (.enter g args) w) (w : World) :
    Calls Try.prog 104 #[.slice A l.length c, .func (.func g) #[] lb] w fun e w' => e = .returned (.slice A l.length c) ∧ Below w.heap.size w w' := by
  have CK : Aside0 (Calls Try.prog 154 #[.slice A l.length c, .func (.func g) #[] lb] w fun e w' => e = .returned (.int .i64 (-1)) ∧ Below w.heap.size w w') := ⟨by
    have e0 : l = [] := List.eq_nil_of_length_eq_zero hz
    have h := indexFunc_int g lb (fun _ => false) A c l w ⟨rfl, by omega, fun h => by omega⟩ eg (fun x hx => by rw [e0] at hx; cases hx)
    rw [show idxFrom (fun _ : Int => false) l 0 = -1 from by rw [e0]; rfl] at h
    exact h⟩
  clear hz eg
  go_enter Try.func104, Try.ntmps104
  go_wp2_with fail
  with_reducible refine CK.out.mono ?_
  rintro e w1 ⟨rfl, hb⟩
  have HB := Aside0.mk hb
  clear CK hb
  go_wp2
  go_ret
  exact ⟨rfl, HB.out⟩
set_option maxHeartbeats 8000000 in
set_option maxRecDepth 100000 in
theorem impl_sorted.calls (A0 : Option Addr) (c0 : Nat) (l0 : List Int) (w : World) (hr0 : Kd.C (Kd.int .i64) w A0 l0.length l0) (hc0 : l0.length ≤ c0) (hl : l0.length < 17592186044416) :
    Calls Try.prog 151 #[.slice A0 l0.length c0] w fun e w' => ∃ v0_ : Value, e = .returned (v0_) ∧ Kd.R (Kd.int .i64) 3 w' w.heap.size (fun _ => True) v0_ (sortC l0) ∧ Below w.heap.size w w' := by
  have CK := Aside0.mk (slices_Clone_int.calls A0 c0 l0 l0 w hr0 hc0 (by unfold slices_Clone_int.f; rw [if_pos hl]))
  have HL := Aside0.mk hl
  clear hr0 hc0 hl
  go_enter Try.func151, Try.ntmps151
  go_wp2_with fail
  with_reducible refine CK.out.mono ?_
  rintro e w1 ⟨v1, rfl, ho, hb⟩
  have hown := Kd.own_of_R ho
  have HB := Aside0.mk hb
  clear CK ho hb
  by_cases hz : l0.length = 0
  · obtain ⟨A, c, rfl⟩ := own_slice hown
    have CK2 : Aside0 (Calls Try.prog 172 #[.slice A l0.length c] w1 fun e w' => e = .returned (.tuple #[]) ∧ w' = w1) := ⟨by rw [hz]; exact Try.slices_Sort_int_none A c w1⟩
    have CK3 : Aside0 (Calls Try.prog 173 #[.slice A l0.length c] w1 fun e w' => e = .returned (.slice A l0.length c) ∧ w' = w1) := ⟨by rw [hz]; exact Try.slices_Compact_int_empty A c w1⟩
    have HO : Aside0 (Kd.R (Kd.int .i64) 3 w1 w.heap.size (fun _ => True) (.slice A l0.length c) (sortC l0)) := ⟨by
      have e1 : sortC l0 = l0 := by
        have h1 := sortC_len l0
        rw [List.eq_nil_of_length_eq_zero hz]
        exact List.eq_nil_of_length_eq_zero (by rw [← List.eq_nil_of_length_eq_zero hz]; omega)
      rw [e1]
      exact Kd.R_of_own hown (fun _ _ => trivial)⟩
    clear hown hz
    go_wp2_with fail
    with_reducible refine CK2.out.mono ?_
    rintro e w2 ⟨rfl, rfl⟩
    go_wp2_with fail
    with_reducible refine CK3.out.mono ?_
    rintro e w3 ⟨rfl, rfl⟩
    go_wp2
    go_ret
    exact ⟨_, rfl, HO.out, HB.out⟩
  · obtain ⟨hlen, hown⟩ := hown
    rcases hown with ⟨_, h0⟩ | ⟨g, cap, cur, rfl, hg, hblk, h1, h2, h3, h4⟩
    · exact absurd h0 hz
    have hsl : (l0.mergeSort fun x y => decide (x ≤ y)).length = l0.length := List.length_mergeSort _
    have hsc := sortC_len l0
    rw [Nat.mul_one] at h4
    have CK2 := Aside0.mk (Try.slices_Sort_int g 0 cap l0 w1 (holds_of_blockI hblk h4) (blk_lt hblk) (by have := HL.out; omega))
    have hs2 : ∀ n os, (grow (putRow (Value.int .i64) (Sort.ahead w1 n) g 0 (l0.mergeSort fun x y => decide (x ≤ y)).toArray) os).ownsRow w.heap.size 3 1 (.slice (some ⟨g, 0, none⟩) l0.length cap) l0.length ((l0.mergeSort fun x y => decide (x ≤ y)).map (Value.int .i64)) := fun n os => ownsRow_sortedI hsl hg hblk h1 h2 h3
    have hg2 : ∀ n os, w1.grownBy (grow (putRow (Value.int .i64) (Sort.ahead w1 n) g 0 (l0.mergeSort fun x y => decide (x ≤ y)).toArray) os) (some g) := fun n os => grownBy_sortedI _
    have HS2 := Aside0.mk hs2
    have HG2 := Aside0.mk hg2
    have HG := Aside0.mk hg
    have HSL := Aside0.mk hsl
    have HSC := Aside0.mk hsc
    clear hz hlen hblk h1 h2 h3 h4 hs2 hg2 hg hsl hsc
    go_wp2_with fail
    with_reducible refine CK2.out.mono ?_
    rintro e w2 ⟨rfl, nn, os, hw⟩
    have hown2 := HS2.out nn os
    have hgr := HG2.out nn os
    rw [← hw] at hown2 hgr
    have HB2 := Aside0.mk (HB.out.grown hgr HB.out.size (fun k hk => by cases hk; exact HG.out))
    obtain ⟨_, hown2⟩ := hown2
    rcases hown2 with ⟨h0, _⟩ | ⟨g', cap', cur2, ev, hg, hblk, h1, h2, h3, h4⟩
    · cases h0
    injection ev with e1 e2 e3
    injection e1 with e1
    injection e1 with e1
    subst e1
    subst e3
    rw [Nat.mul_one] at h4
    have hH := holds_of_blockI hblk (ss := l0.mergeSort fun x y => decide (x ≤ y)) (by rw [HSL.out]; exact h4)
    have CK3 : Aside0 (Calls Try.prog 173 #[.slice (some ⟨g, 0, none⟩) l0.length cap] w2 fun e w' => e = .returned (.slice (some ⟨g, 0, none⟩) (sortC l0).length cap) ∧ ∃ q, w' = putRow (Value.int .i64) (Sort.ahead w2 q) g 0 (sortC l0 ++ List.replicate (l0.length - (sortC l0).length) 0).toArray) := ⟨by
      have h := Try.slices_Compact_int g 0 cap (l0.mergeSort fun x y => decide (x ≤ y)) w2 hH (by rw [HSL.out]; have := HL.out; omega) (by rw [HSL.out]; exact h1)
      rw [HSL.out] at h
      exact h⟩
    have hs3 : ∀ q, (putRow (Value.int .i64) (Sort.ahead w2 q) g 0 (sortC l0 ++ List.replicate (l0.length - (sortC l0).length) 0).toArray).ownsRow w.heap.size 3 1 (.slice (some ⟨g, 0, none⟩) (sortC l0).length cap) (sortC l0).length ((sortC l0).map (Value.int .i64)) := fun q => cut_sorted hg hblk h1 h2 h3 HSC.out q
    have hg3 : ∀ q, w2.grownBy (putRow (Value.int .i64) (Sort.ahead w2 q) g 0 (sortC l0 ++ List.replicate (l0.length - (sortC l0).length) 0).toArray) (some g) := fun q => by
      have h := grownBy_sortedI (w := w2) (g := g) (n := q) (os := #[]) (sortC l0 ++ List.replicate (l0.length - (sortC l0).length) 0).toArray
      rw [grow_empty] at h
      exact h
    have HS3 := Aside0.mk hs3
    have HG3 := Aside0.mk hg3
    clear hw hgr hg hblk h1 h2 h3 h4 hH hs3 hg3 HB CK2 HS2 HG2 e2
    go_wp2_with fail
    with_reducible refine CK3.out.mono ?_
    rintro e w3 ⟨rfl, q, hw⟩
    have hown3 := HS3.out q
    have hgr := HG3.out q
    rw [← hw] at hown3 hgr
    have HB3 := Aside0.mk (HB2.out.grown hgr HB2.out.size (fun k hk => by cases hk; exact HG.out))
    have HO := Aside0.mk (Kd.R_of_own (h1 := fun _ => rfl) (ok := fun _ => True) hown3 (fun _ _ => trivial))
    clear hw hown3 hgr
    go_wp2
    go_ret
    exact ⟨_, rfl, HO.out, HB3.out⟩
end Go.Proofs.Ytgbjbpjmbghlbaa.G
end
section
namespace Go.Proofs.Ytgbjbpjmbghlbaa.G
open Go.RowKit Go.Proofs.YtgbjbpjmbghlbaaW.PrintWords Go.Proofs.YtgbjbpjmbghlbaaW.PrintLast Go.Proofs.YtgbjbpjmbghlbaaW.PrintMore
set_option linter.unusedVariables false
set_option linter.unusedSimpArgs false
theorem index_f (l : List Int) (n : Int) (hl : l.length ≤ 9223372036854775807) : ∃ k, slices_Contains_int.f k l n = some (l.contains n) := by
  have rdI : ∀ (i : Nat) (h : i < l.length), rd l (i : Int) = l[i] := fun i h => by
    simp only [rd, Int.toNat_natCast, List.getD_eq_getElem?_getD, List.getElem?_eq_getElem h, Option.getD_some]
  have loop : ∀ (d i : Nat), d = l.length - i → i ≤ l.length → ∃ r : Int, slices_Index_int.l0 (d + 1) l n (l.length : Int) (i : Int) = some r ∧ decide (r ≥ 0) = (l.drop i).contains n := by
    intro d
    induction d with
    | zero =>
      intro i hd hi
      refine ⟨-1, ?_, ?_⟩
      · rw [slices_Index_int.l0, if_neg (by omega)]
      · rw [List.drop_of_length_le (by omega)]; rfl
    | succ d ih =>
      intro i hd hi
      have hlt : i < l.length := by omega
      rw [slices_Index_int.l0, if_pos (by omega), if_pos (by omega), if_pos (by omega), rdI i hlt, List.drop_eq_getElem_cons hlt]
      by_cases hc : n = l[i]
      · refine ⟨(i : Int), by rw [if_pos hc], ?_⟩
        rw [List.contains_cons, ← hc]
        simp
      · obtain ⟨r, h1, h2⟩ := ih (i + 1) (by omega) (by omega)
        refine ⟨r, ?_, ?_⟩
        · rw [if_neg hc, show wrap64 ((i : Int) + 1) = ((i + 1 : Nat) : Int) from by unfold wrap64; omega]
          exact h1
        · rw [h2, List.contains_cons, beq_eq_false_iff_ne.2 hc, Bool.false_or]
  obtain ⟨r, h1, h2⟩ := loop l.length 0 (by omega) (by omega)
  refine ⟨l.length + 1, ?_⟩
  unfold slices_Contains_int.f slices_Index_int.f
  rw [show ((0 : Nat) : Int) = 0 from rfl] at h1
  rw [h1, Option.bind_some, h2, List.drop_zero]
open Go.Sort
set_option maxHeartbeats 8000000 in
set_option maxRecDepth 100000 in
theorem impl_minus_1.gives (m : List Int) (A : Option Addr) (c : Nat) (x : Int) (B : Nat) (W : World) (hc : W.cell? ⟨B, 0, none⟩ = some (.slice A m.length c)) (hr : Kd.C (Kd.int .i64) W A m.length m) (hmc : m.length ≤ c) :
    FnGives Try.prog 152 #[.pointer (some ⟨B, 0, none⟩)] #[.int .i64 x] (.bool (m.contains x)) W := by
  show Calls Try.prog 152 #[.int .i64 x, .pointer (some ⟨B, 0, none⟩)] W _
  obtain ⟨k, hk⟩ := index_f m x (by have := hr.2.1; omega)
  have CK := Aside0.mk (slices_Contains_int.calls k A c m x (m.contains x) W hr hmc hk)
  clear hr hmc hk
  go_enter Try.func152, Try.ntmps152
  go_wp2_with fail
  with_reducible refine CK.out.mono ?_
  rintro e w1 ⟨rfl, hd⟩
  obtain ⟨nd, rfl⟩ := hd
  clear CK
  go_wp2
  go_ret
  exact ⟨by first | rfl | simp, nd, rfl⟩
def impl_minus.f (l0 l1 : List Int) : Option (List Int) := if l0.length < 17592186044416 then some (minusL l0 l1) else none
set_option maxHeartbeats 8000000 in
set_option maxRecDepth 100000 in
theorem impl_minus.calls (A0 : Option Addr) (c0 : Nat) (l0 : List Int) (A1 : Option Addr) (c1 : Nat) (l1 : List Int) (r : List Int) (w : World) (hr0 : Kd.C (Kd.int .i64) w A0 l0.length l0) (hc0 : l0.length ≤ c0) (hr1 : Kd.C (Kd.int .i64) w A1 l1.length l1) (hc1 : l1.length ≤ c1) (h : impl_minus.f l0 l1 = some r) :
    Calls Try.prog 102 #[.slice A0 l0.length c0, .slice A1 l1.length c1] w fun e w' => ∃ v0_ : Value, e = .returned (v0_) ∧ Kd.R (Kd.int .i64) 3 w' w.heap.size (fun _ => True) v0_ r ∧ Below w.heap.size w w' := by
  unfold impl_minus.f at h
  split at h
  · rename_i hl
    obtain rfl := Option.some.inj h
    have hmf : ∀ (fn : Fn) (first cap : Array Value) (W : World), (Instr.makeFunc fn first cap).run Try.prog W = .ok (.func fn first cap) W := fun _ _ _ _ => rfl
    have CK := Aside0.mk (impl_sorted.calls A0 c0 l0 (w.alloc (.cells #[.slice A1 l1.length c1] 26)) (Kd.C_alloc hr0 _) hc0 hl)
    have BX := Aside0.mk (heap_alloc_new w (.cells #[.slice A1 l1.length c1] 26))
    have HA := Aside0.mk ((Below.refl w.heap.size w).alloc (Nat.le_refl _) (.cells #[.slice A1 l1.length c1] 26))
    have HR1 := Aside0.mk hr1
    have HC1 := Aside0.mk hc1
    have HLS := Aside0.mk (Nat.lt_of_le_of_lt (sortC_len l0) hl)
    clear hr0 hc0 hr1 hc1 h hl
    go_enter Try.func102, Try.ntmps102
    go_wp2_with fail
    with_reducible refine CK.out.mono ?_
    rintro e w1 ⟨v1, rfl, ho, hb⟩
    have hsz : (w.alloc (.cells #[.slice A1 l1.length c1] 26)).heap.size = w.heap.size + 1 := by simp
    have HB := Aside0.mk (HA.out.trans (hb.mono HA.out.size))
    have hbx := (hb.block _ (blk_lt BX.out)).trans BX.out
    have hown := Kd.own_of_R ho
    have hlow := fun k hk => own_base hown k hk
    rw [hsz] at hlow
    have eg : ∀ args w, (callFunc 152 args).run Try.prog w = .ok (.enter 152 args) w := enters_of Try.func152 (by kernel_rfl) rfl
    have hpred : PredAt Try.prog 152 #[.pointer (some ⟨w.heap.size, 0, none⟩)] (Value.int .i64) (fun x => l1.contains x) w1 := fun W x hbW =>
      impl_minus_1.gives l1 A1 c1 x w.heap.size W ((blk_cell ((hbW.block _ (blk_lt hbx)).trans hbx) 0).trans rfl) (Kd.C_below HR1.out (HB.out.trans (hbW.mono HB.out.size))) HC1.out
    by_cases hz : (sortC l0).length = 0
    · obtain ⟨A, c, rfl⟩ := own_slice hown
      have CK2 : Aside0 (Calls Try.prog 104 #[.slice A (sortC l0).length c, .func (.func 152) #[] #[.pointer (some ⟨w.heap.size, 0, none⟩)]] w1 fun e w' => e = .returned (.slice A (sortC l0).length c) ∧ Below w1.heap.size w1 w') := ⟨del_none A c (sortC l0) hz 152 _ eg w1⟩
      have HO : Aside0 (Kd.R (Kd.int .i64) 3 w1 w.heap.size (fun _ => True) (.slice A (sortC l0).length c) (minusL l0 l1)) := ⟨by
        have e0 : sortC l0 = [] := List.eq_nil_of_length_eq_zero hz
        have e1 : minusL l0 l1 = sortC l0 := by unfold minusL; rw [e0]; rfl
        rw [e1]
        exact Kd.R_lower ho (by rw [hsz]; omega)⟩
      clear CK hown hz ho hb hbx hlow eg hpred BX HA hsz
      go_wp2_with fail
      with_reducible refine CK2.out.mono ?_
      rintro e w2 ⟨rfl, hb2⟩
      have HO2 := Aside0.mk (Kd.R_below HO.out hb2)
      have HB2 := Aside0.mk (HB.out.trans (hb2.mono HB.out.size))
      clear hb2 CK2
      go_wp2
      go_ret
      exact ⟨_, rfl, HO2.out, HB2.out⟩
    · obtain ⟨hlen, hown2⟩ := hown
      rcases hown2 with ⟨_, h0⟩ | ⟨g, cap, cur, rfl, hg, hblk, h1, h2, h3, h4⟩
      · exact absurd h0 hz
      rw [Nat.mul_one] at h4
      rw [hsz] at hg
      have hover : PredOver Try.prog 152 #[.pointer (some ⟨w.heap.size, 0, none⟩)] (Value.int .i64) (fun x => l1.contains x) g 0 (sortC l0).toArray.size w1 := fun n os dk x _ => by
        have hgr : w1.grownBy (sortWorld (Value.int .i64) w1 g 0 n dk os) (some g) := grownBy_sortedI dk
        have hbW : Below w.heap.size w (sortWorld (Value.int .i64) w1 g 0 n dk os) := HB.out.grown hgr HB.out.size (fun k hk => by cases hk; omega)
        exact impl_minus_1.gives l1 A1 c1 x w.heap.size _ ((blk_cell ((hgr.block _ (blk_lt hbx) (fun e => by injection e with e; omega)).trans hbx) 0).trans rfl) (Kd.C_below HR1.out hbW) HC1.out
      have hcon := AnyE.slices_DeleteFunc Try.lays_del (Value.int .i64) (fun _ => rfl) (fun x => l1.contains x) 152 #[.pointer (some ⟨w.heap.size, 0, none⟩)] eg 0 Try.zeroValue3 g 0 cap (sortC l0).toArray w1 hpred hover (holds_of_blockI hblk h4) (by simp; have := HLS.out; omega) (by simpa using h1)
      have CK2 : Aside0 (Calls Try.prog 104 #[.slice (some ⟨g, 0, none⟩) (sortC l0).length cap, .func (.func 152) #[] #[.pointer (some ⟨w.heap.size, 0, none⟩)]] w1 fun e w' => e = .returned (.slice (some ⟨g, 0, none⟩) (minusL l0 l1).length cap) ∧ ∃ q, w' = putRow (Value.int .i64) (Sort.ahead w1 q) g 0 (minusL l0 l1 ++ List.replicate ((sortC l0).length - (minusL l0 l1).length) 0).toArray) := ⟨by
        simp only [List.size_toArray, List.toList_toArray] at hcon
        exact hcon⟩
      have hml : (minusL l0 l1).length ≤ (sortC l0).length := List.length_filter_le _ _
      have hs3 : ∀ q, (putRow (Value.int .i64) (Sort.ahead w1 q) g 0 (minusL l0 l1 ++ List.replicate ((sortC l0).length - (minusL l0 l1).length) 0).toArray).ownsRow w.heap.size 3 1 (.slice (some ⟨g, 0, none⟩) (minusL l0 l1).length cap) (minusL l0 l1).length ((minusL l0 l1).map (Value.int .i64)) := fun q => cut_sorted (by omega) hblk h1 h2 h3 hml q
      have hg3 : ∀ q, w1.grownBy (putRow (Value.int .i64) (Sort.ahead w1 q) g 0 (minusL l0 l1 ++ List.replicate ((sortC l0).length - (minusL l0 l1).length) 0).toArray) (some g) := fun q => by
        have h := grownBy_sortedI (w := w1) (g := g) (n := q) (os := #[]) (minusL l0 l1 ++ List.replicate ((sortC l0).length - (minusL l0 l1).length) 0).toArray
        rw [grow_empty] at h
        exact h
      have HS3 := Aside0.mk hs3
      have HG3 := Aside0.mk hg3
      have HG : Aside0 (w.heap.size ≤ g) := ⟨by omega⟩
      clear CK hlen ho hb hbx hlow eg hpred hover hcon hml hs3 hg3 BX HA hsz hg hblk h1 h2 h3 h4 hz
      go_wp2_with fail
      with_reducible refine CK2.out.mono ?_
      rintro e w3 ⟨rfl, q, hw⟩
      have hown3 := HS3.out q
      have hgr := HG3.out q
      rw [← hw] at hown3 hgr
      have HB3 := Aside0.mk (HB.out.grown hgr HB.out.size (fun k hk => by cases hk; exact HG.out))
      have HO := Aside0.mk (Kd.R_of_own (h1 := fun _ => rfl) (ok := fun _ => True) hown3 (fun _ _ => trivial))
      clear hw hown3 hgr CK2 HS3 HG3
      go_wp2
      go_ret
      exact ⟨_, rfl, HO.out, HB3.out⟩
  · cases h
end Go.Proofs.Ytgbjbpjmbghlbaa.G
end
section
namespace Go.Proofs.Ytgbjbpjmbghlbaa.G
open Go.RowKit Go.Proofs.YtgbjbpjmbghlbaaW.PrintWords Go.Proofs.YtgbjbpjmbghlbaaW.PrintLast Go.Proofs.YtgbjbpjmbghlbaaW.PrintMore
attribute [local go_sem] max2_int min2_int max_two min_two max_three min_three max_four min_four
set_option linter.unusedVariables false
set_option linter.unusedSimpArgs false
def spec_l91Values.l0 : Nat → List Int → Int → List Int → Int → Option (List Int × Int)
  | 0, _, _, _, _ => none
  | k + 1, x3, x4, x1000, x1001 => if x4 > 0 then ((spec_l6Rd_pick.f k x1000 x1001 5).bind fun bt343 => (if x3.length < 17592186044416 then (spec_l91Values.l0 k (x3 ++ [bt343.1]) (wrap64 (x4 - 1)) x1000 bt343.2) else (none))) else ((spec_l6Rd_pick.f k x1000 x1001 25).bind fun bt348 => (if bt348.1 = 0 then (if x3.length < 17592186044416 then (some ((x3 ++ [97]), bt348.2)) else (none)) else (some (x3, bt348.2))))
def spec_l91Values.f (k : Nat) (s0_0 : List Int) (s0_1 : Int) : Option (List Int × Int) := (spec_l6Rd_pick.f k s0_0 s0_1 11).bind fun bt341 => (spec_l91Values.l0 k (([] : List Int)) bt341.1 s0_0 bt341.2)
set_option maxHeartbeats 8000000 in
set_option maxRecDepth 100000 in
theorem spec_l91Values.calls (k : Nat) (g : Nat) (s0_0 : List Int) (s0_1 : Int) (r1 : List Int) (r2 : Int) (w0 w : World) (hI : IsS148 w0 w g s0_0 s0_1) (hB : Below w0.heap.size w0 w) (h : spec_l91Values.f k s0_0 s0_1 = some (r1, r2)) :
    Calls Try.prog 78 #[.pointer (some ⟨g, 0, none⟩)] w fun e w' => ∃ v0_ : Value, e = .returned (v0_) ∧ Kd.R (Kd.int .i64) 3 w' w.heap.size (fun _ => True) v0_ r1 ∧ IsS148 w0 w' g s0_0 r2 ∧ Below w0.heap.size w0 w' ∧ KeepBut w w' g none := by
  have HI0 := Aside0.mk hI
  have HK := Aside0.mk (KeepBut.refl w g none)
  have HL := Aside0.mk hB.size
  clear hI
  have HW0 := Aside0.mk hB.size
  have HB := Aside0.mk hB
  clear hB
  have H : ((spec_l6Rd_pick.f k s0_0 s0_1 11).bind fun bt341 => (spec_l91Values.l0 k (([] : List Int)) bt341.1 s0_0 bt341.2)) = some (r1, r2) := h
  clear h
  obtain ⟨y338, hy338⟩ : ∃ y_ : List Int, y_ = (([] : List Int)) := ⟨_, rfl⟩
  replace H : ((spec_l6Rd_pick.f k s0_0 s0_1 11).bind fun bt341 => (spec_l91Values.l0 k y338 bt341.1 s0_0 bt341.2)) = some (r1, r2) := by first | (rw [hy338]; with_reducible exact H) | (have H2_ := (Option.bind_some _ _).symm.trans H; rw [hy338]; with_reducible exact H2_) | (have H2_ := (Option.bind_some _ _).symm.trans H; with_reducible exact H2_) | with_reducible exact H | (rw [hy338]; exact H) | exact H
  have Ny338 := Aside0.mk hy338
  clear hy338
  replace H := Option.bind_eq_some_iff.mp H
  obtain ⟨⟨t341, t342⟩, A20, H⟩ := H
  replace H : (spec_l91Values.l0 k y338 t341 s0_0 t342) = some (r1, r2) := H
  have A2 := Aside0.mk A20
  clear A20
  have H' := Aside0.mk H
  clear H
  go_enter Try.func78, Try.ntmps78
  go_wp2_with (first | ((with_reducible refine gate_dst (N := 5) rfl ?_); refine Kd.R_lit (Kd.int .i64) _ 3 ?hg (N := 5) ?hd (xs := ([] : List Int)) (inner := []) (ok := fun _ => True) (okp := fun _ => True) ?hr ?hp (fun _ hk => hk) trivial (Below.refl _ _) (Nat.le_refl _) (by simp) ?_; (case hd => rfl); (case hg => rfl); (case hr => first | (go_simp; done) | (go_simp; rfl)); (case hp => exact (Reps.none _ _)); intro v339 w3 ho4 hb hg_ hnew_; clear hg_ hnew_; (first | rw [← Ny338.out] at ho4 | (simp only [Int.reduceToNat] at ho4; rw [← Ny338.out] at ho4)); have n0_ := Aside0.mk (Kd.R_lower ho4 (keep_size (w := w) (g := g) (row := none) (by repeat (first | (with_reducible first | exact HK.out | apply KeepBut.set_ | apply keep_drewN | apply keep_drew | apply keep_alloc) | exact HK.out)))); have n1_ := Aside0.mk (IsS148.below (by repeat (first | (with_reducible first | exact HI0.out | apply IsS148.alloc | apply IsS148.drewN | apply IsS148.drew | apply IsS148.set_1) | exact HI0.out)) hb); have n2_ := Aside0.mk (KeepBut.trans (by repeat (first | (with_reducible first | exact HK.out | apply KeepBut.set_ | apply keep_drewN | apply keep_drew | apply keep_alloc) | exact HK.out)) (KeepBut.of_below hb g none) (.inl rfl)); have n3_ := Aside0.mk (below_step (by repeat (first | (with_reducible first | exact HB.out | apply below_alloc | apply pw_below_drewN | apply below_drew1 | refine below_set ?_ (IsS148.ge HI0.out)) | exact HB.out)) hb); clear HI0; clear HK; clear HB; have HO340 := n0_; have HI0 := n1_; have HK := n2_; have HB := n3_; clear n0_ n1_ n2_ n3_; clear hb ho4) | ((with_reducible refine gate_callee (f := 103) rfl ?_); refine goesL_ (some 7) rfl rfl Try.func103 (by kernel_rfl) rfl #[.pointer (some ⟨g, 0, none⟩), .int .i64 11] rfl (by (try simp only [List.map_toArray, List.map_cons, List.map_nil]); first | done | rfl | (simp only [List.length_drop, List.length_take]; rfl)) ?_; (with_reducible refine (spec_l6Rd_pick.calls k g s0_0 s0_1 11 t341 t342 w0 _ ?side1 ?side2 A2.out).mono ?_); (case side1 => repeat (first | (with_reducible first | exact HI0.out | apply IsS148.alloc | apply IsS148.drewN | apply IsS148.drew | apply IsS148.set_1) | exact HI0.out)); (case side2 => repeat (first | (with_reducible first | exact HB.out | apply below_alloc | apply pw_below_drewN | apply below_drew1 | refine below_set ?_ (IsS148.ge HI0.out)) | exact HB.out)); rintro e w5 ⟨rfl, hi, hb, hk⟩; refine ⟨_, rfl, ?_⟩; have n0_ := Aside0.mk (Kd.R_mono (Kd.R_keep (IsS148.apart (show IsS148 w0 _ g s0_0 s0_1 from by repeat (first | (with_reducible first | exact HI0.out | apply IsS148.alloc | apply IsS148.drewN | apply IsS148.drew | apply IsS148.set_1) | exact HI0.out)) (by (with_reducible repeat (first | apply Kd.R_alloc | apply Kd.R_drewN | apply Kd.R_drew)); exact HO340.out) (by decide)) hk (fun _ h => h.2)) (fun _ h => h.1)); have n1_ := Aside0.mk (KeepBut.trans (by repeat (first | (with_reducible first | exact HK.out | apply KeepBut.set_ | apply keep_drewN | apply keep_drew | apply keep_alloc) | exact HK.out)) hk (.inl rfl)); have n2_ := Aside0.mk (hb); have n3_ := Aside0.mk (hi); clear HO340; clear HK; clear HB; clear HI0; have HO340 := n0_; have HK := n1_; have HB := n2_; have HI0 := n3_; clear n0_ n1_ n2_ n3_; (try clear hb); (try clear hb2); (try clear hk); (try clear hi)))
  go_loopg [3, 4] k (fun kq v3 v4 w' => ∃ (x3_1 : List Int) (x4_1 : Int) (x1001_1 : Int), v4 = .int .i64 x4_1 ∧ Aside0 (spec_l91Values.l0 kq x3_1 x4_1 s0_0 x1001_1 = some (r1, r2)) ∧ Aside0 (kq ≤ k) ∧ Aside0 (Kd.R (Kd.int .i64) 3 w' w.heap.size (fun _ => True) v3 x3_1) ∧ Aside0 (IsS148 w0 w' g s0_0 x1001_1) ∧ Aside0 (KeepBut w w' g none) ∧ Aside0 (Below w0.heap.size w0 w'))
  case atStart => exact ⟨(y338), (t341), (t342), (by first | rfl | (simp; done) | (simp [*]; done)), H', ⟨Nat.le_refl _⟩, ⟨by (with_reducible repeat (first | apply Kd.R_alloc | apply Kd.R_drewN | apply Kd.R_drew)); exact HO340.out⟩, ⟨by repeat (first | (with_reducible first | exact HI0.out | apply IsS148.alloc | apply IsS148.drewN | apply IsS148.drew | apply IsS148.set_1) | exact HI0.out)⟩, ⟨by repeat (first | (with_reducible first | exact HK.out | apply KeepBut.set_ | apply keep_drewN | apply keep_drew | apply keep_alloc) | exact HK.out)⟩, ⟨by repeat (first | (with_reducible first | exact HB.out | apply below_alloc | apply pw_below_drewN | apply below_drew1 | refine below_set ?_ (IsS148.ge HI0.out)) | exact HB.out)⟩⟩
  case round =>
    clear H'
    try clear c1
    try clear p2
    obtain ⟨x3_1, x4_1, x1001_1, rfl, HA, HK1, HO_3, HI0, HK, HB⟩ := hrel
    cases gk with
    | zero => exact absurd HA.out (by simp [spec_l91Values.l0])
    | succ k1 =>
      have H := HA.out
      clear HA
      simp only [spec_l91Values.l0] at H
      by_cases c6 : x4_1 > 0
      · rw [if_pos c6] at H
        have c6b0 : decide (0 < x4_1) = true := decide_eq_true c6
        clear c6
        replace H := Option.bind_eq_some_iff.mp H
        obtain ⟨⟨t343, t344⟩, A70, H⟩ := H
        replace H : (if x3_1.length < 17592186044416 then (spec_l91Values.l0 k1 (x3_1 ++ [t343]) (wrap64 (x4_1 - 1)) s0_0 t344) else (none)) = some (r1, r2) := H
        have A7 := Aside0.mk A70
        clear A70
        by_cases c8 : x3_1.length < 17592186044416
        · rw [if_pos c8] at H
          have LMc8 := Aside0.mk c8
          clear c8
          obtain ⟨y345, hy345⟩ : ∃ y_ : List Int, y_ = (x3_1 ++ [t343]) := ⟨_, rfl⟩
          replace H : (spec_l91Values.l0 k1 y345 (wrap64 (x4_1 - 1)) s0_0 t344) = some (r1, r2) := by first | (rw [hy345]; with_reducible exact H) | (have H2_ := (Option.bind_some _ _).symm.trans H; rw [hy345]; with_reducible exact H2_) | (have H2_ := (Option.bind_some _ _).symm.trans H; with_reducible exact H2_) | with_reducible exact H | (rw [hy345]; exact H) | exact H
          have Ny345 := Aside0.mk hy345
          clear hy345
          have H' := Aside0.mk H
          clear H
          go_wp2_with (first | ((with_reducible refine gate_callee (f := 103) rfl ?_); refine goesL_ (some 14) rfl rfl Try.func103 (by kernel_rfl) rfl #[.pointer (some ⟨g, 0, none⟩), .int .i64 5] rfl (by (try simp only [List.map_toArray, List.map_cons, List.map_nil]); first | done | rfl | (simp only [List.length_drop, List.length_take]; rfl)) ?_; (with_reducible refine (spec_l6Rd_pick.calls k1 g s0_0 x1001_1 5 t343 t344 w0 _ ?side1 ?side2 A7.out).mono ?_); (case side1 => repeat (first | (with_reducible first | exact HI0.out | apply IsS148.alloc | apply IsS148.drewN | apply IsS148.drew | apply IsS148.set_1) | exact HI0.out)); (case side2 => repeat (first | (with_reducible first | exact HB.out | apply below_alloc | apply pw_below_drewN | apply below_drew1 | refine below_set ?_ (IsS148.ge HI0.out)) | exact HB.out)); rintro e w9 ⟨rfl, hi, hb, hk⟩; refine ⟨_, rfl, ?_⟩; have n0_ := Aside0.mk (Kd.R_mono (Kd.R_keep (IsS148.apart (show IsS148 w0 _ g s0_0 x1001_1 from by repeat (first | (with_reducible first | exact HI0.out | apply IsS148.alloc | apply IsS148.drewN | apply IsS148.drew | apply IsS148.set_1) | exact HI0.out)) (by (with_reducible repeat (first | apply Kd.R_alloc | apply Kd.R_drewN | apply Kd.R_drew)); exact HO_3.out) (by decide)) hk (fun _ h => h.2)) (fun _ h => h.1)); have n1_ := Aside0.mk (KeepBut.trans (by repeat (first | (with_reducible first | exact HK.out | apply KeepBut.set_ | apply keep_drewN | apply keep_drew | apply keep_alloc) | exact HK.out)) hk (.inl rfl)); have n2_ := Aside0.mk (hb); have n3_ := Aside0.mk (hi); clear HO_3; clear HK; clear HB; clear HI0; have HO_3 := n0_; have HK := n1_; have HB := n2_; have HI0 := n3_; clear n0_ n1_ n2_ n3_; (try clear hb); (try clear hb2); (try clear hk); (try clear hi)) | ((with_reducible refine gate_builtin (b := .append) (xs := #[.tmp 12, .tmp 15]) rfl ?_); at_builtin; refine Kd.R_append (Kd.int .i64) w.heap.size rfl (.tmp 12) (.tmp 15) 26 3 (.int .i64 0) 8 rfl Try.underlying26 info3 rfl (by decide) (by omega) u3 x3_1 t343 [.int .i64 t343] (fun _ => True) (fun _ => False) rfl rfl ?aP (fun _ hk => hk.elim) ?aF ?aO (Below.refl _ _) ?aS ?aL ?_; (case aP => exact rfl); (case aF => exact (fun _ _ => trivial)); (case aO => exact (by (with_reducible repeat (first | apply Kd.R_alloc | apply Kd.R_drewN | apply Kd.R_drew)); exact HO_3.out)); (case aS => exact (keep_size (w := w) (g := g) (row := none) (by repeat (first | (with_reducible first | exact HK.out | apply KeepBut.set_ | apply keep_drewN | apply keep_drew | apply keep_alloc) | exact HK.out)))); (case aL => have := LMc8.out; omega); intro v346 w10 ho hb hg hat; rw [← Ny345.out] at ho; have n0_ := Aside0.mk (IsS148.grown (by repeat (first | (with_reducible first | exact HI0.out | apply IsS148.alloc | apply IsS148.drewN | apply IsS148.drew | apply IsS148.set_1) | exact HI0.out)) hg (IsS148.own_ne HI0.out HO_3.out (by decide))); have n1_ := Aside0.mk (below_weaken (by repeat (first | (with_reducible first | exact HB.out | apply below_alloc | apply pw_below_drewN | apply below_drew1 | refine below_set ?_ (IsS148.ge HI0.out)) | exact HB.out)) HL.out hb); have n2_ := Aside0.mk (KeepBut.trans (by repeat (first | (with_reducible first | exact HK.out | apply KeepBut.set_ | apply keep_drewN | apply keep_drew | apply keep_alloc) | exact HK.out)) (KeepBut.of_grown hg g) (Kd.R_base2 HO_3.out)); have n3_ := Aside0.mk (ho); clear HI0; clear HB; clear HK; clear HO_3; have HI0 := n0_; have HB := n1_; have HK := n2_; have HO347 := n3_; clear n0_ n1_ n2_ n3_; clear ho hb hg hat))
          go_roundg k1
          case measure => have := HK1.out; omega
          case rel => exact ⟨(y345), (wrap64 (x4_1 - 1)), (t344), (by first | rfl | (simp; done) | (simp [*]; done)), H', ⟨by have := HK1.out; omega⟩, ⟨by (with_reducible repeat (first | apply Kd.R_alloc | apply Kd.R_drewN | apply Kd.R_drew)); exact HO347.out⟩, ⟨by repeat (first | (with_reducible first | exact HI0.out | apply IsS148.alloc | apply IsS148.drewN | apply IsS148.drew | apply IsS148.set_1) | exact HI0.out)⟩, ⟨by repeat (first | (with_reducible first | exact HK.out | apply KeepBut.set_ | apply keep_drewN | apply keep_drew | apply keep_alloc) | exact HK.out)⟩, ⟨by repeat (first | (with_reducible first | exact HB.out | apply below_alloc | apply pw_below_drewN | apply below_drew1 | refine below_set ?_ (IsS148.ge HI0.out)) | exact HB.out)⟩⟩
        · rw [if_neg c8] at H
          exact absurd H (by simp)
      · rw [if_neg c6] at H
        have c6b0 : decide (0 < x4_1) = false := decide_eq_false c6
        clear c6
        replace H := Option.bind_eq_some_iff.mp H
        obtain ⟨⟨t348, t349⟩, A110, H⟩ := H
        replace H : (if t348 = 0 then (if x3_1.length < 17592186044416 then (some ((x3_1 ++ [97]), t349)) else (none)) else (some (x3_1, t349))) = some (r1, r2) := H
        have A11 := Aside0.mk A110
        clear A110
        by_cases c12 : t348 = 0
        · rw [if_pos c12] at H
          have c12b0 : (t348 == 0) = true := beq_iff_eq.mpr c12
          have c12b1 : (t348 != 0) = false := bne_eq_false_iff_eq.mpr c12
          clear c12
          by_cases c13 : x3_1.length < 17592186044416
          · rw [if_pos c13] at H
            have LMc13 := Aside0.mk c13
            clear c13
            obtain ⟨y350, hy350⟩ : ∃ y_ : List Int, y_ = (x3_1 ++ [97]) := ⟨_, rfl⟩
            replace H : (some (y350, t349)) = some (r1, r2) := by first | (rw [hy350]; with_reducible exact H) | (have H2_ := (Option.bind_some _ _).symm.trans H; rw [hy350]; with_reducible exact H2_) | (have H2_ := (Option.bind_some _ _).symm.trans H; with_reducible exact H2_) | with_reducible exact H | (rw [hy350]; exact H) | exact H
            have Ny350 := Aside0.mk hy350
            clear hy350
            simp only [Option.some.injEq, Prod.mk.injEq] at H
            obtain ⟨rfl, rfl⟩ := H
            go_wp2_with (first | ((with_reducible refine gate_callee (f := 103) rfl ?_); refine goesL_ (some 18) rfl rfl Try.func103 (by kernel_rfl) rfl #[.pointer (some ⟨g, 0, none⟩), .int .i64 25] rfl (by (try simp only [List.map_toArray, List.map_cons, List.map_nil]); first | done | rfl | (simp only [List.length_drop, List.length_take]; rfl)) ?_; (with_reducible refine (spec_l6Rd_pick.calls k1 g s0_0 x1001_1 25 t348 t349 w0 _ ?side1 ?side2 A11.out).mono ?_); (case side1 => repeat (first | (with_reducible first | exact HI0.out | apply IsS148.alloc | apply IsS148.drewN | apply IsS148.drew | apply IsS148.set_1) | exact HI0.out)); (case side2 => repeat (first | (with_reducible first | exact HB.out | apply below_alloc | apply pw_below_drewN | apply below_drew1 | refine below_set ?_ (IsS148.ge HI0.out)) | exact HB.out)); rintro e w14 ⟨rfl, hi, hb, hk⟩; refine ⟨_, rfl, ?_⟩; have n0_ := Aside0.mk (Kd.R_mono (Kd.R_keep (IsS148.apart (show IsS148 w0 _ g s0_0 x1001_1 from by repeat (first | (with_reducible first | exact HI0.out | apply IsS148.alloc | apply IsS148.drewN | apply IsS148.drew | apply IsS148.set_1) | exact HI0.out)) (by (with_reducible repeat (first | apply Kd.R_alloc | apply Kd.R_drewN | apply Kd.R_drew)); exact HO_3.out) (by decide)) hk (fun _ h => h.2)) (fun _ h => h.1)); have n1_ := Aside0.mk (KeepBut.trans (by repeat (first | (with_reducible first | exact HK.out | apply KeepBut.set_ | apply keep_drewN | apply keep_drew | apply keep_alloc) | exact HK.out)) hk (.inl rfl)); have n2_ := Aside0.mk (hb); have n3_ := Aside0.mk (hi); clear HO_3; clear HK; clear HB; clear HI0; have HO_3 := n0_; have HK := n1_; have HB := n2_; have HI0 := n3_; clear n0_ n1_ n2_ n3_; (try clear hb); (try clear hb2); (try clear hk); (try clear hi)) | ((with_reducible refine gate_builtin (b := .append) (xs := #[.tmp 20, .tmp 21]) rfl ?_); at_builtin; refine Kd.R_append (Kd.int .i64) w.heap.size rfl (.tmp 20) (.tmp 21) 26 3 (.int .i64 0) 8 rfl Try.underlying26 info3 rfl (by decide) (by omega) u3 x3_1 97 [.int .i64 97] (fun _ => True) (fun _ => False) rfl rfl ?aP (fun _ hk => hk.elim) ?aF ?aO (Below.refl _ _) ?aS ?aL ?_; (case aP => exact rfl); (case aF => exact (fun _ _ => trivial)); (case aO => exact (by (with_reducible repeat (first | apply Kd.R_alloc | apply Kd.R_drewN | apply Kd.R_drew)); exact HO_3.out)); (case aS => exact (keep_size (w := w) (g := g) (row := none) (by repeat (first | (with_reducible first | exact HK.out | apply KeepBut.set_ | apply keep_drewN | apply keep_drew | apply keep_alloc) | exact HK.out)))); (case aL => have := LMc13.out; omega); intro v351 w15 ho hb hg hat; rw [← Ny350.out] at ho; have n0_ := Aside0.mk (IsS148.grown (by repeat (first | (with_reducible first | exact HI0.out | apply IsS148.alloc | apply IsS148.drewN | apply IsS148.drew | apply IsS148.set_1) | exact HI0.out)) hg (IsS148.own_ne HI0.out HO_3.out (by decide))); have n1_ := Aside0.mk (below_weaken (by repeat (first | (with_reducible first | exact HB.out | apply below_alloc | apply pw_below_drewN | apply below_drew1 | refine below_set ?_ (IsS148.ge HI0.out)) | exact HB.out)) HL.out hb); have n2_ := Aside0.mk (KeepBut.trans (by repeat (first | (with_reducible first | exact HK.out | apply KeepBut.set_ | apply keep_drewN | apply keep_drew | apply keep_alloc) | exact HK.out)) (KeepBut.of_grown hg g) (Kd.R_base2 HO_3.out)); have n3_ := Aside0.mk (ho); clear HI0; clear HB; clear HK; clear HO_3; have HI0 := n0_; have HB := n1_; have HK := n2_; have HO352 := n3_; clear n0_ n1_ n2_ n3_; clear ho hb hg hat))
            go_ret
            exact ⟨_, by first | rfl | (simp [errW_none, errW_some] <;> rfl) | (simp [*, errW_none, errW_some] <;> rfl), by (with_reducible repeat (first | apply Kd.R_alloc | apply Kd.R_drewN | apply Kd.R_drew)); exact HO352.out, by repeat (first | (with_reducible first | exact HI0.out | apply IsS148.alloc | apply IsS148.drewN | apply IsS148.drew | apply IsS148.set_1) | exact HI0.out), by repeat (first | (with_reducible first | exact HB.out | apply below_alloc | apply pw_below_drewN | apply below_drew1 | refine below_set ?_ (IsS148.ge HI0.out)) | exact HB.out), by repeat (first | (with_reducible first | exact HK.out | apply KeepBut.set_ | apply keep_drewN | apply keep_drew | apply keep_alloc) | exact HK.out)⟩
          · rw [if_neg c13] at H
            exact absurd H (by simp)
        · rw [if_neg c12] at H
          have c12b0 : (t348 == 0) = false := beq_eq_false_iff_ne.mpr c12
          have c12b1 : (t348 != 0) = true := bne_iff_ne.mpr c12
          simp only [Option.some.injEq, Prod.mk.injEq] at H
          obtain ⟨rfl, rfl⟩ := H
          go_wp2_with (first | ((with_reducible refine gate_callee (f := 103) rfl ?_); refine goesL_ (some 18) rfl rfl Try.func103 (by kernel_rfl) rfl #[.pointer (some ⟨g, 0, none⟩), .int .i64 25] rfl (by (try simp only [List.map_toArray, List.map_cons, List.map_nil]); first | done | rfl | (simp only [List.length_drop, List.length_take]; rfl)) ?_; (with_reducible refine (spec_l6Rd_pick.calls k1 g s0_0 x1001_1 25 t348 t349 w0 _ ?side1 ?side2 A11.out).mono ?_); (case side1 => repeat (first | (with_reducible first | exact HI0.out | apply IsS148.alloc | apply IsS148.drewN | apply IsS148.drew | apply IsS148.set_1) | exact HI0.out)); (case side2 => repeat (first | (with_reducible first | exact HB.out | apply below_alloc | apply pw_below_drewN | apply below_drew1 | refine below_set ?_ (IsS148.ge HI0.out)) | exact HB.out)); rintro e w16 ⟨rfl, hi, hb, hk⟩; refine ⟨_, rfl, ?_⟩; have n0_ := Aside0.mk (Kd.R_mono (Kd.R_keep (IsS148.apart (show IsS148 w0 _ g s0_0 x1001_1 from by repeat (first | (with_reducible first | exact HI0.out | apply IsS148.alloc | apply IsS148.drewN | apply IsS148.drew | apply IsS148.set_1) | exact HI0.out)) (by (with_reducible repeat (first | apply Kd.R_alloc | apply Kd.R_drewN | apply Kd.R_drew)); exact HO_3.out) (by decide)) hk (fun _ h => h.2)) (fun _ h => h.1)); have n1_ := Aside0.mk (KeepBut.trans (by repeat (first | (with_reducible first | exact HK.out | apply KeepBut.set_ | apply keep_drewN | apply keep_drew | apply keep_alloc) | exact HK.out)) hk (.inl rfl)); have n2_ := Aside0.mk (hb); have n3_ := Aside0.mk (hi); clear HO_3; clear HK; clear HB; clear HI0; have HO_3 := n0_; have HK := n1_; have HB := n2_; have HI0 := n3_; clear n0_ n1_ n2_ n3_; (try clear hb); (try clear hb2); (try clear hk); (try clear hi)))
          go_ret
          exact ⟨_, by first | rfl | (simp [errW_none, errW_some] <;> rfl) | (simp [*, errW_none, errW_some] <;> rfl), by (with_reducible repeat (first | apply Kd.R_alloc | apply Kd.R_drewN | apply Kd.R_drew)); exact HO_3.out, by repeat (first | (with_reducible first | exact HI0.out | apply IsS148.alloc | apply IsS148.drewN | apply IsS148.drew | apply IsS148.set_1) | exact HI0.out), by repeat (first | (with_reducible first | exact HB.out | apply below_alloc | apply pw_below_drewN | apply below_drew1 | refine below_set ?_ (IsS148.ge HI0.out)) | exact HB.out), by repeat (first | (with_reducible first | exact HK.out | apply KeepBut.set_ | apply keep_drewN | apply keep_drew | apply keep_alloc) | exact HK.out)⟩
end Go.Proofs.Ytgbjbpjmbghlbaa.G
end
section
namespace Go.Proofs.Ytgbjbpjmbghlbaa.G
open Go.RowKit Go.Proofs.YtgbjbpjmbghlbaaW.PrintWords Go.Proofs.YtgbjbpjmbghlbaaW.PrintLast Go.Proofs.YtgbjbpjmbghlbaaW.PrintMore
attribute [local go_sem] max2_int min2_int max_two min_two max_three min_three max_four min_four
set_option linter.unusedVariables false
set_option linter.unusedSimpArgs false
def impl_HiddenOf.f (k : Nat) (l0 : List Int) (a1_0 : Int) (a1_1 : Int) (l1_2 : List (S30)) (l2 : List Int) : Option (List Int × Bool) := (impl_TaskUses.f k a1_0 a1_1 l1_2 l2).bind fun bt885 => (if bt885.2 = true then ((impl_minus.f bt885.1 l0).bind fun t889 => (some (t889, true))) else (some (([] : List Int), false)))
set_option maxHeartbeats 8000000 in
set_option maxRecDepth 100000 in
theorem impl_HiddenOf.calls (k : Nat) (A0 : Option Addr) (c0 : Nat) (l0 : List Int) (a1_0 : Int) (a1_1 : Int) (A1_2 : Option Addr) (c1_2 : Nat) (l1_2 : List (S30)) (A2 : Option Addr) (c2 : Nat) (l2 : List Int) (r1 : List Int) (r2 : Bool) (w : World) (hr0 : Kd.C (Kd.int .i64) w A0 l0.length l0) (hc0 : l0.length ≤ c0) (hr1_2 : Kd.C k30 w A1_2 l1_2.length l1_2) (hc1_2 : l1_2.length ≤ c1_2) (hr2 : Kd.C (Kd.int .i64) w A2 l2.length l2) (hc2 : l2.length ≤ c2) (h : impl_HiddenOf.f k l0 a1_0 a1_1 l1_2 l2 = some (r1, r2)) :
    Calls Try.prog 47 #[.slice A0 l0.length c0, .agg #[.int .i64 a1_0, .int .i64 a1_1, .slice A1_2 l1_2.length c1_2], .slice A2 l2.length c2] w fun e w' => ∃ v0_ : Value, e = .returned (.tuple #[v0_, .bool r2]) ∧ Kd.R (Kd.int .i64) 3 w' w.heap.size (fun _ => True) v0_ r1 ∧ Below w.heap.size w w' := by
  have hu30 := Try.underlying30
  have HR0 := Aside0.mk hr0
  have HC0 := Aside0.mk hc0
  clear hr0 hc0
  have HR1_2 := Aside0.mk hr1_2
  have HC1_2 := Aside0.mk hc1_2
  clear hr1_2 hc1_2
  have HR2 := Aside0.mk hr2
  have HC2 := Aside0.mk hc2
  clear hr2 hc2
  have HB := Aside0.mk (Below.refl w.heap.size w)
  have H : ((impl_TaskUses.f k a1_0 a1_1 l1_2 l2).bind fun bt885 => (if bt885.2 = true then ((impl_minus.f bt885.1 l0).bind fun t889 => (some (t889, true))) else (some (([] : List Int), false)))) = some (r1, r2) := h
  clear h
  replace H := Option.bind_eq_some_iff.mp H
  obtain ⟨⟨t885, t888⟩, A40, H⟩ := H
  replace H : (if t888 = true then ((impl_minus.f t885 l0).bind fun t889 => (some (t889, true))) else (some (([] : List Int), false))) = some (r1, r2) := H
  have A4 := Aside0.mk A40
  clear A40
  by_cases c5 : t888 = true
  · subst c5
    have H1 : ((impl_minus.f t885 l0).bind fun t889 => (some (t889, true))) = some (r1, r2) := by rw [if_pos rfl] at H; exact H
    clear H
    have H := H1
    clear H1
    replace H := Option.bind_eq_some_iff.mp H
    obtain ⟨t889, A60, H⟩ := H
    replace H : (some (t889, true)) = some (r1, r2) := H
    have A6 := Aside0.mk A60
    clear A60
    simp only [Option.some.injEq, Prod.mk.injEq] at H
    obtain ⟨rfl, rfl⟩ := H
    go_enter Try.func47, Try.ntmps47
    go_wp2_with (first | ((with_reducible refine gate_dst (N := 4) rfl ?_); refine box_event ?hg (N := 4) ?hd (cs := #[.int .i64 a1_0, .int .i64 a1_1, .slice A1_2 l1_2.length c1_2]) (t := 30) ?hr ?_; (case hd => rfl); (case hg => rfl); (case hr => first | (go_simp; done) | (go_simp; rfl)); intro gb884 hg w7 hbox hb; have n0_ := Aside0.mk (below_step (by repeat (first | (with_reducible first | exact HB.out | apply below_alloc | apply pw_below_drewN | apply below_drew1) | exact HB.out)) hb); have n1_ := Aside0.mk (hbox); have n2_ := Aside0.mk ((by rw [hg]; exact (below_size (by repeat (first | (with_reducible first | exact HB.out | apply below_alloc | apply pw_below_drewN | apply below_drew1) | exact HB.out))) : w.heap.size ≤ gb884)); have n3_ := Aside0.mk ((by rw [hg]; exact (below_size (by repeat (first | (with_reducible first | exact HB.out | apply below_alloc | apply pw_below_drewN | apply below_drew1) | exact HB.out))) : w.heap.size ≤ gb884)); clear HB; have HB := n0_; have BK884 := n1_; have GW884 := n2_; have GE884 := n3_; clear n0_ n1_ n2_ n3_; clear hb hbox hg; have hcz8_0 : w7.cell? ⟨gb884, 0, none⟩ = some (.int .i64 a1_0) := (blk_cell BK884.out 0).trans rfl; have hcz8_1 : w7.cell? ⟨gb884, 1, none⟩ = some (.int .i64 a1_1) := (blk_cell BK884.out 1).trans rfl; have hcz8_2 : w7.cell? ⟨gb884, 2, none⟩ = some (.slice A1_2 l1_2.length c1_2) := (blk_cell BK884.out 2).trans rfl; have hfz8_0 := blk_frozen BK884.out 0; have hfz8_1 := blk_frozen BK884.out 1; have hfz8_2 := blk_frozen BK884.out 2) | ((with_reducible refine gate_callee (f := 29) rfl ?_); refine goesL_ (some 13) rfl rfl Try.func29 (by kernel_rfl) rfl #[.agg #[.int .i64 a1_0, .int .i64 a1_1, .slice A1_2 l1_2.length c1_2], .slice A2 l2.length c2] rfl (by (try simp only [List.map_toArray, List.map_cons, List.map_nil]); first | done | rfl | (simp only [List.length_drop, List.length_take]; rfl)) ?_; (with_reducible refine (impl_TaskUses.calls k a1_0 a1_1 _ _ l1_2 _ _ l2 t885 true _ ?side1 ?side2 ?side3 ?side4 A4.out).mono ?_); (case side1 => repeat (first | exact (Kd.C_below HR1_2.out HB.out) | (with_reducible refine Kd.C_alloc ?_ _) | (with_reducible refine Kd.C_drewN ?_ _) | (with_reducible refine Kd.C_drew ?_))); (case side2 => exact HC1_2.out); (case side3 => repeat (first | exact (Kd.C_below HR2.out HB.out) | (with_reducible refine Kd.C_alloc ?_ _) | (with_reducible refine Kd.C_drewN ?_ _) | (with_reducible refine Kd.C_drew ?_))); (case side4 => exact HC2.out); rintro e w9 ⟨v886, rfl, ho0, hb⟩; refine ⟨_, rfl, ?_⟩; have n0_ := Aside0.mk (Kd.R_lower ho0 (below_size (by repeat (first | (with_reducible first | exact HB.out | apply below_alloc | apply pw_below_drewN | apply below_drew1 | refine below_set ?_ GE884.out) | exact HB.out)))); have n1_ := Aside0.mk (blk_below (g := gb884) (o := .cells #[.int .i64 a1_0, .int .i64 a1_1, .slice A1_2 l1_2.length c1_2] 30 (0, 0)) (by (with_reducible repeat (first | refine blk_drewN ?_ _ | refine blk_drew ?_ | refine blk_alloc ?_ _)); exact BK884.out) hb); have n2_ := Aside0.mk (below_step (by repeat (first | (with_reducible first | exact HB.out | apply below_alloc | apply pw_below_drewN | apply below_drew1 | refine below_set ?_ GE884.out) | exact HB.out)) hb); clear BK884; clear HB; have HO887 := n0_; have BK884 := n1_; have HB := n2_; clear n0_ n1_ n2_; (try clear hb); (try clear hb2); (try clear hk); (try clear hi); (try clear ho0); obtain ⟨Ao10, co10, eo10⟩ := Kd.R_slice HO887.out; subst eo10) | ((with_reducible refine gate_callee (f := 102) rfl ?_); refine goesL_ (some 20) rfl rfl Try.func102 (by kernel_rfl) rfl #[.slice Ao10 t885.length co10, .slice A0 l0.length c0] rfl (by (try simp only [List.map_toArray, List.map_cons, List.map_nil]); first | done | rfl | (simp only [List.length_drop, List.length_take]; rfl)) ?_; (with_reducible refine (impl_minus.calls _ _ t885 _ _ l0 t889 _ ?side1 ?side2 ?side3 ?side4 A6.out).mono ?_); (case side1 => repeat (first | exact (Kd.R_reads' HO887.out).2.2 | (with_reducible refine Kd.C_alloc ?_ _) | (with_reducible refine Kd.C_drewN ?_ _) | (with_reducible refine Kd.C_drew ?_))); (case side2 => exact (Kd.R_reads' HO887.out).2.1); (case side3 => repeat (first | exact (Kd.C_below HR0.out HB.out) | (with_reducible refine Kd.C_alloc ?_ _) | (with_reducible refine Kd.C_drewN ?_ _) | (with_reducible refine Kd.C_drew ?_))); (case side4 => exact HC0.out); rintro e w11 ⟨v890, rfl, ho0, hb⟩; refine ⟨_, rfl, ?_⟩; have n0_ := Aside0.mk (Kd.R_elder' (by (with_reducible repeat (first | apply Kd.R_alloc | apply Kd.R_drewN | apply Kd.R_drew)); exact HO887.out) (Kd.R_base ho0) hb); have n1_ := Aside0.mk (Kd.R_lower (Kd.R_new' ho0 (Kd.R_lt (by (with_reducible repeat (first | apply Kd.R_alloc | apply Kd.R_drewN | apply Kd.R_drew)); exact HO887.out))) (below_size (by repeat (first | (with_reducible first | exact HB.out | apply below_alloc | apply pw_below_drewN | apply below_drew1 | refine below_set ?_ GE884.out) | exact HB.out)))); have n2_ := Aside0.mk (blk_below (g := gb884) (o := .cells #[.int .i64 a1_0, .int .i64 a1_1, .slice A1_2 l1_2.length c1_2] 30 (0, 0)) (by (with_reducible repeat (first | refine blk_drewN ?_ _ | refine blk_drew ?_ | refine blk_alloc ?_ _)); exact BK884.out) hb); have n3_ := Aside0.mk (below_step (by repeat (first | (with_reducible first | exact HB.out | apply below_alloc | apply pw_below_drewN | apply below_drew1 | refine below_set ?_ GE884.out) | exact HB.out)) hb); clear HO887; clear BK884; clear HB; have HO887 := n0_; have HO891 := n1_; have BK884 := n2_; have HB := n3_; clear n0_ n1_ n2_ n3_; (try clear hb); (try clear hb2); (try clear hk); (try clear hi); (try clear ho0)))
    go_ret2
    exact ⟨_, by first | rfl | (simp [errW_none, errW_some] <;> rfl) | (simp [*, errW_none, errW_some] <;> rfl), by (with_reducible repeat (first | apply Kd.R_alloc | apply Kd.R_drewN | apply Kd.R_drew)); exact Kd.R_mono HO891.out (fun _ hk => trivial), by repeat (first | (with_reducible first | exact HB.out | apply below_alloc | apply pw_below_drewN | apply below_drew1 | refine below_set ?_ GE884.out) | exact HB.out)⟩
  · replace c5 := Bool.eq_false_iff.mpr c5
    subst c5
    have H1 : (some (([] : List Int), false)) = some (r1, r2) := by rw [if_neg (show ¬ (false = true) by decide)] at H; exact H
    clear H
    have H := H1
    clear H1
    simp only [Option.some.injEq, Prod.mk.injEq] at H
    obtain ⟨rfl, rfl⟩ := H
    go_enter Try.func47, Try.ntmps47
    go_wp2_with (first | ((with_reducible refine gate_dst (N := 4) rfl ?_); refine box_event ?hg (N := 4) ?hd (cs := #[.int .i64 a1_0, .int .i64 a1_1, .slice A1_2 l1_2.length c1_2]) (t := 30) ?hr ?_; (case hd => rfl); (case hg => rfl); (case hr => first | (go_simp; done) | (go_simp; rfl)); intro gb884 hg w12 hbox hb; have n0_ := Aside0.mk (below_step (by repeat (first | (with_reducible first | exact HB.out | apply below_alloc | apply pw_below_drewN | apply below_drew1) | exact HB.out)) hb); have n1_ := Aside0.mk (hbox); have n2_ := Aside0.mk ((by rw [hg]; exact (below_size (by repeat (first | (with_reducible first | exact HB.out | apply below_alloc | apply pw_below_drewN | apply below_drew1) | exact HB.out))) : w.heap.size ≤ gb884)); have n3_ := Aside0.mk ((by rw [hg]; exact (below_size (by repeat (first | (with_reducible first | exact HB.out | apply below_alloc | apply pw_below_drewN | apply below_drew1) | exact HB.out))) : w.heap.size ≤ gb884)); clear HB; have HB := n0_; have BK884 := n1_; have GW884 := n2_; have GE884 := n3_; clear n0_ n1_ n2_ n3_; clear hb hbox hg; have hcz13_0 : w12.cell? ⟨gb884, 0, none⟩ = some (.int .i64 a1_0) := (blk_cell BK884.out 0).trans rfl; have hcz13_1 : w12.cell? ⟨gb884, 1, none⟩ = some (.int .i64 a1_1) := (blk_cell BK884.out 1).trans rfl; have hcz13_2 : w12.cell? ⟨gb884, 2, none⟩ = some (.slice A1_2 l1_2.length c1_2) := (blk_cell BK884.out 2).trans rfl; have hfz13_0 := blk_frozen BK884.out 0; have hfz13_1 := blk_frozen BK884.out 1; have hfz13_2 := blk_frozen BK884.out 2) | ((with_reducible refine gate_callee (f := 29) rfl ?_); refine goesL_ (some 13) rfl rfl Try.func29 (by kernel_rfl) rfl #[.agg #[.int .i64 a1_0, .int .i64 a1_1, .slice A1_2 l1_2.length c1_2], .slice A2 l2.length c2] rfl (by (try simp only [List.map_toArray, List.map_cons, List.map_nil]); first | done | rfl | (simp only [List.length_drop, List.length_take]; rfl)) ?_; (with_reducible refine (impl_TaskUses.calls k a1_0 a1_1 _ _ l1_2 _ _ l2 t885 false _ ?side1 ?side2 ?side3 ?side4 A4.out).mono ?_); (case side1 => repeat (first | exact (Kd.C_below HR1_2.out HB.out) | (with_reducible refine Kd.C_alloc ?_ _) | (with_reducible refine Kd.C_drewN ?_ _) | (with_reducible refine Kd.C_drew ?_))); (case side2 => exact HC1_2.out); (case side3 => repeat (first | exact (Kd.C_below HR2.out HB.out) | (with_reducible refine Kd.C_alloc ?_ _) | (with_reducible refine Kd.C_drewN ?_ _) | (with_reducible refine Kd.C_drew ?_))); (case side4 => exact HC2.out); rintro e w14 ⟨v886, rfl, ho0, hb⟩; refine ⟨_, rfl, ?_⟩; have n0_ := Aside0.mk (Kd.R_lower ho0 (below_size (by repeat (first | (with_reducible first | exact HB.out | apply below_alloc | apply pw_below_drewN | apply below_drew1 | refine below_set ?_ GE884.out) | exact HB.out)))); have n1_ := Aside0.mk (blk_below (g := gb884) (o := .cells #[.int .i64 a1_0, .int .i64 a1_1, .slice A1_2 l1_2.length c1_2] 30 (0, 0)) (by (with_reducible repeat (first | refine blk_drewN ?_ _ | refine blk_drew ?_ | refine blk_alloc ?_ _)); exact BK884.out) hb); have n2_ := Aside0.mk (below_step (by repeat (first | (with_reducible first | exact HB.out | apply below_alloc | apply pw_below_drewN | apply below_drew1 | refine below_set ?_ GE884.out) | exact HB.out)) hb); clear BK884; clear HB; have HO887 := n0_; have BK884 := n1_; have HB := n2_; clear n0_ n1_ n2_; (try clear hb); (try clear hb2); (try clear hk); (try clear hi); (try clear ho0)))
    go_ret2
    exact ⟨_, by first | rfl | (simp [errW_none, errW_some] <;> rfl) | (simp [*, errW_none, errW_some] <;> rfl), by first | exact Kd.R_nil _ _ _ _ _ | exact Kd.N_nil _ _ _ _ _ | exact Kd.V_nil _ _ _ _ _ | exact Kd.Q_nil _ _ _ _ _ | exact Kd.S_nil _ _ _ _ _, by repeat (first | (with_reducible first | exact HB.out | apply below_alloc | apply pw_below_drewN | apply below_drew1 | refine below_set ?_ GE884.out) | exact HB.out)⟩
def spec_DrawHiddenOf.f (k : Nat) (l0 : List Int) : Option (List Int × Int × Int × (List (S30)) × List Int) := (spec_l6Open.f l0).bind fun bt893 => ((spec_l91Any.f k bt893.1 bt893.2).bind fun bt896 => ((spec_l91Values.f k bt893.1 bt896.2.2.2).bind fun bt903 => ((spec_TaskMay.f k bt896.1 bt896.2.1 bt896.2.2.1).bind fun t907 => (if (t907.length : Int) > 0 then ((spec_l6Rd_pick.f k bt893.1 bt903.2 2).bind fun bt910 => (if bt910.1 = 0 then ((spec_l6Rd_pick.f k bt893.1 bt910.2 (t907.length : Int)).bind fun bt912 => (if 0 ≤ bt912.1 then (if bt912.1 ≤ (t907.length : Int) then (some ((t907.drop (bt912.1 : Int).toNat), bt896.1, bt896.2.1, bt896.2.2.1, bt903.1)) else (none)) else (none))) else (some (t907, bt896.1, bt896.2.1, bt896.2.2.1, bt903.1)))) else (some (t907, bt896.1, bt896.2.1, bt896.2.2.1, bt903.1))))))
set_option maxHeartbeats 8000000 in
set_option maxRecDepth 100000 in
theorem spec_DrawHiddenOf.calls (k : Nat) (A0 : Option Addr) (c0 : Nat) (l0 : List Int) (r1 : List Int) (r2 : Int) (r3 : Int) (r4 : List (S30)) (r5 : List Int) (w : World) (hr0 : Kd.C (Kd.int .u8) w A0 l0.length l0) (hc0 : l0.length ≤ c0) (h : spec_DrawHiddenOf.f k l0 = some (r1, r2, r3, r4, r5)) :
    Calls Try.prog 48 #[.slice A0 l0.length c0] w fun e w' => ∃ v0_ v3_ v4_ : Value, e = .returned (.tuple #[v0_, .agg #[.int .i64 r2, .int .i64 r3, v3_], v4_]) ∧ Kd.Q (Kd.int .i64) 3 w' w.heap.size (fun k_ => (w.heap.size ≤ k_) ∧ some k_ ≠ (v4_ : Value).ownBlock) v0_ r1 ∧ Kd.N k30 30 w' w.heap.size (fun k_ => (w.heap.size ≤ k_) ∧ some k_ ≠ (v0_ : Value).ownBlock ∧ some k_ ≠ (v4_ : Value).ownBlock) v3_ r4 ∧ Kd.R (Kd.int .i64) 3 w' w.heap.size (fun k_ => (w.heap.size ≤ k_) ∧ some k_ ≠ (v0_ : Value).ownBlock) v4_ r5 ∧ Below w.heap.size w w' := by
  have hu30 := Try.underlying30
  have HR0 := Aside0.mk hr0
  have HC0 := Aside0.mk hc0
  clear hr0 hc0
  have HB := Aside0.mk (Below.refl w.heap.size w)
  have H : ((spec_l6Open.f l0).bind fun bt893 => ((spec_l91Any.f k bt893.1 bt893.2).bind fun bt896 => ((spec_l91Values.f k bt893.1 bt896.2.2.2).bind fun bt903 => ((spec_TaskMay.f k bt896.1 bt896.2.1 bt896.2.2.1).bind fun t907 => (if (t907.length : Int) > 0 then ((spec_l6Rd_pick.f k bt893.1 bt903.2 2).bind fun bt910 => (if bt910.1 = 0 then ((spec_l6Rd_pick.f k bt893.1 bt910.2 (t907.length : Int)).bind fun bt912 => (if 0 ≤ bt912.1 then (if bt912.1 ≤ (t907.length : Int) then (some ((t907.drop (bt912.1 : Int).toNat), bt896.1, bt896.2.1, bt896.2.2.1, bt903.1)) else (none)) else (none))) else (some (t907, bt896.1, bt896.2.1, bt896.2.2.1, bt903.1)))) else (some (t907, bt896.1, bt896.2.1, bt896.2.2.1, bt903.1))))))) = some (r1, r2, r3, r4, r5) := h
  clear h
  replace H := Option.bind_eq_some_iff.mp H
  obtain ⟨⟨t893, t894⟩, A20, H⟩ := H
  replace H : ((spec_l91Any.f k t893 t894).bind fun bt896 => ((spec_l91Values.f k t893 bt896.2.2.2).bind fun bt903 => ((spec_TaskMay.f k bt896.1 bt896.2.1 bt896.2.2.1).bind fun t907 => (if (t907.length : Int) > 0 then ((spec_l6Rd_pick.f k t893 bt903.2 2).bind fun bt910 => (if bt910.1 = 0 then ((spec_l6Rd_pick.f k t893 bt910.2 (t907.length : Int)).bind fun bt912 => (if 0 ≤ bt912.1 then (if bt912.1 ≤ (t907.length : Int) then (some ((t907.drop (bt912.1 : Int).toNat), bt896.1, bt896.2.1, bt896.2.2.1, bt903.1)) else (none)) else (none))) else (some (t907, bt896.1, bt896.2.1, bt896.2.2.1, bt903.1)))) else (some (t907, bt896.1, bt896.2.1, bt896.2.2.1, bt903.1)))))) = some (r1, r2, r3, r4, r5) := H
  have A2 := Aside0.mk A20
  clear A20
  replace H := Option.bind_eq_some_iff.mp H
  obtain ⟨⟨t896, t897, t898, t901⟩, A30, H⟩ := H
  replace H : ((spec_l91Values.f k t893 t901).bind fun bt903 => ((spec_TaskMay.f k t896 t897 t898).bind fun t907 => (if (t907.length : Int) > 0 then ((spec_l6Rd_pick.f k t893 bt903.2 2).bind fun bt910 => (if bt910.1 = 0 then ((spec_l6Rd_pick.f k t893 bt910.2 (t907.length : Int)).bind fun bt912 => (if 0 ≤ bt912.1 then (if bt912.1 ≤ (t907.length : Int) then (some ((t907.drop (bt912.1 : Int).toNat), t896, t897, t898, bt903.1)) else (none)) else (none))) else (some (t907, t896, t897, t898, bt903.1)))) else (some (t907, t896, t897, t898, bt903.1))))) = some (r1, r2, r3, r4, r5) := H
  have A3 := Aside0.mk A30
  clear A30
  replace H := Option.bind_eq_some_iff.mp H
  obtain ⟨⟨t903, t906⟩, A40, H⟩ := H
  replace H : ((spec_TaskMay.f k t896 t897 t898).bind fun t907 => (if (t907.length : Int) > 0 then ((spec_l6Rd_pick.f k t893 t906 2).bind fun bt910 => (if bt910.1 = 0 then ((spec_l6Rd_pick.f k t893 bt910.2 (t907.length : Int)).bind fun bt912 => (if 0 ≤ bt912.1 then (if bt912.1 ≤ (t907.length : Int) then (some ((t907.drop (bt912.1 : Int).toNat), t896, t897, t898, t903)) else (none)) else (none))) else (some (t907, t896, t897, t898, t903)))) else (some (t907, t896, t897, t898, t903)))) = some (r1, r2, r3, r4, r5) := H
  have A4 := Aside0.mk A40
  clear A40
  replace H := Option.bind_eq_some_iff.mp H
  obtain ⟨t907, A50, H⟩ := H
  replace H : (if (t907.length : Int) > 0 then ((spec_l6Rd_pick.f k t893 t906 2).bind fun bt910 => (if bt910.1 = 0 then ((spec_l6Rd_pick.f k t893 bt910.2 (t907.length : Int)).bind fun bt912 => (if 0 ≤ bt912.1 then (if bt912.1 ≤ (t907.length : Int) then (some ((t907.drop (bt912.1 : Int).toNat), t896, t897, t898, t903)) else (none)) else (none))) else (some (t907, t896, t897, t898, t903)))) else (some (t907, t896, t897, t898, t903))) = some (r1, r2, r3, r4, r5) := H
  have A5 := Aside0.mk A50
  clear A50
  by_cases c6 : (t907.length : Int) > 0
  · rw [if_pos c6] at H
    have c6b0 : decide (0 < (t907.length : Int)) = true := decide_eq_true c6
    have c6b1 : decide (0 < t907.length) = true := decide_eq_true (by omega)
    clear c6
    replace H := Option.bind_eq_some_iff.mp H
    obtain ⟨⟨t910, t911⟩, A70, H⟩ := H
    replace H : (if t910 = 0 then ((spec_l6Rd_pick.f k t893 t911 (t907.length : Int)).bind fun bt912 => (if 0 ≤ bt912.1 then (if bt912.1 ≤ (t907.length : Int) then (some ((t907.drop (bt912.1 : Int).toNat), t896, t897, t898, t903)) else (none)) else (none))) else (some (t907, t896, t897, t898, t903))) = some (r1, r2, r3, r4, r5) := H
    have A7 := Aside0.mk A70
    clear A70
    by_cases c8 : t910 = 0
    · rw [if_pos c8] at H
      have c8b0 : (t910 == 0) = true := beq_iff_eq.mpr c8
      have c8b1 : (t910 != 0) = false := bne_eq_false_iff_eq.mpr c8
      clear c8
      replace H := Option.bind_eq_some_iff.mp H
      obtain ⟨⟨t912, t913⟩, A90, H⟩ := H
      replace H : (if 0 ≤ t912 then (if t912 ≤ (t907.length : Int) then (some ((t907.drop (t912 : Int).toNat), t896, t897, t898, t903)) else (none)) else (none)) = some (r1, r2, r3, r4, r5) := H
      have A9 := Aside0.mk A90
      clear A90
      by_cases c10 : 0 ≤ t912
      · rw [if_pos c10] at H
        have c10b0 := eq_true c10
        have c10b1 : decide (0 ≤ t912) = true := decide_eq_true c10
        clear c10
        by_cases c11 : t912 ≤ (t907.length : Int)
        · rw [if_pos c11] at H
          have c11b0 := eq_true c11
          have c11b1 : decide (t912 ≤ (t907.length : Int)) = true := decide_eq_true c11
          clear c11
          obtain ⟨y914, hy914⟩ : ∃ y_ : List Int, y_ = (t907.drop (t912 : Int).toNat) := ⟨_, rfl⟩
          replace H : (some (y914, t896, t897, t898, t903)) = some (r1, r2, r3, r4, r5) := by first | (rw [hy914]; with_reducible exact H) | (have H2_ := (Option.bind_some _ _).symm.trans H; rw [hy914]; with_reducible exact H2_) | (have H2_ := (Option.bind_some _ _).symm.trans H; with_reducible exact H2_) | with_reducible exact H | (rw [hy914]; exact H) | exact H
          have Ny914 := Aside0.mk hy914
          clear hy914
          simp only [Option.some.injEq, Prod.mk.injEq] at H
          obtain ⟨rfl, rfl, rfl, rfl, rfl⟩ := H
          go_enter Try.func48, Try.ntmps48
          try go_wp2_with (first | ((with_reducible refine gate_dst (N := 3) rfl ?_); refine box_event ?hg (N := 3) ?hd (cs := #[.int .i64 0, .int .i64 0, .slice none 0 0]) (t := 30) ?hr ?_; (case hd => rfl); (case hg => rfl); (case hr => first | (go_simp; done) | (go_simp; rfl)); intro gb892 hg w12 hbox hb; have n0_ := Aside0.mk (below_step (by repeat (first | (with_reducible first | exact HB.out | apply below_alloc | apply pw_below_drewN | apply below_drew1) | exact HB.out)) hb); have n1_ := Aside0.mk (hbox); have n2_ := Aside0.mk ((by rw [hg]; exact (below_size (by repeat (first | (with_reducible first | exact HB.out | apply below_alloc | apply pw_below_drewN | apply below_drew1) | exact HB.out))) : w.heap.size ≤ gb892)); have n3_ := Aside0.mk ((by rw [hg]; exact (below_size (by repeat (first | (with_reducible first | exact HB.out | apply below_alloc | apply pw_below_drewN | apply below_drew1) | exact HB.out))) : w.heap.size ≤ gb892)); clear HB; have HB := n0_; have BK892 := n1_; have GW892 := n2_; have GE892 := n3_; clear n0_ n1_ n2_ n3_; clear hb hbox hg) | ((with_reducible refine gate_callee (f := 75) rfl ?_); refine goesL_ (some 10) rfl rfl Try.func75 (by kernel_rfl) rfl #[.slice A0 l0.length c0] rfl (by (try simp only [List.map_toArray, List.map_cons, List.map_nil]); first | done | rfl | (simp only [List.length_drop, List.length_take]; rfl)) ?_; (with_reducible refine (spec_l6Open.calls _ _ l0 t893 t894 w _ ?side1 ?side2 ?side3 A2.out).mono ?_); (case side1 => repeat (first | (with_reducible first | exact HB.out | apply below_alloc | apply pw_below_drewN | apply below_drew1 | refine below_set ?_ GE892.out) | exact HB.out)); (case side2 => exact HR0.out); (case side3 => exact HC0.out); rintro e w13 ⟨g895, rfl, hi, hb, hb2⟩; refine ⟨_, rfl, ?_⟩; have n0_ := Aside0.mk (blk_below (g := gb892) (o := .cells #[.int .i64 0, .int .i64 0, .slice none 0 0] 30 (0, 0)) (by (with_reducible repeat (first | refine blk_drewN ?_ _ | refine blk_drew ?_ | refine blk_alloc ?_ _)); exact BK892.out) hb2); have n1_ := Aside0.mk (hb); have n2_ := Aside0.mk (hi); have n3_ := Aside0.mk (IsS148.ne_blk hi (blk_below (g := gb892) (o := .cells #[.int .i64 0, .int .i64 0, .slice none 0 0] 30 (0, 0)) (by (with_reducible repeat (first | refine blk_drewN ?_ _ | refine blk_drew ?_ | refine blk_alloc ?_ _)); exact BK892.out) hb2) (by decide)); have n4_ := Aside0.mk (Ne.symm (IsS148.ne_blk hi (blk_below (g := gb892) (o := .cells #[.int .i64 0, .int .i64 0, .slice none 0 0] 30 (0, 0)) (by (with_reducible repeat (first | refine blk_drewN ?_ _ | refine blk_drew ?_ | refine blk_alloc ?_ _)); exact BK892.out) hb2) (by decide))); clear BK892; clear HB; have BK892 := n0_; have HB := n1_; have HI895 := n2_; have NB895_892 := n3_; have NB892_895 := n4_; clear n0_ n1_ n2_ n3_ n4_; (try clear hb); (try clear hb2); (try clear hk); (try clear hi)) | ((with_reducible refine gate_callee (f := 76) rfl ?_); refine goesL_ (some 12) rfl rfl Try.func76 (by kernel_rfl) rfl #[.pointer (some ⟨g895, 0, none⟩)] rfl (by (try simp only [List.map_toArray, List.map_cons, List.map_nil]); first | done | rfl | (simp only [List.length_drop, List.length_take]; rfl)) ?_; (with_reducible refine (spec_l91Any.calls k g895 t893 t894 t896 t897 t898 t901 w _ ?side1 ?side2 A3.out).mono ?_); (case side1 => repeat (first | (with_reducible first | exact HI895.out | apply IsS148.alloc | apply IsS148.drewN | apply IsS148.drew | apply IsS148.set_1 | refine IsS148.far ?_ NB895_892.out _) | exact HI895.out)); (case side2 => repeat (first | (with_reducible first | exact HB.out | apply below_alloc | apply pw_below_drewN | apply below_drew1 | refine below_set ?_ (IsS148.ge HI895.out) | refine below_set ?_ GE892.out) | exact HB.out)); rintro e w14 ⟨v899, rfl, ho0, hi, hb, hk⟩; refine ⟨_, rfl, ?_⟩; have n0_ := Aside0.mk (KeepBut.blk hk (g' := gb892) (o := .cells #[.int .i64 0, .int .i64 0, .slice none 0 0] 30 (0, 0)) (by (with_reducible repeat (first | refine blk_drewN ?_ _ | refine blk_drew ?_ | refine blk_alloc ?_ _)); exact BK892.out) NB892_895.out (by simp)); have n1_ := Aside0.mk (Kd.N_lower (Kd.N_mono (ok' := fun k_ => (w.heap.size ≤ k_) ∧ k_ ≠ gb892 ∧ k_ ≠ g895) ho0 (fun k_ hk_ => ⟨(Nat.le_trans (below_size (by repeat (first | (with_reducible first | exact HB.out | apply below_alloc | apply pw_below_drewN | apply below_drew1 | refine below_set ?_ (IsS148.ge HI895.out) | refine below_set ?_ GE892.out) | exact HB.out))) hk_), (Kd.freshB (g := gb892) (o := .cells #[.int .i64 0, .int .i64 0, .slice none 0 0] 30 (0, 0)) (by (with_reducible repeat (first | refine blk_drewN ?_ _ | refine blk_drew ?_ | refine blk_alloc ?_ _)); exact BK892.out) k_ hk_), (IsS148.fresh (by repeat (first | (with_reducible first | exact HI895.out | apply IsS148.alloc | apply IsS148.drewN | apply IsS148.drew | apply IsS148.set_1 | refine IsS148.far ?_ NB895_892.out _) | exact HI895.out)) k_ hk_)⟩)) (below_size (by repeat (first | (with_reducible first | exact HB.out | apply below_alloc | apply pw_below_drewN | apply below_drew1 | refine below_set ?_ (IsS148.ge HI895.out) | refine below_set ?_ GE892.out) | exact HB.out)))); have n2_ := Aside0.mk (hb); have n3_ := Aside0.mk (hi); clear BK892; clear HB; clear HI895; have BK892 := n0_; have HO900 := n1_; have HB := n2_; have HI895 := n3_; clear n0_ n1_ n2_ n3_; (try clear hb); (try clear hb2); (try clear hk); (try clear hi); (try clear ho0)) | ((with_reducible refine gate_dst (N := 6) rfl ?_); refine box_event ?hg (N := 6) ?hd (cs := #[.int .i64 0, .int .i64 0, .slice none 0 0]) (t := 30) ?hr ?_; (case hd => rfl); (case hg => rfl); (case hr => first | (go_simp; done) | (go_simp; rfl)); intro gb902 hg w15 hbox hb; have n0_ := Aside0.mk (Kd.N_below (Kd.N_elderB (by (with_reducible repeat (first | apply Kd.N_alloc | apply Kd.N_drewN | apply Kd.N_drew)); exact HO900.out) gb902 (Nat.le_of_eq hg.symm)) hb); have n1_ := Aside0.mk (blk_below (g := gb892) (o := .cells #[.int .i64 0, .int .i64 0, .slice none 0 0] 30 (0, 0)) (by (with_reducible repeat (first | refine blk_drewN ?_ _ | refine blk_drew ?_ | refine blk_alloc ?_ _)); exact BK892.out) hb); have n2_ := Aside0.mk (IsS148.below (by repeat (first | (with_reducible first | exact HI895.out | apply IsS148.alloc | apply IsS148.drewN | apply IsS148.drew | apply IsS148.set_1 | refine IsS148.far ?_ NB895_892.out _) | exact HI895.out)) hb); have n3_ := Aside0.mk (below_step (by repeat (first | (with_reducible first | exact HB.out | apply below_alloc | apply pw_below_drewN | apply below_drew1 | refine below_set ?_ (IsS148.ge HI895.out) | refine below_set ?_ GE892.out) | exact HB.out)) hb); have n4_ := Aside0.mk (hbox); have n5_ := Aside0.mk ((by rw [hg]; exact (below_size (by repeat (first | (with_reducible first | exact HB.out | apply below_alloc | apply pw_below_drewN | apply below_drew1 | refine below_set ?_ (IsS148.ge HI895.out) | refine below_set ?_ GE892.out) | exact HB.out))) : w.heap.size ≤ gb902)); have n6_ := Aside0.mk ((by rw [hg]; exact (below_size (by repeat (first | (with_reducible first | exact HB.out | apply below_alloc | apply pw_below_drewN | apply below_drew1 | refine below_set ?_ (IsS148.ge HI895.out) | refine below_set ?_ GE892.out) | exact HB.out))) : w.heap.size ≤ gb902)); have n7_ := Aside0.mk ((by rw [hg]; exact Nat.ne_of_lt (blk_lt (g := gb892) (o := .cells #[.int .i64 0, .int .i64 0, .slice none 0 0] 30 (0, 0)) (by (with_reducible repeat (first | refine blk_drewN ?_ _ | refine blk_drew ?_ | refine blk_alloc ?_ _)); exact BK892.out)) : gb892 ≠ gb902)); have n8_ := Aside0.mk ((by rw [hg]; exact Nat.ne_of_gt (blk_lt (g := gb892) (o := .cells #[.int .i64 0, .int .i64 0, .slice none 0 0] 30 (0, 0)) (by (with_reducible repeat (first | refine blk_drewN ?_ _ | refine blk_drew ?_ | refine blk_alloc ?_ _)); exact BK892.out)) : gb902 ≠ gb892)); have n9_ := Aside0.mk ((by rw [hg]; exact Nat.ne_of_lt (IsS148.lt (show IsS148 w _ g895 t893 t901 from by repeat (first | (with_reducible first | exact HI895.out | apply IsS148.alloc | apply IsS148.drewN | apply IsS148.drew | apply IsS148.set_1 | refine IsS148.far ?_ NB895_892.out _) | exact HI895.out))) : g895 ≠ gb902)); have n10_ := Aside0.mk ((by rw [hg]; exact Nat.ne_of_gt (IsS148.lt (show IsS148 w _ g895 t893 t901 from by repeat (first | (with_reducible first | exact HI895.out | apply IsS148.alloc | apply IsS148.drewN | apply IsS148.drew | apply IsS148.set_1 | refine IsS148.far ?_ NB895_892.out _) | exact HI895.out))) : gb902 ≠ g895)); clear HO900; clear BK892; clear HI895; clear HB; have HO900 := n0_; have BK892 := n1_; have HI895 := n2_; have HB := n3_; have BK902 := n4_; have GW902 := n5_; have GE902 := n6_; have NB892_902 := n7_; have NB902_892 := n8_; have NB895_902 := n9_; have NB902_895 := n10_; clear n0_ n1_ n2_ n3_ n4_ n5_ n6_ n7_ n8_ n9_ n10_; clear hb hbox hg; have hnb16 := NB902_892.out; have hnc16 := NB892_902.out; have hnb17 := NB902_895.out; have hnc17 := NB895_902.out; have hcz18_0 : w15.cell? ⟨gb902, 0, none⟩ = some (.int .i64 0) := (blk_cell BK902.out 0).trans rfl; have hcz18_1 : w15.cell? ⟨gb902, 1, none⟩ = some (.int .i64 0) := (blk_cell BK902.out 1).trans rfl; have hcz18_2 : w15.cell? ⟨gb902, 2, none⟩ = some (.slice none 0 0) := (blk_cell BK902.out 2).trans rfl; have hfz18_0 := blk_frozen BK902.out 0; have hfz18_1 := blk_frozen BK902.out 1; have hfz18_2 := blk_frozen BK902.out 2; obtain ⟨Ao19, co19, eo19⟩ := Kd.N_slice HO900.out; subst eo19) | ((with_reducible refine gate_callee (f := 78) rfl ?_); refine goesL_ (some 14) rfl rfl Try.func78 (by kernel_rfl) rfl #[.pointer (some ⟨g895, 0, none⟩)] rfl (by (try simp only [List.map_toArray, List.map_cons, List.map_nil]); first | done | rfl | (simp only [List.length_drop, List.length_take]; rfl)) ?_; (with_reducible refine (spec_l91Values.calls k g895 t893 t901 t903 t906 w _ ?side1 ?side2 A4.out).mono ?_); (case side1 => repeat (first | (with_reducible first | exact HI895.out | apply IsS148.alloc | apply IsS148.drewN | apply IsS148.drew | apply IsS148.set_1 | refine IsS148.far ?_ NB895_892.out _ | refine IsS148.far ?_ NB895_902.out _) | exact HI895.out)); (case side2 => repeat (first | (with_reducible first | exact HB.out | apply below_alloc | apply pw_below_drewN | apply below_drew1 | refine below_set ?_ (IsS148.ge HI895.out) | refine below_set ?_ GE892.out | refine below_set ?_ GE902.out) | exact HB.out)); rintro e w20 ⟨v904, rfl, ho0, hi, hb, hk⟩; refine ⟨_, rfl, ?_⟩; have n0_ := Aside0.mk (KeepBut.blk hk (g' := gb892) (o := .cells #[.int .i64 0, .int .i64 0, .slice none 0 0] 30 (0, 0)) (by (with_reducible repeat (first | refine blk_drewN ?_ _ | refine blk_drew ?_ | refine blk_alloc ?_ _)); refine blk_far ?_ NB892_902.out _; (with_reducible repeat (first | refine blk_drewN ?_ _ | refine blk_drew ?_ | refine blk_alloc ?_ _)); refine blk_far ?_ NB892_902.out _; (with_reducible repeat (first | refine blk_drewN ?_ _ | refine blk_drew ?_ | refine blk_alloc ?_ _)); refine blk_far ?_ NB892_902.out _; (with_reducible repeat (first | refine blk_drewN ?_ _ | refine blk_drew ?_ | refine blk_alloc ?_ _)); exact BK892.out) NB892_895.out (by simp)); have n1_ := Aside0.mk (Kd.N_mono (Kd.N_told (Kd.N_oldK (Kd.N_mono (ok := fun k_ => ((((w.heap.size ≤ k_)) ∧ (k_ ≠ gb892 ∧ k_ ≠ g895)) ∧ k_ ≠ gb902)) (by (with_reducible repeat (first | apply Kd.N_alloc | apply Kd.N_drewN | apply Kd.N_drew)); exact (Kd.N_mono (Kd.N_far (p := ⟨gb902, 2, none⟩) (Kd.N_far (p := ⟨gb902, 1, none⟩) (Kd.N_far (p := ⟨gb902, 0, none⟩) (Kd.N_mono HO900.out (fun k_ hk => (⟨hk, hk.2⟩ : _ ∧ k_ ≠ gb902))) (fun _ hk => hk.2) (.int .i64 t896)) (fun _ hk => hk.2) (.int .i64 t897)) (fun _ hk => hk.2) (.slice Ao19 t898.length co19)) (fun _ h_ => h_.1))) (fun k_ hk_ => (⟨hk_, hk_.1.2.2⟩ : _ ∧ k_ ≠ g895))) hk) (Kd.R_base ho0)) (fun _ h_ => h_.1)); have n2_ := Aside0.mk (KeepBut.blk hk (g' := gb902) (o := .cells #[.int .i64 t896, .int .i64 t897, .slice Ao19 t898.length co19] 30 (0, 0)) (by (with_reducible repeat (first | refine blk_drewN ?_ _ | refine blk_drew ?_ | refine blk_alloc ?_ _)); refine blk_put (cs := #[.int .i64 t896, .int .i64 t897, .slice none 0 0]) ?_ 2 _ rfl; (with_reducible repeat (first | refine blk_drewN ?_ _ | refine blk_drew ?_ | refine blk_alloc ?_ _)); refine blk_put (cs := #[.int .i64 t896, .int .i64 0, .slice none 0 0]) ?_ 1 _ rfl; (with_reducible repeat (first | refine blk_drewN ?_ _ | refine blk_drew ?_ | refine blk_alloc ?_ _)); refine blk_put (cs := #[.int .i64 0, .int .i64 0, .slice none 0 0]) ?_ 0 _ rfl; (with_reducible repeat (first | refine blk_drewN ?_ _ | refine blk_drew ?_ | refine blk_alloc ?_ _)); exact BK902.out) NB902_895.out (by simp)); have n3_ := Aside0.mk (Kd.R_lower (Kd.R_newM (M := fun k_ => (w.heap.size ≤ k_)) ho0 (below_size (by repeat (first | (with_reducible first | exact HB.out | apply below_alloc | apply pw_below_drewN | apply below_drew1 | refine below_set ?_ (IsS148.ge HI895.out) | refine below_set ?_ GE892.out | refine below_set ?_ GE902.out) | exact HB.out))) (fun k_ h_ => h_)) (below_size (by repeat (first | (with_reducible first | exact HB.out | apply below_alloc | apply pw_below_drewN | apply below_drew1 | refine below_set ?_ (IsS148.ge HI895.out) | refine below_set ?_ GE892.out | refine below_set ?_ GE902.out) | exact HB.out)))); have n4_ := Aside0.mk (hb); have n5_ := Aside0.mk (hi); clear BK892; clear HO900; clear BK902; clear HB; clear HI895; have BK892 := n0_; have HO900 := n1_; have BK902 := n2_; have HO905 := n3_; have HB := n4_; have HI895 := n5_; clear n0_ n1_ n2_ n3_ n4_ n5_; (try clear hb); (try clear hb2); (try clear hk); (try clear hi); (try clear ho0); have hcz21_0 : w20.cell? ⟨gb902, 0, none⟩ = some (.int .i64 t896) := (blk_cell BK902.out 0).trans rfl; have hcz21_1 : w20.cell? ⟨gb902, 1, none⟩ = some (.int .i64 t897) := (blk_cell BK902.out 1).trans rfl; have hcz21_2 : w20.cell? ⟨gb902, 2, none⟩ = some (.slice Ao19 t898.length co19) := (blk_cell BK902.out 2).trans rfl; have hfz21_0 := blk_frozen BK902.out 0; have hfz21_1 := blk_frozen BK902.out 1; have hfz21_2 := blk_frozen BK902.out 2) | ((with_reducible refine gate_callee (f := 16) rfl ?_); refine goesL_ (some 16) rfl rfl Try.func16 (by kernel_rfl) rfl #[.agg #[.int .i64 t896, .int .i64 t897, .slice Ao19 t898.length co19]] rfl (by (try simp only [List.map_toArray, List.map_cons, List.map_nil]); first | done | rfl | (simp only [List.length_drop, List.length_take]; rfl)) ?_; (with_reducible refine (spec_TaskMay.calls k t896 t897 _ _ t898 t907 _ ?side1 ?side2 A5.out).mono ?_); (case side1 => repeat (first | exact (Kd.N_reads' HO900.out).2.2 | (with_reducible refine Kd.C_alloc ?_ _) | (with_reducible refine Kd.C_drewN ?_ _) | (with_reducible refine Kd.C_drew ?_))); (case side2 => exact (Kd.N_reads' HO900.out).2.1); rintro e w22 ⟨v908, rfl, ho0, hb⟩; refine ⟨_, rfl, ?_⟩; have n0_ := Aside0.mk (Kd.N_elder' (by (with_reducible repeat (first | apply Kd.N_alloc | apply Kd.N_drewN | apply Kd.N_drew)); exact HO900.out) (Kd.R_base ho0) hb); have n1_ := Aside0.mk (Kd.R_elder' (by (with_reducible repeat (first | apply Kd.R_alloc | apply Kd.R_drewN | apply Kd.R_drew)); exact HO905.out) (Kd.R_base ho0) hb); have n2_ := Aside0.mk (Kd.R_lower (Kd.R_new' (Kd.R_newM (M := fun k_ => (w.heap.size ≤ k_)) ho0 (below_size (by repeat (first | (with_reducible first | exact HB.out | apply below_alloc | apply pw_below_drewN | apply below_drew1 | refine below_set ?_ (IsS148.ge HI895.out) | refine below_set ?_ GE892.out | refine below_set ?_ GE902.out) | exact HB.out))) (fun k_ h_ => h_)) (Kd.R_lt (by (with_reducible repeat (first | apply Kd.R_alloc | apply Kd.R_drewN | apply Kd.R_drew)); exact HO905.out))) (below_size (by repeat (first | (with_reducible first | exact HB.out | apply below_alloc | apply pw_below_drewN | apply below_drew1 | refine below_set ?_ (IsS148.ge HI895.out) | refine below_set ?_ GE892.out | refine below_set ?_ GE902.out) | exact HB.out)))); have n3_ := Aside0.mk (blk_below (g := gb892) (o := .cells #[.int .i64 0, .int .i64 0, .slice none 0 0] 30 (0, 0)) (by (with_reducible repeat (first | refine blk_drewN ?_ _ | refine blk_drew ?_ | refine blk_alloc ?_ _)); exact BK892.out) hb); have n4_ := Aside0.mk (IsS148.below (by repeat (first | (with_reducible first | exact HI895.out | apply IsS148.alloc | apply IsS148.drewN | apply IsS148.drew | apply IsS148.set_1 | refine IsS148.far ?_ NB895_892.out _ | refine IsS148.far ?_ NB895_902.out _) | exact HI895.out)) hb); have n5_ := Aside0.mk (blk_below (g := gb902) (o := .cells #[.int .i64 t896, .int .i64 t897, .slice Ao19 t898.length co19] 30 (0, 0)) (by (with_reducible repeat (first | refine blk_drewN ?_ _ | refine blk_drew ?_ | refine blk_alloc ?_ _)); exact BK902.out) hb); have n6_ := Aside0.mk (below_step (by repeat (first | (with_reducible first | exact HB.out | apply below_alloc | apply pw_below_drewN | apply below_drew1 | refine below_set ?_ (IsS148.ge HI895.out) | refine below_set ?_ GE892.out | refine below_set ?_ GE902.out) | exact HB.out)) hb); clear HO900; clear HO905; clear BK892; clear HI895; clear BK902; clear HB; have HO900 := n0_; have HO905 := n1_; have HO909 := n2_; have BK892 := n3_; have HI895 := n4_; have BK902 := n5_; have HB := n6_; clear n0_ n1_ n2_ n3_ n4_ n5_ n6_; (try clear hb); (try clear hb2); (try clear hk); (try clear hi); (try clear ho0); obtain ⟨Ao23, co23, eo23⟩ := Kd.R_slice HO909.out; subst eo23) | (go_at_call 103; (with_reducible refine (spec_l6Rd_pick.calls k g895 t893 t906 2 t910 t911 w _ ?side1 ?side2 A7.out).mono ?_); (case side1 => repeat (first | (with_reducible first | exact HI895.out | apply IsS148.alloc | apply IsS148.drewN | apply IsS148.drew | apply IsS148.set_1 | refine IsS148.far ?_ NB895_892.out _ | refine IsS148.far ?_ NB895_902.out _) | exact HI895.out)); (case side2 => repeat (first | (with_reducible first | exact HB.out | apply below_alloc | apply pw_below_drewN | apply below_drew1 | refine below_set ?_ (IsS148.ge HI895.out) | refine below_set ?_ GE892.out | refine below_set ?_ GE902.out) | exact HB.out)); rintro e w24 ⟨rfl, hi, hb, hk⟩; have n0_ := Aside0.mk (KeepBut.blk hk (g' := gb892) (o := .cells #[.int .i64 0, .int .i64 0, .slice none 0 0] 30 (0, 0)) (by (with_reducible repeat (first | refine blk_drewN ?_ _ | refine blk_drew ?_ | refine blk_alloc ?_ _)); exact BK892.out) NB892_895.out (by simp)); have n1_ := Aside0.mk (Kd.N_mono (Kd.N_keep (Kd.N_mono (ok := fun k_ => ((((((w.heap.size ≤ k_)) ∧ (k_ ≠ gb892 ∧ k_ ≠ g895)) ∧ k_ ≠ gb902) ∧ some k_ ≠ (v904 : Value).ownBlock) ∧ some k_ ≠ (.slice Ao23 t907.length co23 : Value).ownBlock)) (by (with_reducible repeat (first | apply Kd.N_alloc | apply Kd.N_drewN | apply Kd.N_drew)); exact HO900.out) (fun k_ hk_ => (⟨hk_, hk_.1.1.1.2.2⟩ : _ ∧ k_ ≠ g895))) hk (fun _ h => h.2)) (fun _ h => h.1)); have n2_ := Aside0.mk (KeepBut.blk hk (g' := gb902) (o := .cells #[.int .i64 t896, .int .i64 t897, .slice Ao19 t898.length co19] 30 (0, 0)) (by (with_reducible repeat (first | refine blk_drewN ?_ _ | refine blk_drew ?_ | refine blk_alloc ?_ _)); exact BK902.out) NB902_895.out (by simp)); have n3_ := Aside0.mk (Kd.R_mono (Kd.R_keep (IsS148.apart (show IsS148 w _ g895 t893 t906 from by repeat (first | (with_reducible first | exact HI895.out | apply IsS148.alloc | apply IsS148.drewN | apply IsS148.drew | apply IsS148.set_1 | refine IsS148.far ?_ NB895_892.out _ | refine IsS148.far ?_ NB895_902.out _) | exact HI895.out)) (by (with_reducible repeat (first | apply Kd.R_alloc | apply Kd.R_drewN | apply Kd.R_drew)); exact HO905.out) (by decide)) hk (fun _ h => h.2)) (fun _ h => h.1)); have n4_ := Aside0.mk (Kd.R_mono (Kd.R_keep (IsS148.apart (show IsS148 w _ g895 t893 t906 from by repeat (first | (with_reducible first | exact HI895.out | apply IsS148.alloc | apply IsS148.drewN | apply IsS148.drew | apply IsS148.set_1 | refine IsS148.far ?_ NB895_892.out _ | refine IsS148.far ?_ NB895_902.out _) | exact HI895.out)) (by (with_reducible repeat (first | apply Kd.R_alloc | apply Kd.R_drewN | apply Kd.R_drew)); exact HO909.out) (by decide)) hk (fun _ h => h.2)) (fun _ h => h.1)); have n5_ := Aside0.mk (hb); have n6_ := Aside0.mk (hi); clear BK892; clear HO900; clear BK902; clear HO905; clear HO909; clear HB; clear HI895; have BK892 := n0_; have HO900 := n1_; have BK902 := n2_; have HO905 := n3_; have HO909 := n4_; have HB := n5_; have HI895 := n6_; clear n0_ n1_ n2_ n3_ n4_ n5_ n6_; (try clear hb); (try clear hb2); (try clear hk); (try clear hi)) | ((with_reducible refine gate_callee (f := 103) rfl ?_); refine goesL_ (some 29) rfl rfl Try.func103 (by kernel_rfl) rfl #[.pointer (some ⟨g895, 0, none⟩), .int .i64 (t907.length : Int)] rfl (by (try simp only [List.map_toArray, List.map_cons, List.map_nil]); first | done | rfl | (simp only [List.length_drop, List.length_take]; rfl)) ?_; (with_reducible refine (spec_l6Rd_pick.calls k g895 t893 t911 (t907.length : Int) t912 t913 w _ ?side1 ?side2 A9.out).mono ?_); (case side1 => repeat (first | (with_reducible first | exact HI895.out | apply IsS148.alloc | apply IsS148.drewN | apply IsS148.drew | apply IsS148.set_1 | refine IsS148.far ?_ NB895_892.out _ | refine IsS148.far ?_ NB895_902.out _) | exact HI895.out)); (case side2 => repeat (first | (with_reducible first | exact HB.out | apply below_alloc | apply pw_below_drewN | apply below_drew1 | refine below_set ?_ (IsS148.ge HI895.out) | refine below_set ?_ GE892.out | refine below_set ?_ GE902.out) | exact HB.out)); rintro e w25 ⟨rfl, hi, hb, hk⟩; refine ⟨_, rfl, ?_⟩; have n0_ := Aside0.mk (KeepBut.blk hk (g' := gb892) (o := .cells #[.int .i64 0, .int .i64 0, .slice none 0 0] 30 (0, 0)) (by (with_reducible repeat (first | refine blk_drewN ?_ _ | refine blk_drew ?_ | refine blk_alloc ?_ _)); exact BK892.out) NB892_895.out (by simp)); have n1_ := Aside0.mk (Kd.N_mono (Kd.N_keep (Kd.N_mono (ok := fun k_ => ((((((w.heap.size ≤ k_)) ∧ (k_ ≠ gb892 ∧ k_ ≠ g895)) ∧ k_ ≠ gb902) ∧ some k_ ≠ (v904 : Value).ownBlock) ∧ some k_ ≠ (.slice Ao23 t907.length co23 : Value).ownBlock)) (by (with_reducible repeat (first | apply Kd.N_alloc | apply Kd.N_drewN | apply Kd.N_drew)); exact HO900.out) (fun k_ hk_ => (⟨hk_, hk_.1.1.1.2.2⟩ : _ ∧ k_ ≠ g895))) hk (fun _ h => h.2)) (fun _ h => h.1)); have n2_ := Aside0.mk (KeepBut.blk hk (g' := gb902) (o := .cells #[.int .i64 t896, .int .i64 t897, .slice Ao19 t898.length co19] 30 (0, 0)) (by (with_reducible repeat (first | refine blk_drewN ?_ _ | refine blk_drew ?_ | refine blk_alloc ?_ _)); exact BK902.out) NB902_895.out (by simp)); have n3_ := Aside0.mk (Kd.R_mono (Kd.R_keep (IsS148.apart (show IsS148 w _ g895 t893 t911 from by repeat (first | (with_reducible first | exact HI895.out | apply IsS148.alloc | apply IsS148.drewN | apply IsS148.drew | apply IsS148.set_1 | refine IsS148.far ?_ NB895_892.out _ | refine IsS148.far ?_ NB895_902.out _) | exact HI895.out)) (by (with_reducible repeat (first | apply Kd.R_alloc | apply Kd.R_drewN | apply Kd.R_drew)); exact HO905.out) (by decide)) hk (fun _ h => h.2)) (fun _ h => h.1)); have n4_ := Aside0.mk (Kd.R_mono (Kd.R_keep (IsS148.apart (show IsS148 w _ g895 t893 t911 from by repeat (first | (with_reducible first | exact HI895.out | apply IsS148.alloc | apply IsS148.drewN | apply IsS148.drew | apply IsS148.set_1 | refine IsS148.far ?_ NB895_892.out _ | refine IsS148.far ?_ NB895_902.out _) | exact HI895.out)) (by (with_reducible repeat (first | apply Kd.R_alloc | apply Kd.R_drewN | apply Kd.R_drew)); exact HO909.out) (by decide)) hk (fun _ h => h.2)) (fun _ h => h.1)); have n5_ := Aside0.mk (hb); have n6_ := Aside0.mk (hi); clear BK892; clear HO900; clear BK902; clear HO905; clear HO909; clear HB; clear HI895; have BK892 := n0_; have HO900 := n1_; have BK902 := n2_; have HO905 := n3_; have HO909 := n4_; have HB := n5_; have HI895 := n6_; clear n0_ n1_ n2_ n3_ n4_ n5_ n6_; (try clear hb); (try clear hb2); (try clear hk); (try clear hi); have n_ := Aside0.mk (Kd.R_mono (ok' := (fun k_ => (w.heap.size ≤ k_) ∧ some k_ ≠ (v904 : Value).ownBlock)) HO909.out (fun k_ hk => ⟨hk.1.1, hk.2⟩)); clear HO909; have HO909 := n_; clear n_; have q26 : (t912 : Int) ≤ ((t907.length : Int) : Int) := of_decide_eq_true (by first | (with_reducible assumption) | assumption); obtain ⟨i026, hi026, _, hsz26, _⟩ := info_parts info3; have hcut26 := cut_from (P := Try.prog) 26 3 .i64 Try.underlying26 hi026 1 hsz26 Ao23 t907.length co23 t912 (of_decide_eq_true (by first | (with_reducible assumption) | assumption)) q26; have hr26 := Kd.Q_drop (k := (t912 : Int).toNat) (Kd.Q_of_R HO909.out) (by omega); obtain ⟨A26, hA26⟩ : ∃ A1, A1 = (if co23 = (t912 : Int).toNat then Ao23 else (Ao23 : Option Addr).map (·.add ((t912 : Int).toNat * 1))) := ⟨_, rfl⟩; obtain ⟨c26, hc26⟩ : ∃ c1, c1 = co23 - (t912 : Int).toNat := ⟨_, rfl⟩; have hy26 : y914.length = t907.length - (t912 : Int).toNat := (by rw [Ny914.out, List.length_drop]); rw [← Ny914.out] at hr26; rw [← hy26, ← hA26, ← hc26] at hcut26; replace hr26 : Kd.Q (Kd.int .i64) 3 w25 w.heap.size (fun k_ => (w.heap.size ≤ k_) ∧ some k_ ≠ (v904 : Value).ownBlock) (.slice A26 y914.length c26) y914 := (by rw [hA26, hc26, hy26]; exact hr26); have HE26 : Aside0 ((Value.slice A26 y914.length c26).ownBlock = (.slice Ao23 t907.length co23 : Value).ownBlock) := ⟨by rw [hA26]; split <;> (cases (Ao23 : Option Addr) <;> first | rfl | (simp only [Option.map_some, Value.ownBlock, Addr.add]; split <;> rfl))⟩; clear hy26 hi026 hsz26 HO909 hA26 hc26; have HO916 := Aside0.mk hr26; clear hr26; replace q26 := eq_true q26; have n_ := Aside0.mk (Kd.N_mono (ok' := fun k_ => ((((((w.heap.size ≤ k_)) ∧ (k_ ≠ gb892 ∧ k_ ≠ g895)) ∧ k_ ≠ gb902) ∧ some k_ ≠ (v904 : Value).ownBlock) ∧ some k_ ≠ (.slice A26 y914.length c26 : Value).ownBlock)) HO900.out (fun k_ hk => ⟨⟨⟨⟨hk.1.1.1.1, ⟨hk.1.1.1.2.1, hk.1.1.1.2.2⟩⟩, hk.1.1.2⟩, hk.1.2⟩, (by rw [HE26.out]; exact hk.2)⟩)); clear HO900; have HO900 := n_; clear n_; have n_ := Aside0.mk (Kd.R_mono (ok' := fun k_ => ((((w.heap.size ≤ k_)) ∧ True) ∧ some k_ ≠ (.slice A26 y914.length c26 : Value).ownBlock)) HO905.out (fun k_ hk => ⟨⟨hk.1.1, trivial⟩, (by rw [HE26.out]; exact hk.2)⟩)); clear HO905; have HO905 := n_; clear n_))
          have n0_ := Aside0.mk (Kd.N_drew HO900.out)
          have n1_ := Aside0.mk (Kd.R_drew HO905.out)
          have n2_ := Aside0.mk (Kd.Q_drew HO916.out)
          have n3_ := Aside0.mk (blk_drew BK892.out)
          have n4_ := Aside0.mk (blk_drew BK902.out)
          have n5_ := Aside0.mk (IsS148.drew HI895.out)
          have n6_ := Aside0.mk (below_drew1 HB.out)
          clear HO900
          clear HO905
          clear HO916
          clear BK892
          clear BK902
          clear HI895
          clear HB
          have HO900 := n0_
          have HO905 := n1_
          have HO916 := n2_
          have BK892 := n3_
          have BK902 := n4_
          have HI895 := n5_
          have HB := n6_
          clear n0_ n1_ n2_ n3_ n4_ n5_ n6_
          refine start_ (n := 6) (S := fun w' => w'.cell? ⟨gb902, 0, none⟩ = some (.int .i64 t896) ∧ w'.cell? ⟨gb902, 1, none⟩ = some (.int .i64 t897) ∧ w'.cell? ⟨gb902, 2, none⟩ = some (.slice Ao19 t898.length co19)) (ds := []) #[false, false, false, false, false, false] (by kernel_rfl) rfl rfl ⟨(blk_cell BK902.out 0).trans rfl, (blk_cell BK902.out 1).trans rfl, (blk_cell BK902.out 2).trans rfl⟩ (fun hHeld => ?_)
          generalize w25.drew = w27 at HO900 HO905 HO916 BK892 BK902 HI895 HB hHeld ⊢
          refine pure_ (i := 0) (N := some 31) (v := ?_) (a' := ?_) #[true, false, false, false, false, false] rfl rfl (by kernel_rfl) (fun _ _ _ h => h) (Or.inl ⟨by rfl, ?_⟩) ?_ ?_
          rotate_left
          · intro w'
            go_simp
            with_reducible rfl
          rotate_left
          · simp only [Act.put, List.setIfInBounds_toArray, List.set_cons_zero, List.set_cons_succ, i64_w, i32_w]
            rfl
          refine pure_ (i := 2) (N := some 33) (v := ?_) (a' := ?_) #[true, false, true, false, false, false] rfl rfl (by kernel_rfl) (fun _ _ _ h => h) (Or.inl ⟨by rfl, ?_⟩) ?_ ?_
          rotate_left
          · intro w'
            go_simp
            with_reducible rfl
          rotate_left
          · simp only [Act.put, List.setIfInBounds_toArray, List.set_cons_zero, List.set_cons_succ, i64_w, i32_w]
            rfl
          refine pure_ (i := 3) (N := some 2) (v := ?_) (a' := ?_) #[true, false, true, true, false, false] rfl rfl (by kernel_rfl) (fun _ _ _ h => h) (Or.inl ⟨by rfl, ?_⟩) ?_ ?_
          rotate_left
          · intro w'
            go_simp
            with_reducible rfl
          rotate_left
          · simp only [Act.put, List.setIfInBounds_toArray, List.set_cons_zero, List.set_cons_succ, i64_w, i32_w]
            rfl
          refine take_ (i := 1) (N := some 32) (v := ?_) (a' := ?_) #[true, true, true, true, false, false] rfl rfl (by kernel_rfl) (fun _ _ _ h => h) (Or.inl ⟨by rfl, ?_⟩) hHeld ?_ ?_
          rotate_left
          · rintro w' ⟨s0, s1, s2⟩
            go_simp
            with_reducible rfl
          rotate_left
          · simp only [Act.put, List.setIfInBounds_toArray, List.set_cons_zero, List.set_cons_succ, i64_w, i32_w]
            rfl
          refine one_ (i := 4) (N := none) #[true, true, true, true, true, false] rfl rfl (by kernel_rfl) (by decide) (fun K hK => ?_)
          have hs28 : w27.cell? ⟨gb892, 0, none⟩ = some (.int .i64 0) := (blk_cell BK892.out 0).trans rfl
          have hfs28 := blk_frozen BK892.out 0
          have hns28_1 := NB902_892.out
          have hms28_1 := NB892_902.out
          have hs29 : w27.cell? ⟨gb892, 1, none⟩ = some (.int .i64 0) := (blk_cell BK892.out 1).trans rfl
          have hfs29 := blk_frozen BK892.out 1
          have hns29_1 := NB902_892.out
          have hms29_1 := NB892_902.out
          have hs30 : w27.cell? ⟨gb892, 2, none⟩ = some (.slice none 0 0) := (blk_cell BK892.out 2).trans rfl
          have hfs30 := blk_frozen BK892.out 2
          have hns30_1 := NB902_892.out
          have hms30_1 := NB892_902.out
          refine skip_ (w1 := ?_) (by rfl) rfl ?_ ?_
          rotate_left
          · go_simp
            rfl
          refine hK.out _ _ ⟨((cell_far (p := ⟨gb892, _, none⟩) NB902_892.out _).trans (((cell_far (p := ⟨gb892, _, none⟩) NB902_892.out _).trans (((cell_far (p := ⟨gb892, _, none⟩) NB902_892.out _).trans (hHeld.1)))))), ((cell_far (p := ⟨gb892, _, none⟩) NB902_892.out _).trans (((cell_far (p := ⟨gb892, _, none⟩) NB902_892.out _).trans (((cell_far (p := ⟨gb892, _, none⟩) NB902_892.out _).trans (hHeld.2.1)))))), ((cell_far (p := ⟨gb892, _, none⟩) NB902_892.out _).trans (((cell_far (p := ⟨gb892, _, none⟩) NB902_892.out _).trans (((cell_far (p := ⟨gb892, _, none⟩) NB902_892.out _).trans (hHeld.2.2))))))⟩ (fun hHeld => ?_)
          clear hK K
          refine pure_ (i := 5) (N := some 4) (v := ?_) (a' := ?_) #[true, true, true, true, true, true] rfl rfl (by kernel_rfl) (fun _ _ _ h => h) (Or.inl ⟨by rfl, ?_⟩) ?_ ?_
          rotate_left
          · intro w'
            go_simp
            with_reducible rfl
          rotate_left
          · simp only [Act.put, List.setIfInBounds_toArray, List.set_cons_zero, List.set_cons_succ, i64_w, i32_w]
            rfl
          refine done_ (by kernel_rfl) ?_
          try go_wp2
          refine bodyPost_ret (results_list (rs := [.tmp 2, .cell 3 30, .tmp 4]) rfl (by simp) (.tmp (.cell gb892 30 #[.int .i64 t896, .int .i64 t897, .slice Ao19 t898.length co19] (0, 0) _ rfl (by (with_reducible repeat (first | refine blk_drewN ?_ _ | refine blk_drew ?_ | refine blk_alloc ?_ _)); refine blk_put (cs := #[.int .i64 t896, .int .i64 t897, .slice none 0 0]) ?_ 2 _ rfl; (with_reducible repeat (first | refine blk_drewN ?_ _ | refine blk_drew ?_ | refine blk_alloc ?_ _)); refine blk_put (cs := #[.int .i64 t896, .int .i64 0, .slice none 0 0]) ?_ 1 _ rfl; (with_reducible repeat (first | refine blk_drewN ?_ _ | refine blk_drew ?_ | refine blk_alloc ?_ _)); refine blk_put (cs := #[.int .i64 0, .int .i64 0, .slice none 0 0]) ?_ 0 _ rfl; (with_reducible repeat (first | refine blk_drewN ?_ _ | refine blk_drew ?_ | refine blk_alloc ?_ _)); exact BK892.out) Try.underlying30 rfl (by kernel_rfl) (.tmp .nil)))) rfl ?_
          exact ⟨_, _, _, by first | rfl | (simp [errW_none, errW_some] <;> rfl) | (simp [*, errW_none, errW_some] <;> rfl), by (with_reducible repeat (first | apply Kd.Q_alloc | apply Kd.Q_drewN | apply Kd.Q_drew)); exact Kd.Q_mono (Kd.Q_far (p := ⟨gb892, 2, none⟩) (Kd.Q_far (p := ⟨gb892, 1, none⟩) (Kd.Q_far (p := ⟨gb892, 0, none⟩) (Kd.Q_types HO916.out BK892.out (by decide)) (fun _ hk => hk.2) (.int .i64 t896)) (fun _ hk => hk.2) (.int .i64 t897)) (fun _ hk => hk.2) (.slice Ao19 t898.length co19)) (fun _ hk => ⟨hk.1.1, hk.1.2⟩), by (with_reducible repeat (first | apply Kd.N_alloc | apply Kd.N_drewN | apply Kd.N_drew)); exact Kd.N_mono (Kd.N_far (p := ⟨gb892, 2, none⟩) (Kd.N_far (p := ⟨gb892, 1, none⟩) (Kd.N_far (p := ⟨gb892, 0, none⟩) (Kd.N_mono HO900.out (fun k_ hk => (⟨hk, hk.1.1.1.2.1⟩ : _ ∧ k_ ≠ gb892))) (fun _ hk => hk.2) (.int .i64 t896)) (fun _ hk => hk.2) (.int .i64 t897)) (fun _ hk => hk.2) (.slice Ao19 t898.length co19)) (fun _ hk => ⟨hk.1.1.1.1.1, ⟨hk.1.2, hk.1.1.2⟩⟩), by (with_reducible repeat (first | apply Kd.R_alloc | apply Kd.R_drewN | apply Kd.R_drew)); exact Kd.R_mono (Kd.R_far (p := ⟨gb892, 2, none⟩) (Kd.R_far (p := ⟨gb892, 1, none⟩) (Kd.R_far (p := ⟨gb892, 0, none⟩) (Kd.R_types HO905.out BK892.out (by decide)) (fun _ hk => hk.2) (.int .i64 t896)) (fun _ hk => hk.2) (.int .i64 t897)) (fun _ hk => hk.2) (.slice Ao19 t898.length co19)) (fun _ hk => ⟨hk.1.1.1, hk.1.2⟩), by repeat (first | (with_reducible first | exact HB.out | apply below_alloc | apply pw_below_drewN | apply below_drew1 | refine below_set ?_ (IsS148.ge HI895.out) | refine below_set ?_ GE892.out | refine below_set ?_ GE902.out) | exact HB.out)⟩
        · rw [if_neg c11] at H
          exact absurd H (by simp)
      · rw [if_neg c10] at H
        exact absurd H (by simp)
    · rw [if_neg c8] at H
      have c8b0 : (t910 == 0) = false := beq_eq_false_iff_ne.mpr c8
      have c8b1 : (t910 != 0) = true := bne_iff_ne.mpr c8
      simp only [Option.some.injEq, Prod.mk.injEq] at H
      obtain ⟨rfl, rfl, rfl, rfl, rfl⟩ := H
      go_enter Try.func48, Try.ntmps48
      try go_wp2_with (first | ((with_reducible refine gate_dst (N := 3) rfl ?_); refine box_event ?hg (N := 3) ?hd (cs := #[.int .i64 0, .int .i64 0, .slice none 0 0]) (t := 30) ?hr ?_; (case hd => rfl); (case hg => rfl); (case hr => first | (go_simp; done) | (go_simp; rfl)); intro gb892 hg w31 hbox hb; have n0_ := Aside0.mk (below_step (by repeat (first | (with_reducible first | exact HB.out | apply below_alloc | apply pw_below_drewN | apply below_drew1) | exact HB.out)) hb); have n1_ := Aside0.mk (hbox); have n2_ := Aside0.mk ((by rw [hg]; exact (below_size (by repeat (first | (with_reducible first | exact HB.out | apply below_alloc | apply pw_below_drewN | apply below_drew1) | exact HB.out))) : w.heap.size ≤ gb892)); have n3_ := Aside0.mk ((by rw [hg]; exact (below_size (by repeat (first | (with_reducible first | exact HB.out | apply below_alloc | apply pw_below_drewN | apply below_drew1) | exact HB.out))) : w.heap.size ≤ gb892)); clear HB; have HB := n0_; have BK892 := n1_; have GW892 := n2_; have GE892 := n3_; clear n0_ n1_ n2_ n3_; clear hb hbox hg) | ((with_reducible refine gate_callee (f := 75) rfl ?_); refine goesL_ (some 10) rfl rfl Try.func75 (by kernel_rfl) rfl #[.slice A0 l0.length c0] rfl (by (try simp only [List.map_toArray, List.map_cons, List.map_nil]); first | done | rfl | (simp only [List.length_drop, List.length_take]; rfl)) ?_; (with_reducible refine (spec_l6Open.calls _ _ l0 t893 t894 w _ ?side1 ?side2 ?side3 A2.out).mono ?_); (case side1 => repeat (first | (with_reducible first | exact HB.out | apply below_alloc | apply pw_below_drewN | apply below_drew1 | refine below_set ?_ GE892.out) | exact HB.out)); (case side2 => exact HR0.out); (case side3 => exact HC0.out); rintro e w32 ⟨g895, rfl, hi, hb, hb2⟩; refine ⟨_, rfl, ?_⟩; have n0_ := Aside0.mk (blk_below (g := gb892) (o := .cells #[.int .i64 0, .int .i64 0, .slice none 0 0] 30 (0, 0)) (by (with_reducible repeat (first | refine blk_drewN ?_ _ | refine blk_drew ?_ | refine blk_alloc ?_ _)); exact BK892.out) hb2); have n1_ := Aside0.mk (hb); have n2_ := Aside0.mk (hi); have n3_ := Aside0.mk (IsS148.ne_blk hi (blk_below (g := gb892) (o := .cells #[.int .i64 0, .int .i64 0, .slice none 0 0] 30 (0, 0)) (by (with_reducible repeat (first | refine blk_drewN ?_ _ | refine blk_drew ?_ | refine blk_alloc ?_ _)); exact BK892.out) hb2) (by decide)); have n4_ := Aside0.mk (Ne.symm (IsS148.ne_blk hi (blk_below (g := gb892) (o := .cells #[.int .i64 0, .int .i64 0, .slice none 0 0] 30 (0, 0)) (by (with_reducible repeat (first | refine blk_drewN ?_ _ | refine blk_drew ?_ | refine blk_alloc ?_ _)); exact BK892.out) hb2) (by decide))); clear BK892; clear HB; have BK892 := n0_; have HB := n1_; have HI895 := n2_; have NB895_892 := n3_; have NB892_895 := n4_; clear n0_ n1_ n2_ n3_ n4_; (try clear hb); (try clear hb2); (try clear hk); (try clear hi)) | ((with_reducible refine gate_callee (f := 76) rfl ?_); refine goesL_ (some 12) rfl rfl Try.func76 (by kernel_rfl) rfl #[.pointer (some ⟨g895, 0, none⟩)] rfl (by (try simp only [List.map_toArray, List.map_cons, List.map_nil]); first | done | rfl | (simp only [List.length_drop, List.length_take]; rfl)) ?_; (with_reducible refine (spec_l91Any.calls k g895 t893 t894 t896 t897 t898 t901 w _ ?side1 ?side2 A3.out).mono ?_); (case side1 => repeat (first | (with_reducible first | exact HI895.out | apply IsS148.alloc | apply IsS148.drewN | apply IsS148.drew | apply IsS148.set_1 | refine IsS148.far ?_ NB895_892.out _) | exact HI895.out)); (case side2 => repeat (first | (with_reducible first | exact HB.out | apply below_alloc | apply pw_below_drewN | apply below_drew1 | refine below_set ?_ (IsS148.ge HI895.out) | refine below_set ?_ GE892.out) | exact HB.out)); rintro e w33 ⟨v899, rfl, ho0, hi, hb, hk⟩; refine ⟨_, rfl, ?_⟩; have n0_ := Aside0.mk (KeepBut.blk hk (g' := gb892) (o := .cells #[.int .i64 0, .int .i64 0, .slice none 0 0] 30 (0, 0)) (by (with_reducible repeat (first | refine blk_drewN ?_ _ | refine blk_drew ?_ | refine blk_alloc ?_ _)); exact BK892.out) NB892_895.out (by simp)); have n1_ := Aside0.mk (Kd.N_lower (Kd.N_mono (ok' := fun k_ => (w.heap.size ≤ k_) ∧ k_ ≠ gb892 ∧ k_ ≠ g895) ho0 (fun k_ hk_ => ⟨(Nat.le_trans (below_size (by repeat (first | (with_reducible first | exact HB.out | apply below_alloc | apply pw_below_drewN | apply below_drew1 | refine below_set ?_ (IsS148.ge HI895.out) | refine below_set ?_ GE892.out) | exact HB.out))) hk_), (Kd.freshB (g := gb892) (o := .cells #[.int .i64 0, .int .i64 0, .slice none 0 0] 30 (0, 0)) (by (with_reducible repeat (first | refine blk_drewN ?_ _ | refine blk_drew ?_ | refine blk_alloc ?_ _)); exact BK892.out) k_ hk_), (IsS148.fresh (by repeat (first | (with_reducible first | exact HI895.out | apply IsS148.alloc | apply IsS148.drewN | apply IsS148.drew | apply IsS148.set_1 | refine IsS148.far ?_ NB895_892.out _) | exact HI895.out)) k_ hk_)⟩)) (below_size (by repeat (first | (with_reducible first | exact HB.out | apply below_alloc | apply pw_below_drewN | apply below_drew1 | refine below_set ?_ (IsS148.ge HI895.out) | refine below_set ?_ GE892.out) | exact HB.out)))); have n2_ := Aside0.mk (hb); have n3_ := Aside0.mk (hi); clear BK892; clear HB; clear HI895; have BK892 := n0_; have HO900 := n1_; have HB := n2_; have HI895 := n3_; clear n0_ n1_ n2_ n3_; (try clear hb); (try clear hb2); (try clear hk); (try clear hi); (try clear ho0)) | ((with_reducible refine gate_dst (N := 6) rfl ?_); refine box_event ?hg (N := 6) ?hd (cs := #[.int .i64 0, .int .i64 0, .slice none 0 0]) (t := 30) ?hr ?_; (case hd => rfl); (case hg => rfl); (case hr => first | (go_simp; done) | (go_simp; rfl)); intro gb902 hg w34 hbox hb; have n0_ := Aside0.mk (Kd.N_below (Kd.N_elderB (by (with_reducible repeat (first | apply Kd.N_alloc | apply Kd.N_drewN | apply Kd.N_drew)); exact HO900.out) gb902 (Nat.le_of_eq hg.symm)) hb); have n1_ := Aside0.mk (blk_below (g := gb892) (o := .cells #[.int .i64 0, .int .i64 0, .slice none 0 0] 30 (0, 0)) (by (with_reducible repeat (first | refine blk_drewN ?_ _ | refine blk_drew ?_ | refine blk_alloc ?_ _)); exact BK892.out) hb); have n2_ := Aside0.mk (IsS148.below (by repeat (first | (with_reducible first | exact HI895.out | apply IsS148.alloc | apply IsS148.drewN | apply IsS148.drew | apply IsS148.set_1 | refine IsS148.far ?_ NB895_892.out _) | exact HI895.out)) hb); have n3_ := Aside0.mk (below_step (by repeat (first | (with_reducible first | exact HB.out | apply below_alloc | apply pw_below_drewN | apply below_drew1 | refine below_set ?_ (IsS148.ge HI895.out) | refine below_set ?_ GE892.out) | exact HB.out)) hb); have n4_ := Aside0.mk (hbox); have n5_ := Aside0.mk ((by rw [hg]; exact (below_size (by repeat (first | (with_reducible first | exact HB.out | apply below_alloc | apply pw_below_drewN | apply below_drew1 | refine below_set ?_ (IsS148.ge HI895.out) | refine below_set ?_ GE892.out) | exact HB.out))) : w.heap.size ≤ gb902)); have n6_ := Aside0.mk ((by rw [hg]; exact (below_size (by repeat (first | (with_reducible first | exact HB.out | apply below_alloc | apply pw_below_drewN | apply below_drew1 | refine below_set ?_ (IsS148.ge HI895.out) | refine below_set ?_ GE892.out) | exact HB.out))) : w.heap.size ≤ gb902)); have n7_ := Aside0.mk ((by rw [hg]; exact Nat.ne_of_lt (blk_lt (g := gb892) (o := .cells #[.int .i64 0, .int .i64 0, .slice none 0 0] 30 (0, 0)) (by (with_reducible repeat (first | refine blk_drewN ?_ _ | refine blk_drew ?_ | refine blk_alloc ?_ _)); exact BK892.out)) : gb892 ≠ gb902)); have n8_ := Aside0.mk ((by rw [hg]; exact Nat.ne_of_gt (blk_lt (g := gb892) (o := .cells #[.int .i64 0, .int .i64 0, .slice none 0 0] 30 (0, 0)) (by (with_reducible repeat (first | refine blk_drewN ?_ _ | refine blk_drew ?_ | refine blk_alloc ?_ _)); exact BK892.out)) : gb902 ≠ gb892)); have n9_ := Aside0.mk ((by rw [hg]; exact Nat.ne_of_lt (IsS148.lt (show IsS148 w _ g895 t893 t901 from by repeat (first | (with_reducible first | exact HI895.out | apply IsS148.alloc | apply IsS148.drewN | apply IsS148.drew | apply IsS148.set_1 | refine IsS148.far ?_ NB895_892.out _) | exact HI895.out))) : g895 ≠ gb902)); have n10_ := Aside0.mk ((by rw [hg]; exact Nat.ne_of_gt (IsS148.lt (show IsS148 w _ g895 t893 t901 from by repeat (first | (with_reducible first | exact HI895.out | apply IsS148.alloc | apply IsS148.drewN | apply IsS148.drew | apply IsS148.set_1 | refine IsS148.far ?_ NB895_892.out _) | exact HI895.out))) : gb902 ≠ g895)); clear HO900; clear BK892; clear HI895; clear HB; have HO900 := n0_; have BK892 := n1_; have HI895 := n2_; have HB := n3_; have BK902 := n4_; have GW902 := n5_; have GE902 := n6_; have NB892_902 := n7_; have NB902_892 := n8_; have NB895_902 := n9_; have NB902_895 := n10_; clear n0_ n1_ n2_ n3_ n4_ n5_ n6_ n7_ n8_ n9_ n10_; clear hb hbox hg; have hnb35 := NB902_892.out; have hnc35 := NB892_902.out; have hnb36 := NB902_895.out; have hnc36 := NB895_902.out; have hcz37_0 : w34.cell? ⟨gb902, 0, none⟩ = some (.int .i64 0) := (blk_cell BK902.out 0).trans rfl; have hcz37_1 : w34.cell? ⟨gb902, 1, none⟩ = some (.int .i64 0) := (blk_cell BK902.out 1).trans rfl; have hcz37_2 : w34.cell? ⟨gb902, 2, none⟩ = some (.slice none 0 0) := (blk_cell BK902.out 2).trans rfl; have hfz37_0 := blk_frozen BK902.out 0; have hfz37_1 := blk_frozen BK902.out 1; have hfz37_2 := blk_frozen BK902.out 2; obtain ⟨Ao38, co38, eo38⟩ := Kd.N_slice HO900.out; subst eo38) | ((with_reducible refine gate_callee (f := 78) rfl ?_); refine goesL_ (some 14) rfl rfl Try.func78 (by kernel_rfl) rfl #[.pointer (some ⟨g895, 0, none⟩)] rfl (by (try simp only [List.map_toArray, List.map_cons, List.map_nil]); first | done | rfl | (simp only [List.length_drop, List.length_take]; rfl)) ?_; (with_reducible refine (spec_l91Values.calls k g895 t893 t901 t903 t906 w _ ?side1 ?side2 A4.out).mono ?_); (case side1 => repeat (first | (with_reducible first | exact HI895.out | apply IsS148.alloc | apply IsS148.drewN | apply IsS148.drew | apply IsS148.set_1 | refine IsS148.far ?_ NB895_892.out _ | refine IsS148.far ?_ NB895_902.out _) | exact HI895.out)); (case side2 => repeat (first | (with_reducible first | exact HB.out | apply below_alloc | apply pw_below_drewN | apply below_drew1 | refine below_set ?_ (IsS148.ge HI895.out) | refine below_set ?_ GE892.out | refine below_set ?_ GE902.out) | exact HB.out)); rintro e w39 ⟨v904, rfl, ho0, hi, hb, hk⟩; refine ⟨_, rfl, ?_⟩; have n0_ := Aside0.mk (KeepBut.blk hk (g' := gb892) (o := .cells #[.int .i64 0, .int .i64 0, .slice none 0 0] 30 (0, 0)) (by (with_reducible repeat (first | refine blk_drewN ?_ _ | refine blk_drew ?_ | refine blk_alloc ?_ _)); refine blk_far ?_ NB892_902.out _; (with_reducible repeat (first | refine blk_drewN ?_ _ | refine blk_drew ?_ | refine blk_alloc ?_ _)); refine blk_far ?_ NB892_902.out _; (with_reducible repeat (first | refine blk_drewN ?_ _ | refine blk_drew ?_ | refine blk_alloc ?_ _)); refine blk_far ?_ NB892_902.out _; (with_reducible repeat (first | refine blk_drewN ?_ _ | refine blk_drew ?_ | refine blk_alloc ?_ _)); exact BK892.out) NB892_895.out (by simp)); have n1_ := Aside0.mk (Kd.N_mono (Kd.N_told (Kd.N_oldK (Kd.N_mono (ok := fun k_ => ((((w.heap.size ≤ k_)) ∧ (k_ ≠ gb892 ∧ k_ ≠ g895)) ∧ k_ ≠ gb902)) (by (with_reducible repeat (first | apply Kd.N_alloc | apply Kd.N_drewN | apply Kd.N_drew)); exact (Kd.N_mono (Kd.N_far (p := ⟨gb902, 2, none⟩) (Kd.N_far (p := ⟨gb902, 1, none⟩) (Kd.N_far (p := ⟨gb902, 0, none⟩) (Kd.N_mono HO900.out (fun k_ hk => (⟨hk, hk.2⟩ : _ ∧ k_ ≠ gb902))) (fun _ hk => hk.2) (.int .i64 t896)) (fun _ hk => hk.2) (.int .i64 t897)) (fun _ hk => hk.2) (.slice Ao38 t898.length co38)) (fun _ h_ => h_.1))) (fun k_ hk_ => (⟨hk_, hk_.1.2.2⟩ : _ ∧ k_ ≠ g895))) hk) (Kd.R_base ho0)) (fun _ h_ => h_.1)); have n2_ := Aside0.mk (KeepBut.blk hk (g' := gb902) (o := .cells #[.int .i64 t896, .int .i64 t897, .slice Ao38 t898.length co38] 30 (0, 0)) (by (with_reducible repeat (first | refine blk_drewN ?_ _ | refine blk_drew ?_ | refine blk_alloc ?_ _)); refine blk_put (cs := #[.int .i64 t896, .int .i64 t897, .slice none 0 0]) ?_ 2 _ rfl; (with_reducible repeat (first | refine blk_drewN ?_ _ | refine blk_drew ?_ | refine blk_alloc ?_ _)); refine blk_put (cs := #[.int .i64 t896, .int .i64 0, .slice none 0 0]) ?_ 1 _ rfl; (with_reducible repeat (first | refine blk_drewN ?_ _ | refine blk_drew ?_ | refine blk_alloc ?_ _)); refine blk_put (cs := #[.int .i64 0, .int .i64 0, .slice none 0 0]) ?_ 0 _ rfl; (with_reducible repeat (first | refine blk_drewN ?_ _ | refine blk_drew ?_ | refine blk_alloc ?_ _)); exact BK902.out) NB902_895.out (by simp)); have n3_ := Aside0.mk (Kd.R_lower (Kd.R_newM (M := fun k_ => (w.heap.size ≤ k_)) ho0 (below_size (by repeat (first | (with_reducible first | exact HB.out | apply below_alloc | apply pw_below_drewN | apply below_drew1 | refine below_set ?_ (IsS148.ge HI895.out) | refine below_set ?_ GE892.out | refine below_set ?_ GE902.out) | exact HB.out))) (fun k_ h_ => h_)) (below_size (by repeat (first | (with_reducible first | exact HB.out | apply below_alloc | apply pw_below_drewN | apply below_drew1 | refine below_set ?_ (IsS148.ge HI895.out) | refine below_set ?_ GE892.out | refine below_set ?_ GE902.out) | exact HB.out)))); have n4_ := Aside0.mk (hb); have n5_ := Aside0.mk (hi); clear BK892; clear HO900; clear BK902; clear HB; clear HI895; have BK892 := n0_; have HO900 := n1_; have BK902 := n2_; have HO905 := n3_; have HB := n4_; have HI895 := n5_; clear n0_ n1_ n2_ n3_ n4_ n5_; (try clear hb); (try clear hb2); (try clear hk); (try clear hi); (try clear ho0); have hcz40_0 : w39.cell? ⟨gb902, 0, none⟩ = some (.int .i64 t896) := (blk_cell BK902.out 0).trans rfl; have hcz40_1 : w39.cell? ⟨gb902, 1, none⟩ = some (.int .i64 t897) := (blk_cell BK902.out 1).trans rfl; have hcz40_2 : w39.cell? ⟨gb902, 2, none⟩ = some (.slice Ao38 t898.length co38) := (blk_cell BK902.out 2).trans rfl; have hfz40_0 := blk_frozen BK902.out 0; have hfz40_1 := blk_frozen BK902.out 1; have hfz40_2 := blk_frozen BK902.out 2) | ((with_reducible refine gate_callee (f := 16) rfl ?_); refine goesL_ (some 16) rfl rfl Try.func16 (by kernel_rfl) rfl #[.agg #[.int .i64 t896, .int .i64 t897, .slice Ao38 t898.length co38]] rfl (by (try simp only [List.map_toArray, List.map_cons, List.map_nil]); first | done | rfl | (simp only [List.length_drop, List.length_take]; rfl)) ?_; (with_reducible refine (spec_TaskMay.calls k t896 t897 _ _ t898 t907 _ ?side1 ?side2 A5.out).mono ?_); (case side1 => repeat (first | exact (Kd.N_reads' HO900.out).2.2 | (with_reducible refine Kd.C_alloc ?_ _) | (with_reducible refine Kd.C_drewN ?_ _) | (with_reducible refine Kd.C_drew ?_))); (case side2 => exact (Kd.N_reads' HO900.out).2.1); rintro e w41 ⟨v908, rfl, ho0, hb⟩; refine ⟨_, rfl, ?_⟩; have n0_ := Aside0.mk (Kd.N_elder' (by (with_reducible repeat (first | apply Kd.N_alloc | apply Kd.N_drewN | apply Kd.N_drew)); exact HO900.out) (Kd.R_base ho0) hb); have n1_ := Aside0.mk (Kd.R_elder' (by (with_reducible repeat (first | apply Kd.R_alloc | apply Kd.R_drewN | apply Kd.R_drew)); exact HO905.out) (Kd.R_base ho0) hb); have n2_ := Aside0.mk (Kd.R_lower (Kd.R_new' (Kd.R_newM (M := fun k_ => (w.heap.size ≤ k_)) ho0 (below_size (by repeat (first | (with_reducible first | exact HB.out | apply below_alloc | apply pw_below_drewN | apply below_drew1 | refine below_set ?_ (IsS148.ge HI895.out) | refine below_set ?_ GE892.out | refine below_set ?_ GE902.out) | exact HB.out))) (fun k_ h_ => h_)) (Kd.R_lt (by (with_reducible repeat (first | apply Kd.R_alloc | apply Kd.R_drewN | apply Kd.R_drew)); exact HO905.out))) (below_size (by repeat (first | (with_reducible first | exact HB.out | apply below_alloc | apply pw_below_drewN | apply below_drew1 | refine below_set ?_ (IsS148.ge HI895.out) | refine below_set ?_ GE892.out | refine below_set ?_ GE902.out) | exact HB.out)))); have n3_ := Aside0.mk (blk_below (g := gb892) (o := .cells #[.int .i64 0, .int .i64 0, .slice none 0 0] 30 (0, 0)) (by (with_reducible repeat (first | refine blk_drewN ?_ _ | refine blk_drew ?_ | refine blk_alloc ?_ _)); exact BK892.out) hb); have n4_ := Aside0.mk (IsS148.below (by repeat (first | (with_reducible first | exact HI895.out | apply IsS148.alloc | apply IsS148.drewN | apply IsS148.drew | apply IsS148.set_1 | refine IsS148.far ?_ NB895_892.out _ | refine IsS148.far ?_ NB895_902.out _) | exact HI895.out)) hb); have n5_ := Aside0.mk (blk_below (g := gb902) (o := .cells #[.int .i64 t896, .int .i64 t897, .slice Ao38 t898.length co38] 30 (0, 0)) (by (with_reducible repeat (first | refine blk_drewN ?_ _ | refine blk_drew ?_ | refine blk_alloc ?_ _)); exact BK902.out) hb); have n6_ := Aside0.mk (below_step (by repeat (first | (with_reducible first | exact HB.out | apply below_alloc | apply pw_below_drewN | apply below_drew1 | refine below_set ?_ (IsS148.ge HI895.out) | refine below_set ?_ GE892.out | refine below_set ?_ GE902.out) | exact HB.out)) hb); clear HO900; clear HO905; clear BK892; clear HI895; clear BK902; clear HB; have HO900 := n0_; have HO905 := n1_; have HO909 := n2_; have BK892 := n3_; have HI895 := n4_; have BK902 := n5_; have HB := n6_; clear n0_ n1_ n2_ n3_ n4_ n5_ n6_; (try clear hb); (try clear hb2); (try clear hk); (try clear hi); (try clear ho0); obtain ⟨Ao42, co42, eo42⟩ := Kd.R_slice HO909.out; subst eo42) | (go_at_call 103; (with_reducible refine (spec_l6Rd_pick.calls k g895 t893 t906 2 t910 t911 w _ ?side1 ?side2 A7.out).mono ?_); (case side1 => repeat (first | (with_reducible first | exact HI895.out | apply IsS148.alloc | apply IsS148.drewN | apply IsS148.drew | apply IsS148.set_1 | refine IsS148.far ?_ NB895_892.out _ | refine IsS148.far ?_ NB895_902.out _) | exact HI895.out)); (case side2 => repeat (first | (with_reducible first | exact HB.out | apply below_alloc | apply pw_below_drewN | apply below_drew1 | refine below_set ?_ (IsS148.ge HI895.out) | refine below_set ?_ GE892.out | refine below_set ?_ GE902.out) | exact HB.out)); rintro e w43 ⟨rfl, hi, hb, hk⟩; have n0_ := Aside0.mk (KeepBut.blk hk (g' := gb892) (o := .cells #[.int .i64 0, .int .i64 0, .slice none 0 0] 30 (0, 0)) (by (with_reducible repeat (first | refine blk_drewN ?_ _ | refine blk_drew ?_ | refine blk_alloc ?_ _)); exact BK892.out) NB892_895.out (by simp)); have n1_ := Aside0.mk (Kd.N_mono (Kd.N_keep (Kd.N_mono (ok := fun k_ => ((((((w.heap.size ≤ k_)) ∧ (k_ ≠ gb892 ∧ k_ ≠ g895)) ∧ k_ ≠ gb902) ∧ some k_ ≠ (v904 : Value).ownBlock) ∧ some k_ ≠ (.slice Ao42 t907.length co42 : Value).ownBlock)) (by (with_reducible repeat (first | apply Kd.N_alloc | apply Kd.N_drewN | apply Kd.N_drew)); exact HO900.out) (fun k_ hk_ => (⟨hk_, hk_.1.1.1.2.2⟩ : _ ∧ k_ ≠ g895))) hk (fun _ h => h.2)) (fun _ h => h.1)); have n2_ := Aside0.mk (KeepBut.blk hk (g' := gb902) (o := .cells #[.int .i64 t896, .int .i64 t897, .slice Ao38 t898.length co38] 30 (0, 0)) (by (with_reducible repeat (first | refine blk_drewN ?_ _ | refine blk_drew ?_ | refine blk_alloc ?_ _)); exact BK902.out) NB902_895.out (by simp)); have n3_ := Aside0.mk (Kd.R_mono (Kd.R_keep (IsS148.apart (show IsS148 w _ g895 t893 t906 from by repeat (first | (with_reducible first | exact HI895.out | apply IsS148.alloc | apply IsS148.drewN | apply IsS148.drew | apply IsS148.set_1 | refine IsS148.far ?_ NB895_892.out _ | refine IsS148.far ?_ NB895_902.out _) | exact HI895.out)) (by (with_reducible repeat (first | apply Kd.R_alloc | apply Kd.R_drewN | apply Kd.R_drew)); exact HO905.out) (by decide)) hk (fun _ h => h.2)) (fun _ h => h.1)); have n4_ := Aside0.mk (Kd.R_mono (Kd.R_keep (IsS148.apart (show IsS148 w _ g895 t893 t906 from by repeat (first | (with_reducible first | exact HI895.out | apply IsS148.alloc | apply IsS148.drewN | apply IsS148.drew | apply IsS148.set_1 | refine IsS148.far ?_ NB895_892.out _ | refine IsS148.far ?_ NB895_902.out _) | exact HI895.out)) (by (with_reducible repeat (first | apply Kd.R_alloc | apply Kd.R_drewN | apply Kd.R_drew)); exact HO909.out) (by decide)) hk (fun _ h => h.2)) (fun _ h => h.1)); have n5_ := Aside0.mk (hb); have n6_ := Aside0.mk (hi); clear BK892; clear HO900; clear BK902; clear HO905; clear HO909; clear HB; clear HI895; have BK892 := n0_; have HO900 := n1_; have BK902 := n2_; have HO905 := n3_; have HO909 := n4_; have HB := n5_; have HI895 := n6_; clear n0_ n1_ n2_ n3_ n4_ n5_ n6_; (try clear hb); (try clear hb2); (try clear hk); (try clear hi)))
      have n0_ := Aside0.mk (Kd.N_drew HO900.out)
      have n1_ := Aside0.mk (Kd.R_drew HO905.out)
      have n2_ := Aside0.mk (Kd.R_drew HO909.out)
      have n3_ := Aside0.mk (blk_drew BK892.out)
      have n4_ := Aside0.mk (blk_drew BK902.out)
      have n5_ := Aside0.mk (IsS148.drew HI895.out)
      have n6_ := Aside0.mk (below_drew1 HB.out)
      clear HO900
      clear HO905
      clear HO909
      clear BK892
      clear BK902
      clear HI895
      clear HB
      have HO900 := n0_
      have HO905 := n1_
      have HO909 := n2_
      have BK892 := n3_
      have BK902 := n4_
      have HI895 := n5_
      have HB := n6_
      clear n0_ n1_ n2_ n3_ n4_ n5_ n6_
      refine start_ (n := 6) (S := fun w' => w'.cell? ⟨gb902, 0, none⟩ = some (.int .i64 t896) ∧ w'.cell? ⟨gb902, 1, none⟩ = some (.int .i64 t897) ∧ w'.cell? ⟨gb902, 2, none⟩ = some (.slice Ao38 t898.length co38)) (ds := []) #[false, false, false, false, false, false] (by kernel_rfl) rfl rfl ⟨(blk_cell BK902.out 0).trans rfl, (blk_cell BK902.out 1).trans rfl, (blk_cell BK902.out 2).trans rfl⟩ (fun hHeld => ?_)
      generalize w43.drew = w44 at HO900 HO905 HO909 BK892 BK902 HI895 HB hHeld ⊢
      refine pure_ (i := 0) (N := some 31) (v := ?_) (a' := ?_) #[true, false, false, false, false, false] rfl rfl (by kernel_rfl) (fun _ _ _ h => h) (Or.inl ⟨by rfl, ?_⟩) ?_ ?_
      rotate_left
      · intro w'
        go_simp
        with_reducible rfl
      rotate_left
      · simp only [Act.put, List.setIfInBounds_toArray, List.set_cons_zero, List.set_cons_succ, i64_w, i32_w]
        rfl
      refine pure_ (i := 2) (N := some 33) (v := ?_) (a' := ?_) #[true, false, true, false, false, false] rfl rfl (by kernel_rfl) (fun _ _ _ h => h) (Or.inl ⟨by rfl, ?_⟩) ?_ ?_
      rotate_left
      · intro w'
        go_simp
        with_reducible rfl
      rotate_left
      · simp only [Act.put, List.setIfInBounds_toArray, List.set_cons_zero, List.set_cons_succ, i64_w, i32_w]
        rfl
      refine pure_ (i := 3) (N := some 2) (v := ?_) (a' := ?_) #[true, false, true, true, false, false] rfl rfl (by kernel_rfl) (fun _ _ _ h => h) (Or.inl ⟨by rfl, ?_⟩) ?_ ?_
      rotate_left
      · intro w'
        go_simp
        with_reducible rfl
      rotate_left
      · simp only [Act.put, List.setIfInBounds_toArray, List.set_cons_zero, List.set_cons_succ, i64_w, i32_w]
        rfl
      refine take_ (i := 1) (N := some 32) (v := ?_) (a' := ?_) #[true, true, true, true, false, false] rfl rfl (by kernel_rfl) (fun _ _ _ h => h) (Or.inl ⟨by rfl, ?_⟩) hHeld ?_ ?_
      rotate_left
      · rintro w' ⟨s0, s1, s2⟩
        go_simp
        with_reducible rfl
      rotate_left
      · simp only [Act.put, List.setIfInBounds_toArray, List.set_cons_zero, List.set_cons_succ, i64_w, i32_w]
        rfl
      refine one_ (i := 4) (N := none) #[true, true, true, true, true, false] rfl rfl (by kernel_rfl) (by decide) (fun K hK => ?_)
      have hs45 : w44.cell? ⟨gb892, 0, none⟩ = some (.int .i64 0) := (blk_cell BK892.out 0).trans rfl
      have hfs45 := blk_frozen BK892.out 0
      have hns45_1 := NB902_892.out
      have hms45_1 := NB892_902.out
      have hs46 : w44.cell? ⟨gb892, 1, none⟩ = some (.int .i64 0) := (blk_cell BK892.out 1).trans rfl
      have hfs46 := blk_frozen BK892.out 1
      have hns46_1 := NB902_892.out
      have hms46_1 := NB892_902.out
      have hs47 : w44.cell? ⟨gb892, 2, none⟩ = some (.slice none 0 0) := (blk_cell BK892.out 2).trans rfl
      have hfs47 := blk_frozen BK892.out 2
      have hns47_1 := NB902_892.out
      have hms47_1 := NB892_902.out
      refine skip_ (w1 := ?_) (by rfl) rfl ?_ ?_
      rotate_left
      · go_simp
        rfl
      refine hK.out _ _ ⟨((cell_far (p := ⟨gb892, _, none⟩) NB902_892.out _).trans (((cell_far (p := ⟨gb892, _, none⟩) NB902_892.out _).trans (((cell_far (p := ⟨gb892, _, none⟩) NB902_892.out _).trans (hHeld.1)))))), ((cell_far (p := ⟨gb892, _, none⟩) NB902_892.out _).trans (((cell_far (p := ⟨gb892, _, none⟩) NB902_892.out _).trans (((cell_far (p := ⟨gb892, _, none⟩) NB902_892.out _).trans (hHeld.2.1)))))), ((cell_far (p := ⟨gb892, _, none⟩) NB902_892.out _).trans (((cell_far (p := ⟨gb892, _, none⟩) NB902_892.out _).trans (((cell_far (p := ⟨gb892, _, none⟩) NB902_892.out _).trans (hHeld.2.2))))))⟩ (fun hHeld => ?_)
      clear hK K
      refine pure_ (i := 5) (N := some 4) (v := ?_) (a' := ?_) #[true, true, true, true, true, true] rfl rfl (by kernel_rfl) (fun _ _ _ h => h) (Or.inl ⟨by rfl, ?_⟩) ?_ ?_
      rotate_left
      · intro w'
        go_simp
        with_reducible rfl
      rotate_left
      · simp only [Act.put, List.setIfInBounds_toArray, List.set_cons_zero, List.set_cons_succ, i64_w, i32_w]
        rfl
      refine done_ (by kernel_rfl) ?_
      try go_wp2
      refine bodyPost_ret (results_list (rs := [.tmp 2, .cell 3 30, .tmp 4]) rfl (by simp) (.tmp (.cell gb892 30 #[.int .i64 t896, .int .i64 t897, .slice Ao38 t898.length co38] (0, 0) _ rfl (by (with_reducible repeat (first | refine blk_drewN ?_ _ | refine blk_drew ?_ | refine blk_alloc ?_ _)); refine blk_put (cs := #[.int .i64 t896, .int .i64 t897, .slice none 0 0]) ?_ 2 _ rfl; (with_reducible repeat (first | refine blk_drewN ?_ _ | refine blk_drew ?_ | refine blk_alloc ?_ _)); refine blk_put (cs := #[.int .i64 t896, .int .i64 0, .slice none 0 0]) ?_ 1 _ rfl; (with_reducible repeat (first | refine blk_drewN ?_ _ | refine blk_drew ?_ | refine blk_alloc ?_ _)); refine blk_put (cs := #[.int .i64 0, .int .i64 0, .slice none 0 0]) ?_ 0 _ rfl; (with_reducible repeat (first | refine blk_drewN ?_ _ | refine blk_drew ?_ | refine blk_alloc ?_ _)); exact BK892.out) Try.underlying30 rfl (by kernel_rfl) (.tmp .nil)))) rfl ?_
      exact ⟨_, _, _, by first | rfl | (simp [errW_none, errW_some] <;> rfl) | (simp [*, errW_none, errW_some] <;> rfl), Kd.Q_of_R (by (with_reducible repeat (first | apply Kd.R_alloc | apply Kd.R_drewN | apply Kd.R_drew)); exact Kd.R_mono (Kd.R_far (p := ⟨gb892, 2, none⟩) (Kd.R_far (p := ⟨gb892, 1, none⟩) (Kd.R_far (p := ⟨gb892, 0, none⟩) (Kd.R_types HO909.out BK892.out (by decide)) (fun _ hk => hk.2) (.int .i64 t896)) (fun _ hk => hk.2) (.int .i64 t897)) (fun _ hk => hk.2) (.slice Ao38 t898.length co38)) (fun _ hk => ⟨hk.1.1.1, hk.1.2⟩)), by (with_reducible repeat (first | apply Kd.N_alloc | apply Kd.N_drewN | apply Kd.N_drew)); exact Kd.N_mono (Kd.N_far (p := ⟨gb892, 2, none⟩) (Kd.N_far (p := ⟨gb892, 1, none⟩) (Kd.N_far (p := ⟨gb892, 0, none⟩) (Kd.N_mono HO900.out (fun k_ hk => (⟨hk, hk.1.1.1.2.1⟩ : _ ∧ k_ ≠ gb892))) (fun _ hk => hk.2) (.int .i64 t896)) (fun _ hk => hk.2) (.int .i64 t897)) (fun _ hk => hk.2) (.slice Ao38 t898.length co38)) (fun _ hk => ⟨hk.1.1.1.1.1, ⟨hk.1.2, hk.1.1.2⟩⟩), by (with_reducible repeat (first | apply Kd.R_alloc | apply Kd.R_drewN | apply Kd.R_drew)); exact Kd.R_mono (Kd.R_far (p := ⟨gb892, 2, none⟩) (Kd.R_far (p := ⟨gb892, 1, none⟩) (Kd.R_far (p := ⟨gb892, 0, none⟩) (Kd.R_types HO905.out BK892.out (by decide)) (fun _ hk => hk.2) (.int .i64 t896)) (fun _ hk => hk.2) (.int .i64 t897)) (fun _ hk => hk.2) (.slice Ao38 t898.length co38)) (fun _ hk => ⟨hk.1.1.1, hk.1.2⟩), by repeat (first | (with_reducible first | exact HB.out | apply below_alloc | apply pw_below_drewN | apply below_drew1 | refine below_set ?_ (IsS148.ge HI895.out) | refine below_set ?_ GE892.out | refine below_set ?_ GE902.out) | exact HB.out)⟩
  · rw [if_neg c6] at H
    have c6b0 : decide (0 < (t907.length : Int)) = false := decide_eq_false c6
    have c6b1 : decide (0 < t907.length) = false := decide_eq_false (by omega)
    clear c6
    simp only [Option.some.injEq, Prod.mk.injEq] at H
    obtain ⟨rfl, rfl, rfl, rfl, rfl⟩ := H
    go_enter Try.func48, Try.ntmps48
    try go_wp2_with (first | ((with_reducible refine gate_dst (N := 3) rfl ?_); refine box_event ?hg (N := 3) ?hd (cs := #[.int .i64 0, .int .i64 0, .slice none 0 0]) (t := 30) ?hr ?_; (case hd => rfl); (case hg => rfl); (case hr => first | (go_simp; done) | (go_simp; rfl)); intro gb892 hg w48 hbox hb; have n0_ := Aside0.mk (below_step (by repeat (first | (with_reducible first | exact HB.out | apply below_alloc | apply pw_below_drewN | apply below_drew1) | exact HB.out)) hb); have n1_ := Aside0.mk (hbox); have n2_ := Aside0.mk ((by rw [hg]; exact (below_size (by repeat (first | (with_reducible first | exact HB.out | apply below_alloc | apply pw_below_drewN | apply below_drew1) | exact HB.out))) : w.heap.size ≤ gb892)); have n3_ := Aside0.mk ((by rw [hg]; exact (below_size (by repeat (first | (with_reducible first | exact HB.out | apply below_alloc | apply pw_below_drewN | apply below_drew1) | exact HB.out))) : w.heap.size ≤ gb892)); clear HB; have HB := n0_; have BK892 := n1_; have GW892 := n2_; have GE892 := n3_; clear n0_ n1_ n2_ n3_; clear hb hbox hg) | ((with_reducible refine gate_callee (f := 75) rfl ?_); refine goesL_ (some 10) rfl rfl Try.func75 (by kernel_rfl) rfl #[.slice A0 l0.length c0] rfl (by (try simp only [List.map_toArray, List.map_cons, List.map_nil]); first | done | rfl | (simp only [List.length_drop, List.length_take]; rfl)) ?_; (with_reducible refine (spec_l6Open.calls _ _ l0 t893 t894 w _ ?side1 ?side2 ?side3 A2.out).mono ?_); (case side1 => repeat (first | (with_reducible first | exact HB.out | apply below_alloc | apply pw_below_drewN | apply below_drew1 | refine below_set ?_ GE892.out) | exact HB.out)); (case side2 => exact HR0.out); (case side3 => exact HC0.out); rintro e w49 ⟨g895, rfl, hi, hb, hb2⟩; refine ⟨_, rfl, ?_⟩; have n0_ := Aside0.mk (blk_below (g := gb892) (o := .cells #[.int .i64 0, .int .i64 0, .slice none 0 0] 30 (0, 0)) (by (with_reducible repeat (first | refine blk_drewN ?_ _ | refine blk_drew ?_ | refine blk_alloc ?_ _)); exact BK892.out) hb2); have n1_ := Aside0.mk (hb); have n2_ := Aside0.mk (hi); have n3_ := Aside0.mk (IsS148.ne_blk hi (blk_below (g := gb892) (o := .cells #[.int .i64 0, .int .i64 0, .slice none 0 0] 30 (0, 0)) (by (with_reducible repeat (first | refine blk_drewN ?_ _ | refine blk_drew ?_ | refine blk_alloc ?_ _)); exact BK892.out) hb2) (by decide)); have n4_ := Aside0.mk (Ne.symm (IsS148.ne_blk hi (blk_below (g := gb892) (o := .cells #[.int .i64 0, .int .i64 0, .slice none 0 0] 30 (0, 0)) (by (with_reducible repeat (first | refine blk_drewN ?_ _ | refine blk_drew ?_ | refine blk_alloc ?_ _)); exact BK892.out) hb2) (by decide))); clear BK892; clear HB; have BK892 := n0_; have HB := n1_; have HI895 := n2_; have NB895_892 := n3_; have NB892_895 := n4_; clear n0_ n1_ n2_ n3_ n4_; (try clear hb); (try clear hb2); (try clear hk); (try clear hi)) | ((with_reducible refine gate_callee (f := 76) rfl ?_); refine goesL_ (some 12) rfl rfl Try.func76 (by kernel_rfl) rfl #[.pointer (some ⟨g895, 0, none⟩)] rfl (by (try simp only [List.map_toArray, List.map_cons, List.map_nil]); first | done | rfl | (simp only [List.length_drop, List.length_take]; rfl)) ?_; (with_reducible refine (spec_l91Any.calls k g895 t893 t894 t896 t897 t898 t901 w _ ?side1 ?side2 A3.out).mono ?_); (case side1 => repeat (first | (with_reducible first | exact HI895.out | apply IsS148.alloc | apply IsS148.drewN | apply IsS148.drew | apply IsS148.set_1 | refine IsS148.far ?_ NB895_892.out _) | exact HI895.out)); (case side2 => repeat (first | (with_reducible first | exact HB.out | apply below_alloc | apply pw_below_drewN | apply below_drew1 | refine below_set ?_ (IsS148.ge HI895.out) | refine below_set ?_ GE892.out) | exact HB.out)); rintro e w50 ⟨v899, rfl, ho0, hi, hb, hk⟩; refine ⟨_, rfl, ?_⟩; have n0_ := Aside0.mk (KeepBut.blk hk (g' := gb892) (o := .cells #[.int .i64 0, .int .i64 0, .slice none 0 0] 30 (0, 0)) (by (with_reducible repeat (first | refine blk_drewN ?_ _ | refine blk_drew ?_ | refine blk_alloc ?_ _)); exact BK892.out) NB892_895.out (by simp)); have n1_ := Aside0.mk (Kd.N_lower (Kd.N_mono (ok' := fun k_ => (w.heap.size ≤ k_) ∧ k_ ≠ gb892 ∧ k_ ≠ g895) ho0 (fun k_ hk_ => ⟨(Nat.le_trans (below_size (by repeat (first | (with_reducible first | exact HB.out | apply below_alloc | apply pw_below_drewN | apply below_drew1 | refine below_set ?_ (IsS148.ge HI895.out) | refine below_set ?_ GE892.out) | exact HB.out))) hk_), (Kd.freshB (g := gb892) (o := .cells #[.int .i64 0, .int .i64 0, .slice none 0 0] 30 (0, 0)) (by (with_reducible repeat (first | refine blk_drewN ?_ _ | refine blk_drew ?_ | refine blk_alloc ?_ _)); exact BK892.out) k_ hk_), (IsS148.fresh (by repeat (first | (with_reducible first | exact HI895.out | apply IsS148.alloc | apply IsS148.drewN | apply IsS148.drew | apply IsS148.set_1 | refine IsS148.far ?_ NB895_892.out _) | exact HI895.out)) k_ hk_)⟩)) (below_size (by repeat (first | (with_reducible first | exact HB.out | apply below_alloc | apply pw_below_drewN | apply below_drew1 | refine below_set ?_ (IsS148.ge HI895.out) | refine below_set ?_ GE892.out) | exact HB.out)))); have n2_ := Aside0.mk (hb); have n3_ := Aside0.mk (hi); clear BK892; clear HB; clear HI895; have BK892 := n0_; have HO900 := n1_; have HB := n2_; have HI895 := n3_; clear n0_ n1_ n2_ n3_; (try clear hb); (try clear hb2); (try clear hk); (try clear hi); (try clear ho0)) | ((with_reducible refine gate_dst (N := 6) rfl ?_); refine box_event ?hg (N := 6) ?hd (cs := #[.int .i64 0, .int .i64 0, .slice none 0 0]) (t := 30) ?hr ?_; (case hd => rfl); (case hg => rfl); (case hr => first | (go_simp; done) | (go_simp; rfl)); intro gb902 hg w51 hbox hb; have n0_ := Aside0.mk (Kd.N_below (Kd.N_elderB (by (with_reducible repeat (first | apply Kd.N_alloc | apply Kd.N_drewN | apply Kd.N_drew)); exact HO900.out) gb902 (Nat.le_of_eq hg.symm)) hb); have n1_ := Aside0.mk (blk_below (g := gb892) (o := .cells #[.int .i64 0, .int .i64 0, .slice none 0 0] 30 (0, 0)) (by (with_reducible repeat (first | refine blk_drewN ?_ _ | refine blk_drew ?_ | refine blk_alloc ?_ _)); exact BK892.out) hb); have n2_ := Aside0.mk (IsS148.below (by repeat (first | (with_reducible first | exact HI895.out | apply IsS148.alloc | apply IsS148.drewN | apply IsS148.drew | apply IsS148.set_1 | refine IsS148.far ?_ NB895_892.out _) | exact HI895.out)) hb); have n3_ := Aside0.mk (below_step (by repeat (first | (with_reducible first | exact HB.out | apply below_alloc | apply pw_below_drewN | apply below_drew1 | refine below_set ?_ (IsS148.ge HI895.out) | refine below_set ?_ GE892.out) | exact HB.out)) hb); have n4_ := Aside0.mk (hbox); have n5_ := Aside0.mk ((by rw [hg]; exact (below_size (by repeat (first | (with_reducible first | exact HB.out | apply below_alloc | apply pw_below_drewN | apply below_drew1 | refine below_set ?_ (IsS148.ge HI895.out) | refine below_set ?_ GE892.out) | exact HB.out))) : w.heap.size ≤ gb902)); have n6_ := Aside0.mk ((by rw [hg]; exact (below_size (by repeat (first | (with_reducible first | exact HB.out | apply below_alloc | apply pw_below_drewN | apply below_drew1 | refine below_set ?_ (IsS148.ge HI895.out) | refine below_set ?_ GE892.out) | exact HB.out))) : w.heap.size ≤ gb902)); have n7_ := Aside0.mk ((by rw [hg]; exact Nat.ne_of_lt (blk_lt (g := gb892) (o := .cells #[.int .i64 0, .int .i64 0, .slice none 0 0] 30 (0, 0)) (by (with_reducible repeat (first | refine blk_drewN ?_ _ | refine blk_drew ?_ | refine blk_alloc ?_ _)); exact BK892.out)) : gb892 ≠ gb902)); have n8_ := Aside0.mk ((by rw [hg]; exact Nat.ne_of_gt (blk_lt (g := gb892) (o := .cells #[.int .i64 0, .int .i64 0, .slice none 0 0] 30 (0, 0)) (by (with_reducible repeat (first | refine blk_drewN ?_ _ | refine blk_drew ?_ | refine blk_alloc ?_ _)); exact BK892.out)) : gb902 ≠ gb892)); have n9_ := Aside0.mk ((by rw [hg]; exact Nat.ne_of_lt (IsS148.lt (show IsS148 w _ g895 t893 t901 from by repeat (first | (with_reducible first | exact HI895.out | apply IsS148.alloc | apply IsS148.drewN | apply IsS148.drew | apply IsS148.set_1 | refine IsS148.far ?_ NB895_892.out _) | exact HI895.out))) : g895 ≠ gb902)); have n10_ := Aside0.mk ((by rw [hg]; exact Nat.ne_of_gt (IsS148.lt (show IsS148 w _ g895 t893 t901 from by repeat (first | (with_reducible first | exact HI895.out | apply IsS148.alloc | apply IsS148.drewN | apply IsS148.drew | apply IsS148.set_1 | refine IsS148.far ?_ NB895_892.out _) | exact HI895.out))) : gb902 ≠ g895)); clear HO900; clear BK892; clear HI895; clear HB; have HO900 := n0_; have BK892 := n1_; have HI895 := n2_; have HB := n3_; have BK902 := n4_; have GW902 := n5_; have GE902 := n6_; have NB892_902 := n7_; have NB902_892 := n8_; have NB895_902 := n9_; have NB902_895 := n10_; clear n0_ n1_ n2_ n3_ n4_ n5_ n6_ n7_ n8_ n9_ n10_; clear hb hbox hg; have hnb52 := NB902_892.out; have hnc52 := NB892_902.out; have hnb53 := NB902_895.out; have hnc53 := NB895_902.out; have hcz54_0 : w51.cell? ⟨gb902, 0, none⟩ = some (.int .i64 0) := (blk_cell BK902.out 0).trans rfl; have hcz54_1 : w51.cell? ⟨gb902, 1, none⟩ = some (.int .i64 0) := (blk_cell BK902.out 1).trans rfl; have hcz54_2 : w51.cell? ⟨gb902, 2, none⟩ = some (.slice none 0 0) := (blk_cell BK902.out 2).trans rfl; have hfz54_0 := blk_frozen BK902.out 0; have hfz54_1 := blk_frozen BK902.out 1; have hfz54_2 := blk_frozen BK902.out 2; obtain ⟨Ao55, co55, eo55⟩ := Kd.N_slice HO900.out; subst eo55) | ((with_reducible refine gate_callee (f := 78) rfl ?_); refine goesL_ (some 14) rfl rfl Try.func78 (by kernel_rfl) rfl #[.pointer (some ⟨g895, 0, none⟩)] rfl (by (try simp only [List.map_toArray, List.map_cons, List.map_nil]); first | done | rfl | (simp only [List.length_drop, List.length_take]; rfl)) ?_; (with_reducible refine (spec_l91Values.calls k g895 t893 t901 t903 t906 w _ ?side1 ?side2 A4.out).mono ?_); (case side1 => repeat (first | (with_reducible first | exact HI895.out | apply IsS148.alloc | apply IsS148.drewN | apply IsS148.drew | apply IsS148.set_1 | refine IsS148.far ?_ NB895_892.out _ | refine IsS148.far ?_ NB895_902.out _) | exact HI895.out)); (case side2 => repeat (first | (with_reducible first | exact HB.out | apply below_alloc | apply pw_below_drewN | apply below_drew1 | refine below_set ?_ (IsS148.ge HI895.out) | refine below_set ?_ GE892.out | refine below_set ?_ GE902.out) | exact HB.out)); rintro e w56 ⟨v904, rfl, ho0, hi, hb, hk⟩; refine ⟨_, rfl, ?_⟩; have n0_ := Aside0.mk (KeepBut.blk hk (g' := gb892) (o := .cells #[.int .i64 0, .int .i64 0, .slice none 0 0] 30 (0, 0)) (by (with_reducible repeat (first | refine blk_drewN ?_ _ | refine blk_drew ?_ | refine blk_alloc ?_ _)); refine blk_far ?_ NB892_902.out _; (with_reducible repeat (first | refine blk_drewN ?_ _ | refine blk_drew ?_ | refine blk_alloc ?_ _)); refine blk_far ?_ NB892_902.out _; (with_reducible repeat (first | refine blk_drewN ?_ _ | refine blk_drew ?_ | refine blk_alloc ?_ _)); refine blk_far ?_ NB892_902.out _; (with_reducible repeat (first | refine blk_drewN ?_ _ | refine blk_drew ?_ | refine blk_alloc ?_ _)); exact BK892.out) NB892_895.out (by simp)); have n1_ := Aside0.mk (Kd.N_mono (Kd.N_told (Kd.N_oldK (Kd.N_mono (ok := fun k_ => ((((w.heap.size ≤ k_)) ∧ (k_ ≠ gb892 ∧ k_ ≠ g895)) ∧ k_ ≠ gb902)) (by (with_reducible repeat (first | apply Kd.N_alloc | apply Kd.N_drewN | apply Kd.N_drew)); exact (Kd.N_mono (Kd.N_far (p := ⟨gb902, 2, none⟩) (Kd.N_far (p := ⟨gb902, 1, none⟩) (Kd.N_far (p := ⟨gb902, 0, none⟩) (Kd.N_mono HO900.out (fun k_ hk => (⟨hk, hk.2⟩ : _ ∧ k_ ≠ gb902))) (fun _ hk => hk.2) (.int .i64 t896)) (fun _ hk => hk.2) (.int .i64 t897)) (fun _ hk => hk.2) (.slice Ao55 t898.length co55)) (fun _ h_ => h_.1))) (fun k_ hk_ => (⟨hk_, hk_.1.2.2⟩ : _ ∧ k_ ≠ g895))) hk) (Kd.R_base ho0)) (fun _ h_ => h_.1)); have n2_ := Aside0.mk (KeepBut.blk hk (g' := gb902) (o := .cells #[.int .i64 t896, .int .i64 t897, .slice Ao55 t898.length co55] 30 (0, 0)) (by (with_reducible repeat (first | refine blk_drewN ?_ _ | refine blk_drew ?_ | refine blk_alloc ?_ _)); refine blk_put (cs := #[.int .i64 t896, .int .i64 t897, .slice none 0 0]) ?_ 2 _ rfl; (with_reducible repeat (first | refine blk_drewN ?_ _ | refine blk_drew ?_ | refine blk_alloc ?_ _)); refine blk_put (cs := #[.int .i64 t896, .int .i64 0, .slice none 0 0]) ?_ 1 _ rfl; (with_reducible repeat (first | refine blk_drewN ?_ _ | refine blk_drew ?_ | refine blk_alloc ?_ _)); refine blk_put (cs := #[.int .i64 0, .int .i64 0, .slice none 0 0]) ?_ 0 _ rfl; (with_reducible repeat (first | refine blk_drewN ?_ _ | refine blk_drew ?_ | refine blk_alloc ?_ _)); exact BK902.out) NB902_895.out (by simp)); have n3_ := Aside0.mk (Kd.R_lower (Kd.R_newM (M := fun k_ => (w.heap.size ≤ k_)) ho0 (below_size (by repeat (first | (with_reducible first | exact HB.out | apply below_alloc | apply pw_below_drewN | apply below_drew1 | refine below_set ?_ (IsS148.ge HI895.out) | refine below_set ?_ GE892.out | refine below_set ?_ GE902.out) | exact HB.out))) (fun k_ h_ => h_)) (below_size (by repeat (first | (with_reducible first | exact HB.out | apply below_alloc | apply pw_below_drewN | apply below_drew1 | refine below_set ?_ (IsS148.ge HI895.out) | refine below_set ?_ GE892.out | refine below_set ?_ GE902.out) | exact HB.out)))); have n4_ := Aside0.mk (hb); have n5_ := Aside0.mk (hi); clear BK892; clear HO900; clear BK902; clear HB; clear HI895; have BK892 := n0_; have HO900 := n1_; have BK902 := n2_; have HO905 := n3_; have HB := n4_; have HI895 := n5_; clear n0_ n1_ n2_ n3_ n4_ n5_; (try clear hb); (try clear hb2); (try clear hk); (try clear hi); (try clear ho0); have hcz57_0 : w56.cell? ⟨gb902, 0, none⟩ = some (.int .i64 t896) := (blk_cell BK902.out 0).trans rfl; have hcz57_1 : w56.cell? ⟨gb902, 1, none⟩ = some (.int .i64 t897) := (blk_cell BK902.out 1).trans rfl; have hcz57_2 : w56.cell? ⟨gb902, 2, none⟩ = some (.slice Ao55 t898.length co55) := (blk_cell BK902.out 2).trans rfl; have hfz57_0 := blk_frozen BK902.out 0; have hfz57_1 := blk_frozen BK902.out 1; have hfz57_2 := blk_frozen BK902.out 2) | ((with_reducible refine gate_callee (f := 16) rfl ?_); refine goesL_ (some 16) rfl rfl Try.func16 (by kernel_rfl) rfl #[.agg #[.int .i64 t896, .int .i64 t897, .slice Ao55 t898.length co55]] rfl (by (try simp only [List.map_toArray, List.map_cons, List.map_nil]); first | done | rfl | (simp only [List.length_drop, List.length_take]; rfl)) ?_; (with_reducible refine (spec_TaskMay.calls k t896 t897 _ _ t898 t907 _ ?side1 ?side2 A5.out).mono ?_); (case side1 => repeat (first | exact (Kd.N_reads' HO900.out).2.2 | (with_reducible refine Kd.C_alloc ?_ _) | (with_reducible refine Kd.C_drewN ?_ _) | (with_reducible refine Kd.C_drew ?_))); (case side2 => exact (Kd.N_reads' HO900.out).2.1); rintro e w58 ⟨v908, rfl, ho0, hb⟩; refine ⟨_, rfl, ?_⟩; have n0_ := Aside0.mk (Kd.N_elder' (by (with_reducible repeat (first | apply Kd.N_alloc | apply Kd.N_drewN | apply Kd.N_drew)); exact HO900.out) (Kd.R_base ho0) hb); have n1_ := Aside0.mk (Kd.R_elder' (by (with_reducible repeat (first | apply Kd.R_alloc | apply Kd.R_drewN | apply Kd.R_drew)); exact HO905.out) (Kd.R_base ho0) hb); have n2_ := Aside0.mk (Kd.R_lower (Kd.R_new' (Kd.R_newM (M := fun k_ => (w.heap.size ≤ k_)) ho0 (below_size (by repeat (first | (with_reducible first | exact HB.out | apply below_alloc | apply pw_below_drewN | apply below_drew1 | refine below_set ?_ (IsS148.ge HI895.out) | refine below_set ?_ GE892.out | refine below_set ?_ GE902.out) | exact HB.out))) (fun k_ h_ => h_)) (Kd.R_lt (by (with_reducible repeat (first | apply Kd.R_alloc | apply Kd.R_drewN | apply Kd.R_drew)); exact HO905.out))) (below_size (by repeat (first | (with_reducible first | exact HB.out | apply below_alloc | apply pw_below_drewN | apply below_drew1 | refine below_set ?_ (IsS148.ge HI895.out) | refine below_set ?_ GE892.out | refine below_set ?_ GE902.out) | exact HB.out)))); have n3_ := Aside0.mk (blk_below (g := gb892) (o := .cells #[.int .i64 0, .int .i64 0, .slice none 0 0] 30 (0, 0)) (by (with_reducible repeat (first | refine blk_drewN ?_ _ | refine blk_drew ?_ | refine blk_alloc ?_ _)); exact BK892.out) hb); have n4_ := Aside0.mk (IsS148.below (by repeat (first | (with_reducible first | exact HI895.out | apply IsS148.alloc | apply IsS148.drewN | apply IsS148.drew | apply IsS148.set_1 | refine IsS148.far ?_ NB895_892.out _ | refine IsS148.far ?_ NB895_902.out _) | exact HI895.out)) hb); have n5_ := Aside0.mk (blk_below (g := gb902) (o := .cells #[.int .i64 t896, .int .i64 t897, .slice Ao55 t898.length co55] 30 (0, 0)) (by (with_reducible repeat (first | refine blk_drewN ?_ _ | refine blk_drew ?_ | refine blk_alloc ?_ _)); exact BK902.out) hb); have n6_ := Aside0.mk (below_step (by repeat (first | (with_reducible first | exact HB.out | apply below_alloc | apply pw_below_drewN | apply below_drew1 | refine below_set ?_ (IsS148.ge HI895.out) | refine below_set ?_ GE892.out | refine below_set ?_ GE902.out) | exact HB.out)) hb); clear HO900; clear HO905; clear BK892; clear HI895; clear BK902; clear HB; have HO900 := n0_; have HO905 := n1_; have HO909 := n2_; have BK892 := n3_; have HI895 := n4_; have BK902 := n5_; have HB := n6_; clear n0_ n1_ n2_ n3_ n4_ n5_ n6_; (try clear hb); (try clear hb2); (try clear hk); (try clear hi); (try clear ho0); obtain ⟨Ao59, co59, eo59⟩ := Kd.R_slice HO909.out; subst eo59))
    have n0_ := Aside0.mk (Kd.N_drew HO900.out)
    have n1_ := Aside0.mk (Kd.R_drew HO905.out)
    have n2_ := Aside0.mk (Kd.R_drew HO909.out)
    have n3_ := Aside0.mk (blk_drew BK892.out)
    have n4_ := Aside0.mk (blk_drew BK902.out)
    have n5_ := Aside0.mk (IsS148.drew HI895.out)
    have n6_ := Aside0.mk (below_drew1 HB.out)
    clear HO900
    clear HO905
    clear HO909
    clear BK892
    clear BK902
    clear HI895
    clear HB
    have HO900 := n0_
    have HO905 := n1_
    have HO909 := n2_
    have BK892 := n3_
    have BK902 := n4_
    have HI895 := n5_
    have HB := n6_
    clear n0_ n1_ n2_ n3_ n4_ n5_ n6_
    refine start_ (n := 6) (S := fun w' => w'.cell? ⟨gb902, 0, none⟩ = some (.int .i64 t896) ∧ w'.cell? ⟨gb902, 1, none⟩ = some (.int .i64 t897) ∧ w'.cell? ⟨gb902, 2, none⟩ = some (.slice Ao55 t898.length co55)) (ds := []) #[false, false, false, false, false, false] (by kernel_rfl) rfl rfl ⟨(blk_cell BK902.out 0).trans rfl, (blk_cell BK902.out 1).trans rfl, (blk_cell BK902.out 2).trans rfl⟩ (fun hHeld => ?_)
    generalize w58.drew = w60 at HO900 HO905 HO909 BK892 BK902 HI895 HB hHeld ⊢
    refine pure_ (i := 0) (N := some 31) (v := ?_) (a' := ?_) #[true, false, false, false, false, false] rfl rfl (by kernel_rfl) (fun _ _ _ h => h) (Or.inl ⟨by rfl, ?_⟩) ?_ ?_
    rotate_left
    · intro w'
      go_simp
      with_reducible rfl
    rotate_left
    · simp only [Act.put, List.setIfInBounds_toArray, List.set_cons_zero, List.set_cons_succ, i64_w, i32_w]
      rfl
    refine pure_ (i := 2) (N := some 33) (v := ?_) (a' := ?_) #[true, false, true, false, false, false] rfl rfl (by kernel_rfl) (fun _ _ _ h => h) (Or.inl ⟨by rfl, ?_⟩) ?_ ?_
    rotate_left
    · intro w'
      go_simp
      with_reducible rfl
    rotate_left
    · simp only [Act.put, List.setIfInBounds_toArray, List.set_cons_zero, List.set_cons_succ, i64_w, i32_w]
      rfl
    refine pure_ (i := 3) (N := some 2) (v := ?_) (a' := ?_) #[true, false, true, true, false, false] rfl rfl (by kernel_rfl) (fun _ _ _ h => h) (Or.inl ⟨by rfl, ?_⟩) ?_ ?_
    rotate_left
    · intro w'
      go_simp
      with_reducible rfl
    rotate_left
    · simp only [Act.put, List.setIfInBounds_toArray, List.set_cons_zero, List.set_cons_succ, i64_w, i32_w]
      rfl
    refine take_ (i := 1) (N := some 32) (v := ?_) (a' := ?_) #[true, true, true, true, false, false] rfl rfl (by kernel_rfl) (fun _ _ _ h => h) (Or.inl ⟨by rfl, ?_⟩) hHeld ?_ ?_
    rotate_left
    · rintro w' ⟨s0, s1, s2⟩
      go_simp
      with_reducible rfl
    rotate_left
    · simp only [Act.put, List.setIfInBounds_toArray, List.set_cons_zero, List.set_cons_succ, i64_w, i32_w]
      rfl
    refine one_ (i := 4) (N := none) #[true, true, true, true, true, false] rfl rfl (by kernel_rfl) (by decide) (fun K hK => ?_)
    have hs61 : w60.cell? ⟨gb892, 0, none⟩ = some (.int .i64 0) := (blk_cell BK892.out 0).trans rfl
    have hfs61 := blk_frozen BK892.out 0
    have hns61_1 := NB902_892.out
    have hms61_1 := NB892_902.out
    have hs62 : w60.cell? ⟨gb892, 1, none⟩ = some (.int .i64 0) := (blk_cell BK892.out 1).trans rfl
    have hfs62 := blk_frozen BK892.out 1
    have hns62_1 := NB902_892.out
    have hms62_1 := NB892_902.out
    have hs63 : w60.cell? ⟨gb892, 2, none⟩ = some (.slice none 0 0) := (blk_cell BK892.out 2).trans rfl
    have hfs63 := blk_frozen BK892.out 2
    have hns63_1 := NB902_892.out
    have hms63_1 := NB892_902.out
    refine skip_ (w1 := ?_) (by rfl) rfl ?_ ?_
    rotate_left
    · go_simp
      rfl
    refine hK.out _ _ ⟨((cell_far (p := ⟨gb892, _, none⟩) NB902_892.out _).trans (((cell_far (p := ⟨gb892, _, none⟩) NB902_892.out _).trans (((cell_far (p := ⟨gb892, _, none⟩) NB902_892.out _).trans (hHeld.1)))))), ((cell_far (p := ⟨gb892, _, none⟩) NB902_892.out _).trans (((cell_far (p := ⟨gb892, _, none⟩) NB902_892.out _).trans (((cell_far (p := ⟨gb892, _, none⟩) NB902_892.out _).trans (hHeld.2.1)))))), ((cell_far (p := ⟨gb892, _, none⟩) NB902_892.out _).trans (((cell_far (p := ⟨gb892, _, none⟩) NB902_892.out _).trans (((cell_far (p := ⟨gb892, _, none⟩) NB902_892.out _).trans (hHeld.2.2))))))⟩ (fun hHeld => ?_)
    clear hK K
    refine pure_ (i := 5) (N := some 4) (v := ?_) (a' := ?_) #[true, true, true, true, true, true] rfl rfl (by kernel_rfl) (fun _ _ _ h => h) (Or.inl ⟨by rfl, ?_⟩) ?_ ?_
    rotate_left
    · intro w'
      go_simp
      with_reducible rfl
    rotate_left
    · simp only [Act.put, List.setIfInBounds_toArray, List.set_cons_zero, List.set_cons_succ, i64_w, i32_w]
      rfl
    refine done_ (by kernel_rfl) ?_
    try go_wp2
    refine bodyPost_ret (results_list (rs := [.tmp 2, .cell 3 30, .tmp 4]) rfl (by simp) (.tmp (.cell gb892 30 #[.int .i64 t896, .int .i64 t897, .slice Ao55 t898.length co55] (0, 0) _ rfl (by (with_reducible repeat (first | refine blk_drewN ?_ _ | refine blk_drew ?_ | refine blk_alloc ?_ _)); refine blk_put (cs := #[.int .i64 t896, .int .i64 t897, .slice none 0 0]) ?_ 2 _ rfl; (with_reducible repeat (first | refine blk_drewN ?_ _ | refine blk_drew ?_ | refine blk_alloc ?_ _)); refine blk_put (cs := #[.int .i64 t896, .int .i64 0, .slice none 0 0]) ?_ 1 _ rfl; (with_reducible repeat (first | refine blk_drewN ?_ _ | refine blk_drew ?_ | refine blk_alloc ?_ _)); refine blk_put (cs := #[.int .i64 0, .int .i64 0, .slice none 0 0]) ?_ 0 _ rfl; (with_reducible repeat (first | refine blk_drewN ?_ _ | refine blk_drew ?_ | refine blk_alloc ?_ _)); exact BK892.out) Try.underlying30 rfl (by kernel_rfl) (.tmp .nil)))) rfl ?_
    exact ⟨_, _, _, by first | rfl | (simp [errW_none, errW_some] <;> rfl) | (simp [*, errW_none, errW_some] <;> rfl), Kd.Q_of_R (by (with_reducible repeat (first | apply Kd.R_alloc | apply Kd.R_drewN | apply Kd.R_drew)); exact Kd.R_mono (Kd.R_far (p := ⟨gb892, 2, none⟩) (Kd.R_far (p := ⟨gb892, 1, none⟩) (Kd.R_far (p := ⟨gb892, 0, none⟩) (Kd.R_types HO909.out BK892.out (by decide)) (fun _ hk => hk.2) (.int .i64 t896)) (fun _ hk => hk.2) (.int .i64 t897)) (fun _ hk => hk.2) (.slice Ao55 t898.length co55)) (fun _ hk => ⟨hk.1.1.1, hk.1.2⟩)), by (with_reducible repeat (first | apply Kd.N_alloc | apply Kd.N_drewN | apply Kd.N_drew)); exact Kd.N_mono (Kd.N_far (p := ⟨gb892, 2, none⟩) (Kd.N_far (p := ⟨gb892, 1, none⟩) (Kd.N_far (p := ⟨gb892, 0, none⟩) (Kd.N_mono HO900.out (fun k_ hk => (⟨hk, hk.1.1.1.2.1⟩ : _ ∧ k_ ≠ gb892))) (fun _ hk => hk.2) (.int .i64 t896)) (fun _ hk => hk.2) (.int .i64 t897)) (fun _ hk => hk.2) (.slice Ao55 t898.length co55)) (fun _ hk => ⟨hk.1.1.1.1.1, ⟨hk.1.2, hk.1.1.2⟩⟩), by (with_reducible repeat (first | apply Kd.R_alloc | apply Kd.R_drewN | apply Kd.R_drew)); exact Kd.R_mono (Kd.R_far (p := ⟨gb892, 2, none⟩) (Kd.R_far (p := ⟨gb892, 1, none⟩) (Kd.R_far (p := ⟨gb892, 0, none⟩) (Kd.R_types HO905.out BK892.out (by decide)) (fun _ hk => hk.2) (.int .i64 t896)) (fun _ hk => hk.2) (.int .i64 t897)) (fun _ hk => hk.2) (.slice Ao55 t898.length co55)) (fun _ hk => ⟨hk.1.1.1, hk.1.2⟩), by repeat (first | (with_reducible first | exact HB.out | apply below_alloc | apply pw_below_drewN | apply below_drew1 | refine below_set ?_ (IsS148.ge HI895.out) | refine below_set ?_ GE892.out | refine below_set ?_ GE902.out) | exact HB.out)⟩
end Go.Proofs.Ytgbjbpjmbghlbaa.G
end
section
namespace Go.Proofs.Ytgbjbpjmbghlbaa.G
open Go.RowKit Go.Proofs.YtgbjbpjmbghlbaaW.PrintWords Go.Proofs.YtgbjbpjmbghlbaaW.PrintLast Go.Proofs.YtgbjbpjmbghlbaaW.PrintMore
attribute [local go_sem] max2_int min2_int max_two min_two max_three min_three max_four min_four
set_option linter.unusedVariables false
set_option linter.unusedSimpArgs false
mutual
def laws_FnHiddenOf.j0 : Nat → List Int → List Int → List Int → Bool → Int → Int → List (S30) → Option (Bool)
  | 0, _, _, _, _, _, _, _ => none
  | k + 1, x3, x5, x6, x44, x929000, x929001, x929002 => if x44 = true then (none) else ((impl_TaskMay.f k x929000 x929001 x929002).bind fun t938 => ((impl_HiddenOf.f k t938 x929000 x929001 x929002 x5).bind fun bt941 => (laws_FnHiddenOf.l0 k x3 x6 bt941.1 0)))
def laws_FnHiddenOf.l0 : Nat → List Int → List Int → List Int → Int → Option (Bool)
  | 0, _, _, _, _ => none
  | k + 1, x3, x6, x10, x12 => if x12 < (x6.length : Int) then (if 0 ≤ x12 then ((laws_brHas.f k x3 (rd x6 x12)).bind fun t946 => (if t946 = true then (none) else (laws_FnHiddenOf.l0 k x3 x6 x10 (wrap64 (x12 + 1))))) else (none)) else (some ((x10.length : Int) == 0))
end
def laws_FnHiddenOf.f (k : Nat) (l0 : List Int) : Option (Bool) := if (l0.length : Int) > 1048576 then (some true) else ((spec_DrawHiddenOf.f k l0).bind fun bt917 => ((impl_HiddenOf.f k bt917.1 bt917.2.1 bt917.2.2.1 bt917.2.2.2.1 bt917.2.2.2.2).bind fun bt929 => ((spec_HiddenOf.f k bt917.1 bt917.2.1 bt917.2.2.1 bt917.2.2.2.1 bt917.2.2.2.2).bind fun bt933 => ((laws_brInts.f k bt929.1 bt933.1).bind fun t937 => (if t937 = true then (laws_FnHiddenOf.j0 k bt917.1 bt917.2.2.2.2 bt929.1 (bt929.2 != bt933.2) bt917.2.1 bt917.2.2.1 bt917.2.2.2.1) else (laws_FnHiddenOf.j0 k bt917.1 bt917.2.2.2.2 bt929.1 true bt917.2.1 bt917.2.2.1 bt917.2.2.2.1))))))
def laws_FnHiddenOf.T8 : Bool × List (List Nat × List Nat) := (true, [([], []), ([0], [0]), ([], []), ([], []), ([1, 2, 3, 1], [1, 2, 3]), ([4], [4]), ([5], [5]), ([5], [5]), ([6, 4, 0, 1, 2, 3, 4, 5, 6], [6]), ([7, 8, 0, 1, 2, 3, 4, 5, 6, 7, 8], [7])])
def laws_FnHiddenOf.B8 : List Nat := [0, 1, 0, 0, 15, 31, 63, 63, 127, 511]
theorem laws_FnHiddenOf.tab8 : rtab .any (opsOf Try.f9 8) = laws_FnHiddenOf.T8 := by kernel_rfl
theorem laws_FnHiddenOf.bits8 : waitsOk laws_FnHiddenOf.T8.2 laws_FnHiddenOf.B8 = true := by kernel_rfl
set_option maxHeartbeats 8000000 in
set_option maxRecDepth 100000 in
theorem laws_FnHiddenOf.calls (k : Nat) (A0 : Option Addr) (c0 : Nat) (l0 : List Int) (r : Bool) (w : World) (hr0 : Kd.C (Kd.int .u8) w A0 l0.length l0) (hc0 : l0.length ≤ c0) (h : laws_FnHiddenOf.f k l0 = some r) :
    Calls Try.prog 9 #[.slice A0 l0.length c0] w fun e w' => e = .returned (.bool r) ∧ Below w.heap.size w w' := by
  have hu30 := Try.underlying30
  have HR0 := Aside0.mk hr0
  have HC0 := Aside0.mk hc0
  clear hr0 hc0
  have HB := Aside0.mk (Below.refl w.heap.size w)
  have H : (if (l0.length : Int) > 1048576 then (some true) else ((spec_DrawHiddenOf.f k l0).bind fun bt917 => ((impl_HiddenOf.f k bt917.1 bt917.2.1 bt917.2.2.1 bt917.2.2.2.1 bt917.2.2.2.2).bind fun bt929 => ((spec_HiddenOf.f k bt917.1 bt917.2.1 bt917.2.2.1 bt917.2.2.2.1 bt917.2.2.2.2).bind fun bt933 => ((laws_brInts.f k bt929.1 bt933.1).bind fun t937 => (if t937 = true then (laws_FnHiddenOf.j0 k bt917.1 bt917.2.2.2.2 bt929.1 (bt929.2 != bt933.2) bt917.2.1 bt917.2.2.1 bt917.2.2.2.1) else (laws_FnHiddenOf.j0 k bt917.1 bt917.2.2.2.2 bt929.1 true bt917.2.1 bt917.2.2.1 bt917.2.2.2.1))))))) = some r := h
  clear h
  by_cases c2 : (l0.length : Int) > 1048576
  · rw [if_pos c2] at H
    have c2b0 : decide (1048576 < (l0.length : Int)) = true := decide_eq_true c2
    have c2b1 : decide (1048576 < l0.length) = true := decide_eq_true (by omega)
    clear c2
    obtain rfl := Option.some.inj H
    go_enter Try.func9, Try.ntmps9
    go_wp2
    go_ret
    exact ⟨by first | rfl | (simp [errW_none, errW_some] <;> rfl) | (simp [*, errW_none, errW_some] <;> rfl), by repeat (first | (with_reducible first | exact HB.out | apply below_alloc | apply pw_below_drewN | apply below_drew1) | exact HB.out)⟩
  · rw [if_neg c2] at H
    have c2b0 : decide (1048576 < (l0.length : Int)) = false := decide_eq_false c2
    have c2b1 : decide (1048576 < l0.length) = false := decide_eq_false (by omega)
    clear c2
    replace H := Option.bind_eq_some_iff.mp H
    obtain ⟨⟨t917, t920, t921, t922, t925⟩, A30, H⟩ := H
    replace H : ((impl_HiddenOf.f k t917 t920 t921 t922 t925).bind fun bt929 => ((spec_HiddenOf.f k t917 t920 t921 t922 t925).bind fun bt933 => ((laws_brInts.f k bt929.1 bt933.1).bind fun t937 => (if t937 = true then (laws_FnHiddenOf.j0 k t917 t925 bt929.1 (bt929.2 != bt933.2) t920 t921 t922) else (laws_FnHiddenOf.j0 k t917 t925 bt929.1 true t920 t921 t922))))) = some r := H
    have A3 := Aside0.mk A30
    clear A30
    replace H := Option.bind_eq_some_iff.mp H
    obtain ⟨⟨t929, t932⟩, A40, H⟩ := H
    replace H : ((spec_HiddenOf.f k t917 t920 t921 t922 t925).bind fun bt933 => ((laws_brInts.f k t929 bt933.1).bind fun t937 => (if t937 = true then (laws_FnHiddenOf.j0 k t917 t925 t929 (t932 != bt933.2) t920 t921 t922) else (laws_FnHiddenOf.j0 k t917 t925 t929 true t920 t921 t922)))) = some r := H
    have A4 := Aside0.mk A40
    clear A40
    replace H := Option.bind_eq_some_iff.mp H
    obtain ⟨⟨t933, t936⟩, A50, H⟩ := H
    replace H : ((laws_brInts.f k t929 t933).bind fun t937 => (if t937 = true then (laws_FnHiddenOf.j0 k t917 t925 t929 (t932 != t936) t920 t921 t922) else (laws_FnHiddenOf.j0 k t917 t925 t929 true t920 t921 t922))) = some r := H
    have A5 := Aside0.mk A50
    clear A50
    have HC6 := Aside0.mk H
    clear H
    go_enter Try.func9, Try.ntmps9
    go_upto_region 6 with (first | ((with_reducible refine gate_callee (f := 48) rfl ?_); refine goesL_ (some 18) rfl rfl Try.func48 (by kernel_rfl) rfl #[.slice A0 l0.length c0] rfl (by (try simp only [List.map_toArray, List.map_cons, List.map_nil]); first | done | rfl | (simp only [List.length_drop, List.length_take]; rfl)) ?_; (with_reducible refine (spec_DrawHiddenOf.calls k _ _ l0 t917 t920 t921 t922 t925 _ ?side1 ?side2 A3.out).mono ?_); (case side1 => repeat (first | exact HR0.out | (with_reducible refine Kd.C_alloc ?_ _) | (with_reducible refine Kd.C_drewN ?_ _) | (with_reducible refine Kd.C_drew ?_))); (case side2 => exact HC0.out); rintro e w7 ⟨v918, v923, v926, rfl, ho0, ho1, ho2, hb⟩; refine ⟨_, rfl, ?_⟩; have n0_ := Aside0.mk (Kd.Q_lower (Kd.Q_mono (ok' := fun k_ => some k_ ≠ (v926 : Value).ownBlock) ho0 (fun _ hk_ => hk_.2)) (below_size (by repeat (first | (with_reducible first | exact HB.out | apply below_alloc | apply pw_below_drewN | apply below_drew1) | exact HB.out)))); have n1_ := Aside0.mk (Kd.N_lower (Kd.N_mono (ok' := fun k_ => some k_ ≠ (v918 : Value).ownBlock ∧ some k_ ≠ (v926 : Value).ownBlock) ho1 (fun k_ hk_ => ⟨hk_.2.1, hk_.2.2⟩)) (below_size (by repeat (first | (with_reducible first | exact HB.out | apply below_alloc | apply pw_below_drewN | apply below_drew1) | exact HB.out)))); have n2_ := Aside0.mk (Kd.R_lower (Kd.R_mono (ok' := fun k_ => some k_ ≠ (v918 : Value).ownBlock) ho2 (fun _ hk_ => hk_.2)) (below_size (by repeat (first | (with_reducible first | exact HB.out | apply below_alloc | apply pw_below_drewN | apply below_drew1) | exact HB.out)))); have n3_ := Aside0.mk (below_step (by repeat (first | (with_reducible first | exact HB.out | apply below_alloc | apply pw_below_drewN | apply below_drew1) | exact HB.out)) hb); clear HB; have HO919 := n0_; have HO924 := n1_; have HO927 := n2_; have HB := n3_; clear n0_ n1_ n2_ n3_; (try clear hb); (try clear hb2); (try clear hk); (try clear hi); (try clear ho0); (try clear ho1); (try clear ho2)) | ((with_reducible refine gate_dst (N := 4) rfl ?_); refine box_event ?hg (N := 4) ?hd (cs := #[.int .i64 0, .int .i64 0, .slice none 0 0]) (t := 30) ?hr ?_; (case hd => rfl); (case hg => rfl); (case hr => first | (go_simp; done) | (go_simp; rfl)); intro gb928 hg w8 hbox hb; have n0_ := Aside0.mk (Kd.Q_below (by (with_reducible repeat (first | apply Kd.Q_alloc | apply Kd.Q_drewN | apply Kd.Q_drew)); exact HO919.out) hb); have n1_ := Aside0.mk (Kd.N_below (Kd.N_elderB (by (with_reducible repeat (first | apply Kd.N_alloc | apply Kd.N_drewN | apply Kd.N_drew)); exact HO924.out) gb928 (Nat.le_of_eq hg.symm)) hb); have n2_ := Aside0.mk (Kd.R_below (by (with_reducible repeat (first | apply Kd.R_alloc | apply Kd.R_drewN | apply Kd.R_drew)); exact HO927.out) hb); have n3_ := Aside0.mk (below_step (by repeat (first | (with_reducible first | exact HB.out | apply below_alloc | apply pw_below_drewN | apply below_drew1) | exact HB.out)) hb); have n4_ := Aside0.mk (hbox); have n5_ := Aside0.mk ((by rw [hg]; exact (below_size (by repeat (first | (with_reducible first | exact HB.out | apply below_alloc | apply pw_below_drewN | apply below_drew1) | exact HB.out))) : w.heap.size ≤ gb928)); have n6_ := Aside0.mk ((by rw [hg]; exact (below_size (by repeat (first | (with_reducible first | exact HB.out | apply below_alloc | apply pw_below_drewN | apply below_drew1) | exact HB.out))) : w.heap.size ≤ gb928)); clear HO919; clear HO924; clear HO927; clear HB; have HO919 := n0_; have HO924 := n1_; have HO927 := n2_; have HB := n3_; have BK928 := n4_; have GW928 := n5_; have GE928 := n6_; clear n0_ n1_ n2_ n3_ n4_ n5_ n6_; clear hb hbox hg; have hcz9_0 : w8.cell? ⟨gb928, 0, none⟩ = some (.int .i64 0) := (blk_cell BK928.out 0).trans rfl; have hcz9_1 : w8.cell? ⟨gb928, 1, none⟩ = some (.int .i64 0) := (blk_cell BK928.out 1).trans rfl; have hcz9_2 : w8.cell? ⟨gb928, 2, none⟩ = some (.slice none 0 0) := (blk_cell BK928.out 2).trans rfl; have hfz9_0 := blk_frozen BK928.out 0; have hfz9_1 := blk_frozen BK928.out 1; have hfz9_2 := blk_frozen BK928.out 2; obtain ⟨Ao10, co10, eo10⟩ := Kd.N_slice HO924.out; subst eo10; obtain ⟨Ao11, co11, eo11, _⟩ := Kd.Q_slice HO919.out; subst eo11; obtain ⟨Ao12, co12, eo12⟩ := Kd.R_slice HO927.out; subst eo12) | ((with_reducible refine gate_callee (f := 47) rfl ?_); refine goesL_ (some 26) rfl rfl Try.func47 (by kernel_rfl) rfl #[.slice Ao11 t917.length co11, .agg #[.int .i64 t920, .int .i64 t921, .slice Ao10 t922.length co10], .slice Ao12 t925.length co12] rfl (by (try simp only [List.map_toArray, List.map_cons, List.map_nil]); first | done | rfl | (simp only [List.length_drop, List.length_take]; rfl)) ?_; (with_reducible refine (impl_HiddenOf.calls k _ _ t917 t920 t921 _ _ t922 _ _ t925 t929 t932 _ ?side1 ?side2 ?side3 ?side4 ?side5 ?side6 A4.out).mono ?_); (case side1 => refine (Kd.Q_reads' (e := 3) (base := w.heap.size) (ok := fun k_ => some k_ ≠ (.slice Ao12 t925.length co12 : Value).ownBlock) (n := t917.length) (c := co11) ?_).2.2; exact (by (with_reducible repeat (first | apply Kd.Q_alloc | apply Kd.Q_drewN | apply Kd.Q_drew)); exact (Kd.Q_mono (Kd.Q_far (p := ⟨gb928, 2, none⟩) (Kd.Q_far (p := ⟨gb928, 1, none⟩) (Kd.Q_far (p := ⟨gb928, 0, none⟩) (Kd.Q_types HO919.out BK928.out (by decide)) (fun _ hk => hk.2) (.int .i64 t920)) (fun _ hk => hk.2) (.int .i64 t921)) (fun _ hk => hk.2) (.slice Ao10 t922.length co10)) (fun _ h_ => h_.1)))); (case side2 => exact (Kd.Q_reads' HO919.out).2.1); (case side3 => refine (Kd.N_reads' (e := 30) (base := w.heap.size) (ok := fun k_ => ((some k_ ≠ (.slice Ao11 t917.length co11 : Value).ownBlock ∧ some k_ ≠ (.slice Ao12 t925.length co12 : Value).ownBlock) ∧ k_ ≠ gb928)) (n := t922.length) (c := co10) ?_).2.2; exact (by (with_reducible repeat (first | apply Kd.N_alloc | apply Kd.N_drewN | apply Kd.N_drew)); exact (Kd.N_mono (Kd.N_far (p := ⟨gb928, 2, none⟩) (Kd.N_far (p := ⟨gb928, 1, none⟩) (Kd.N_far (p := ⟨gb928, 0, none⟩) (Kd.N_mono HO924.out (fun k_ hk => (⟨hk, hk.2⟩ : _ ∧ k_ ≠ gb928))) (fun _ hk => hk.2) (.int .i64 t920)) (fun _ hk => hk.2) (.int .i64 t921)) (fun _ hk => hk.2) (.slice Ao10 t922.length co10)) (fun _ h_ => h_.1)))); (case side4 => exact (Kd.N_reads' HO924.out).2.1); (case side5 => refine (Kd.R_reads' (e := 3) (base := w.heap.size) (ok := fun k_ => some k_ ≠ (.slice Ao11 t917.length co11 : Value).ownBlock) (n := t925.length) (c := co12) ?_).2.2; exact (by (with_reducible repeat (first | apply Kd.R_alloc | apply Kd.R_drewN | apply Kd.R_drew)); exact (Kd.R_mono (Kd.R_far (p := ⟨gb928, 2, none⟩) (Kd.R_far (p := ⟨gb928, 1, none⟩) (Kd.R_far (p := ⟨gb928, 0, none⟩) (Kd.R_types HO927.out BK928.out (by decide)) (fun _ hk => hk.2) (.int .i64 t920)) (fun _ hk => hk.2) (.int .i64 t921)) (fun _ hk => hk.2) (.slice Ao10 t922.length co10)) (fun _ h_ => h_.1)))); (case side6 => exact (Kd.R_reads' HO927.out).2.1); rintro e w13 ⟨v930, rfl, ho0, hb⟩; refine ⟨_, rfl, ?_⟩; have n0_ := Aside0.mk (Kd.Q_elder' (by (with_reducible repeat (first | apply Kd.Q_alloc | apply Kd.Q_drewN | apply Kd.Q_drew)); exact (Kd.Q_mono (Kd.Q_far (p := ⟨gb928, 2, none⟩) (Kd.Q_far (p := ⟨gb928, 1, none⟩) (Kd.Q_far (p := ⟨gb928, 0, none⟩) (Kd.Q_types HO919.out BK928.out (by decide)) (fun _ hk => hk.2) (.int .i64 t920)) (fun _ hk => hk.2) (.int .i64 t921)) (fun _ hk => hk.2) (.slice Ao10 t922.length co10)) (fun _ h_ => h_.1))) (Kd.R_base ho0) hb); have n1_ := Aside0.mk (Kd.N_elder' (by (with_reducible repeat (first | apply Kd.N_alloc | apply Kd.N_drewN | apply Kd.N_drew)); exact (Kd.N_mono (Kd.N_far (p := ⟨gb928, 2, none⟩) (Kd.N_far (p := ⟨gb928, 1, none⟩) (Kd.N_far (p := ⟨gb928, 0, none⟩) (Kd.N_mono HO924.out (fun k_ hk => (⟨hk, hk.2⟩ : _ ∧ k_ ≠ gb928))) (fun _ hk => hk.2) (.int .i64 t920)) (fun _ hk => hk.2) (.int .i64 t921)) (fun _ hk => hk.2) (.slice Ao10 t922.length co10)) (fun _ h_ => h_.1))) (Kd.R_base ho0) hb); have n2_ := Aside0.mk (Kd.R_elder' (by (with_reducible repeat (first | apply Kd.R_alloc | apply Kd.R_drewN | apply Kd.R_drew)); exact (Kd.R_mono (Kd.R_far (p := ⟨gb928, 2, none⟩) (Kd.R_far (p := ⟨gb928, 1, none⟩) (Kd.R_far (p := ⟨gb928, 0, none⟩) (Kd.R_types HO927.out BK928.out (by decide)) (fun _ hk => hk.2) (.int .i64 t920)) (fun _ hk => hk.2) (.int .i64 t921)) (fun _ hk => hk.2) (.slice Ao10 t922.length co10)) (fun _ h_ => h_.1))) (Kd.R_base ho0) hb); have n3_ := Aside0.mk (Kd.R_lower (Kd.R_new' (Kd.R_new' ho0 (Kd.Q_lt (by (with_reducible repeat (first | apply Kd.Q_alloc | apply Kd.Q_drewN | apply Kd.Q_drew)); exact (Kd.Q_mono (Kd.Q_far (p := ⟨gb928, 2, none⟩) (Kd.Q_far (p := ⟨gb928, 1, none⟩) (Kd.Q_far (p := ⟨gb928, 0, none⟩) (Kd.Q_types HO919.out BK928.out (by decide)) (fun _ hk => hk.2) (.int .i64 t920)) (fun _ hk => hk.2) (.int .i64 t921)) (fun _ hk => hk.2) (.slice Ao10 t922.length co10)) (fun _ h_ => h_.1))))) (Kd.R_lt (by (with_reducible repeat (first | apply Kd.R_alloc | apply Kd.R_drewN | apply Kd.R_drew)); exact (Kd.R_mono (Kd.R_far (p := ⟨gb928, 2, none⟩) (Kd.R_far (p := ⟨gb928, 1, none⟩) (Kd.R_far (p := ⟨gb928, 0, none⟩) (Kd.R_types HO927.out BK928.out (by decide)) (fun _ hk => hk.2) (.int .i64 t920)) (fun _ hk => hk.2) (.int .i64 t921)) (fun _ hk => hk.2) (.slice Ao10 t922.length co10)) (fun _ h_ => h_.1))))) (below_size (by repeat (first | (with_reducible first | exact HB.out | apply below_alloc | apply pw_below_drewN | apply below_drew1 | refine below_set ?_ GE928.out) | exact HB.out)))); have n4_ := Aside0.mk (blk_below (g := gb928) (o := .cells #[.int .i64 t920, .int .i64 t921, .slice Ao10 t922.length co10] 30 (0, 0)) (by (with_reducible repeat (first | refine blk_drewN ?_ _ | refine blk_drew ?_ | refine blk_alloc ?_ _)); refine blk_put (cs := #[.int .i64 t920, .int .i64 t921, .slice none 0 0]) ?_ 2 _ rfl; (with_reducible repeat (first | refine blk_drewN ?_ _ | refine blk_drew ?_ | refine blk_alloc ?_ _)); refine blk_put (cs := #[.int .i64 t920, .int .i64 0, .slice none 0 0]) ?_ 1 _ rfl; (with_reducible repeat (first | refine blk_drewN ?_ _ | refine blk_drew ?_ | refine blk_alloc ?_ _)); refine blk_put (cs := #[.int .i64 0, .int .i64 0, .slice none 0 0]) ?_ 0 _ rfl; (with_reducible repeat (first | refine blk_drewN ?_ _ | refine blk_drew ?_ | refine blk_alloc ?_ _)); exact BK928.out) hb); have n5_ := Aside0.mk (below_step (by repeat (first | (with_reducible first | exact HB.out | apply below_alloc | apply pw_below_drewN | apply below_drew1 | refine below_set ?_ GE928.out) | exact HB.out)) hb); clear HO919; clear HO924; clear HO927; clear BK928; clear HB; have HO919 := n0_; have HO924 := n1_; have HO927 := n2_; have HO931 := n3_; have BK928 := n4_; have HB := n5_; clear n0_ n1_ n2_ n3_ n4_ n5_; (try clear hb); (try clear hb2); (try clear hk); (try clear hi); (try clear ho0); have hcz14_0 : w13.cell? ⟨gb928, 0, none⟩ = some (.int .i64 t920) := (blk_cell BK928.out 0).trans rfl; have hcz14_1 : w13.cell? ⟨gb928, 1, none⟩ = some (.int .i64 t921) := (blk_cell BK928.out 1).trans rfl; have hcz14_2 : w13.cell? ⟨gb928, 2, none⟩ = some (.slice Ao10 t922.length co10) := (blk_cell BK928.out 2).trans rfl; have hfz14_0 := blk_frozen BK928.out 0; have hfz14_1 := blk_frozen BK928.out 1; have hfz14_2 := blk_frozen BK928.out 2) | ((with_reducible refine gate_callee (f := 45) rfl ?_); refine goesL_ (some 33) rfl rfl Try.func45 (by kernel_rfl) rfl #[.slice Ao11 t917.length co11, .agg #[.int .i64 t920, .int .i64 t921, .slice Ao10 t922.length co10], .slice Ao12 t925.length co12] rfl (by (try simp only [List.map_toArray, List.map_cons, List.map_nil]); first | done | rfl | (simp only [List.length_drop, List.length_take]; rfl)) ?_; (with_reducible refine (spec_HiddenOf.calls k _ _ t917 t920 t921 _ _ t922 _ _ t925 t933 t936 _ ?side1 ?side2 ?side3 ?side4 ?side5 ?side6 A5.out).mono ?_); (case side1 => repeat (first | exact (Kd.Q_reads' HO919.out).2.2 | (with_reducible refine Kd.C_alloc ?_ _) | (with_reducible refine Kd.C_drewN ?_ _) | (with_reducible refine Kd.C_drew ?_))); (case side2 => exact (Kd.Q_reads' HO919.out).2.1); (case side3 => repeat (first | exact (Kd.N_reads' HO924.out).2.2 | (with_reducible refine Kd.C_alloc ?_ _) | (with_reducible refine Kd.C_drewN ?_ _) | (with_reducible refine Kd.C_drew ?_))); (case side4 => exact (Kd.N_reads' HO924.out).2.1); (case side5 => repeat (first | exact (Kd.R_reads' HO927.out).2.2 | (with_reducible refine Kd.C_alloc ?_ _) | (with_reducible refine Kd.C_drewN ?_ _) | (with_reducible refine Kd.C_drew ?_))); (case side6 => exact (Kd.R_reads' HO927.out).2.1); rintro e w15 ⟨v934, rfl, ho0, hb⟩; refine ⟨_, rfl, ?_⟩; have n0_ := Aside0.mk (Kd.Q_elder' (by (with_reducible repeat (first | apply Kd.Q_alloc | apply Kd.Q_drewN | apply Kd.Q_drew)); exact HO919.out) (Kd.R_base ho0) hb); have n1_ := Aside0.mk (Kd.N_elder' (by (with_reducible repeat (first | apply Kd.N_alloc | apply Kd.N_drewN | apply Kd.N_drew)); exact HO924.out) (Kd.R_base ho0) hb); have n2_ := Aside0.mk (Kd.R_elder' (by (with_reducible repeat (first | apply Kd.R_alloc | apply Kd.R_drewN | apply Kd.R_drew)); exact HO927.out) (Kd.R_base ho0) hb); have n3_ := Aside0.mk (Kd.R_elder' (by (with_reducible repeat (first | apply Kd.R_alloc | apply Kd.R_drewN | apply Kd.R_drew)); exact HO931.out) (Kd.R_base ho0) hb); have n4_ := Aside0.mk (Kd.R_lower (Kd.R_new' (Kd.R_new' (Kd.R_new' ho0 (Kd.Q_lt (by (with_reducible repeat (first | apply Kd.Q_alloc | apply Kd.Q_drewN | apply Kd.Q_drew)); exact HO919.out))) (Kd.R_lt (by (with_reducible repeat (first | apply Kd.R_alloc | apply Kd.R_drewN | apply Kd.R_drew)); exact HO927.out))) (Kd.R_lt (by (with_reducible repeat (first | apply Kd.R_alloc | apply Kd.R_drewN | apply Kd.R_drew)); exact HO931.out))) (below_size (by repeat (first | (with_reducible first | exact HB.out | apply below_alloc | apply pw_below_drewN | apply below_drew1 | refine below_set ?_ GE928.out) | exact HB.out)))); have n5_ := Aside0.mk (blk_below (g := gb928) (o := .cells #[.int .i64 t920, .int .i64 t921, .slice Ao10 t922.length co10] 30 (0, 0)) (by (with_reducible repeat (first | refine blk_drewN ?_ _ | refine blk_drew ?_ | refine blk_alloc ?_ _)); exact BK928.out) hb); have n6_ := Aside0.mk (below_step (by repeat (first | (with_reducible first | exact HB.out | apply below_alloc | apply pw_below_drewN | apply below_drew1 | refine below_set ?_ GE928.out) | exact HB.out)) hb); clear HO919; clear HO924; clear HO927; clear HO931; clear BK928; clear HB; have HO919 := n0_; have HO924 := n1_; have HO927 := n2_; have HO931 := n3_; have HO935 := n4_; have BK928 := n5_; have HB := n6_; clear n0_ n1_ n2_ n3_ n4_ n5_ n6_; (try clear hb); (try clear hb2); (try clear hk); (try clear hi); (try clear ho0)))
    (try simp only [Act.put, List.setIfInBounds_toArray, List.set_cons_zero, List.set_cons_succ])
    go_cut [44] (fun v44 wc => ∃ (kq : Nat) (x44_5 : Bool), v44 = .bool x44_5 ∧ Aside0 (laws_FnHiddenOf.j0 kq t917 t925 t929 x44_5 t920 t921 t922 = some r) ∧ Aside0 (kq ≤ k) ∧ Aside0 (Kd.Q (Kd.int .i64) 3 wc w.heap.size (fun k_ => some k_ ≠ ((.slice Ao12 t925.length co12) : Value).ownBlock ∧ some k_ ≠ (v930 : Value).ownBlock) (.slice Ao11 t917.length co11) t917) ∧ Aside0 (Kd.R (Kd.int .i64) 3 wc w.heap.size (fun k_ => some k_ ≠ ((.slice Ao11 t917.length co11) : Value).ownBlock ∧ some k_ ≠ (v930 : Value).ownBlock) (.slice Ao12 t925.length co12) t925) ∧ Aside0 (Kd.R (Kd.int .i64) 3 wc w.heap.size (fun k_ => some k_ ≠ ((.slice Ao11 t917.length co11) : Value).ownBlock ∧ some k_ ≠ ((.slice Ao12 t925.length co12) : Value).ownBlock) v930 t929) ∧ Aside0 (Kd.N k30 30 wc w.heap.size (fun k_ => some k_ ≠ ((.slice Ao11 t917.length co11) : Value).ownBlock ∧ some k_ ≠ ((.slice Ao12 t925.length co12) : Value).ownBlock ∧ some k_ ≠ (v930 : Value).ownBlock ∧ k_ ≠ gb928) (.slice Ao10 t922.length co10) t922) ∧ Aside0 (wc.heap[gb928]? = some (.cells #[.int .i64 t920, .int .i64 t921, (.slice Ao10 t922.length co10)] 30 (0, 0))) ∧ Aside0 (Below w.heap.size w wc))
    case first =>
      have H := HC6.out
      clear HC6
      replace H := Option.bind_eq_some_iff.mp H
      obtain ⟨t937, A160, H⟩ := H
      replace H : (if t937 = true then (laws_FnHiddenOf.j0 k t917 t925 t929 (t932 != t936) t920 t921 t922) else (laws_FnHiddenOf.j0 k t917 t925 t929 true t920 t921 t922)) = some r := H
      have A16 := Aside0.mk A160
      clear A160
      by_cases c17 : t937 = true
      · subst c17
        have H1 : (laws_FnHiddenOf.j0 k t917 t925 t929 (t932 != t936) t920 t921 t922) = some r := by rw [if_pos rfl] at H; exact H
        clear H
        have H := H1
        clear H1
        have H' := Aside0.mk H
        clear H
        obtain ⟨Ao18, co18, eo18⟩ := Kd.R_slice HO931.out
        subst eo18
        obtain ⟨Ao19, co19, eo19⟩ := Kd.R_slice HO935.out
        subst eo19
        go_wp2_with (first | ((with_reducible refine gate_callee (f := 25) rfl ?_); refine goesL_ (some 38) rfl rfl Try.func25 (by kernel_rfl) rfl #[.slice Ao18 t929.length co18, .slice Ao19 t933.length co19] rfl (by (try simp only [List.map_toArray, List.map_cons, List.map_nil]); first | done | rfl | (simp only [List.length_drop, List.length_take]; rfl)) ?_; (with_reducible refine (laws_brInts.calls k _ _ t929 _ _ t933 true _ ?side1 ?side2 ?side3 ?side4 A16.out).mono ?_); (case side1 => repeat (first | exact (Kd.R_reads' HO931.out).2.2 | (with_reducible refine Kd.C_alloc ?_ _) | (with_reducible refine Kd.C_drewN ?_ _) | (with_reducible refine Kd.C_drew ?_))); (case side2 => exact (Kd.R_reads' HO931.out).2.1); (case side3 => repeat (first | exact (Kd.R_reads' HO935.out).2.2 | (with_reducible refine Kd.C_alloc ?_ _) | (with_reducible refine Kd.C_drewN ?_ _) | (with_reducible refine Kd.C_drew ?_))); (case side4 => exact (Kd.R_reads' HO935.out).2.1); rintro e w' ⟨rfl, ⟨nd, rfl⟩⟩; refine ⟨_, rfl, ?_⟩))
        go_meet
        case rel => exact ⟨_, ((t932 != t936)), (by first | rfl | (simp; done) | (simp [*]; done)), H', ⟨by first | omega | exact Nat.le_refl _⟩, ⟨by (with_reducible repeat (first | apply Kd.Q_alloc | apply Kd.Q_drewN | apply Kd.Q_drew)); exact Kd.Q_mono HO919.out (fun _ hk => ⟨hk.1.1, hk.1.2⟩)⟩, ⟨by (with_reducible repeat (first | apply Kd.R_alloc | apply Kd.R_drewN | apply Kd.R_drew)); exact Kd.R_mono HO927.out (fun _ hk => ⟨hk.1.1, hk.1.2⟩)⟩, ⟨by (with_reducible repeat (first | apply Kd.R_alloc | apply Kd.R_drewN | apply Kd.R_drew)); exact Kd.R_mono HO931.out (fun _ hk => ⟨hk.1.1.2, hk.1.2⟩)⟩, ⟨by (with_reducible repeat (first | apply Kd.N_alloc | apply Kd.N_drewN | apply Kd.N_drew)); exact Kd.N_mono HO924.out (fun _ hk => ⟨hk.1.1.1.1, ⟨hk.1.1.1.2, ⟨hk.1.2, hk.1.1.2⟩⟩⟩)⟩, ⟨by (with_reducible repeat (first | refine blk_drewN ?_ _ | refine blk_drew ?_ | refine blk_alloc ?_ _)); exact BK928.out⟩, ⟨by repeat (first | (with_reducible first | exact HB.out | apply below_alloc | apply pw_below_drewN | apply below_drew1 | refine below_set ?_ GE928.out) | exact HB.out)⟩⟩
      · replace c17 := Bool.eq_false_iff.mpr c17
        subst c17
        have H1 : (laws_FnHiddenOf.j0 k t917 t925 t929 true t920 t921 t922) = some r := by rw [if_neg (show ¬ (false = true) by decide)] at H; exact H
        clear H
        have H := H1
        clear H1
        have H' := Aside0.mk H
        clear H
        obtain ⟨Ao20, co20, eo20⟩ := Kd.R_slice HO931.out
        subst eo20
        obtain ⟨Ao21, co21, eo21⟩ := Kd.R_slice HO935.out
        subst eo21
        go_wp2_with (first | ((with_reducible refine gate_callee (f := 25) rfl ?_); refine goesL_ (some 38) rfl rfl Try.func25 (by kernel_rfl) rfl #[.slice Ao20 t929.length co20, .slice Ao21 t933.length co21] rfl (by (try simp only [List.map_toArray, List.map_cons, List.map_nil]); first | done | rfl | (simp only [List.length_drop, List.length_take]; rfl)) ?_; (with_reducible refine (laws_brInts.calls k _ _ t929 _ _ t933 false _ ?side1 ?side2 ?side3 ?side4 A16.out).mono ?_); (case side1 => repeat (first | exact (Kd.R_reads' HO931.out).2.2 | (with_reducible refine Kd.C_alloc ?_ _) | (with_reducible refine Kd.C_drewN ?_ _) | (with_reducible refine Kd.C_drew ?_))); (case side2 => exact (Kd.R_reads' HO931.out).2.1); (case side3 => repeat (first | exact (Kd.R_reads' HO935.out).2.2 | (with_reducible refine Kd.C_alloc ?_ _) | (with_reducible refine Kd.C_drewN ?_ _) | (with_reducible refine Kd.C_drew ?_))); (case side4 => exact (Kd.R_reads' HO935.out).2.1); rintro e w' ⟨rfl, ⟨nd, rfl⟩⟩; refine ⟨_, rfl, ?_⟩))
        go_meet
        case rel => exact ⟨_, (true), (by first | rfl | (simp; done) | (simp [*]; done)), H', ⟨by first | omega | exact Nat.le_refl _⟩, ⟨by (with_reducible repeat (first | apply Kd.Q_alloc | apply Kd.Q_drewN | apply Kd.Q_drew)); exact Kd.Q_mono HO919.out (fun _ hk => ⟨hk.1.1, hk.1.2⟩)⟩, ⟨by (with_reducible repeat (first | apply Kd.R_alloc | apply Kd.R_drewN | apply Kd.R_drew)); exact Kd.R_mono HO927.out (fun _ hk => ⟨hk.1.1, hk.1.2⟩)⟩, ⟨by (with_reducible repeat (first | apply Kd.R_alloc | apply Kd.R_drewN | apply Kd.R_drew)); exact Kd.R_mono HO931.out (fun _ hk => ⟨hk.1.1.2, hk.1.2⟩)⟩, ⟨by (with_reducible repeat (first | apply Kd.N_alloc | apply Kd.N_drewN | apply Kd.N_drew)); exact Kd.N_mono HO924.out (fun _ hk => ⟨hk.1.1.1.1, ⟨hk.1.1.1.2, ⟨hk.1.2, hk.1.1.2⟩⟩⟩)⟩, ⟨by (with_reducible repeat (first | refine blk_drewN ?_ _ | refine blk_drew ?_ | refine blk_alloc ?_ _)); exact BK928.out⟩, ⟨by repeat (first | (with_reducible first | exact HB.out | apply below_alloc | apply pw_below_drewN | apply below_drew1 | refine below_set ?_ GE928.out) | exact HB.out)⟩⟩
    case rest =>
      clear HC6
      try clear c1
      try clear c2
      try clear c2b0
      try clear c2b1
      try clear p2
      try clear c4
      try clear c9
      try clear c17
      try clear hcz14_0
      try clear hcz14_1
      try clear hcz14_2
      try clear hcz9_0
      try clear hcz9_1
      try clear hcz9_2
      try clear hfz14_0
      try clear hfz14_1
      try clear hfz14_2
      try clear hfz9_0
      try clear hfz9_1
      try clear hfz9_2
      obtain ⟨kq, x44_5, rfl, HA, HJ5, HO_3, HO_5, HO_6, HO_929002, BK928, HB⟩ := hcut
      cases kq with
      | zero => exact absurd HA.out (by simp [laws_FnHiddenOf.j0])
      | succ kj5 =>
        have H := HA.out
        clear HA
        simp only [laws_FnHiddenOf.j0] at H
        by_cases c22 : x44_5 = true
        · subst c22
          have H1 : (none) = some r := by rw [if_pos rfl] at H; exact H
          clear H
          have H := H1
          clear H1
          exact absurd H (by simp)
        · replace c22 := Bool.eq_false_iff.mpr c22
          subst c22
          have H1 : ((impl_TaskMay.f kj5 t920 t921 t922).bind fun t938 => ((impl_HiddenOf.f kj5 t938 t920 t921 t922 t925).bind fun bt941 => (laws_FnHiddenOf.l0 kj5 t917 t929 bt941.1 0))) = some r := by rw [if_neg (show ¬ (false = true) by decide)] at H; exact H
          clear H
          have H := H1
          clear H1
          replace H := Option.bind_eq_some_iff.mp H
          obtain ⟨t938, A230, H⟩ := H
          replace H : ((impl_HiddenOf.f kj5 t938 t920 t921 t922 t925).bind fun bt941 => (laws_FnHiddenOf.l0 kj5 t917 t929 bt941.1 0)) = some r := H
          have A23 := Aside0.mk A230
          clear A230
          replace H := Option.bind_eq_some_iff.mp H
          obtain ⟨⟨t941, t944⟩, A240, H⟩ := H
          replace H : (laws_FnHiddenOf.l0 kj5 t917 t929 t941 0) = some r := H
          have A24 := Aside0.mk A240
          clear A240
          have H' := Aside0.mk H
          clear H
          try go_wp2
          have n0_ := Aside0.mk (Kd.Q_drew HO_3.out)
          have n1_ := Aside0.mk (Kd.R_drew HO_5.out)
          have n2_ := Aside0.mk (Kd.R_drew HO_6.out)
          have n3_ := Aside0.mk (Kd.N_drew HO_929002.out)
          have n4_ := Aside0.mk (blk_drew BK928.out)
          have n5_ := Aside0.mk (below_drew1 HB.out)
          clear HO_3
          clear HO_5
          clear HO_6
          clear HO_929002
          clear BK928
          clear HB
          have HO_3 := n0_
          have HO_5 := n1_
          have HO_6 := n2_
          have HO_929002 := n3_
          have BK928 := n4_
          have HB := n5_
          clear n0_ n1_ n2_ n3_ n4_ n5_
          refine start_ (n := 10) (S := fun w' => w'.cell? ⟨gb928, 0, none⟩ = some (.int .i64 t920) ∧ w'.cell? ⟨gb928, 1, none⟩ = some (.int .i64 t921) ∧ w'.cell? ⟨gb928, 2, none⟩ = some (.slice Ao10 t922.length co10)) (ds := []) #[false, false, false, false, false, false, false, false, false, false] (by kernel_rfl) rfl rfl ⟨(blk_cell BK928.out 0).trans rfl, (blk_cell BK928.out 1).trans rfl, (blk_cell BK928.out 2).trans rfl⟩ (fun hHeld => ?_); refine with_tabW laws_FnHiddenOf.tab8 laws_FnHiddenOf.bits8 (fun HT_ HW_ => ?_)
          generalize wc.drew = w25 at HO_3 HO_5 HO_6 HO_929002 BK928 HB hHeld ⊢
          refine pure_ (i := 3) (N := some 49) (v := ?_) (a' := ?_) #[false, false, false, true, false, false, false, false, false, false] rfl rfl (any_of HT_.out (by kernel_rfl)) (fun _ _ _ h => h) (Or.inl ⟨by rfl, ?_⟩) ?_ ?_
          rotate_left
          · intro w'
            go_simp
            with_reducible rfl
          rotate_left
          · simp only [Act.put, List.setIfInBounds_toArray, List.set_cons_zero, List.set_cons_succ, i64_w, i32_w]
            rfl
          refine take_ (i := 0) (N := some 46) (v := ?_) (a' := ?_) #[true, false, false, true, false, false, false, false, false, false] rfl rfl (take_ofW HT_.out HW_.out (by kernel_rfl)) (fun _ _ _ h => h) (Or.inl ⟨by rfl, ?_⟩) hHeld ?_ ?_
          rotate_left
          · rintro w' ⟨s0, s1, s2⟩
            go_simp
            with_reducible rfl
          rotate_left
          · simp only [Act.put, List.setIfInBounds_toArray, List.set_cons_zero, List.set_cons_succ, i64_w, i32_w]
            rfl
          refine take_ (i := 2) (N := some 48) (v := ?_) (a' := ?_) #[true, false, true, true, false, false, false, false, false, false] rfl rfl (take_ofW HT_.out HW_.out (by kernel_rfl)) (fun _ _ _ h => h) (Or.inl ⟨by rfl, ?_⟩) hHeld ?_ ?_
          rotate_left
          · rintro w' ⟨s0, s1, s2⟩
            go_simp
            with_reducible rfl
          rotate_left
          · simp only [Act.put, List.setIfInBounds_toArray, List.set_cons_zero, List.set_cons_succ, i64_w, i32_w]
            rfl
          refine one_ (i := 1) (N := some 47) #[true, true, true, true, false, false, false, false, false, false] rfl rfl (one_of HT_.out (by kernel_rfl)) (by decide) (fun K hK => ?_)
          refine goes_ Try.func18 (by kernel_rfl) rfl #[.agg #[.int .i64 t920, .int .i64 t921, .slice Ao10 t922.length co10]] (by rfl) rfl rfl (by (try simp only [List.map_toArray, List.map_cons, List.map_nil]); first | done | rfl | (simp only [List.length_drop, List.length_take]; rfl)) ?_
          with_reducible refine (impl_TaskMay.calls kj5 t920 t921 _ _ t922 t938 _ ?side1 ?side2 A23.out).mono ?_
          (case side1 => repeat (first | exact (Kd.N_reads' HO_929002.out).2.2 | (with_reducible refine Kd.C_alloc ?_ _) | (with_reducible refine Kd.C_drewN ?_ _) | (with_reducible refine Kd.C_drew ?_)))
          (case side2 => exact (Kd.N_reads' HO_929002.out).2.1)
          rintro e w26 ⟨v939, rfl, ho0, hb⟩
          refine ⟨_, rfl, ?_⟩
          have n0_ := Aside0.mk (Kd.Q_elder' (by (with_reducible repeat (first | apply Kd.Q_alloc | apply Kd.Q_drewN | apply Kd.Q_drew)); exact HO_3.out) (Kd.R_base ho0) hb)
          have n1_ := Aside0.mk (Kd.R_elder' (by (with_reducible repeat (first | apply Kd.R_alloc | apply Kd.R_drewN | apply Kd.R_drew)); exact HO_5.out) (Kd.R_base ho0) hb)
          have n2_ := Aside0.mk (Kd.R_elder' (by (with_reducible repeat (first | apply Kd.R_alloc | apply Kd.R_drewN | apply Kd.R_drew)); exact HO_6.out) (Kd.R_base ho0) hb)
          have n3_ := Aside0.mk (Kd.N_elder' (by (with_reducible repeat (first | apply Kd.N_alloc | apply Kd.N_drewN | apply Kd.N_drew)); exact HO_929002.out) (Kd.R_base ho0) hb)
          have n4_ := Aside0.mk (Kd.R_lower (Kd.R_new' (Kd.R_new' (Kd.R_new' ho0 (Kd.Q_lt (by (with_reducible repeat (first | apply Kd.Q_alloc | apply Kd.Q_drewN | apply Kd.Q_drew)); exact HO_3.out))) (Kd.R_lt (by (with_reducible repeat (first | apply Kd.R_alloc | apply Kd.R_drewN | apply Kd.R_drew)); exact HO_5.out))) (Kd.R_lt (by (with_reducible repeat (first | apply Kd.R_alloc | apply Kd.R_drewN | apply Kd.R_drew)); exact HO_6.out))) (below_size (by repeat (first | (with_reducible first | exact HB.out | apply below_alloc | apply pw_below_drewN | apply below_drew1 | refine below_set ?_ GE928.out) | exact HB.out))))
          have n5_ := Aside0.mk (blk_below (g := gb928) (o := .cells #[.int .i64 t920, .int .i64 t921, .slice Ao10 t922.length co10] 30 (0, 0)) (by (with_reducible repeat (first | refine blk_drewN ?_ _ | refine blk_drew ?_ | refine blk_alloc ?_ _)); exact BK928.out) hb)
          have n6_ := Aside0.mk (below_step (by repeat (first | (with_reducible first | exact HB.out | apply below_alloc | apply pw_below_drewN | apply below_drew1 | refine below_set ?_ GE928.out) | exact HB.out)) hb)
          clear HO_3
          clear HO_5
          clear HO_6
          clear HO_929002
          clear BK928
          clear HB
          have HO_3 := n0_
          have HO_5 := n1_
          have HO_6 := n2_
          have HO_929002 := n3_
          have HO940 := n4_
          have BK928 := n5_
          have HB := n6_
          clear n0_ n1_ n2_ n3_ n4_ n5_ n6_
          (try clear hb)
          (try clear hb2)
          (try clear hk)
          (try clear hi)
          (try clear ho0)
          obtain ⟨Ao27, co27, eo27⟩ := Kd.R_slice HO940.out
          (first | subst eo27 | (injection eo27 with f1_ f2_ f3_; have f4_ := f1_.symm; have f5_ := f3_.symm; clear f1_ f2_ f3_; subst f4_; subst f5_))
          refine hK.out _ _ ⟨(blk_cell BK928.out 0).trans rfl, (blk_cell BK928.out 1).trans rfl, (blk_cell BK928.out 2).trans rfl⟩ (fun hHeld => ?_)
          clear hK K
          refine norm_ (a' := ?_) ?_ ?_
          rotate_left
          · show Act.put _ (some 47) _ = _
            simp only [Act.put, List.setIfInBounds_toArray, List.set_cons_zero, List.set_cons_succ, i64_w, i32_w]
            rfl
          refine one_ (i := 4) (N := some 50) #[true, true, true, true, true, false, false, false, false, false] rfl rfl (one_of HT_.out (by kernel_rfl)) (by decide) (fun K hK => ?_)
          refine goes_ Try.func47 (by kernel_rfl) rfl #[.slice Ao27 t938.length co27, .agg #[.int .i64 t920, .int .i64 t921, .slice Ao10 t922.length co10], .slice Ao12 t925.length co12] (by rfl) rfl rfl (by (try simp only [List.map_toArray, List.map_cons, List.map_nil]); first | done | rfl | (simp only [List.length_drop, List.length_take]; rfl)) ?_
          with_reducible refine (impl_HiddenOf.calls kj5 _ _ t938 t920 t921 _ _ t922 _ _ t925 t941 t944 _ ?side1 ?side2 ?side3 ?side4 ?side5 ?side6 A24.out).mono ?_
          (case side1 => repeat (first | exact (Kd.R_reads' HO940.out).2.2 | (with_reducible refine Kd.C_alloc ?_ _) | (with_reducible refine Kd.C_drewN ?_ _) | (with_reducible refine Kd.C_drew ?_)))
          (case side2 => exact (Kd.R_reads' HO940.out).2.1)
          (case side3 => repeat (first | exact (Kd.N_reads' HO_929002.out).2.2 | (with_reducible refine Kd.C_alloc ?_ _) | (with_reducible refine Kd.C_drewN ?_ _) | (with_reducible refine Kd.C_drew ?_)))
          (case side4 => exact (Kd.N_reads' HO_929002.out).2.1)
          (case side5 => repeat (first | exact (Kd.R_reads' HO_5.out).2.2 | (with_reducible refine Kd.C_alloc ?_ _) | (with_reducible refine Kd.C_drewN ?_ _) | (with_reducible refine Kd.C_drew ?_)))
          (case side6 => exact (Kd.R_reads' HO_5.out).2.1)
          rintro e w28 ⟨v942, rfl, ho0, hb⟩
          refine ⟨_, rfl, ?_⟩
          have n0_ := Aside0.mk (Kd.Q_elder' (by (with_reducible repeat (first | apply Kd.Q_alloc | apply Kd.Q_drewN | apply Kd.Q_drew)); exact HO_3.out) (Kd.R_base ho0) hb)
          have n1_ := Aside0.mk (Kd.R_elder' (by (with_reducible repeat (first | apply Kd.R_alloc | apply Kd.R_drewN | apply Kd.R_drew)); exact HO_5.out) (Kd.R_base ho0) hb)
          have n2_ := Aside0.mk (Kd.R_elder' (by (with_reducible repeat (first | apply Kd.R_alloc | apply Kd.R_drewN | apply Kd.R_drew)); exact HO_6.out) (Kd.R_base ho0) hb)
          have n3_ := Aside0.mk (Kd.N_elder' (by (with_reducible repeat (first | apply Kd.N_alloc | apply Kd.N_drewN | apply Kd.N_drew)); exact HO_929002.out) (Kd.R_base ho0) hb)
          have n4_ := Aside0.mk (Kd.R_elder' (by (with_reducible repeat (first | apply Kd.R_alloc | apply Kd.R_drewN | apply Kd.R_drew)); exact HO940.out) (Kd.R_base ho0) hb)
          have n5_ := Aside0.mk (Kd.R_lower (Kd.R_new' (Kd.R_new' (Kd.R_new' (Kd.R_new' ho0 (Kd.Q_lt (by (with_reducible repeat (first | apply Kd.Q_alloc | apply Kd.Q_drewN | apply Kd.Q_drew)); exact HO_3.out))) (Kd.R_lt (by (with_reducible repeat (first | apply Kd.R_alloc | apply Kd.R_drewN | apply Kd.R_drew)); exact HO_5.out))) (Kd.R_lt (by (with_reducible repeat (first | apply Kd.R_alloc | apply Kd.R_drewN | apply Kd.R_drew)); exact HO_6.out))) (Kd.R_lt (by (with_reducible repeat (first | apply Kd.R_alloc | apply Kd.R_drewN | apply Kd.R_drew)); exact HO940.out))) (below_size (by repeat (first | (with_reducible first | exact HB.out | apply below_alloc | apply pw_below_drewN | apply below_drew1 | refine below_set ?_ GE928.out) | exact HB.out))))
          have n6_ := Aside0.mk (blk_below (g := gb928) (o := .cells #[.int .i64 t920, .int .i64 t921, .slice Ao10 t922.length co10] 30 (0, 0)) (by (with_reducible repeat (first | refine blk_drewN ?_ _ | refine blk_drew ?_ | refine blk_alloc ?_ _)); exact BK928.out) hb)
          have n7_ := Aside0.mk (below_step (by repeat (first | (with_reducible first | exact HB.out | apply below_alloc | apply pw_below_drewN | apply below_drew1 | refine below_set ?_ GE928.out) | exact HB.out)) hb)
          clear HO_3
          clear HO_5
          clear HO_6
          clear HO_929002
          clear HO940
          clear BK928
          clear HB
          have HO_3 := n0_
          have HO_5 := n1_
          have HO_6 := n2_
          have HO_929002 := n3_
          have HO940 := n4_
          have HO943 := n5_
          have BK928 := n6_
          have HB := n7_
          clear n0_ n1_ n2_ n3_ n4_ n5_ n6_ n7_
          (try clear hb)
          (try clear hb2)
          (try clear hk)
          (try clear hi)
          (try clear ho0)
          refine hK.out _ _ ⟨(blk_cell BK928.out 0).trans rfl, (blk_cell BK928.out 1).trans rfl, (blk_cell BK928.out 2).trans rfl⟩ (fun hHeld => ?_)
          clear hK K
          refine norm_ (a' := ?_) ?_ ?_
          rotate_left
          · show Act.put _ (some 50) _ = _
            simp only [Act.put, List.setIfInBounds_toArray, List.set_cons_zero, List.set_cons_succ, i64_w, i32_w]
            rfl
          refine pure_ (i := 5) (N := some 45) (v := ?_) (a' := ?_) #[true, true, true, true, true, true, false, false, false, false] rfl rfl (any_of HT_.out (by kernel_rfl)) (fun _ _ _ h => h) (Or.inl ⟨by rfl, ?_⟩) ?_ ?_
          rotate_left
          · intro w'
            go_simp
            with_reducible rfl
          rotate_left
          · simp only [Act.put, List.setIfInBounds_toArray, List.set_cons_zero, List.set_cons_succ, i64_w, i32_w]
            rfl
          refine pure_ (i := 6) (N := some 51) (v := ?_) (a' := ?_) #[true, true, true, true, true, true, true, false, false, false] rfl rfl (any_of HT_.out (by kernel_rfl)) (fun _ _ _ h => h) (Or.inl ⟨by rfl, ?_⟩) ?_ ?_
          rotate_left
          · intro w'
            go_simp
            with_reducible rfl
          rotate_left
          · simp only [Act.put, List.setIfInBounds_toArray, List.set_cons_zero, List.set_cons_succ, i64_w, i32_w]
            rfl
          refine pure_ (i := 7) (N := some 52) (v := ?_) (a' := ?_) #[true, true, true, true, true, true, true, true, false, false] rfl rfl (any_of HT_.out (by kernel_rfl)) (fun _ _ _ h => h) (Or.inl ⟨by rfl, ?_⟩) ?_ ?_
          rotate_left
          · intro w'
            go_simp
            with_reducible rfl
          rotate_left
          · simp only [Act.put, List.setIfInBounds_toArray, List.set_cons_zero, List.set_cons_succ, i64_w, i32_w]
            rfl
          refine pure_ (i := 8) (N := some 10) (v := ?_) (a' := ?_) #[true, true, true, true, true, true, true, true, true, false] rfl rfl (any_of HT_.out (by kernel_rfl)) (fun _ _ _ h => h) (Or.inl ⟨by rfl, ?_⟩) ?_ ?_
          rotate_left
          · intro w'
            go_simp
            with_reducible rfl
          rotate_left
          · simp only [Act.put, List.setIfInBounds_toArray, List.set_cons_zero, List.set_cons_succ, i64_w, i32_w]
            rfl
          refine pure_ (i := 9) (N := some 11) (v := ?_) (a' := ?_) #[true, true, true, true, true, true, true, true, true, true] rfl rfl (any_of HT_.out (by kernel_rfl)) (fun _ _ _ h => h) (Or.inl ⟨by rfl, ?_⟩) ?_ ?_
          rotate_left
          · intro w'
            go_simp
            with_reducible rfl
          rotate_left
          · simp only [Act.put, List.setIfInBounds_toArray, List.set_cons_zero, List.set_cons_succ, i64_w, i32_w]
            rfl
          refine done_ (done_of HT_.out (by kernel_rfl)) ?_
          try go_wp2
          go_loopg [12] kj5 (fun kq v12 w' => ∃ (x12_2 : Int), v12 = .int .i64 x12_2 ∧ Aside0 (laws_FnHiddenOf.l0 kq t917 t929 t941 x12_2 = some r) ∧ Aside0 (kq ≤ kj5) ∧ Aside0 (Kd.Q (Kd.int .i64) 3 w' w.heap.size (fun k_ => some k_ ≠ (v930 : Value).ownBlock ∧ some k_ ≠ (v942 : Value).ownBlock) (.slice Ao11 t917.length co11) t917) ∧ Aside0 (Kd.R (Kd.int .i64) 3 w' w.heap.size (fun k_ => some k_ ≠ ((.slice Ao11 t917.length co11) : Value).ownBlock ∧ some k_ ≠ (v942 : Value).ownBlock) v930 t929) ∧ Aside0 (Kd.R (Kd.int .i64) 3 w' w.heap.size (fun k_ => some k_ ≠ ((.slice Ao11 t917.length co11) : Value).ownBlock ∧ some k_ ≠ (v930 : Value).ownBlock) v942 t941) ∧ Aside0 (Kd.N k30 30 w' w.heap.size (fun k_ => some k_ ≠ ((.slice Ao11 t917.length co11) : Value).ownBlock ∧ some k_ ≠ (v930 : Value).ownBlock ∧ some k_ ≠ (v942 : Value).ownBlock ∧ k_ ≠ gb928) (.slice Ao10 t922.length co10) t922) ∧ Aside0 (w'.heap[gb928]? = some (.cells #[.int .i64 t920, .int .i64 t921, (.slice Ao10 t922.length co10)] 30 (0, 0))) ∧ Aside0 (Below w.heap.size w w'))
          case atStart => exact ⟨(0), (by first | rfl | (simp; done) | (simp [*]; done)), H', ⟨Nat.le_refl _⟩, ⟨by (with_reducible repeat (first | apply Kd.Q_alloc | apply Kd.Q_drewN | apply Kd.Q_drew)); exact Kd.Q_mono HO_3.out (fun _ hk => ⟨hk.1.1.2, hk.2⟩)⟩, ⟨by (with_reducible repeat (first | apply Kd.R_alloc | apply Kd.R_drewN | apply Kd.R_drew)); exact Kd.R_mono HO_6.out (fun _ hk => ⟨hk.1.1.1, hk.2⟩)⟩, ⟨by (with_reducible repeat (first | apply Kd.R_alloc | apply Kd.R_drewN | apply Kd.R_drew)); exact Kd.R_mono HO943.out (fun _ hk => ⟨hk.1.1.1.2, hk.1.2⟩)⟩, ⟨by (with_reducible repeat (first | apply Kd.N_alloc | apply Kd.N_drewN | apply Kd.N_drew)); exact Kd.N_mono HO_929002.out (fun _ hk => ⟨hk.1.1.1, ⟨hk.1.1.2.2.1, ⟨hk.2, hk.1.1.2.2.2⟩⟩⟩)⟩, ⟨by (with_reducible repeat (first | refine blk_drewN ?_ _ | refine blk_drew ?_ | refine blk_alloc ?_ _)); exact BK928.out⟩, ⟨by repeat (first | (with_reducible first | exact HB.out | apply below_alloc | apply pw_below_drewN | apply below_drew1 | refine below_set ?_ GE928.out) | exact HB.out)⟩⟩
          case round =>
            clear H'
            try clear c1
            try clear c2
            try clear c2b0
            try clear c2b1
            try clear p2
            try clear c4
            try clear c9
            try clear c17
            try clear c18
            try clear c22
            try clear c25
            try clear hcz14_0
            try clear hcz14_1
            try clear hcz14_2
            try clear hcz9_0
            try clear hcz9_1
            try clear hcz9_2
            try clear hfz14_0
            try clear hfz14_1
            try clear hfz14_2
            try clear hfz9_0
            try clear hfz9_1
            try clear hfz9_2
            try clear p2
            obtain ⟨x12_2, rfl, HA, HK2, HO_3, HO_6, HO_10, HO_929002, BK928, HB⟩ := hrel
            cases gk with
            | zero => exact absurd HA.out (by simp [laws_FnHiddenOf.l0])
            | succ k2 =>
              have H := HA.out
              clear HA
              simp only [laws_FnHiddenOf.l0] at H
              by_cases c29 : x12_2 < (t929.length : Int)
              · rw [if_pos c29] at H
                have c29b0 : decide (x12_2 < (t929.length : Int)) = true := decide_eq_true c29
                clear c29
                by_cases c30 : 0 ≤ x12_2
                · rw [if_pos c30] at H
                  have c30b0 : decide (0 ≤ x12_2) = true := decide_eq_true c30
                  clear c30
                  replace H := Option.bind_eq_some_iff.mp H
                  obtain ⟨t946, A310, H⟩ := H
                  replace H : (if t946 = true then (none) else (laws_FnHiddenOf.l0 k2 t917 t929 t941 (wrap64 (x12_2 + 1)))) = some r := H
                  have A31 := Aside0.mk A310
                  clear A310
                  by_cases c32 : t946 = true
                  · subst c32
                    have H1 : (none) = some r := by rw [if_pos rfl] at H; exact H
                    clear H
                    have H := H1
                    clear H1
                    exact absurd H (by simp)
                  · replace c32 := Bool.eq_false_iff.mpr c32
                    subst c32
                    have H1 : (laws_FnHiddenOf.l0 k2 t917 t929 t941 (wrap64 (x12_2 + 1))) = some r := by rw [if_neg (show ¬ (false = true) by decide)] at H; exact H
                    clear H
                    have H := H1
                    clear H1
                    have H' := Aside0.mk H
                    clear H
                    obtain ⟨Ao33, co33, eo33⟩ := Kd.R_slice HO_6.out
                    subst eo33
                    have p945 : 0 ≤ (x12_2 : Int) := of_decide_eq_true (by first | (with_reducible assumption) | assumption)
                    have q945 : x12_2 < (t929.length : Int) := of_decide_eq_true (by first | (with_reducible assumption) | assumption)
                    obtain ⟨ad945, e945, hx945_0⟩ := Kd.at_int (Kd.R_reads' HO_6.out).2.2 x12_2 p945 q945
                    cases e945
                    replace p945 := eq_true p945
                    replace q945 := eq_true q945
                    go_wp2_with (first | ((with_reducible refine gate_callee (f := 31) rfl ?_); refine goesL_ (some 64) rfl rfl Try.func31 (by kernel_rfl) rfl #[.slice Ao11 t917.length co11, .int .i64 (rd t929 x12_2)] rfl (by (try simp only [List.map_toArray, List.map_cons, List.map_nil]); first | done | rfl | (simp only [List.length_drop, List.length_take]; rfl)) ?_; (with_reducible refine (laws_brHas.calls k2 _ _ t917 (rd t929 x12_2) false _ ?side1 ?side2 A31.out).mono ?_); (case side1 => repeat (first | exact (Kd.Q_reads' HO_3.out).2.2 | (with_reducible refine Kd.C_alloc ?_ _) | (with_reducible refine Kd.C_drewN ?_ _) | (with_reducible refine Kd.C_drew ?_))); (case side2 => exact (Kd.Q_reads' HO_3.out).2.1); rintro e w' ⟨rfl, ⟨nd, rfl⟩⟩; refine ⟨_, rfl, ?_⟩))
                    go_roundg k2
                    case measure => have := HJ5.out; have := HK2.out; omega
                    case rel => exact ⟨(wrap64 (x12_2 + 1)), (by first | rfl | (simp; done) | (simp [*]; done)), H', ⟨by have := HJ5.out; have := HK2.out; omega⟩, ⟨by (with_reducible repeat (first | apply Kd.Q_alloc | apply Kd.Q_drewN | apply Kd.Q_drew)); exact HO_3.out⟩, ⟨by (with_reducible repeat (first | apply Kd.R_alloc | apply Kd.R_drewN | apply Kd.R_drew)); exact HO_6.out⟩, ⟨by (with_reducible repeat (first | apply Kd.R_alloc | apply Kd.R_drewN | apply Kd.R_drew)); exact HO_10.out⟩, ⟨by (with_reducible repeat (first | apply Kd.N_alloc | apply Kd.N_drewN | apply Kd.N_drew)); exact HO_929002.out⟩, ⟨by (with_reducible repeat (first | refine blk_drewN ?_ _ | refine blk_drew ?_ | refine blk_alloc ?_ _)); exact BK928.out⟩, ⟨by repeat (first | (with_reducible first | exact HB.out | apply below_alloc | apply pw_below_drewN | apply below_drew1 | refine below_set ?_ GE928.out) | exact HB.out)⟩⟩
                · rw [if_neg c30] at H
                  exact absurd H (by simp)
              · rw [if_neg c29] at H
                have c29b0 : decide (x12_2 < (t929.length : Int)) = false := decide_eq_false c29
                clear c29
                obtain rfl := Option.some.inj H
                obtain ⟨Ao34, co34, eo34⟩ := Kd.R_slice HO_6.out
                subst eo34
                obtain ⟨Ao35, co35, eo35⟩ := Kd.R_slice HO_10.out
                subst eo35
                go_wp2
                go_ret
                exact ⟨by first | rfl | (simp [errW_none, errW_some] <;> rfl) | (simp [*, errW_none, errW_some] <;> rfl), by repeat (first | (with_reducible first | exact HB.out | apply below_alloc | apply pw_below_drewN | apply below_drew1 | refine below_set ?_ GE928.out) | exact HB.out)⟩
def laws_FnHiddenOf.Pure : Prop := ∀ (l0 : List Int), l0.length ≤ maxLen → l0.length * 1 ≤ 140737488351232 → (∀ x ∈ l0, (Lit.int .u8 x).wf = true) → ∃ k, laws_FnHiddenOf.f k l0 = some true
theorem laws_FnHiddenOf.walk (P : laws_FnHiddenOf.Pure) (a0 : Option Addr) (len0 cap0 : Nat) (z0 : List Int) (w : World) (w0 : (a0 = none ∧ len0 = 0 ∧ cap0 = 0 ∧ z0 = []) ∨ ∃ x, a0 = some x ∧ len0 ≤ cap0 ∧ cap0 ≤ maxLen ∧ z0.length = cap0 ∧ (∀ i, i < z0.length → w.cell? (x.add i) = some (.int .u8 (z0.getD i 0))) ∧ ∀ n ∈ z0, (Lit.int .u8 n).wf = true) (y0 : len0 * 1 ≤ 140737488351232) :
    Calls Try.prog 9 #[.slice a0 len0 cap0] w fun e w' => e = .returned (.bool true) ∧ Below w.heap.size w w' := by
  obtain ⟨l0, rfl, hr0, hm0, hw0, hc0⟩ := ReadsInt.ofRowC w0
  obtain ⟨k, h⟩ := P l0 hm0 y0 hw0
  refine (laws_FnHiddenOf.calls k _ _ l0 true w (Kd.C_of_reads (d := (0 : Int)) (h1 := fun _ => rfl) hr0) hc0 h).mono ?_
  rintro e w' ⟨rfl, hd⟩
  exact ⟨rfl, hd⟩
end Go.Proofs.Ytgbjbpjmbghlbaa.G
end
section
namespace Go.Proofs.Ytgbjbpjmbghlbaa.G
open Go.RowKit Go.Proofs.YtgbjbpjmbghlbaaW.PrintWords
set_option linter.unusedVariables false
set_option linter.unusedSimpArgs false
theorem isKey_ev (a : Int) : impl_isKey.f a = some (decide (0 ≤ a ∧ a < 10)) := by
  unfold impl_isKey.f
  by_cases h : a ≥ 0
  · rw [if_pos h]; simp only [ge_iff_le] at h; simp [h]
  · rw [if_neg h]; simp only [ge_iff_le] at h; simp [h]
theorem isValue_ev (a : Int) : impl_isValue.f a = some (decide (0 ≤ a ∧ a ≤ 96)) := by
  unfold impl_isValue.f
  by_cases h : a ≥ 0
  · rw [if_pos h]; simp only [ge_iff_le] at h; simp [h]
  · rw [if_neg h]; simp only [ge_iff_le] at h; simp [h]
theorem ite_prop (P : Prop) [Decidable P] (c : Bool) : (if P then some c else some false) = some (decide P && c) := by by_cases h : P <;> simp [h]
theorem fits_now (k : Nat) (a b : Int) (l : List Tk) : impl_Task_fits.f (k + 1) a b l = some (shapeB a b l.length) := by
  unfold impl_Task_fits.f
  have e0 : ∀ m : Nat, ((l.length : Int) == (m : Int)) = decide (l.length = m) := fun m => by rw [Bool.eq_iff_iff]; simp only [beq_iff_eq, decide_eq_true_eq]; omega
  have e1 : ((l.length : Int) == 0) = decide (l.length = 0) := e0 0
  have e2 : ((l.length : Int) == 1) = decide (l.length = 1) := e0 1
  have e3 : ((l.length : Int) == 2) = decide (l.length = 2) := e0 2
  have e4 : ((l.length : Int) == 3) = decide (l.length = 3) := e0 3
  simp only [impl_Task_fits.j0, isKey_ev, isValue_ev, Option.bind_some, e1, e2, e3, e4, ite_prop, Bool.decide_eq_true]
  clear e0 e1 e2 e3 e4
  unfold shapeB
  by_cases h0 : a = 0
  · simp only [h0, if_true]
  by_cases h1 : a = 1
  · simp only [h0, h1, if_true, if_false, show ¬ ((1 : Int) = 0) by decide]
  by_cases h2 : a = 2
  · simp only [h2, if_true, if_false, show ¬ ((2 : Int) = 0) by decide, show ¬ ((2 : Int) = 1) by decide, show ((2 : Int) == 2) = true by decide]
  by_cases h3 : a = 3
  · simp only [h3, if_true, if_false, show ¬ ((3 : Int) = 0) by decide, show ¬ ((3 : Int) = 1) by decide, show ¬ ((3 : Int) = 2) by decide, show ((3 : Int) == 3) = true by decide]
  have h3b : (a == 3) = false := beq_eq_false_iff_ne.mpr h3
  by_cases h4 : a = 4
  · simp only [h4, if_true, if_false, show ¬ ((4 : Int) = 0) by decide, show ¬ ((4 : Int) = 1) by decide, show ¬ ((4 : Int) = 2) by decide, show ¬ ((4 : Int) = 3) by decide, show ((4 : Int) == 3) = false by decide, Bool.false_eq_true, decide_true, Bool.true_and]
  by_cases h5 : a = 5
  · simp only [h5, if_true, if_false, show ¬ ((5 : Int) = 0) by decide, show ¬ ((5 : Int) = 1) by decide, show ¬ ((5 : Int) = 2) by decide, show ¬ ((5 : Int) = 3) by decide, show ¬ ((5 : Int) = 4) by decide, show ((5 : Int) == 3) = false by decide, Bool.false_eq_true, decide_true, Bool.true_and]
  simp only [h0, h1, h2, h3, h4, h5, h3b, if_false, Bool.false_eq_true, decide_false, Bool.false_and]
theorem fits_ev (a b : Int) (l : List Tk) : Ev (fun k => impl_Task_fits.f k a b l) (shapeB a b l.length) := ⟨1, fun k hk => by
  obtain ⟨m, rfl⟩ : ∃ m, k = m + 1 := ⟨k - 1, by omega⟩
  exact fits_now m a b l⟩
end Go.Proofs.Ytgbjbpjmbghlbaa.G
end
section
namespace Go.Proofs.Ytgbjbpjmbghlbaa.G
open Go.RowKit Go.Proofs.YtgbjbpjmbghlbaaW.PrintWords
set_option linter.unusedVariables false
set_option linter.unusedSimpArgs false
theorem Ev.eq {α : Type} {g : Nat → Option α} {r r' : α} (h : Ev g r) (e : r = r') : Ev g r' := e ▸ h
theorem Ev.of_eq {α : Type} {o : Option α} {r : α} (h : o = some r) : Ev (fun _ => o) r := ⟨0, fun _ _ => h⟩
def CountsTo (t : Tk) (room r : Int) : Prop := ((fitT t = true ∧ (nodT t : Int) ≤ room) → r = nodT t) ∧ (¬ (fitT t = true ∧ (nodT t : Int) ≤ room) → room < r) ∧ 1 ≤ r ∧ r ≤ 16 + 16 * room
theorem countTo_loop (ps : List Tk) (hlen : ps.length ≤ 3) (room : Int) (h0 : 0 ≤ room) (h1 : room ≤ 15)
    (ih : ∀ p ∈ ps, ∀ rm : Int, 0 ≤ rm → rm ≤ 15 → ∃ r, Ev (fun k => impl_Task_countTo.f k p.f0 p.f1 p.f2 rm) r ∧ CountsTo p rm r) :
    ∀ (d i : Nat) (n : Int), d = ps.length - i → i ≤ ps.length → 1 ≤ n → n ≤ 16 + 16 * room →
      ∃ r, Ev (fun k => impl_Task_countTo.l0 k room n ps (ps.length : Int) (i : Int)) r ∧ ((fitL (ps.drop i) = true ∧ n + (nodL (ps.drop i) : Int) ≤ room) → r = n + nodL (ps.drop i)) ∧ (¬ (fitL (ps.drop i) = true ∧ n + (nodL (ps.drop i) : Int) ≤ room) → room < r) ∧ 1 ≤ r ∧ r ≤ 16 + 16 * room := by
  intro d
  induction d with
  | zero =>
    intro i n hd hi hn hn2
    have e : i = ps.length := by omega
    subst e
    refine ⟨n, Ev.step (fun k => by rw [impl_Task_countTo.l0]) ?_, ?_⟩
    · simp only [if_neg (show ¬ ((ps.length : Int) < (ps.length : Int)) by omega)]
      exact Ev.now n
    · simp only [List.drop_length, fitL, nodL]
      refine ⟨fun _ => by simp, fun h => ?_, hn, hn2⟩
      simp at h
      omega
  | succ d ihd =>
    intro i n hd hi hn hn2
    have hlt : i < ps.length := by omega
    have hrd := rd_tk ps i hlt
    have hdr := drop_tk ps i hlt
    have hmem : ps[i] ∈ ps := List.getElem_mem hlt
    by_cases hg : n > room
    · refine ⟨16, Ev.step (fun k => by rw [impl_Task_countTo.l0]) ?_, fun h => ?_, fun _ => by omega, by omega, by omega⟩
      · simp only [if_pos (show (i : Int) < (ps.length : Int) by omega), if_pos (show (0 : Int) ≤ (i : Int) by omega), if_pos hg]
        exact Ev.now 16
      · exfalso
        have := h.2
        omega
    · obtain ⟨c, hc, hc1, hc2, hc3, hc4⟩ := ih ps[i] hmem (room - n) (by omega) (by omega)
      obtain ⟨r, hr, hr1, hr2, hr3, hr4⟩ := ihd (i + 1) (n + c) (by omega) (by omega) (by omega) (by omega)
      refine ⟨r, Ev.step (fun k => by rw [impl_Task_countTo.l0]) ?_, ?_, ?_, hr3, hr4⟩
      · simp only [if_pos (show (i : Int) < (ps.length : Int) by omega), if_pos (show (0 : Int) ≤ (i : Int) by omega), if_neg hg, hrd]
        rw [wrap_id (room - n) (by omega) (by omega), wrap_nat i (by omega)]
        refine Ev.bind hc ?_
        simp only [wrap_id (n + c) (by omega) (by omega)]
        exact hr
      · rw [hdr]
        simp only [fitL, nodL, Bool.and_eq_true]
        rintro ⟨⟨f1, f2⟩, h3⟩
        have e := hc1 ⟨f1, by omega⟩
        rw [hr1 ⟨f2, by omega⟩]
        omega
      · rw [hdr]
        simp only [fitL, nodL, Bool.and_eq_true]
        intro hno
        by_cases hp : fitT ps[i] = true ∧ (nodT ps[i] : Int) ≤ room - n
        · have e := hc1 hp
          exact hr2 (fun h => hno ⟨⟨hp.1, h.1⟩, by have := h.2; omega⟩)
        · have := hc2 hp
          exact hr2 (fun h => by have := h.2; omega)
theorem countTo_ev : ∀ t : Tk, ∀ room : Int, 0 ≤ room → room ≤ 15 → ∃ r, Ev (fun k => impl_Task_countTo.f k t.f0 t.f1 t.f2 room) r ∧ CountsTo t room r := by
  refine tk_ind fun t ih room h0 h1 => ?_
  by_cases hr : room < 1
  · refine ⟨16, Ev.step (fun k => by rw [impl_Task_countTo.f]) ?_, ?_, ?_, by omega, by omega⟩
    · simp only [if_pos hr]
      refine Ev.step (fun k => by rw [impl_Task_countTo.j0]) ?_
      simp only [if_true]
      exact Ev.now 16
    · rintro ⟨_, h⟩
      have := nodT_pos t
      omega
    · intro _
      omega
  · have hshape := fits_ev t.f0 t.f1 t.f2
    by_cases hf : shapeB t.f0 t.f1 t.f2.length = true
    · obtain ⟨r, hr1, hr2, hr3, hr4, hr5⟩ := countTo_loop t.f2 (shapeB_len hf) room h0 h1 ih t.f2.length 0 1 (by omega) (by omega) (by omega) (by omega)
      refine ⟨r, Ev.step (fun k => by rw [impl_Task_countTo.f]) ?_, ?_, ?_, hr4, hr5⟩
      · simp only [if_neg hr]
        refine Ev.bind hshape ?_
        simp only [hf, Bool.not_true]
        refine Ev.step (fun k => by rw [impl_Task_countTo.j0]) ?_
        simp only [Bool.false_eq_true, if_false]
        exact hr1
      · rw [fitT_eq, nodT_eq, hf]
        simp only [List.drop_zero, Bool.true_and] at hr2 ⊢
        rintro ⟨a, b⟩
        rw [hr2 ⟨a, by omega⟩]
        omega
      · rw [fitT_eq, nodT_eq, hf]
        simp only [List.drop_zero, Bool.true_and] at hr3 ⊢
        intro h
        exact hr3 (fun ⟨a, b⟩ => h ⟨a, by omega⟩)
    · refine ⟨16, Ev.step (fun k => by rw [impl_Task_countTo.f]) ?_, ?_, ?_, by omega, by omega⟩
      · simp only [if_neg hr]
        refine Ev.bind hshape ?_
        simp only [Bool.not_eq_true] at hf
        simp only [hf, Bool.not_false]
        refine Ev.step (fun k => by rw [impl_Task_countTo.j0]) ?_
        simp only [if_true]
        exact Ev.now 16
      · rw [fitT_eq]
        intro h
        simp [hf] at h
      · intro _
        omega
theorem count_loop (ps : List Tk) (hlen : ps.length ≤ 3) :
    ∀ (d i : Nat) (n : Int), d = ps.length - i → i ≤ ps.length → 1 ≤ n → n ≤ 300 →
      ∃ r, Ev (fun k => impl_Task_count.l0 k n ps (ps.length : Int) (i : Int)) r ∧ ((fitL (ps.drop i) = true ∧ n + (nodL (ps.drop i) : Int) ≤ 15) → r = n + nodL (ps.drop i)) ∧ (¬ (fitL (ps.drop i) = true ∧ n + (nodL (ps.drop i) : Int) ≤ 15) → 15 < r) := by
  intro d
  induction d with
  | zero =>
    intro i n hd hi hn hn2
    have e : i = ps.length := by omega
    subst e
    refine ⟨n, Ev.step (fun k => by rw [impl_Task_count.l0]) ?_, ?_⟩
    · simp only [if_neg (show ¬ ((ps.length : Int) < (ps.length : Int)) by omega)]
      exact Ev.now n
    · simp only [List.drop_length, fitL, nodL]
      refine ⟨fun _ => by simp, fun h => ?_⟩
      simp at h
      omega
  | succ d ihd =>
    intro i n hd hi hn hn2
    have hlt : i < ps.length := by omega
    have hrd := rd_tk ps i hlt
    have hdr := drop_tk ps i hlt
    by_cases hg : n > 15
    · refine ⟨n, Ev.step (fun k => by rw [impl_Task_count.l0]) ?_, fun h => ?_, fun _ => by omega⟩
      · simp only [if_pos (show (i : Int) < (ps.length : Int) by omega), if_pos (show (0 : Int) ≤ (i : Int) by omega), if_pos hg]
        exact Ev.now n
      · exfalso
        have := h.2
        omega
    · obtain ⟨c, hc, hc1, hc2, hc3, hc4⟩ := countTo_ev ps[i] (15 - n) (by omega) (by omega)
      obtain ⟨r, hr, hr1, hr2⟩ := ihd (i + 1) (n + c) (by omega) (by omega) (by omega) (by omega)
      refine ⟨r, Ev.step (fun k => by rw [impl_Task_count.l0]) ?_, ?_, ?_⟩
      · simp only [if_pos (show (i : Int) < (ps.length : Int) by omega), if_pos (show (0 : Int) ≤ (i : Int) by omega), if_neg hg, hrd]
        rw [wrap_id (15 - n) (by omega) (by omega), wrap_nat i (by omega)]
        refine Ev.bind hc ?_
        simp only [wrap_id (n + c) (by omega) (by omega)]
        exact hr
      · rw [hdr]
        simp only [fitL, nodL, Bool.and_eq_true]
        rintro ⟨⟨f1, f2⟩, h3⟩
        have e := hc1 ⟨f1, by omega⟩
        rw [hr1 ⟨f2, by omega⟩]
        omega
      · rw [hdr]
        simp only [fitL, nodL, Bool.and_eq_true]
        intro hno
        by_cases hp : fitT ps[i] = true ∧ (nodT ps[i] : Int) ≤ 15 - n
        · have e := hc1 hp
          exact hr2 (fun h => hno ⟨⟨hp.1, h.1⟩, by have := h.2; omega⟩)
        · have := hc2 hp
          exact hr2 (fun h => by have := h.2; omega)
theorem count_ev (t : Tk) : ∃ r, Ev (fun k => impl_Task_count.f k t.f0 t.f1 t.f2) r ∧ (okT t = true → r = nodT t) ∧ (okT t = false → 15 < r) := by
  have hshape := fits_ev t.f0 t.f1 t.f2
  by_cases hf : shapeB t.f0 t.f1 t.f2.length = true
  · obtain ⟨r, hr1, hr2, hr3⟩ := count_loop t.f2 (shapeB_len hf) t.f2.length 0 1 (by omega) (by omega) (by omega) (by omega)
    refine ⟨r, ?_, ?_, ?_⟩
    · unfold impl_Task_count.f
      refine Ev.bind hshape ?_
      simp only [hf, if_true]
      exact hr1
    · intro h
      have h1 := okT_fit h
      have h2 := okT_nod h
      rw [fitT_eq, Bool.and_eq_true] at h1
      rw [nodT_eq] at h2 ⊢
      simp only [List.drop_zero] at hr2
      rw [hr2 ⟨h1.2, by omega⟩]
      omega
    · intro h
      simp only [List.drop_zero] at hr3
      refine hr3 (fun ⟨a, b⟩ => ?_)
      rw [okT, fitT_eq, nodT_eq, hf, a] at h
      simp at h
      omega
  · refine ⟨16, ?_, ?_, fun _ => by omega⟩
    · unfold impl_Task_count.f
      refine Ev.bind hshape ?_
      simp only [hf, Bool.false_eq_true, if_false]
      exact Ev.now 16
    · intro h
      have h1 := okT_fit h
      rw [fitT_eq, Bool.and_eq_true] at h1
      exact absurd h1.1 hf
theorem implOk_ev (t : Tk) : Ev (fun k => impl_TaskOk.f k t.f0 t.f1 t.f2) (okT t) := by
  obtain ⟨r, hr, h1, h2⟩ := count_ev t
  unfold impl_TaskOk.f
  refine Ev.bind hr ?_
  refine Ev.of_eq ?_
  cases h : okT t with
  | true => have := h1 h; have := okT_nod h; simp; omega
  | false => have := h2 h; simp; omega
theorem l1Shape_now (k : Nat) (a : Int) : spec_l1Shape.f (k + 1) a = some (if a = 0 then (0, 96, true) else if a = 1 then (0, 9, true) else if a = 2 then (2, 0, true) else if a = 3 then (2, 0, true) else if a = 4 then (3, 0, true) else if a = 5 then (1, 9, true) else (0, 0, false)) := by
  unfold spec_l1Shape.f
  simp only [spec_l1Shape.j0]
  repeat' split
  all_goals simp_all
theorem l1Shape_ev (a : Int) : Ev (fun k => spec_l1Shape.f k a) (if a = 0 then (0, 96, true) else if a = 1 then (0, 9, true) else if a = 2 then (2, 0, true) else if a = 3 then (2, 0, true) else if a = 4 then (3, 0, true) else if a = 5 then (1, 9, true) else (0, 0, false)) := ⟨1, fun k hk => by
  obtain ⟨m, rfl⟩ : ∃ m, k = m + 1 := ⟨k - 1, by omega⟩
  exact l1Shape_now m a⟩
theorem l6In_ev (a b c : Int) : spec_l6In.f a b c = some (decide (b ≤ a ∧ a ≤ c)) := by
  unfold spec_l6In.f
  by_cases h : a ≥ b
  · rw [if_pos h]; simp only [ge_iff_le] at h; simp [h]
  · rw [if_neg h]; simp only [ge_iff_le] at h; simp [h]
theorem l1Fit_loop (a b : Int) (ps : List Tk) (hlen : ps.length ≤ 3) (ih : ∀ p ∈ ps, Ev (fun k => spec_l1Fit.f k p.f0 p.f1 p.f2) (fitT p)) :
    ∀ (d i : Nat), d = ps.length - i → i ≤ ps.length → Ev (fun k => spec_l1Fit.l0 k (i : Int) a b ps) (fitL (ps.drop i)) := by
  intro d
  induction d with
  | zero =>
    intro i hd hi
    have e : i = ps.length := by omega
    subst e
    refine Ev.step (fun k => by rw [spec_l1Fit.l0]) ?_
    simp only [if_neg (show ¬ ((ps.length : Int) < (ps.length : Int)) by omega), List.drop_length, fitL]
    exact Ev.now true
  | succ d ihd =>
    intro i hd hi
    have hlt : i < ps.length := by omega
    have hrd := rd_tk ps i hlt
    have hmem : ps[i] ∈ ps := List.getElem_mem hlt
    rw [drop_tk ps i hlt]
    refine Ev.step (fun k => by rw [spec_l1Fit.l0]) ?_
    simp only [if_pos (show (i : Int) < (ps.length : Int) by omega), if_pos (show (0 : Int) ≤ (i : Int) by omega), hrd]
    refine Ev.bind (ih _ hmem) ?_
    simp only [fitL]
    cases h : fitT ps[i] with
    | true =>
      simp only [if_true, Bool.true_and, wrap_nat i (by omega)]
      exact ihd (i + 1) (by omega) (by omega)
    | false =>
      simp only [Bool.false_eq_true, if_false, Bool.false_and]
      exact Ev.now false
theorem l1Fit_ev : ∀ t : Tk, Ev (fun k => spec_l1Fit.f k t.f0 t.f1 t.f2) (fitT t) := by
  refine tk_ind fun t ih => ?_
  refine Ev.step (fun k => by rw [spec_l1Fit.f]) ?_
  refine Ev.bind (l1Shape_ev t.f0) ?_
  rw [fitT_eq]
  have bad : Ev (fun k => spec_l1Fit.j0 k true t.f0 t.f1 t.f2) false := by
    refine Ev.step (fun k => by rw [spec_l1Fit.j0]) ?_
    simp only [if_true]
    exact Ev.now false
  have good : t.f2.length ≤ 3 → ∀ c : Bool, Ev (fun k => spec_l1Fit.j0 k (!c) t.f0 t.f1 t.f2) (c && fitL t.f2) := by
    intro hl c
    refine Ev.step (fun k => by rw [spec_l1Fit.j0]) ?_
    cases c with
    | false =>
      simp only [Bool.not_false, if_true, Bool.false_and]
      exact Ev.now false
    | true =>
      simp only [Bool.not_true, Bool.false_eq_true, if_false, Bool.true_and]
      exact l1Fit_loop t.f0 t.f1 t.f2 hl ih t.f2.length 0 (by omega) (by omega)
  have e0 : ∀ m : Nat, ((t.f2.length : Int) = (m : Int)) = (t.f2.length = m) := fun m => by rw [eq_iff_iff]; omega
  have e1 : ((t.f2.length : Int) = 0) = (t.f2.length = 0) := e0 0
  have e2 : ((t.f2.length : Int) = 1) = (t.f2.length = 1) := e0 1
  have e3 : ((t.f2.length : Int) = 2) = (t.f2.length = 2) := e0 2
  have e4 : ((t.f2.length : Int) = 3) = (t.f2.length = 3) := e0 3
  simp only [l6In_ev, Option.bind_some]
  unfold shapeB
  by_cases h0 : t.f0 = 0
  · simp only [h0, if_true, e1] at good bad ⊢
    by_cases hl : t.f2.length = 0
    · simp only [hl, if_true, decide_true, Bool.and_true] at good ⊢
      exact good (by omega) _
    · simp only [hl, if_false, decide_false, Bool.and_false, Bool.false_and]
      exact bad
  by_cases h1 : t.f0 = 1
  · have e9 : ∀ x : Int, (0 ≤ x ∧ x < 10) = (0 ≤ x ∧ x ≤ 9) := fun x => by rw [eq_iff_iff]; omega
    simp only [h1, if_true, e1, e9, show ¬ ((1 : Int) = 0) by decide, if_false] at good bad ⊢
    by_cases hl : t.f2.length = 0
    · simp only [hl, if_true, decide_true, Bool.and_true] at good ⊢
      exact good (by omega) _
    · simp only [hl, if_false, decide_false, Bool.and_false, Bool.false_and]
      exact bad
  by_cases h2 : t.f0 = 2
  · have e9 : ∀ x : Int, (x = 0) = (0 ≤ x ∧ x ≤ 0) := fun x => by rw [eq_iff_iff]; omega
    simp only [h2, if_true, e3, e9 t.f1, show ¬ ((2 : Int) = 0) by decide, show ¬ ((2 : Int) = 1) by decide, if_false] at good bad ⊢
    by_cases hl : t.f2.length = 2
    · simp only [hl, if_true, decide_true, Bool.and_true] at good ⊢
      exact good (by omega) _
    · simp only [hl, if_false, decide_false, Bool.and_false, Bool.false_and]
      exact bad
  by_cases h3 : t.f0 = 3
  · have e9 : ∀ x : Int, (x = 0) = (0 ≤ x ∧ x ≤ 0) := fun x => by rw [eq_iff_iff]; omega
    simp only [h3, if_true, e3, e9 t.f1, show ¬ ((3 : Int) = 0) by decide, show ¬ ((3 : Int) = 1) by decide, show ¬ ((3 : Int) = 2) by decide, if_false] at good bad ⊢
    by_cases hl : t.f2.length = 2
    · simp only [hl, if_true, decide_true, Bool.and_true] at good ⊢
      exact good (by omega) _
    · simp only [hl, if_false, decide_false, Bool.and_false, Bool.false_and]
      exact bad
  by_cases h4 : t.f0 = 4
  · have e9 : ∀ x : Int, (x = 0) = (0 ≤ x ∧ x ≤ 0) := fun x => by rw [eq_iff_iff]; omega
    simp only [h4, if_true, e4, e9 t.f1, show ¬ ((4 : Int) = 0) by decide, show ¬ ((4 : Int) = 1) by decide, show ¬ ((4 : Int) = 2) by decide, show ¬ ((4 : Int) = 3) by decide, if_false] at good bad ⊢
    by_cases hl : t.f2.length = 3
    · simp only [hl, if_true, decide_true, Bool.and_true] at good ⊢
      exact good (by omega) _
    · simp only [hl, if_false, decide_false, Bool.and_false, Bool.false_and]
      exact bad
  by_cases h5 : t.f0 = 5
  · have e9 : ∀ x : Int, (0 ≤ x ∧ x < 10) = (0 ≤ x ∧ x ≤ 9) := fun x => by rw [eq_iff_iff]; omega
    simp only [h5, if_true, e2, e9 t.f1, show ¬ ((5 : Int) = 0) by decide, show ¬ ((5 : Int) = 1) by decide, show ¬ ((5 : Int) = 2) by decide, show ¬ ((5 : Int) = 3) by decide, show ¬ ((5 : Int) = 4) by decide, if_false] at good bad ⊢
    by_cases hl : t.f2.length = 1
    · simp only [hl, if_true, decide_true, Bool.and_true] at good ⊢
      exact good (by omega) _
    · simp only [hl, if_false, decide_false, Bool.and_false, Bool.false_and]
      exact bad
  · simp only [h0, h1, h2, h3, h4, h5, if_false, Bool.false_eq_true, Bool.false_and]
    exact bad
theorem l1Nodes_loop (a b : Int) (ps : List Tk) (hlen : ps.length ≤ 4000000000) (ih : ∀ p ∈ ps, (nodT p : Int) ≤ 4000000000 → Ev (fun k => spec_l1Nodes.f k p.f0 p.f1 p.f2) (nodT p : Int)) :
    ∀ (d i : Nat) (n : Int), d = ps.length - i → i ≤ ps.length → 0 ≤ n → n + (nodL (ps.drop i) : Int) ≤ 4000000000 → Ev (fun k => spec_l1Nodes.l0 k n (i : Int) a b ps) (n + nodL (ps.drop i)) := by
  intro d
  induction d with
  | zero =>
    intro i n hd hi hn hb
    have e : i = ps.length := by omega
    subst e
    refine Ev.step (fun k => by rw [spec_l1Nodes.l0]) ?_
    simp only [if_neg (show ¬ ((ps.length : Int) < (ps.length : Int)) by omega), List.drop_length, nodL]
    exact Ev.eq (Ev.now n) (by omega)
  | succ d ihd =>
    intro i n hd hi hn hb
    have hlt : i < ps.length := by omega
    have hrd := rd_tk ps i hlt
    have hmem : ps[i] ∈ ps := List.getElem_mem hlt
    rw [drop_tk ps i hlt] at hb ⊢
    simp only [nodL] at hb ⊢
    refine Ev.step (fun k => by rw [spec_l1Nodes.l0]) ?_
    simp only [if_pos (show (i : Int) < (ps.length : Int) by omega), if_pos (show (0 : Int) ≤ (i : Int) by omega), hrd]
    refine Ev.bind (ih _ hmem (by omega)) ?_
    simp only [wrap_nat i (by omega), wrap_id (n + (nodT ps[i] : Int)) (by omega) (by omega)]
    exact Ev.eq (ihd (i + 1) (n + nodT ps[i]) (by omega) (by omega) (by omega) (by omega)) (by omega)
theorem l1Nodes_ev : ∀ t : Tk, (nodT t : Int) ≤ 4000000000 → Ev (fun k => spec_l1Nodes.f k t.f0 t.f1 t.f2) (nodT t : Int) := by
  refine tk_ind fun t ih hb => ?_
  rw [nodT_eq] at hb ⊢
  have := nodL_len t.f2
  refine Ev.step (fun k => by rw [spec_l1Nodes.f]) ?_
  exact Ev.eq (l1Nodes_loop t.f0 t.f1 t.f2 (by omega) ih t.f2.length 0 1 (by omega) (by omega) (by omega) (by rw [List.drop_zero]; omega)) (by rw [List.drop_zero]; omega)
theorem specOk_ev (t : Tk) (hb : (nodT t : Int) ≤ 4000000000) : Ev (fun k => spec_TaskOk.f k t.f0 t.f1 t.f2) (okT t) := by
  unfold spec_TaskOk.f
  refine Ev.bind (l1Fit_ev t) ?_
  unfold okT
  cases h : fitT t with
  | false =>
    simp only [Bool.false_eq_true, if_false, Bool.false_and]
    exact Ev.now false
  | true =>
    simp only [if_true, Bool.true_and]
    refine Ev.bind (l1Nodes_ev t hb) ?_
    refine Ev.of_eq ?_
    congr 1
    rw [Bool.eq_iff_iff]
    simp only [decide_eq_true_eq]
    omega
end Go.Proofs.Ytgbjbpjmbghlbaa.G
end
section
namespace Go.Proofs.Ytgbjbpjmbghlbaa.G
open Go.RowKit Go.Proofs.YtgbjbpjmbghlbaaW.PrintWords
set_option linter.unusedVariables false
set_option linter.unusedSimpArgs false
theorem xor_nonneg (a b : Int) (ha : 0 ≤ a) (ha2 : a < 4611686018427387904) (hb : 0 ≤ b) (hb2 : b < 4611686018427387904) : 0 ≤ Go.bits .xor .i64 a b := by
  obtain ⟨x, rfl⟩ := Int.eq_ofNat_of_zero_le ha
  obtain ⟨y, rfl⟩ := Int.eq_ofNat_of_zero_le hb
  have hx : x < 2 ^ 62 := by omega
  have hy : y < 2 ^ 62 := by omega
  have hx2 : x % 2 ^ 64 = x := Nat.mod_eq_of_lt (by omega)
  have hy2 : y % 2 ^ 64 = y := Nat.mod_eq_of_lt (by omega)
  have hz : x ^^^ y < 2 ^ 62 := Nat.xor_lt_two_pow hx hy
  have e : Go.bits .xor .i64 (x : Int) (y : Int) = ((x ^^^ y : Nat) : Int) := by
    show IntKind.i64.wrap ((BitVec.ofInt 64 (x : Int) ^^^ BitVec.ofInt 64 (y : Int)).toNat : Int) = _
    rw [BitVec.toNat_xor, BitVec.ofInt_natCast, BitVec.ofInt_natCast, BitVec.toNat_ofNat, BitVec.toNat_ofNat, hx2, hy2, IntKind.wrap_i64]
    omega
  rw [e]
  omega
def byteL (l : List Int) : Prop := ∀ x ∈ l, 0 ≤ x ∧ x ≤ 255
theorem rd_byte {l : List Int} (h : byteL l) (i : Int) : 0 ≤ rd l i ∧ rd l i ≤ 255 := by
  unfold rd
  by_cases hi : i.toNat < l.length
  · rw [List.getD_eq_getElem?_getD, List.getElem?_eq_getElem hi, Option.getD_some]
    exact h _ (List.getElem_mem hi)
  · rw [List.getD_eq_getElem?_getD, List.getElem?_eq_none (by omega), Option.getD_none]
    omega
theorem pick_ev {l : List Int} (hl : byteL l) (hlen : l.length ≤ 1048576) (p n : Int) (h0 : 0 ≤ p) (h1 : p ≤ 1099511627776) :
    ∃ v, Ev (fun k => spec_l6Rd_pick.f k l p n) (v, p + 1) ∧ 0 ≤ v ∧ (1 ≤ n → v < n) ∧ (n < 1 → v = 0) := by
  have e1 : wrap64 (p + 1) = p + 1 := wrap_id _ (by omega) (by omega)
  have e2 : wrap64 (p + 1 - 1) = p := by rw [wrap_id (p + 1 - 1) (by omega) (by omega)]; omega
  by_cases hn : n < 1
  · refine ⟨0, ?_, by omega, by omega, by omega⟩
    unfold spec_l6Rd_pick.f
    simp only [if_pos hn, e1]
    refine Ev.step (fun k => by rw [spec_l6Rd_pick.j0]) ?_
    simp only [if_true]
    exact Ev.now _
  · by_cases hz : l.length = 0
    · refine ⟨0, ?_, by omega, by omega, by omega⟩
      unfold spec_l6Rd_pick.f
      simp only [if_neg hn, e1, show ((l.length : Int) == 0) = true by simp [hz]]
      refine Ev.step (fun k => by rw [spec_l6Rd_pick.j0]) ?_
      simp only [if_true]
      exact Ev.now _
    · have hzb : ((l.length : Int) == 0) = false := beq_eq_false_iff_ne.mpr (by omega)
      by_cases hp : p < (l.length : Int)
      · have hr := rd_byte hl p
        have ew : wrap64 (rd l p) = rd l p := wrap_id _ (by omega) (by omega)
        refine ⟨Int.tmod (rd l p) n, ?_, Int.tmod_nonneg _ hr.1, fun _ => Int.tmod_lt_of_pos _ (by omega), by omega⟩
        unfold spec_l6Rd_pick.f
        simp only [if_neg hn, e1, hzb]
        refine Ev.step (fun k => by rw [spec_l6Rd_pick.j0]) ?_
        simp only [Bool.false_eq_true, if_false, e2, if_pos hp, if_pos h0, if_neg (show ¬ n = 0 by omega), ew]
        exact Ev.now _
      · have hl0 : 0 < (l.length : Int) := by omega
        have t1 := Int.tmod_nonneg (l.length : Int) h0
        have t2 := Int.tmod_lt_of_pos p hl0
        have e3 : wrap64 (p * 7) = p * 7 := wrap_id _ (by omega) (by omega)
        have e4 : wrap64 (p * 7 + 3) = p * 7 + 3 := wrap_id _ (by omega) (by omega)
        have t3 := Int.tmod_nonneg (l.length : Int) (show 0 ≤ p * 7 + 3 by omega)
        have t4 := Int.tmod_lt_of_pos (p * 7 + 3) hl0
        have q1 : 0 ≤ Int.tdiv p (l.length : Int) := Int.tdiv_nonneg h0 (by omega)
        have q2 : Int.tdiv p (l.length : Int) ≤ p := by
          rw [Int.tdiv_eq_ediv_of_nonneg h0]
          exact Int.ediv_le_self _ h0
        have ha := rd_byte hl (Int.tmod p (l.length : Int))
        have hb := rd_byte hl (Int.tmod (p * 7 + 3) (l.length : Int))
        have key : ∃ v, Ev (fun k => spec_l6Rd_pick.j0 k n false l (p + 1)) (v, p + 1) ∧ 0 ≤ v ∧ (1 ≤ n → v < n) := by
          refine ⟨?_, ?_, ?_, ?_⟩
          rotate_left
          · refine Ev.step (fun k => by rw [spec_l6Rd_pick.j0]) ?_
            simp only [Bool.false_eq_true, if_false, e2, if_neg hp, if_neg (show ¬ (l.length : Int) = 0 by omega), if_pos t1, if_pos t2, e3, e4, if_pos t3, if_pos t4, if_neg (show ¬ n = 0 by omega)]
            exact Ev.now _
          · refine Int.tmod_nonneg _ ?_
            generalize rd l (Int.tmod p (l.length : Int)) = a at *
            generalize rd l (Int.tmod (p * 7 + 3) (l.length : Int)) = b at *
            generalize Int.tdiv p (l.length : Int) = q at *
            have hX : 0 ≤ wrap64 (wrap64 (wrap64 (wrap64 (wrap64 a * 131) + wrap64 (wrap64 b * 1117)) + wrap64 (p * 29)) + wrap64 (wrap64 q * 53)) ∧ wrap64 (wrap64 (wrap64 (wrap64 (wrap64 a * 131) + wrap64 (wrap64 b * 1117)) + wrap64 (p * 29)) + wrap64 (wrap64 q * 53)) < 4611686018427387904 := by
              simp only [wrap_id a (by omega) (by omega), wrap_id b (by omega) (by omega), wrap_id q (by omega) (by omega), wrap_id (a * 131) (by omega) (by omega), wrap_id (b * 1117) (by omega) (by omega), wrap_id (q * 53) (by omega) (by omega), wrap_id (p * 29) (by omega) (by omega), wrap_id (a * 131 + b * 1117) (by omega) (by omega), wrap_id (a * 131 + b * 1117 + p * 29) (by omega) (by omega), wrap_id (a * 131 + b * 1117 + p * 29 + q * 53) (by omega) (by omega)]
              omega
            generalize wrap64 (wrap64 (wrap64 (wrap64 (wrap64 a * 131) + wrap64 (wrap64 b * 1117)) + wrap64 (p * 29)) + wrap64 (wrap64 q * 53)) = X at *
            have hY : 0 ≤ Int.tdiv X 64 := Int.tdiv_nonneg hX.1 (by omega)
            have hY2 : Int.tdiv X 64 ≤ X := by
              rw [Int.tdiv_eq_ediv_of_nonneg hX.1]
              exact Int.ediv_le_self _ hX.1
            rw [wrap_id (Int.tdiv X 64) (by omega) (by omega)]
            exact xor_nonneg _ _ hX.1 hX.2 hY (by omega)
          · intro _
            exact Int.tmod_lt_of_pos _ (by omega)
        obtain ⟨v, hv, hv1, hv2⟩ := key
        refine ⟨v, ?_, hv1, hv2, by omega⟩
        unfold spec_l6Rd_pick.f
        simp only [if_neg hn, e1, hzb]
        exact hv
theorem key_ev {l : List Int} (hl : byteL l) (hlen : l.length ≤ 1048576) (p below : Int) (h0 : 0 ≤ p) (h1 : p + 1 ≤ 1099511627776) (hb : below ≤ 10) :
    ∃ v p', Ev (fun k => spec_l91Key.f k l p below) (v, p') ∧ 0 ≤ v ∧ v ≤ 9 ∧ p ≤ p' ∧ p' ≤ p + 2 := by
  obtain ⟨v, hv, v0, v1, v2⟩ := pick_ev hl hlen p 25 h0 (by omega)
  by_cases hz : v = 0
  · refine ⟨9, p + 1, ?_, by omega, by omega, by omega, by omega⟩
    unfold spec_l91Key.f
    refine Ev.bind hv ?_
    simp only [if_pos hz]
    exact Ev.now _
  · obtain ⟨u, hu, u0, u1, u2⟩ := pick_ev hl hlen (p + 1) below (by omega) (by omega)
    refine ⟨u, p + 1 + 1, ?_, by omega, ?_, by omega, by omega⟩
    · unfold spec_l91Key.f
      refine Ev.bind hv ?_
      simp only [if_neg hz]
      exact Ev.bind hu (Ev.now _)
    · by_cases hc : 1 ≤ below
      · have := u1 hc; omega
      · have := u2 (by omega); omega
def room : Nat → Int
  | 0 => 4
  | d + 1 => 4 * room d
theorem room_pos : ∀ d, 4 ≤ room d
  | 0 => by simp [room]
  | d + 1 => by have := room_pos d; simp only [room]; omega
theorem room3 : room 3 = 256 := by decide
theorem room2 : room 2 = 64 := by decide
theorem room_le {d : Nat} (h : d ≤ 3) : room d ≤ 256 := by
  match d, h with
  | 0, _ => decide
  | 1, _ => decide
  | 2, _ => decide
  | 3, _ => decide
theorem tk_eta (t : Tk) : (⟨t.f0, t.f1, t.f2⟩ : Tk) = t := by cases t; rfl
theorem nodT_one (a b : Int) : nodT ⟨a, b, []⟩ = 1 := by simp [nodT, nodL]
theorem task_ev {l : List Int} (hl : byteL l) (hlen : l.length ≤ 1048576) (below : Int) (hb : below ≤ 10) : ∀ (d : Nat) (p : Int), d ≤ 3 → 0 ≤ p → p + 4 * room d + 10 ≤ 1099511627776 →
    ∃ (t : Tk) (p' : Int), Ev (fun k => spec_l91Task.f k l p below (d : Int)) (t.f0, t.f1, t.f2, p') ∧ p ≤ p' ∧ p' ≤ p + room d ∧ (nodT t : Int) ≤ room d := by
  intro d
  induction d with
  | zero =>
    intro p hd h0 h1
    have hr0 : room 0 = 4 := rfl
    obtain ⟨v, hv, v0, v1, v2⟩ := pick_ev hl hlen p 9 h0 (by omega)
    have num : ∃ (t : Tk) (p' : Int), Ev (fun k => spec_l91Task.j1 k below true l (p + 1)) (t.f0, t.f1, t.f2, p') ∧ p ≤ p' ∧ p' ≤ p + room 0 ∧ (nodT t : Int) ≤ room 0 := by
      obtain ⟨u, hu, u0, u1, u2⟩ := pick_ev hl hlen (p + 1) 97 (by omega) (by omega)
      refine ⟨⟨0, u, []⟩, p + 1 + 1, ?_, by omega, by simp only [room]; omega, by rw [nodT_one]; simp [room]⟩
      refine Ev.step (fun k => by rw [spec_l91Task.j1]) ?_
      simp only [if_true]
      exact Ev.bind hu (Ev.now _)
    have key : ∃ (t : Tk) (p' : Int), Ev (fun k => spec_l91Task.j1 k below false l (p + 1)) (t.f0, t.f1, t.f2, p') ∧ p ≤ p' ∧ p' ≤ p + room 0 ∧ (nodT t : Int) ≤ room 0 := by
      obtain ⟨u, p', hu, u0, u1, u2, u3⟩ := key_ev hl hlen (p + 1) below (by omega) (by omega) hb
      refine ⟨⟨1, u, []⟩, p', ?_, by omega, by simp only [room]; omega, by rw [nodT_one]; simp [room]⟩
      refine Ev.step (fun k => by rw [spec_l91Task.j1]) ?_
      simp only [Bool.false_eq_true, if_false]
      exact Ev.bind hu (Ev.now _)
    have both : ∃ (t : Tk) (p' : Int), Ev (fun k => spec_l91Task.j0 k below ((0 : Nat) : Int) v true l (p + 1)) (t.f0, t.f1, t.f2, p') ∧ p ≤ p' ∧ p' ≤ p + room 0 ∧ (nodT t : Int) ≤ room 0 := by
      by_cases h2 : Int.tmod v 2 = 0
      · obtain ⟨t, p', ht, hr⟩ := num
        refine ⟨t, p', ?_, hr⟩
        refine Ev.step (fun k => by rw [spec_l91Task.j0]) ?_
        simp only [if_true, if_pos h2]
        exact ht
      · cases hz : (below == 0) with
        | true =>
          obtain ⟨t, p', ht, hr⟩ := num
          refine ⟨t, p', ?_, hr⟩
          refine Ev.step (fun k => by rw [spec_l91Task.j0]) ?_
          simp only [if_true, if_neg h2, hz]
          exact ht
        | false =>
          obtain ⟨t, p', ht, hr⟩ := key
          refine ⟨t, p', ?_, hr⟩
          refine Ev.step (fun k => by rw [spec_l91Task.j0]) ?_
          simp only [if_true, if_neg h2, hz]
          exact ht
    obtain ⟨t, p', ht, hr⟩ := both
    refine ⟨t, p', ?_, hr⟩
    refine Ev.step (fun k => by rw [spec_l91Task.f]) ?_
    refine Ev.bind hv ?_
    simp only [if_pos (show ((0 : Nat) : Int) = 0 from rfl)]
    exact ht
  | succ d ih =>
    intro p hd h0 h1
    have hr0 := room_pos d
    have hr1 := room_le (show d ≤ 3 by omega)
    have hr2 : room (d + 1) = 4 * room d := rfl
    have ew : wrap64 (((d + 1 : Nat) : Int) - 1) = (d : Int) := by rw [wrap_id (((d + 1 : Nat) : Int) - 1) (by omega) (by omega)]; omega
    obtain ⟨v, hv, v0, v1, v2⟩ := pick_ev hl hlen p 9 h0 (by omega)
    have leaf : ∀ b, ∃ (t : Tk) (p' : Int), Ev (fun k => spec_l91Task.j1 k below b l (p + 1)) (t.f0, t.f1, t.f2, p') ∧ p ≤ p' ∧ p' ≤ p + room (d + 1) ∧ (nodT t : Int) ≤ room (d + 1) := by
      intro b
      cases b with
      | true =>
        obtain ⟨u, hu, u0, u1, u2⟩ := pick_ev hl hlen (p + 1) 97 (by omega) (by omega)
        refine ⟨⟨0, u, []⟩, p + 1 + 1, ?_, by omega, by omega, by rw [nodT_one]; omega⟩
        refine Ev.step (fun k => by rw [spec_l91Task.j1]) ?_
        simp only [if_true]
        exact Ev.bind hu (Ev.now _)
      | false =>
        obtain ⟨u, p', hu, u0, u1, u2, u3⟩ := key_ev hl hlen (p + 1) below (by omega) (by omega) hb
        refine ⟨⟨1, u, []⟩, p', ?_, by omega, by omega, by rw [nodT_one]; omega⟩
        refine Ev.step (fun k => by rw [spec_l91Task.j1]) ?_
        simp only [Bool.false_eq_true, if_false]
        exact Ev.bind hu (Ev.now _)
    have main : ∃ (t : Tk) (p' : Int), Ev (fun k => spec_l91Task.j0 k below ((d + 1 : Nat) : Int) v (decide (v < 3)) l (p + 1)) (t.f0, t.f1, t.f2, p') ∧ p ≤ p' ∧ p' ≤ p + room (d + 1) ∧ (nodT t : Int) ≤ room (d + 1) := by
      by_cases h3 : v < 3
      · by_cases h2 : Int.tmod v 2 = 0
        · obtain ⟨t, p', ht, hr⟩ := leaf true
          refine ⟨t, p', ?_, hr⟩
          refine Ev.step (fun k => by rw [spec_l91Task.j0]) ?_
          simp only [decide_eq_true h3, if_true, if_pos h2]
          exact ht
        · obtain ⟨t, p', ht, hr⟩ := leaf (below == 0)
          refine ⟨t, p', ?_, hr⟩
          refine Ev.step (fun k => by rw [spec_l91Task.j0]) ?_
          simp only [decide_eq_true h3, if_true, if_neg h2]
          exact ht
      · have h3b : decide (v < 3) = false := decide_eq_false h3
        obtain ⟨t1, p1, e1, a1, b1, n1⟩ := ih (p + 1) (by omega) (by omega) (by omega)
        obtain ⟨t2, p2, e2, a2, b2, n2⟩ := ih p1 (by omega) (by omega) (by omega)
        by_cases h5 : v < 5
        · refine ⟨⟨2, 0, [t1, t2]⟩, p2, ?_, by omega, by omega, ?_⟩
          · refine Ev.step (fun k => by rw [spec_l91Task.j0]) ?_
            simp only [h3b, Bool.false_eq_true, if_false, if_pos h5, ew]
            exact Ev.bind e1 (Ev.bind e2 (Ev.eq (Ev.now _) (by simp only [tk_eta])))
          · simp only [nodT, nodL]; omega
        · by_cases h6 : v = 5
          · refine ⟨⟨3, 0, [t1, t2]⟩, p2, ?_, by omega, by omega, ?_⟩
            · refine Ev.step (fun k => by rw [spec_l91Task.j0]) ?_
              simp only [h3b, Bool.false_eq_true, if_false, if_neg h5, if_pos h6, ew]
              exact Ev.bind e1 (Ev.bind e2 (Ev.eq (Ev.now _) (by simp only [tk_eta])))
            · simp only [nodT, nodL]; omega
          · have three : ∀ q : Int, p + 1 ≤ q → q ≤ p + 2 → ∃ (t : Tk) (p' : Int), Ev (fun k => spec_l91Task.j2 k below ((d + 1 : Nat) : Int) true l q) (t.f0, t.f1, t.f2, p') ∧ p ≤ p' ∧ p' ≤ p + room (d + 1) ∧ (nodT t : Int) ≤ room (d + 1) := by
              intro q hq1 hq2
              obtain ⟨t1, p1, e1, a1, b1, n1⟩ := ih q (by omega) (by omega) (by omega)
              obtain ⟨t2, p2, e2, a2, b2, n2⟩ := ih p1 (by omega) (by omega) (by omega)
              obtain ⟨t3, p3, e3, a3, b3, n3⟩ := ih p2 (by omega) (by omega) (by omega)
              refine ⟨⟨4, 0, [t1, t2, t3]⟩, p3, ?_, by omega, by omega, ?_⟩
              · refine Ev.step (fun k => by rw [spec_l91Task.j2]) ?_
                simp only [if_true, ew]
                exact Ev.bind e1 (Ev.bind e2 (Ev.bind e3 (Ev.eq (Ev.now _) (by simp only [tk_eta]))))
              · simp only [nodT, nodL]; omega
            by_cases h8 : v < 8
            · obtain ⟨t, p', ht, hr⟩ := three (p + 1) (by omega) (by omega)
              refine ⟨t, p', ?_, hr⟩
              refine Ev.step (fun k => by rw [spec_l91Task.j0]) ?_
              simp only [h3b, Bool.false_eq_true, if_false, if_neg h5, if_neg h6, if_pos h8]
              exact ht
            · obtain ⟨u, hu, u0, u1, u2⟩ := pick_ev hl hlen (p + 1) 3 (by omega) (by omega)
              by_cases hu0 : u > 0
              · obtain ⟨t, p', ht, hr⟩ := three (p + 1 + 1) (by omega) (by omega)
                refine ⟨t, p', ?_, hr⟩
                refine Ev.step (fun k => by rw [spec_l91Task.j0]) ?_
                simp only [h3b, Bool.false_eq_true, if_false, if_neg h5, if_neg h6, if_neg h8]
                refine Ev.bind hu ?_
                simp only [decide_eq_true hu0]
                exact ht
              · obtain ⟨x, hx, x0, x1, x2⟩ := pick_ev hl hlen (p + 1 + 1) 10 (by omega) (by omega)
                obtain ⟨t1, p1, e1, a1, b1, n1⟩ := ih (p + 1 + 1 + 1) (by omega) (by omega) (by omega)
                refine ⟨⟨5, x, [t1]⟩, p1, ?_, by omega, by omega, ?_⟩
                · refine Ev.step (fun k => by rw [spec_l91Task.j0]) ?_
                  simp only [h3b, Bool.false_eq_true, if_false, if_neg h5, if_neg h6, if_neg h8]
                  refine Ev.bind hu ?_
                  simp only [decide_eq_false hu0]
                  refine Ev.step (fun k => by rw [spec_l91Task.j2]) ?_
                  simp only [Bool.false_eq_true, if_false, ew]
                  exact Ev.bind hx (Ev.bind e1 (Ev.eq (Ev.now _) (by simp only [tk_eta])))
                · simp only [nodT, nodL]; omega
    obtain ⟨t, p', ht, hr⟩ := main
    refine ⟨t, p', ?_, hr⟩
    refine Ev.step (fun k => by rw [spec_l91Task.f]) ?_
    refine Ev.bind hv ?_
    simp only [if_neg (show ¬ ((d + 1 : Nat) : Int) = 0 by omega)]
    exact ht
theorem fit_ev {l : List Int} (hl : byteL l) (hlen : l.length ≤ 1048576) (below : Int) (hb : below ≤ 10) (p : Int) (h0 : 0 ≤ p) (h1 : p + 2000 ≤ 1099511627776) :
    ∃ (t : Tk) (p' : Int), Ev (fun k => spec_l91Fit.f k l p below) (t.f0, t.f1, t.f2, p') ∧ p ≤ p' ∧ p' ≤ p + 100 ∧ okT t = true := by
  obtain ⟨t, p', ht, a, b, n⟩ := task_ev hl hlen below hb 2 p (by omega) h0 (by rw [room2]; omega)
  rw [room2] at b n
  cases hok : okT t with
  | true =>
    refine ⟨t, p', ?_, a, by omega, hok⟩
    unfold spec_l91Fit.f
    refine Ev.bind ht ?_
    refine Ev.bind (specOk_ev t (by omega)) ?_
    rw [hok]
    simp only [if_true]
    exact Ev.now _
  | false =>
    obtain ⟨u, hu, u0, u1, u2⟩ := pick_ev hl hlen p' 10 (by omega) (by omega)
    have u3 := u1 (by omega)
    refine ⟨⟨1, u, []⟩, p' + 1, ?_, by omega, by omega, ?_⟩
    · unfold spec_l91Fit.f
      refine Ev.bind ht ?_
      refine Ev.bind (specOk_ev t (by omega)) ?_
      rw [hok]
      simp only [Bool.false_eq_true, if_false]
      exact Ev.bind hu (Ev.now _)
    · simp only [okT, fitT, fitL, nodT, nodL, shapeB, List.length_nil]
      simp
      omega
theorem num_ev {l : List Int} (hl : byteL l) (hlen : l.length ≤ 1048576) (p : Int) (h0 : 0 ≤ p) (h1 : p ≤ 1099511627776) (ns : List Int) (hn : 0 < ns.length) :
    ∃ x ∈ ns, Ev (fun k => spec_l91Num.f k l p ns) (x, p + 1) := by
  obtain ⟨u, hu, u0, u1, u2⟩ := pick_ev hl hlen p (ns.length : Int) h0 h1
  have u3 := u1 (by omega)
  obtain ⟨i, rfl⟩ := Int.eq_ofNat_of_zero_le u0
  have hi : i < ns.length := by omega
  refine ⟨ns[i], List.getElem_mem hi, ?_⟩
  unfold spec_l91Num.f
  refine Ev.bind hu ?_
  simp only [if_pos u0, if_pos u3]
  have e : rd ns (i : Int) = ns[i] := by
    simp only [rd, Int.toNat_natCast, List.getD_eq_getElem?_getD, List.getElem?_eq_getElem hi, Option.getD_some]
  rw [e]
  exact Ev.now _
theorem open_ev {l : List Int} (hl : byteL l) : ∃ l', spec_l6Open.f l = some (l', 0) ∧ byteL l' ∧ l'.length ≤ 2000 := by
  unfold spec_l6Open.f
  by_cases h : (l.length : Int) > 2000
  · refine ⟨l.take 2000, by rw [if_pos h, if_pos (by omega)], fun x hx => hl x (List.mem_of_mem_take hx), by simp; omega⟩
  · exact ⟨l, by rw [if_neg h], hl, by omega⟩
theorem byteL_of {l : List Int} (h : ∀ x ∈ l, (Lit.int .u8 x).wf = true) : byteL l := by
  intro x hx
  have h1 := h x hx
  simp only [Lit.wf, Bool.and_eq_true, decide_eq_true_eq] at h1
  have e1 : IntKind.u8.min = 0 := by decide
  have e2 : IntKind.u8.max = 255 := by decide
  rw [e1, e2] at h1
  exact h1
end Go.Proofs.Ytgbjbpjmbghlbaa.G
end
section
namespace Go.Proofs.Ytgbjbpjmbghlbaa.G
open Go.RowKit Go.Proofs.YtgbjbpjmbghlbaaW.PrintWords
set_option linter.unusedVariables false
set_option linter.unusedSimpArgs false
theorem values_loop {l : List Int} (hl : byteL l) (hlen : l.length ≤ 1048576) : ∀ (d : Nat) (out : List Int) (p : Int), d ≤ 10 → out.length + d ≤ 10 → 0 ≤ p → p + d + 1 ≤ 1099511627776 →
    ∃ vs p', Ev (fun k => spec_l91Values.l0 k out (d : Int) l p) (vs, p') ∧ p ≤ p' ∧ p' ≤ p + d + 1 ∧ vs.length ≤ 11 := by
  intro d
  induction d with
  | zero =>
    intro out p hd ho h0 h1
    obtain ⟨v, hv, v0, v1, v2⟩ := pick_ev hl hlen p 25 h0 (by omega)
    by_cases hz : v = 0
    · refine ⟨out ++ [97], p + 1, ?_, by omega, by omega, by simp; omega⟩
      refine Ev.step (fun k => by rw [spec_l91Values.l0]) ?_
      simp only [if_neg (show ¬ (((0 : Nat) : Int) > 0) by omega)]
      refine Ev.bind hv ?_
      simp only [if_pos hz, if_pos (show out.length < 17592186044416 by omega)]
      exact Ev.now _
    · refine ⟨out, p + 1, ?_, by omega, by omega, by omega⟩
      refine Ev.step (fun k => by rw [spec_l91Values.l0]) ?_
      simp only [if_neg (show ¬ (((0 : Nat) : Int) > 0) by omega)]
      refine Ev.bind hv ?_
      simp only [if_neg hz]
      exact Ev.now _
  | succ d ih =>
    intro out p hd ho h0 h1
    obtain ⟨v, hv, v0, v1, v2⟩ := pick_ev hl hlen p 5 h0 (by omega)
    obtain ⟨vs, p', hvs, a, b, c⟩ := ih (out ++ [v]) (p + 1) (by omega) (by simp; omega) (by omega) (by omega)
    refine ⟨vs, p', ?_, by omega, by omega, c⟩
    refine Ev.step (fun k => by rw [spec_l91Values.l0]) ?_
    simp only [if_pos (show (((d + 1 : Nat) : Int) > 0) by omega)]
    refine Ev.bind hv ?_
    have ew : wrap64 (((d + 1 : Nat) : Int) - 1) = (d : Int) := by rw [wrap_id (((d + 1 : Nat) : Int) - 1) (by omega) (by omega)]; omega
    simp only [if_pos (show out.length < 17592186044416 by omega), ew]
    exact hvs
theorem values_ev {l : List Int} (hl : byteL l) (hlen : l.length ≤ 1048576) (p : Int) (h0 : 0 ≤ p) (h1 : p + 20 ≤ 1099511627776) :
    ∃ vs p', Ev (fun k => spec_l91Values.f k l p) (vs, p') ∧ p ≤ p' ∧ p' ≤ p + 20 ∧ vs.length ≤ 11 := by
  obtain ⟨v, hv, v0, v1, v2⟩ := pick_ev hl hlen p 11 h0 (by omega)
  have v3 := v1 (by omega)
  obtain ⟨d, rfl⟩ := Int.eq_ofNat_of_zero_le v0
  obtain ⟨vs, p', hvs, a, b, c⟩ := values_loop hl hlen d [] (p + 1) (by omega) (by simp; omega) (by omega) (by omega)
  refine ⟨vs, p', ?_, by omega, by omega, c⟩
  unfold spec_l91Values.f
  exact Ev.bind hv hvs
end Go.Proofs.Ytgbjbpjmbghlbaa.G
end
section
namespace Go.Proofs.Ytgbjbpjmbghlbaa.G
open Go.RowKit Go.Proofs.YtgbjbpjmbghlbaaW.PrintWords
set_option linter.unusedVariables false
set_option linter.unusedSimpArgs false
theorem any_task_ev {l : List Int} (hl : byteL l) (hlen : l.length ≤ 1048576) (p : Int) (h0 : 0 ≤ p) (h1 : p + 4000 ≤ 1099511627776) :
    ∃ (t : Tk) (p' : Int), Ev (fun k => spec_l91Any.f k l p) (t.f0, t.f1, t.f2, p') ∧ p ≤ p' ∧ p' ≤ p + 1000 ∧ (nodT t : Int) ≤ 1000 := by
  obtain ⟨t, p1, ht, a, b, hok⟩ := fit_ev hl hlen 10 (by omega) p h0 (by omega)
  have hn := okT_nod hok
  obtain ⟨v, hv, v0, v1, v2⟩ := pick_ev hl hlen p1 10 (by omega) (by omega)
  by_cases hz : v = 0
  · obtain ⟨u, hu, u0, u1, u2⟩ := pick_ev hl hlen (p1 + 1) 4 (by omega) (by omega)
    have nn : ∀ x y : Int, nodT ⟨x, y, t.f2⟩ = nodT t := fun x y => by rw [nodT_eq, nodT_eq]
    by_cases h4 : u = 0
    · obtain ⟨x, _, hx⟩ := num_ev hl hlen (p1 + 1 + 1) (by omega) (by omega) [-1, 97, 10, 1] (by simp)
      refine ⟨⟨t.f0, x, t.f2⟩, p1 + 1 + 1 + 1, ?_, by omega, by omega, by rw [nn]; omega⟩
      unfold spec_l91Any.f
      refine Ev.bind ht (Ev.bind hv ?_)
      simp only [if_pos hz]
      refine Ev.bind hu ?_
      simp only [if_pos h4]
      exact Ev.bind hx (Ev.now _)
    · by_cases h5 : u = 1
      · obtain ⟨x, _, hx⟩ := num_ev hl hlen (p1 + 1 + 1) (by omega) (by omega) [6, -1, 2] (by simp)
        refine ⟨⟨x, t.f1, t.f2⟩, p1 + 1 + 1 + 1, ?_, by omega, by omega, by rw [nn]; omega⟩
        unfold spec_l91Any.f
        refine Ev.bind ht (Ev.bind hv ?_)
        simp only [if_pos hz]
        refine Ev.bind hu ?_
        simp only [if_neg h4, if_pos h5]
        exact Ev.bind hx (Ev.now _)
      · by_cases h6 : u = 2
        · obtain ⟨t1, q1, e1, a1, b1, n1⟩ := task_ev hl hlen 10 (by omega) 3 (p1 + 1 + 1) (by omega) (by omega) (by rw [room3]; omega)
          rw [room3] at b1 n1
          obtain ⟨t2, q2, e2, a2, b2, n2⟩ := task_ev hl hlen 10 (by omega) 3 q1 (by omega) (by omega) (by rw [room3]; omega)
          rw [room3] at b2 n2
          refine ⟨⟨2, 0, [t1, t2]⟩, q2, ?_, by omega, by omega, by simp only [nodT, nodL]; omega⟩
          unfold spec_l91Any.f
          refine Ev.bind ht (Ev.bind hv ?_)
          simp only [if_pos hz]
          refine Ev.bind hu ?_
          simp only [if_neg h4, if_neg h5, if_pos h6]
          exact Ev.bind e1 (Ev.bind e2 (Ev.eq (Ev.now _) (by simp only [tk_eta])))
        · have hlen2 : t.f2.length ≤ 15 := by have := nodL_len t.f2; rw [nodT_eq] at hn; omega
          refine ⟨⟨t.f0, t.f1, t.f2 ++ [⟨0, 1, []⟩]⟩, p1 + 1 + 1, ?_, by omega, by omega, ?_⟩
          · unfold spec_l91Any.f
            refine Ev.bind ht (Ev.bind hv ?_)
            simp only [if_pos hz]
            refine Ev.bind hu ?_
            simp only [if_neg h4, if_neg h5, if_neg h6, if_pos (show t.f2.length < 3518437208883 by omega)]
            exact Ev.now _
          · have e : ∀ ps : List Tk, nodL (ps ++ [⟨0, 1, []⟩]) = nodL ps + 1 := by
              intro ps
              induction ps with
              | nil => simp [nodL, nodT]
              | cons q qs ihq => simp only [List.cons_append, nodL, ihq]; omega
            rw [nodT_eq, e]
            rw [nodT_eq] at hn
            omega
  · refine ⟨t, p1 + 1, ?_, by omega, by omega, by omega⟩
    unfold spec_l91Any.f
    refine Ev.bind ht (Ev.bind hv ?_)
    simp only [if_neg hz]
    exact Ev.now _
end Go.Proofs.Ytgbjbpjmbghlbaa.G
end
section
namespace Go.Proofs.Ytgbjbpjmbghlbaa.G
open Go.RowKit Go.Proofs.YtgbjbpjmbghlbaaW.PrintWords
set_option linter.unusedVariables false
set_option linter.unusedSimpArgs false
def Rep (D : List Int → Int → Int → TR) (x : Int) (fs : List Fk) : Prop :=
  (∀ (pre post : List Int) (lk : Int), D (pre ++ (fs.map (·.f1) ++ post)) (pre.length : Int) lk = (x, true, ((pre.length + fs.length : Nat) : Int), lk)) ∧
  (∀ (pre : List Int) (m : Nat) (f : Fk) (lk : Int), fs[m]? = some f → D (pre ++ (fs.map (·.f1)).take m) (pre.length : Int) lk = (0, false, ((pre.length + m : Nat) : Int), f.f0))
theorem rep_get (n x : Int) : Rep (fun got a lk => getT got a lk n) x [⟨n, x⟩] := by
  refine ⟨fun pre post lk => ?_, fun pre m f lk hf => ?_⟩
  · have e : rd (pre ++ ([(⟨n, x⟩ : Fk)].map (·.f1) ++ post)) (pre.length : Int) = x := by
      simp [rd, List.getD_eq_getElem?_getD]
    show getT (pre ++ ([(⟨n, x⟩ : Fk)].map (·.f1) ++ post)) (pre.length : Int) lk n = _
    unfold getT
    rw [if_neg (by simp only [List.length_append, List.map_cons, List.map_nil, List.length_cons, List.length_nil]; omega), e]
    rfl
  · match m, hf with
    | 0, hf =>
      simp only [List.getElem?_cons_zero, Option.some.injEq] at hf
      subst hf
      unfold getT
      simp
    | m + 1, hf => simp at hf
theorem rep_pure (x : Int) : Rep (fun _ a lk => (x, true, a, lk)) x [] := ⟨fun pre post lk => rfl, fun pre m f lk hf => by simp at hf⟩
theorem rep_seq {D : List Int → Int → Int → TR} {E : List Int → Int → Int → Int → TR} {v u : Int} {fs gs : List Fk} (h : Rep D v fs) (g : Rep (fun got a lk => E got v a lk) u gs) : Rep (fun got a lk => seqT (D got a lk) (E got)) u (fs ++ gs) := by
  refine ⟨fun pre post lk => ?_, fun pre m f lk hf => ?_⟩
  · have e1 := h.1 pre (gs.map (·.f1) ++ post) lk
    have e2 := g.1 (pre ++ fs.map (·.f1)) post lk
    simp only at e2
    rw [List.map_append, List.append_assoc]
    simp only [e1, seqT, if_true]
    rw [show pre ++ (fs.map (·.f1) ++ (gs.map (·.f1) ++ post)) = (pre ++ fs.map (·.f1)) ++ (gs.map (·.f1) ++ post) by simp]
    rw [show ((pre.length + fs.length : Nat) : Int) = ((pre ++ fs.map (·.f1)).length : Int) by simp, e2]
    simp only [List.length_append, List.length_map]
    rw [Nat.add_assoc]
  · rw [List.map_append]
    by_cases hm : m < fs.length
    · rw [List.getElem?_append_left hm] at hf
      rw [List.take_append_of_le_length (by rw [List.length_map]; omega)]
      simp only [h.2 pre m f lk hf, seqT, Bool.false_eq_true, if_false]
    · rw [List.getElem?_append_right (by omega)] at hf
      have e0 : (fs.map (·.f1) ++ gs.map (·.f1)).take m = fs.map (·.f1) ++ (gs.map (·.f1)).take (m - fs.length) := by
        rw [List.take_append, List.length_map, List.take_of_length_le (by rw [List.length_map]; omega)]
      rw [e0]
      have e1 := h.1 pre ((gs.map (·.f1)).take (m - fs.length)) lk
      have e2 := g.2 (pre ++ fs.map (·.f1)) (m - fs.length) f lk hf
      simp only at e2
      simp only [e1, seqT, if_true]
      rw [← List.append_assoc]
      rw [show ((pre.length + fs.length : Nat) : Int) = ((pre ++ fs.map (·.f1)).length : Int) by simp, e2]
      simp only [List.length_append, List.length_map]
      rw [show pre.length + fs.length + (m - fs.length) = pre.length + m by omega]
theorem rep_congr {D D' : List Int → Int → Int → TR} {x : Int} {fs : List Fk} (h : Rep D x fs) (e : D' = D) : Rep D' x fs := e ▸ h
theorem rep_doT (vs : List Int) {t : Tk} (h : Fits t) : Rep (fun got a lk => doT got t a lk) (runT vs t).1 (runT vs t).2 := by
  induction h with
  | num n h0 h1 => rw [runT_num]; exact rep_congr (rep_pure n) (by funext got a lk; exact doT_num got n a lk)
  | get n h0 h1 => rw [runT_get]; exact rep_congr (rep_get n _) (by funext got a lk; exact doT_get got n a lk)
  | add x y _ _ ihx ihy =>
    rw [runT_add]
    have h := rep_seq (E := fun got v a lk => seqT (doT got y a lk) fun u a lk => ((v + u) % 97, true, a, lk)) ihx (rep_seq (E := fun got u a lk => (((runT vs x).1 + u) % 97, true, a, lk)) ihy (rep_pure _))
    rw [List.append_nil] at h
    exact rep_congr h (by funext got a lk; exact doT_add got x y a lk)
  | mul x y _ _ ihx ihy =>
    rw [runT_mul]
    have h := rep_seq (E := fun got v a lk => seqT (doT got y a lk) fun u a lk => ((v * u) % 97, true, a, lk)) ihx (rep_seq (E := fun got u a lk => (((runT vs x).1 * u) % 97, true, a, lk)) ihy (rep_pure _))
    rw [List.append_nil] at h
    exact rep_congr h (by funext got a lk; exact doT_mul got x y a lk)
  | iff x y z _ _ _ ihx ihy ihz =>
    by_cases hv : (runT vs x).1 = 0
    · rw [runT_if0 vs x y z hv]
      have h := rep_seq (E := fun got v a lk => if v = 0 then doT got z a lk else doT got y a lk) ihx (rep_congr ihz (by funext got a lk; rw [if_pos hv]))
      exact rep_congr h (by funext got a lk; exact doT_if got x y z a lk)
    · rw [runT_if1 vs x y z hv]
      have h := rep_seq (E := fun got v a lk => if v = 0 then doT got z a lk else doT got y a lk) ihx (rep_congr ihy (by funext got a lk; rw [if_neg hv]))
      exact rep_congr h (by funext got a lk; exact doT_if got x y z a lk)
  | «at» n h0 h1 x _ ihx =>
    rw [runT_at]
    have h := rep_seq (E := fun got v a lk => getT got a lk ((n + v) % 10)) ihx (rep_get ((n + (runT vs x).1) % 10) (atV vs ((n + (runT vs x).1) % 10)))
    exact rep_congr h (by funext got a lk; exact doT_at got n x a lk)
theorem runT_keys {vs : List Int} (hv : vs.all isVal = true) {t : Tk} (h : Fits t) : ∀ f ∈ (runT vs t).2, 0 ≤ f.f0 ∧ f.f0 ≤ 9 ∧ f.f1 = atV vs f.f0 := by
  induction h with
  | num n h0 h1 => rw [runT_num]; intro f hf; cases hf
  | get n h0 h1 =>
    rw [runT_get]
    intro f hf
    simp only [List.mem_singleton] at hf
    subst hf
    exact ⟨h0, h1, rfl⟩
  | add x y _ _ ihx ihy =>
    rw [runT_add]
    intro f hf
    rcases List.mem_append.1 hf with hf | hf
    · exact ihx f hf
    · exact ihy f hf
  | mul x y _ _ ihx ihy =>
    rw [runT_mul]
    intro f hf
    rcases List.mem_append.1 hf with hf | hf
    · exact ihx f hf
    · exact ihy f hf
  | iff x y z _ _ _ ihx ihy ihz =>
    by_cases hz : (runT vs x).1 = 0
    · rw [runT_if0 vs x y z hz]
      intro f hf
      rcases List.mem_append.1 hf with hf | hf
      · exact ihx f hf
      · exact ihz f hf
    · rw [runT_if1 vs x y z hz]
      intro f hf
      rcases List.mem_append.1 hf with hf | hf
      · exact ihx f hf
      · exact ihy f hf
  | «at» n h0 h1 x hx ihx =>
    rw [runT_at]
    have hval := runT_val hv hx
    intro f hf
    rcases List.mem_append.1 hf with hf | hf
    · exact ihx f hf
    · simp only [List.mem_singleton] at hf
      subst hf
      refine ⟨?_, ?_, rfl⟩ <;> simp only <;> omega
end Go.Proofs.Ytgbjbpjmbghlbaa.G
end
section
namespace Go.Proofs.Ytgbjbpjmbghlbaa.G
open Go.RowKit Go.Proofs.YtgbjbpjmbghlbaaW.PrintWords
set_option linter.unusedVariables false
set_option linter.unusedSimpArgs false
theorem allLoop {α : Type} (l : List α) (F : Nat → Int → Option Bool) (one : Nat → α → Option Bool) (p : α → Bool)
    (hend : ∀ k, F (k + 1) (l.length : Int) = some true)
    (hstep : ∀ k (i : Nat) (h : i < l.length), F (k + 1) (i : Int) = (one k l[i]).bind fun t => if t = true then F k ((i + 1 : Nat) : Int) else some false)
    (hone : ∀ x ∈ l, Ev (fun k => one k x) (p x)) : ∀ (d i : Nat), d = l.length - i → i ≤ l.length → Ev (fun k => F k (i : Int)) ((l.drop i).all p) := by
  intro d
  induction d with
  | zero =>
    intro i hd hi
    have e : i = l.length := by omega
    subst e
    refine Ev.step (fun k => hend k) ?_
    simp only [List.drop_length, List.all_nil]
    exact Ev.now true
  | succ d ihd =>
    intro i hd hi
    have hlt : i < l.length := by omega
    rw [drop_tk l i hlt, List.all_cons]
    refine Ev.step (fun k => hstep k i hlt) ?_
    refine Ev.bind (hone _ (List.getElem_mem hlt)) ?_
    cases hp : p l[i] with
    | true => simp only [if_true, Bool.true_and]; exact ihd (i + 1) (by omega) (by omega)
    | false => simp only [Bool.false_eq_true, if_false, Bool.false_and]; exact Ev.now false
theorem eqLoop {α : Type} (l : List α) (F : Nat → Int → Option Bool) (one : Nat → α → Option Bool)
    (hend : ∀ k, F (k + 1) (l.length : Int) = some true)
    (hstep : ∀ k (i : Nat) (h : i < l.length), F (k + 1) (i : Int) = (one k l[i]).bind fun t => if t = true then F k ((i + 1 : Nat) : Int) else some false)
    (hone : ∀ x ∈ l, Ev (fun k => one k x) true) : Ev (fun k => F k 0) true := by
  have h := allLoop l F one (fun _ => true) hend hstep hone l.length 0 (by omega) (by omega)
  simp only [List.drop_zero, List.all_eq_true, implies_true] at h
  exact Ev.eq h (by simp)
end Go.Proofs.Ytgbjbpjmbghlbaa.G
end
section
namespace Go.Proofs.Ytgbjbpjmbghlbaa.G
open Go.RowKit Go.Proofs.YtgbjbpjmbghlbaaW.PrintWords
set_option linter.unusedVariables false
set_option linter.unusedSimpArgs false
def valsOkF (l : List Int) : Bool := decide (l.length ≤ 10) && l.all isVal
theorem implValsF_ev (l : List Int) : impl_valuesOk.f l = some (valsOkF l) := by
  unfold impl_valuesOk.f valsOkF impl_areValues.f
  by_cases h : l.length ≤ 10
  · rw [if_pos (by omega)]; simp [h]
  · rw [if_neg (by omega)]; simp [h]
theorem l2OfR_ev (l : List Int) (k : Int) (h : 0 ≤ k) : spec_l2Of.f l k = some (atV l k) := by
  unfold spec_l2Of.f atV
  by_cases h2 : k < (l.length : Int)
  · rw [if_pos h2, if_pos h, if_pos ⟨h, h2⟩]
  · rw [if_neg h2, if_neg (by omega)]
theorem rd_intR (l : List Int) (i : Nat) (h : i < l.length) : rd l (i : Int) = l[i] := by
  simp only [rd, Int.toNat_natCast, List.getD_eq_getElem?_getD, List.getElem?_eq_getElem h, Option.getD_some]
theorem specValsR_ev (l : List Int) : Ev (fun k => spec_l2Values.f k l) (valsOkF l) := by
  unfold spec_l2Values.f valsOkF
  by_cases h : l.length ≤ 10
  · simp only [if_neg (show ¬ ((l.length : Int) > 10) by omega)]
    have h1 := allLoop l (fun k i => spec_l2Values.l0 k l i) (fun _ x => spec_l6In.f x 0 96) isVal
      (fun k => by simp only [spec_l2Values.l0, if_neg (show ¬ ((l.length : Int) < (l.length : Int)) by omega)])
      (fun k i hi => by simp only [spec_l2Values.l0, if_pos (show (i : Int) < (l.length : Int) by omega), if_pos (show (0 : Int) ≤ (i : Int) by omega), rd_intR l i hi, wrap_nat i (by omega)])
      (fun x hx => Ev.of_eq (by
        unfold spec_l6In.f isVal
        by_cases g : x ≥ 0
        · rw [if_pos g]; simp only [ge_iff_le] at g; simp [g]
        · rw [if_neg g]; simp only [ge_iff_le] at g; simp [g]))
      l.length 0 (by omega) (by omega)
    refine Ev.eq h1 ?_
    simp [h]
  · simp only [if_pos (show (l.length : Int) > 10 by omega)]
    refine Ev.eq (Ev.now false) ?_
    simp [h]
end Go.Proofs.Ytgbjbpjmbghlbaa.G
end
section
namespace Go.Proofs.Ytgbjbpjmbghlbaa.G
open Go.RowKit Go.Proofs.YtgbjbpjmbghlbaaW.PrintWords
set_option linter.unusedVariables false
set_option linter.unusedSimpArgs false
theorem next_f (t : Tk) (hf : fitT t = true) (got : List Int) (hg : got.all isVal = true) (hl : got.length ≤ 1000000) : spec_l2Next.f t.f0 t.f1 t.f2 got = some ((doT got t 0 0).1, (doT got t 0 0).2.2.2, (doT got t 0 0).2.1) := by
  have e : (⟨t.f0, t.f1, t.f2⟩ : Tk) = t := by cases t; rfl
  unfold spec_l2Next.f
  rw [e, if_pos ⟨hf, hg, hl⟩]
theorem run_loop (vs : List Int) (hv : vs.all isVal = true) (t : Tk) (hf : fitT t = true) (hn : (runT vs t).2.length ≤ 1000) :
    ∀ (d i : Nat), d = (runT vs t).2.length - i → i ≤ (runT vs t).2.length →
      Ev (fun k => spec_l2Run.l0 k vs ((runT vs t).2.take i) (((runT vs t).2.take i).map (·.f1)) (doT (((runT vs t).2.take i).map (·.f1)) t 0 0).1 (doT (((runT vs t).2.take i).map (·.f1)) t 0 0).2.2.2 (doT (((runT vs t).2.take i).map (·.f1)) t 0 0).2.1 t.f0 t.f1 t.f2) (runT vs t) := by
  have hrep := rep_doT vs (fits_of t hf)
  have hkeys := runT_keys hv (fits_of t hf)
  have hall : ∀ i, (((runT vs t).2.take i).map (·.f1)).all isVal = true := by
    intro i
    rw [List.all_eq_true]
    intro x hx
    obtain ⟨f, hfm, rfl⟩ := List.mem_map.1 hx
    have h1 := hkeys f (List.mem_of_mem_take hfm)
    have h2 := atV_val hv f.f0
    simp only [isVal, decide_eq_true_eq]
    rw [h1.2.2]
    exact h2
  intro d
  induction d with
  | zero =>
    intro i hd hi
    have e : i = (runT vs t).2.length := by omega
    subst e
    rw [List.take_length]
    have h := hrep.1 [] [] 0
    simp only [List.nil_append, List.append_nil, List.length_nil, Int.natCast_zero, Int.ofNat_zero] at h
    have h' : doT ((runT vs t).2.map (·.f1)) t 0 0 = ((runT vs t).1, true, ((0 + (runT vs t).2.length : Nat) : Int), 0) := h
    rw [h']
    refine Ev.step (fun k => by rw [spec_l2Run.l0]) ?_
    simp only [if_true]
    exact Ev.now _
  | succ d ihd =>
    intro i hd hi
    have hlt : i < (runT vs t).2.length := by omega
    have h := hrep.2 [] i (runT vs t).2[i] 0 (List.getElem?_eq_getElem hlt)
    simp only [List.nil_append, List.length_nil, Int.natCast_zero, Int.ofNat_zero] at h
    rw [← List.map_take] at h
    have h' : doT (((runT vs t).2.take i).map (·.f1)) t 0 0 = (0, false, ((0 + i : Nat) : Int), ((runT vs t).2[i]).f0) := h
    rw [h']
    have hk := hkeys _ (List.getElem_mem hlt)
    have e1 : ((runT vs t).2.take i).map (·.f1) ++ [atV vs ((runT vs t).2[i]).f0] = ((runT vs t).2.take (i + 1)).map (·.f1) := by
      rw [List.take_succ_eq_append_getElem hlt, List.map_append, List.map_singleton, hk.2.2]
    have e2 : (runT vs t).2.take i ++ [(⟨((runT vs t).2[i]).f0, atV vs ((runT vs t).2[i]).f0⟩ : Fk)] = (runT vs t).2.take (i + 1) := by
      rw [List.take_succ_eq_append_getElem hlt]
      congr 2
      rw [← hk.2.2]
    refine Ev.step (fun k => by rw [spec_l2Run.l0]) ?_
    simp only [Bool.false_eq_true, if_false, l2OfR_ev vs _ hk.1, Option.bind_some]
    simp only [if_pos (show ((runT vs t).2.take i).length < 8796093022208 by rw [List.length_take]; omega), if_pos (show (((runT vs t).2.take i).map (·.f1)).length < 17592186044416 by rw [List.length_map, List.length_take]; omega), e1, e2]
    simp only [next_f t hf _ (hall (i + 1)) (by rw [List.length_map, List.length_take]; omega), Option.bind_some]
    exact ihd (i + 1) (by omega) (by omega)
theorem l2Run_ev (vs : List Int) (hv : vs.all isVal = true) (t : Tk) (hf : fitT t = true) (hn : nodT t ≤ 1000) : Ev (fun k => spec_l2Run.f k t.f0 t.f1 t.f2 vs) (runT vs t) := by
  unfold spec_l2Run.f
  have hl := runT_len vs (fits_of t hf)
  simp only [Option.bind_some, next_f t hf [] (by rfl) (by simp)]
  have h := run_loop vs hv t hf (by omega) (runT vs t).2.length 0 (by omega) (by omega)
  simp only [List.take_zero, List.map_nil] at h
  exact h
end Go.Proofs.Ytgbjbpjmbghlbaa.G
end
section
namespace Go.Proofs.Ytgbjbpjmbghlbaa.G
open Go.RowKit Go.Proofs.YtgbjbpjmbghlbaaW.PrintWords
set_option linter.unusedVariables false
set_option linter.unusedSimpArgs false
theorem rd_fkf (l : List Fk) (i : Nat) (h : i < l.length) : rd_T117 l (i : Int) = l[i] := by
  simp only [rd_T117, Int.toNat_natCast, List.getD_eq_getElem?_getD, List.getElem?_eq_getElem h, Option.getD_some]
def fetL (t : Tk) (vs : List Int) : List Fk := if okT t = true ∧ valsOkF vs = true then (runT vs t).2 else []
theorem fetL_len (t : Tk) (vs : List Int) : (fetL t vs).length ≤ 15 := by
  unfold fetL
  split
  · rename_i h
    have h1 := runT_len vs (fits_of t (okT_fit h.1))
    have h2 := okT_nod h.1
    omega
  · simp
theorem implFet_ev (t : Tk) (vs : List Int) : Ev (fun k => impl_TaskFetches.f k t.f0 t.f1 t.f2 vs) (fetL t vs, okT t && valsOkF vs) := by
  unfold impl_TaskFetches.f
  refine Ev.bind (implOk_ev t) ?_
  cases ht : okT t with
  | false =>
    simp only [Bool.false_eq_true, if_false, Bool.false_and]
    exact Ev.eq (Ev.now _) (by simp [fetL, ht])
  | true =>
    simp only [if_true, implValsF_ev, Option.bind_some, Bool.true_and]
    cases hv : valsOkF vs with
    | false =>
      simp only [Bool.false_eq_true, if_false]
      exact Ev.eq (Ev.now _) (by simp [fetL, hv])
    | true =>
      simp only [if_true]
      have hva : vs.all isVal = true := by simp only [valsOkF, Bool.and_eq_true] at hv; exact hv.2
      have hn := okT_nod ht
      have e : (⟨t.f0, t.f1, t.f2⟩ : Tk) = t := by cases t; rfl
      have hf : impl_Task_fetched.f t.f0 t.f1 t.f2 vs = some (runT vs t) := by
        unfold impl_Task_fetched.f
        rw [e, if_pos ⟨okT_fit ht, hva, by omega⟩]
      simp only [hf, Option.bind_some]
      exact Ev.eq (Ev.now _) (by simp [fetL, ht, hv])
theorem onceFet_len (l : List Fk) : (onceL l).length ≤ l.length := by
  have := onceL_len l l.length (Nat.le_refl _)
  rwa [List.take_length] at this
theorem usesLoop (ok : Bool) (l : List Fk) (hl : l.length ≤ 1000) : ∀ (d i : Nat), d = l.length - i → i ≤ l.length → Ev (fun k => impl_TaskUses.l0 k ok ((l.take i).map (·.f0)) l (l.length : Int) (i : Int)) (l.map (·.f0), ok) := by
  intro d
  induction d with
  | zero =>
    intro i hd hi
    have e : i = l.length := by omega
    subst e
    refine Ev.step (fun k => by rw [impl_TaskUses.l0]) ?_
    simp only [if_neg (show ¬ ((l.length : Int) < (l.length : Int)) by omega), List.take_length]
    exact Ev.now _
  | succ d ihd =>
    intro i hd hi
    have hlt : i < l.length := by omega
    refine Ev.step (fun k => by rw [impl_TaskUses.l0]) ?_
    simp only [if_pos (show (i : Int) < (l.length : Int) by omega), if_pos (show (0 : Int) ≤ (i : Int) by omega), if_pos (show ((l.take i).map (·.f0)).length < 17592186044416 by rw [List.length_map, List.length_take]; omega), rd_fkf l i hlt, wrap_nat i (by omega)]
    have e : (l.take i).map (·.f0) ++ [l[i].f0] = (l.take (i + 1)).map (·.f0) := by
      rw [List.take_succ_eq_append_getElem hlt, List.map_append, List.map_singleton]
    rw [e]
    exact ihd (i + 1) (by omega) (by omega)
def usesL (t : Tk) (vs : List Int) : List Int := (onceL (fetL t vs)).map (·.f0)
theorem implUses_ev (t : Tk) (vs : List Int) : Ev (fun k => impl_TaskUses.f k t.f0 t.f1 t.f2 vs) (usesL t vs, okT t && valsOkF vs) := by
  have h1 := fetL_len t vs
  have h2 := onceFet_len (fetL t vs)
  unfold impl_TaskUses.f
  refine Ev.bind (implFet_ev t vs) ?_
  simp only [impl_once.f, if_pos (show (fetL t vs).length < 8796093022208 by omega), Option.bind_some]
  have h := usesLoop (okT t && valsOkF vs) (onceL (fetL t vs)) (by omega) (onceL (fetL t vs)).length 0 (by omega) (by omega)
  simp only [List.take_zero, List.map_nil] at h
  exact h
end Go.Proofs.Ytgbjbpjmbghlbaa.G
end
