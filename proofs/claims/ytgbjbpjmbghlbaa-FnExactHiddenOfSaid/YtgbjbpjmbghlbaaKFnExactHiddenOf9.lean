-- Written by pack.py (ours): the claim's texts, cut down to what its theorem reaches.
import Derived.Sort.OwnSortedInts
import Derived.Test.YtgbjbpjmbghlbaaKFnExactHiddenOf8
section
namespace Go.Proofs.Ytgbjbpjmbghlbaa.G
open Go.RowKit Go.Proofs.YtgbjbpjmbghlbaaW.PrintWords Go.Proofs.YtgbjbpjmbghlbaaW.PrintLast Go.Proofs.YtgbjbpjmbghlbaaW.PrintMore Go.Sort
set_option linter.unusedVariables false
set_option linter.unusedSimpArgs false
theorem own_cutI {w : World} {base e g cap : Nat} {a b : List Value} (h : w.ownsRow base e 1 (.slice (some ⟨g, 0, none⟩) (a ++ b).length cap) (a ++ b).length (a ++ b)) : w.ownsRow base e 1 (.slice (some ⟨g, 0, none⟩) a.length cap) a.length a := by
  obtain ⟨_, h⟩ := h
  rcases h with ⟨h, _⟩ | ⟨g', cap', cur, e1, h1, h2, h3, h4, h5, h6⟩
  · cases h
  · injection e1 with e1 e2 e3
    injection e1 with e1
    injection e1 with e1
    subst e1
    subst e3
    refine ⟨by simp, .inr ⟨g, cap, cur, rfl, h1, h2, by rw [List.length_append] at h3; omega, h4, h5, ?_⟩⟩
    rw [Nat.mul_one] at h6 ⊢
    have h7 := congrArg (List.take a.length) h6
    rw [List.take_take, Nat.min_eq_left (by rw [List.length_append]; omega), List.take_left'  rfl] at h7
    exact h7
theorem cut_sorted {w : World} {base e g cap : Nat} {cur : Array Value} {ss ml : List Int} (hg : base ≤ g) (hblk : w.heap[g]? = some (.cells cur e (0, 0))) (h1 : ss.length ≤ cap) (h2 : cap ≤ maxLen) (h3 : cur.size = cap * 1) (hml : ml.length ≤ ss.length) (q : Nat) :
    (putRow (Value.int .i64) (Sort.ahead w q) g 0 (ml ++ List.replicate (ss.length - ml.length) 0).toArray).ownsRow base e 1 (.slice (some ⟨g, 0, none⟩) ml.length cap) ml.length (ml.map (Value.int .i64)) := by
  have hll : (ml ++ List.replicate (ss.length - ml.length) 0).length = ss.length := by rw [List.length_append, List.length_replicate]; omega
  have h := ownsRow_sortedI (n := q) (os := #[]) (ss := ss) hll hg hblk h1 h2 h3
  rw [grow_empty, List.map_append] at h
  have e1 : ss.length = (ml.map (Value.int .i64) ++ (List.replicate (ss.length - ml.length) 0).map (Value.int .i64)).length := by rw [← List.map_append, List.length_map, hll]
  have h' : (putRow (Value.int .i64) (Sort.ahead w q) g 0 (ml ++ List.replicate (ss.length - ml.length) 0).toArray).ownsRow base e 1 (.slice (some ⟨g, 0, none⟩) (ml.map (Value.int .i64) ++ (List.replicate (ss.length - ml.length) 0).map (Value.int .i64)).length cap) (ml.map (Value.int .i64) ++ (List.replicate (ss.length - ml.length) 0).map (Value.int .i64)).length (ml.map (Value.int .i64) ++ (List.replicate (ss.length - ml.length) 0).map (Value.int .i64)) := by
    rw [← e1]; exact h
  have h2 := own_cutI h'
  rw [List.length_map] at h2
  exact h2
set_option maxHeartbeats 8000000 in
set_option maxRecDepth 100000 in
theorem del_none (A : Option Addr) (c : Nat) (l : List Int) (hz : l.length = 0) (g : Nat) (lb : Array Value) (eg : ∀ args w, (callFunc g args).run Try.prog w = .ok (.enter g args) w) (w : World) :
    Calls Try.prog 104 #[.slice A l.length c, .func (.func g) #[] lb] w fun e w' => e = .returned (.slice A l.length c) ∧ Below w.heap.size w w' := by
  have CK : Aside0 (Calls Try.prog 154 #[.slice A l.length c, .func (.func g) #[] lb] w fun e w' => e = .returned (.int .i64 (-1)) ∧ Below w.heap.size w w') := ⟨by
    have e0 : l = [] := List.eq_nil_of_length_eq_zero hz
    have h := indexFunc_int g lb (fun _ => false) A c l w ⟨rfl, by omega, fun h => by omega⟩ eg (fun x hx => by rw [e0] at hx; cases hx)
    rw [show idxFrom (fun _ : Int => false) l 0 = -1 from by rw [e0]; rfl] at h
    exact h⟩
  clear hz eg
  go_enter Try.func104, Try.ntmps104
  go_wp2_with fail
  with_reducible refine CK.out.mono ?_
  rintro e w1 ⟨rfl, hb⟩
  have HB := Aside0.mk hb
  clear CK hb
  go_wp2
  go_ret
  exact ⟨rfl, HB.out⟩
set_option maxHeartbeats 8000000 in
set_option maxRecDepth 100000 in
theorem impl_sorted.calls (A0 : Option Addr) (c0 : Nat) (l0 : List Int) (w : World) (hr0 : Kd.C (Kd.int .i64) w A0 l0.length l0) (hc0 : l0.length ≤ c0) (hl : l0.length < 17592186044416) :
    Calls Try.prog 151 #[.slice A0 l0.length c0] w fun e w' => ∃ v0_ : Value, e = .returned (v0_) ∧ Kd.R (Kd.int .i64) 3 w' w.heap.size (fun _ => True) v0_ (sortC l0) ∧ Below w.heap.size w w' := by
  have CK := Aside0.mk (slices_Clone_int.calls A0 c0 l0 l0 w hr0 hc0 (by unfold slices_Clone_int.f; rw [if_pos hl]))
  have HL := Aside0.mk hl
  clear hr0 hc0 hl
  go_enter Try.func151, Try.ntmps151
  go_wp2_with fail
  with_reducible refine CK.out.mono ?_
  rintro e w1 ⟨v1, rfl, ho, hb⟩
  have hown := Kd.own_of_R ho
  have HB := Aside0.mk hb
  clear CK ho hb
  by_cases hz : l0.length = 0
  · obtain ⟨A, c, rfl⟩ := own_slice hown
    have CK2 : Aside0 (Calls Try.prog 172 #[.slice A l0.length c] w1 fun e w' => e = .returned (.tuple #[]) ∧ w' = w1) := ⟨by rw [hz]; exact Try.slices_Sort_int_none A c w1⟩
    have CK3 : Aside0 (Calls Try.prog 173 #[.slice A l0.length c] w1 fun e w' => e = .returned (.slice A l0.length c) ∧ w' = w1) := ⟨by rw [hz]; exact Try.slices_Compact_int_empty A c w1⟩
    have HO : Aside0 (Kd.R (Kd.int .i64) 3 w1 w.heap.size (fun _ => True) (.slice A l0.length c) (sortC l0)) := ⟨by
      have e1 : sortC l0 = l0 := by
        have h1 := sortC_len l0
        rw [List.eq_nil_of_length_eq_zero hz]
        exact List.eq_nil_of_length_eq_zero (by rw [← List.eq_nil_of_length_eq_zero hz]; omega)
      rw [e1]
      exact Kd.R_of_own hown (fun _ _ => trivial)⟩
    clear hown hz
    go_wp2_with fail
    with_reducible refine CK2.out.mono ?_
    rintro e w2 ⟨rfl, rfl⟩
    go_wp2_with fail
    with_reducible refine CK3.out.mono ?_
    rintro e w3 ⟨rfl, rfl⟩
    go_wp2
    go_ret
    exact ⟨_, rfl, HO.out, HB.out⟩
  · obtain ⟨hlen, hown⟩ := hown
    rcases hown with ⟨_, h0⟩ | ⟨g, cap, cur, rfl, hg, hblk, h1, h2, h3, h4⟩
    · exact absurd h0 hz
    have hsl : (l0.mergeSort fun x y => decide (x ≤ y)).length = l0.length := List.length_mergeSort _
    have hsc := sortC_len l0
    rw [Nat.mul_one] at h4
    have CK2 := Aside0.mk (Try.slices_Sort_int g 0 cap l0 w1 (holds_of_blockI hblk h4) (blk_lt hblk) (by have := HL.out; omega))
    have hs2 : ∀ n os, (grow (putRow (Value.int .i64) (Sort.ahead w1 n) g 0 (l0.mergeSort fun x y => decide (x ≤ y)).toArray) os).ownsRow w.heap.size 3 1 (.slice (some ⟨g, 0, none⟩) l0.length cap) l0.length ((l0.mergeSort fun x y => decide (x ≤ y)).map (Value.int .i64)) := fun n os => ownsRow_sortedI hsl hg hblk h1 h2 h3
    have hg2 : ∀ n os, w1.grownBy (grow (putRow (Value.int .i64) (Sort.ahead w1 n) g 0 (l0.mergeSort fun x y => decide (x ≤ y)).toArray) os) (some g) := fun n os => grownBy_sortedI _
    have HS2 := Aside0.mk hs2
    have HG2 := Aside0.mk hg2
    have HG := Aside0.mk hg
    have HSL := Aside0.mk hsl
    have HSC := Aside0.mk hsc
    clear hz hlen hblk h1 h2 h3 h4 hs2 hg2 hg hsl hsc
    go_wp2_with fail
    with_reducible refine CK2.out.mono ?_
    rintro e w2 ⟨rfl, nn, os, hw⟩
    have hown2 := HS2.out nn os
    have hgr := HG2.out nn os
    rw [← hw] at hown2 hgr
    have HB2 := Aside0.mk (HB.out.grown hgr HB.out.size (fun k hk => by cases hk; exact HG.out))
    obtain ⟨_, hown2⟩ := hown2
    rcases hown2 with ⟨h0, _⟩ | ⟨g', cap', cur2, ev, hg, hblk, h1, h2, h3, h4⟩
    · cases h0
    injection ev with e1 e2 e3
    injection e1 with e1
    injection e1 with e1
    subst e1
    subst e3
    rw [Nat.mul_one] at h4
    have hH := holds_of_blockI hblk (ss := l0.mergeSort fun x y => decide (x ≤ y)) (by rw [HSL.out]; exact h4)
    have CK3 : Aside0 (Calls Try.prog 173 #[.slice (some ⟨g, 0, none⟩) l0.length cap] w2 fun e w' => e = .returned (.slice (some ⟨g, 0, none⟩) (sortC l0).length cap) ∧ ∃ q, w' = putRow (Value.int .i64) (Sort.ahead w2 q) g 0 (sortC l0 ++ List.replicate (l0.length - (sortC l0).length) 0).toArray) := ⟨by
      have h := Try.slices_Compact_int g 0 cap (l0.mergeSort fun x y => decide (x ≤ y)) w2 hH (by rw [HSL.out]; have := HL.out; omega) (by rw [HSL.out]; exact h1)
      rw [HSL.out] at h
      exact h⟩
    have hs3 : ∀ q, (putRow (Value.int .i64) (Sort.ahead w2 q) g 0 (sortC l0 ++ List.replicate (l0.length - (sortC l0).length) 0).toArray).ownsRow w.heap.size 3 1 (.slice (some ⟨g, 0, none⟩) (sortC l0).length cap) (sortC l0).length ((sortC l0).map (Value.int .i64)) := fun q => cut_sorted hg hblk h1 h2 h3 HSC.out q
    have hg3 : ∀ q, w2.grownBy (putRow (Value.int .i64) (Sort.ahead w2 q) g 0 (sortC l0 ++ List.replicate (l0.length - (sortC l0).length) 0).toArray) (some g) := fun q => by
      have h := grownBy_sortedI (w := w2) (g := g) (n := q) (os := #[]) (sortC l0 ++ List.replicate (l0.length - (sortC l0).length) 0).toArray
      rw [grow_empty] at h
      exact h
    have HS3 := Aside0.mk hs3
    have HG3 := Aside0.mk hg3
    clear hw hgr hg hblk h1 h2 h3 h4 hH hs3 hg3 HB CK2 HS2 HG2 e2
    go_wp2_with fail
    with_reducible refine CK3.out.mono ?_
    rintro e w3 ⟨rfl, q, hw⟩
    have hown3 := HS3.out q
    have hgr := HG3.out q
    rw [← hw] at hown3 hgr
    have HB3 := Aside0.mk (HB2.out.grown hgr HB2.out.size (fun k hk => by cases hk; exact HG.out))
    have HO := Aside0.mk (Kd.R_of_own (h1 := fun _ => rfl) (ok := fun _ => True) hown3 (fun _ _ => trivial))
    clear hw hown3 hgr
    go_wp2
    go_ret
    exact ⟨_, rfl, HO.out, HB3.out⟩
end Go.Proofs.Ytgbjbpjmbghlbaa.G
end
section
namespace Go.Proofs.Ytgbjbpjmbghlbaa.G
open Go.RowKit Go.Proofs.YtgbjbpjmbghlbaaW.PrintWords Go.Proofs.YtgbjbpjmbghlbaaW.PrintLast Go.Proofs.YtgbjbpjmbghlbaaW.PrintMore
set_option linter.unusedVariables false
set_option linter.unusedSimpArgs false
theorem index_f (l : List Int) (n : Int) (hl : l.length ≤ 9223372036854775807) : ∃ k, slices_Contains_int.f k l n = some (l.contains n) := by
  have rdI : ∀ (i : Nat) (h : i < l.length), rd l (i : Int) = l[i] := fun i h => by
    simp only [rd, Int.toNat_natCast, List.getD_eq_getElem?_getD, List.getElem?_eq_getElem h, Option.getD_some]
  have loop : ∀ (d i : Nat), d = l.length - i → i ≤ l.length → ∃ r : Int, slices_Index_int.l0 (d + 1) l n (l.length : Int) (i : Int) = some r ∧ decide (r ≥ 0) = (l.drop i).contains n := by
    intro d
    induction d with
    | zero =>
      intro i hd hi
      refine ⟨-1, ?_, ?_⟩
      · rw [slices_Index_int.l0, if_neg (by omega)]
      · rw [List.drop_of_length_le (by omega)]; rfl
    | succ d ih =>
      intro i hd hi
      have hlt : i < l.length := by omega
      rw [slices_Index_int.l0, if_pos (by omega), if_pos (by omega), if_pos (by omega), rdI i hlt, List.drop_eq_getElem_cons hlt]
      by_cases hc : n = l[i]
      · refine ⟨(i : Int), by rw [if_pos hc], ?_⟩
        rw [List.contains_cons, ← hc]
        simp
      · obtain ⟨r, h1, h2⟩ := ih (i + 1) (by omega) (by omega)
        refine ⟨r, ?_, ?_⟩
        · rw [if_neg hc, show wrap64 ((i : Int) + 1) = ((i + 1 : Nat) : Int) from by unfold wrap64; omega]
          exact h1
        · rw [h2, List.contains_cons, beq_eq_false_iff_ne.2 hc, Bool.false_or]
  obtain ⟨r, h1, h2⟩ := loop l.length 0 (by omega) (by omega)
  refine ⟨l.length + 1, ?_⟩
  unfold slices_Contains_int.f slices_Index_int.f
  rw [show ((0 : Nat) : Int) = 0 from rfl] at h1
  rw [h1, Option.bind_some, h2, List.drop_zero]
open Go.Sort
set_option maxHeartbeats 8000000 in
set_option maxRecDepth 100000 in
theorem impl_minus_1.gives (m : List Int) (A : Option Addr) (c : Nat) (x : Int) (B : Nat) (W : World) (hc : W.cell? ⟨B, 0, none⟩ = some (.slice A m.length c)) (hr : Kd.C (Kd.int .i64) W A m.length m) (hmc : m.length ≤ c) :
    FnGives Try.prog 152 #[.pointer (some ⟨B, 0, none⟩)] #[.int .i64 x] (.bool (m.contains x)) W := by
  show Calls Try.prog 152 #[.int .i64 x, .pointer (some ⟨B, 0, none⟩)] W _
  obtain ⟨k, hk⟩ := index_f m x (by have := hr.2.1; omega)
  have CK := Aside0.mk (slices_Contains_int.calls k A c m x (m.contains x) W hr hmc hk)
  clear hr hmc hk
  go_enter Try.func152, Try.ntmps152
  go_wp2_with fail
  with_reducible refine CK.out.mono ?_
  rintro e w1 ⟨rfl, hd⟩
  obtain ⟨nd, rfl⟩ := hd
  clear CK
  go_wp2
  go_ret
  exact ⟨by first | rfl | simp, nd, rfl⟩
def impl_minus.f (l0 l1 : List Int) : Option (List Int) := if l0.length < 17592186044416 then some (minusL l0 l1) else none
set_option maxHeartbeats 8000000 in
set_option maxRecDepth 100000 in
theorem impl_minus.calls (A0 : Option Addr) (c0 : Nat) (l0 : List Int) (A1 : Option Addr) (c1 : Nat) (l1 : List Int) (r : List Int) (w : World) (hr0 : Kd.C (Kd.int .i64) w A0 l0.length l0) (hc0 : l0.length ≤ c0) (hr1 : Kd.C (Kd.int .i64) w A1 l1.length l1) (hc1 : l1.length ≤ c1) (h : impl_minus.f l0 l1 = some r) :
    Calls Try.prog 102 #[.slice A0 l0.length c0, .slice A1 l1.length c1] w fun e w' => ∃ v0_ : Value, e = .returned (v0_) ∧ Kd.R (Kd.int .i64) 3 w' w.heap.size (fun _ => True) v0_ r ∧ Below w.heap.size w w' := by
  unfold impl_minus.f at h
  split at h
  · rename_i hl
    obtain rfl := Option.some.inj h
    have hmf : ∀ (fn : Fn) (first cap : Array Value) (W : World), (Instr.makeFunc fn first cap).run Try.prog W = .ok (.func fn first cap) W := fun _ _ _ _ => rfl
    have CK := Aside0.mk (impl_sorted.calls A0 c0 l0 (w.alloc (.cells #[.slice A1 l1.length c1] 26)) (Kd.C_alloc hr0 _) hc0 hl)
    have BX := Aside0.mk (heap_alloc_new w (.cells #[.slice A1 l1.length c1] 26))
    have HA := Aside0.mk ((Below.refl w.heap.size w).alloc (Nat.le_refl _) (.cells #[.slice A1 l1.length c1] 26))
    have HR1 := Aside0.mk hr1
    have HC1 := Aside0.mk hc1
    have HLS := Aside0.mk (Nat.lt_of_le_of_lt (sortC_len l0) hl)
    clear hr0 hc0 hr1 hc1 h hl
    go_enter Try.func102, Try.ntmps102
    go_wp2_with fail
    with_reducible refine CK.out.mono ?_
    rintro e w1 ⟨v1, rfl, ho, hb⟩
    have hsz : (w.alloc (.cells #[.slice A1 l1.length c1] 26)).heap.size = w.heap.size + 1 := by simp
    have HB := Aside0.mk (HA.out.trans (hb.mono HA.out.size))
    have hbx := (hb.block _ (blk_lt BX.out)).trans BX.out
    have hown := Kd.own_of_R ho
    have hlow := fun k hk => own_base hown k hk
    rw [hsz] at hlow
    have eg : ∀ args w, (callFunc 152 args).run Try.prog w = .ok (.enter 152 args) w := enters_of Try.func152 (by kernel_rfl) rfl
    have hpred : PredAt Try.prog 152 #[.pointer (some ⟨w.heap.size, 0, none⟩)] (Value.int .i64) (fun x => l1.contains x) w1 := fun W x hbW =>
      impl_minus_1.gives l1 A1 c1 x w.heap.size W ((blk_cell ((hbW.block _ (blk_lt hbx)).trans hbx) 0).trans rfl) (Kd.C_below HR1.out (HB.out.trans (hbW.mono HB.out.size))) HC1.out
    by_cases hz : (sortC l0).length = 0
    · obtain ⟨A, c, rfl⟩ := own_slice hown
      have CK2 : Aside0 (Calls Try.prog 104 #[.slice A (sortC l0).length c, .func (.func 152) #[] #[.pointer (some ⟨w.heap.size, 0, none⟩)]] w1 fun e w' => e = .returned (.slice A (sortC l0).length c) ∧ Below w1.heap.size w1 w') := ⟨del_none A c (sortC l0) hz 152 _ eg w1⟩
      have HO : Aside0 (Kd.R (Kd.int .i64) 3 w1 w.heap.size (fun _ => True) (.slice A (sortC l0).length c) (minusL l0 l1)) := ⟨by
        have e0 : sortC l0 = [] := List.eq_nil_of_length_eq_zero hz
        have e1 : minusL l0 l1 = sortC l0 := by unfold minusL; rw [e0]; rfl
        rw [e1]
        exact Kd.R_lower ho (by rw [hsz]; omega)⟩
      clear CK hown hz ho hb hbx hlow eg hpred BX HA hsz
      go_wp2_with fail
      with_reducible refine CK2.out.mono ?_
      rintro e w2 ⟨rfl, hb2⟩
      have HO2 := Aside0.mk (Kd.R_below HO.out hb2)
      have HB2 := Aside0.mk (HB.out.trans (hb2.mono HB.out.size))
      clear hb2 CK2
      go_wp2
      go_ret
      exact ⟨_, rfl, HO2.out, HB2.out⟩
    · obtain ⟨hlen, hown2⟩ := hown
      rcases hown2 with ⟨_, h0⟩ | ⟨g, cap, cur, rfl, hg, hblk, h1, h2, h3, h4⟩
      · exact absurd h0 hz
      rw [Nat.mul_one] at h4
      rw [hsz] at hg
      have hover : PredOver Try.prog 152 #[.pointer (some ⟨w.heap.size, 0, none⟩)] (Value.int .i64) (fun x => l1.contains x) g 0 (sortC l0).toArray.size w1 := fun n os dk x _ => by
        have hgr : w1.grownBy (sortWorld (Value.int .i64) w1 g 0 n dk os) (some g) := grownBy_sortedI dk
        have hbW : Below w.heap.size w (sortWorld (Value.int .i64) w1 g 0 n dk os) := HB.out.grown hgr HB.out.size (fun k hk => by cases hk; omega)
        exact impl_minus_1.gives l1 A1 c1 x w.heap.size _ ((blk_cell ((hgr.block _ (blk_lt hbx) (fun e => by injection e with e; omega)).trans hbx) 0).trans rfl) (Kd.C_below HR1.out hbW) HC1.out
      have hcon := AnyE.slices_DeleteFunc Try.lays_del (Value.int .i64) (fun _ => rfl) (fun x => l1.contains x) 152 #[.pointer (some ⟨w.heap.size, 0, none⟩)] eg 0 Try.zeroValue3 g 0 cap (sortC l0).toArray w1 hpred hover (holds_of_blockI hblk h4) (by simp; have := HLS.out; omega) (by simpa using h1)
      have CK2 : Aside0 (Calls Try.prog 104 #[.slice (some ⟨g, 0, none⟩) (sortC l0).length cap, .func (.func 152) #[] #[.pointer (some ⟨w.heap.size, 0, none⟩)]] w1 fun e w' => e = .returned (.slice (some ⟨g, 0, none⟩) (minusL l0 l1).length cap) ∧ ∃ q, w' = putRow (Value.int .i64) (Sort.ahead w1 q) g 0 (minusL l0 l1 ++ List.replicate ((sortC l0).length - (minusL l0 l1).length) 0).toArray) := ⟨by
        simp only [List.size_toArray, List.toList_toArray] at hcon
        exact hcon⟩
      have hml : (minusL l0 l1).length ≤ (sortC l0).length := List.length_filter_le _ _
      have hs3 : ∀ q, (putRow (Value.int .i64) (Sort.ahead w1 q) g 0 (minusL l0 l1 ++ List.replicate ((sortC l0).length - (minusL l0 l1).length) 0).toArray).ownsRow w.heap.size 3 1 (.slice (some ⟨g, 0, none⟩) (minusL l0 l1).length cap) (minusL l0 l1).length ((minusL l0 l1).map (Value.int .i64)) := fun q => cut_sorted (by omega) hblk h1 h2 h3 hml q
      have hg3 : ∀ q, w1.grownBy (putRow (Value.int .i64) (Sort.ahead w1 q) g 0 (minusL l0 l1 ++ List.replicate ((sortC l0).length - (minusL l0 l1).length) 0).toArray) (some g) := fun q => by
        have h := grownBy_sortedI (w := w1) (g := g) (n := q) (os := #[]) (minusL l0 l1 ++ List.replicate ((sortC l0).length - (minusL l0 l1).length) 0).toArray
        rw [grow_empty] at h
        exact h
      have HS3 := Aside0.mk hs3
      have HG3 := Aside0.mk hg3
      have HG : Aside0 (w.heap.size ≤ g) := ⟨by omega⟩
      clear CK hlen ho hb hbx hlow eg hpred hover hcon hml hs3 hg3 BX HA hsz hg hblk h1 h2 h3 h4 hz
      go_wp2_with fail
      with_reducible refine CK2.out.mono ?_
      rintro e w3 ⟨rfl, q, hw⟩
      have hown3 := HS3.out q
      have hgr := HG3.out q
      rw [← hw] at hown3 hgr
      have HB3 := Aside0.mk (HB.out.grown hgr HB.out.size (fun k hk => by cases hk; exact HG.out))
      have HO := Aside0.mk (Kd.R_of_own (h1 := fun _ => rfl) (ok := fun _ => True) hown3 (fun _ _ => trivial))
      clear hw hown3 hgr CK2 HS3 HG3
      go_wp2
      go_ret
      exact ⟨_, rfl, HO.out, HB3.out⟩
  · cases h
end Go.Proofs.Ytgbjbpjmbghlbaa.G
end
section
namespace Go.Proofs.Ytgbjbpjmbghlbaa.G
open Go.RowKit Go.Proofs.YtgbjbpjmbghlbaaW.PrintWords Go.Proofs.YtgbjbpjmbghlbaaW.PrintLast Go.Proofs.YtgbjbpjmbghlbaaW.PrintMore
attribute [local go_sem] max2_int min2_int max_two min_two max_three min_three max_four min_four
set_option linter.unusedVariables false
set_option linter.unusedSimpArgs false
def impl_HiddenOf.f (k : Nat) (l0 : List Int) (a1_0 : Int) (a1_1 : Int) (l1_2 : List (S30)) (l2 : List Int) : Option (List Int × Bool) := (impl_TaskUses.f k a1_0 a1_1 l1_2 l2).bind fun bt885 => (if bt885.2 = true then ((impl_minus.f bt885.1 l0).bind fun t889 => (some (t889, true))) else (some (([] : List Int), false)))
set_option maxHeartbeats 8000000 in
set_option maxRecDepth 100000 in
theorem impl_HiddenOf.calls (k : Nat) (A0 : Option Addr) (c0 : Nat) (l0 : List Int) (a1_0 : Int) (a1_1 : Int) (A1_2 : Option Addr) (c1_2 : Nat) (l1_2 : List (S30)) (A2 : Option Addr) (c2 : Nat) (l2 : List Int) (r1 : List Int) (r2 : Bool) (w : World) (hr0 : Kd.C (Kd.int .i64) w A0 l0.length l0) (hc0 : l0.length ≤ c0) (hr1_2 : Kd.C k30 w A1_2 l1_2.length l1_2) (hc1_2 : l1_2.length ≤ c1_2) (hr2 : Kd.C (Kd.int .i64) w A2 l2.length l2) (hc2 : l2.length ≤ c2) (h : impl_HiddenOf.f k l0 a1_0 a1_1 l1_2 l2 = some (r1, r2)) :
    Calls Try.prog 47 #[.slice A0 l0.length c0, .agg #[.int .i64 a1_0, .int .i64 a1_1, .slice A1_2 l1_2.length c1_2], .slice A2 l2.length c2] w fun e w' => ∃ v0_ : Value, e = .returned (.tuple #[v0_, .bool r2]) ∧ Kd.R (Kd.int .i64) 3 w' w.heap.size (fun _ => True) v0_ r1 ∧ Below w.heap.size w w' := by
  have hu30 := Try.underlying30
  have HR0 := Aside0.mk hr0
  have HC0 := Aside0.mk hc0
  clear hr0 hc0
  have HR1_2 := Aside0.mk hr1_2
  have HC1_2 := Aside0.mk hc1_2
  clear hr1_2 hc1_2
  have HR2 := Aside0.mk hr2
  have HC2 := Aside0.mk hc2
  clear hr2 hc2
  have HB := Aside0.mk (Below.refl w.heap.size w)
  have H : ((impl_TaskUses.f k a1_0 a1_1 l1_2 l2).bind fun bt885 => (if bt885.2 = true then ((impl_minus.f bt885.1 l0).bind fun t889 => (some (t889, true))) else (some (([] : List Int), false)))) = some (r1, r2) := h
  clear h
  replace H := Option.bind_eq_some_iff.mp H
  obtain ⟨⟨t885, t888⟩, A40, H⟩ := H
  replace H : (if t888 = true then ((impl_minus.f t885 l0).bind fun t889 => (some (t889, true))) else (some (([] : List Int), false))) = some (r1, r2) := H
  have A4 := Aside0.mk A40
  clear A40
  by_cases c5 : t888 = true
  · subst c5
    have H1 : ((impl_minus.f t885 l0).bind fun t889 => (some (t889, true))) = some (r1, r2) := by rw [if_pos rfl] at H; exact H
    clear H
    have H := H1
    clear H1
    replace H := Option.bind_eq_some_iff.mp H
    obtain ⟨t889, A60, H⟩ := H
    replace H : (some (t889, true)) = some (r1, r2) := H
    have A6 := Aside0.mk A60
    clear A60
    simp only [Option.some.injEq, Prod.mk.injEq] at H
    obtain ⟨rfl, rfl⟩ := H
    go_enter Try.func47, Try.ntmps47
    go_wp2_with (first | ((with_reducible refine gate_dst (N := 4) rfl ?_); refine box_event ?hg (N := 4) ?hd (cs := #[.int .i64 a1_0, .int .i64 a1_1, .slice A1_2 l1_2.length c1_2]) (t := 30) ?hr ?_; (case hd => rfl); (case hg => rfl); (case hr => first | (go_simp; done) | (go_simp; rfl)); intro gb884 hg w7 hbox hb; have n0_ := Aside0.mk (below_step (by repeat (first | (with_reducible first | exact HB.out | apply below_alloc | apply pw_below_drewN | apply below_drew1) | exact HB.out)) hb); have n1_ := Aside0.mk (hbox); have n2_ := Aside0.mk ((by rw [hg]; exact (below_size (by repeat (first | (with_reducible first | exact HB.out | apply below_alloc | apply pw_below_drewN | apply below_drew1) | exact HB.out))) : w.heap.size ≤ gb884)); have n3_ := Aside0.mk ((by rw [hg]; exact (below_size (by repeat (first | (with_reducible first | exact HB.out | apply below_alloc | apply pw_below_drewN | apply below_drew1) | exact HB.out))) : w.heap.size ≤ gb884)); clear HB; have HB := n0_; have BK884 := n1_; have GW884 := n2_; have GE884 := n3_; clear n0_ n1_ n2_ n3_; clear hb hbox hg; have hcz8_0 : w7.cell? ⟨gb884, 0, none⟩ = some (.int .i64 a1_0) := (blk_cell BK884.out 0).trans rfl; have hcz8_1 : w7.cell? ⟨gb884, 1, none⟩ = some (.int .i64 a1_1) := (blk_cell BK884.out 1).trans rfl; have hcz8_2 : w7.cell? ⟨gb884, 2, none⟩ = some (.slice A1_2 l1_2.length c1_2) := (blk_cell BK884.out 2).trans rfl; have hfz8_0 := blk_frozen BK884.out 0; have hfz8_1 := blk_frozen BK884.out 1; have hfz8_2 := blk_frozen BK884.out 2) | ((with_reducible refine gate_callee (f := 29) rfl ?_); refine goesL_ (some 13) rfl rfl Try.func29 (by kernel_rfl) rfl #[.agg #[.int .i64 a1_0, .int .i64 a1_1, .slice A1_2 l1_2.length c1_2], .slice A2 l2.length c2] rfl (by (try simp only [List.map_toArray, List.map_cons, List.map_nil]); first | done | rfl | (simp only [List.length_drop, List.length_take]; rfl)) ?_; (with_reducible refine (impl_TaskUses.calls k a1_0 a1_1 _ _ l1_2 _ _ l2 t885 true _ ?side1 ?side2 ?side3 ?side4 A4.out).mono ?_); (case side1 => repeat (first | exact (Kd.C_below HR1_2.out HB.out) | (with_reducible refine Kd.C_alloc ?_ _) | (with_reducible refine Kd.C_drewN ?_ _) | (with_reducible refine Kd.C_drew ?_))); (case side2 => exact HC1_2.out); (case side3 => repeat (first | exact (Kd.C_below HR2.out HB.out) | (with_reducible refine Kd.C_alloc ?_ _) | (with_reducible refine Kd.C_drewN ?_ _) | (with_reducible refine Kd.C_drew ?_))); (case side4 => exact HC2.out); rintro e w9 ⟨v886, rfl, ho0, hb⟩; refine ⟨_, rfl, ?_⟩; have n0_ := Aside0.mk (Kd.R_lower ho0 (below_size (by repeat (first | (with_reducible first | exact HB.out | apply below_alloc | apply pw_below_drewN | apply below_drew1 | refine below_set ?_ GE884.out) | exact HB.out)))); have n1_ := Aside0.mk (blk_below (g := gb884) (o := .cells #[.int .i64 a1_0, .int .i64 a1_1, .slice A1_2 l1_2.length c1_2] 30 (0, 0)) (by (with_reducible repeat (first | refine blk_drewN ?_ _ | refine blk_drew ?_ | refine blk_alloc ?_ _)); exact BK884.out) hb); have n2_ := Aside0.mk (below_step (by repeat (first | (with_reducible first | exact HB.out | apply below_alloc | apply pw_below_drewN | apply below_drew1 | refine below_set ?_ GE884.out) | exact HB.out)) hb); clear BK884; clear HB; have HO887 := n0_; have BK884 := n1_; have HB := n2_; clear n0_ n1_ n2_; (try clear hb); (try clear hb2); (try clear hk); (try clear hi); (try clear ho0); obtain ⟨Ao10, co10, eo10⟩ := Kd.R_slice HO887.out; subst eo10) | ((with_reducible refine gate_callee (f := 102) rfl ?_); refine goesL_ (some 20) rfl rfl Try.func102 (by kernel_rfl) rfl #[.slice Ao10 t885.length co10, .slice A0 l0.length c0] rfl (by (try simp only [List.map_toArray, List.map_cons, List.map_nil]); first | done | rfl | (simp only [List.length_drop, List.length_take]; rfl)) ?_; (with_reducible refine (impl_minus.calls _ _ t885 _ _ l0 t889 _ ?side1 ?side2 ?side3 ?side4 A6.out).mono ?_); (case side1 => repeat (first | exact (Kd.R_reads' HO887.out).2.2 | (with_reducible refine Kd.C_alloc ?_ _) | (with_reducible refine Kd.C_drewN ?_ _) | (with_reducible refine Kd.C_drew ?_))); (case side2 => exact (Kd.R_reads' HO887.out).2.1); (case side3 => repeat (first | exact (Kd.C_below HR0.out HB.out) | (with_reducible refine Kd.C_alloc ?_ _) | (with_reducible refine Kd.C_drewN ?_ _) | (with_reducible refine Kd.C_drew ?_))); (case side4 => exact HC0.out); rintro e w11 ⟨v890, rfl, ho0, hb⟩; refine ⟨_, rfl, ?_⟩; have n0_ := Aside0.mk (Kd.R_elder' (by (with_reducible repeat (first | apply Kd.R_alloc | apply Kd.R_drewN | apply Kd.R_drew)); exact HO887.out) (Kd.R_base ho0) hb); have n1_ := Aside0.mk (Kd.R_lower (Kd.R_new' ho0 (Kd.R_lt (by (with_reducible repeat (first | apply Kd.R_alloc | apply Kd.R_drewN | apply Kd.R_drew)); exact HO887.out))) (below_size (by repeat (first | (with_reducible first | exact HB.out | apply below_alloc | apply pw_below_drewN | apply below_drew1 | refine below_set ?_ GE884.out) | exact HB.out)))); have n2_ := Aside0.mk (blk_below (g := gb884) (o := .cells #[.int .i64 a1_0, .int .i64 a1_1, .slice A1_2 l1_2.length c1_2] 30 (0, 0)) (by (with_reducible repeat (first | refine blk_drewN ?_ _ | refine blk_drew ?_ | refine blk_alloc ?_ _)); exact BK884.out) hb); have n3_ := Aside0.mk (below_step (by repeat (first | (with_reducible first | exact HB.out | apply below_alloc | apply pw_below_drewN | apply below_drew1 | refine below_set ?_ GE884.out) | exact HB.out)) hb); clear HO887; clear BK884; clear HB; have HO887 := n0_; have HO891 := n1_; have BK884 := n2_; have HB := n3_; clear n0_ n1_ n2_ n3_; (try clear hb); (try clear hb2); (try clear hk); (try clear hi); (try clear ho0)))
    go_ret2
    exact ⟨_, by first | rfl | (simp [errW_none, errW_some] <;> rfl) | (simp [*, errW_none, errW_some] <;> rfl), by (with_reducible repeat (first | apply Kd.R_alloc | apply Kd.R_drewN | apply Kd.R_drew)); exact Kd.R_mono HO891.out (fun _ hk => trivial), by repeat (first | (with_reducible first | exact HB.out | apply below_alloc | apply pw_below_drewN | apply below_drew1 | refine below_set ?_ GE884.out) | exact HB.out)⟩
  · replace c5 := Bool.eq_false_iff.mpr c5
    subst c5
    have H1 : (some (([] : List Int), false)) = some (r1, r2) := by rw [if_neg (show ¬ (false = true) by decide)] at H; exact H
    clear H
    have H := H1
    clear H1
    simp only [Option.some.injEq, Prod.mk.injEq] at H
    obtain ⟨rfl, rfl⟩ := H
    go_enter Try.func47, Try.ntmps47
    go_wp2_with (first | ((with_reducible refine gate_dst (N := 4) rfl ?_); refine box_event ?hg (N := 4) ?hd (cs := #[.int .i64 a1_0, .int .i64 a1_1, .slice A1_2 l1_2.length c1_2]) (t := 30) ?hr ?_; (case hd => rfl); (case hg => rfl); (case hr => first | (go_simp; done) | (go_simp; rfl)); intro gb884 hg w12 hbox hb; have n0_ := Aside0.mk (below_step (by repeat (first | (with_reducible first | exact HB.out | apply below_alloc | apply pw_below_drewN | apply below_drew1) | exact HB.out)) hb); have n1_ := Aside0.mk (hbox); have n2_ := Aside0.mk ((by rw [hg]; exact (below_size (by repeat (first | (with_reducible first | exact HB.out | apply below_alloc | apply pw_below_drewN | apply below_drew1) | exact HB.out))) : w.heap.size ≤ gb884)); have n3_ := Aside0.mk ((by rw [hg]; exact (below_size (by repeat (first | (with_reducible first | exact HB.out | apply below_alloc | apply pw_below_drewN | apply below_drew1) | exact HB.out))) : w.heap.size ≤ gb884)); clear HB; have HB := n0_; have BK884 := n1_; have GW884 := n2_; have GE884 := n3_; clear n0_ n1_ n2_ n3_; clear hb hbox hg; have hcz13_0 : w12.cell? ⟨gb884, 0, none⟩ = some (.int .i64 a1_0) := (blk_cell BK884.out 0).trans rfl; have hcz13_1 : w12.cell? ⟨gb884, 1, none⟩ = some (.int .i64 a1_1) := (blk_cell BK884.out 1).trans rfl; have hcz13_2 : w12.cell? ⟨gb884, 2, none⟩ = some (.slice A1_2 l1_2.length c1_2) := (blk_cell BK884.out 2).trans rfl; have hfz13_0 := blk_frozen BK884.out 0; have hfz13_1 := blk_frozen BK884.out 1; have hfz13_2 := blk_frozen BK884.out 2) | ((with_reducible refine gate_callee (f := 29) rfl ?_); refine goesL_ (some 13) rfl rfl Try.func29 (by kernel_rfl) rfl #[.agg #[.int .i64 a1_0, .int .i64 a1_1, .slice A1_2 l1_2.length c1_2], .slice A2 l2.length c2] rfl (by (try simp only [List.map_toArray, List.map_cons, List.map_nil]); first | done | rfl | (simp only [List.length_drop, List.length_take]; rfl)) ?_; (with_reducible refine (impl_TaskUses.calls k a1_0 a1_1 _ _ l1_2 _ _ l2 t885 false _ ?side1 ?side2 ?side3 ?side4 A4.out).mono ?_); (case side1 => repeat (first | exact (Kd.C_below HR1_2.out HB.out) | (with_reducible refine Kd.C_alloc ?_ _) | (with_reducible refine Kd.C_drewN ?_ _) | (with_reducible refine Kd.C_drew ?_))); (case side2 => exact HC1_2.out); (case side3 => repeat (first | exact (Kd.C_below HR2.out HB.out) | (with_reducible refine Kd.C_alloc ?_ _) | (with_reducible refine Kd.C_drewN ?_ _) | (with_reducible refine Kd.C_drew ?_))); (case side4 => exact HC2.out); rintro e w14 ⟨v886, rfl, ho0, hb⟩; refine ⟨_, rfl, ?_⟩; have n0_ := Aside0.mk (Kd.R_lower ho0 (below_size (by repeat (first | (with_reducible first | exact HB.out | apply below_alloc | apply pw_below_drewN | apply below_drew1 | refine below_set ?_ GE884.out) | exact HB.out)))); have n1_ := Aside0.mk (blk_below (g := gb884) (o := .cells #[.int .i64 a1_0, .int .i64 a1_1, .slice A1_2 l1_2.length c1_2] 30 (0, 0)) (by (with_reducible repeat (first | refine blk_drewN ?_ _ | refine blk_drew ?_ | refine blk_alloc ?_ _)); exact BK884.out) hb); have n2_ := Aside0.mk (below_step (by repeat (first | (with_reducible first | exact HB.out | apply below_alloc | apply pw_below_drewN | apply below_drew1 | refine below_set ?_ GE884.out) | exact HB.out)) hb); clear BK884; clear HB; have HO887 := n0_; have BK884 := n1_; have HB := n2_; clear n0_ n1_ n2_; (try clear hb); (try clear hb2); (try clear hk); (try clear hi); (try clear ho0)))
    go_ret2
    exact ⟨_, by first | rfl | (simp [errW_none, errW_some] <;> rfl) | (simp [*, errW_none, errW_some] <;> rfl), by first | exact Kd.R_nil _ _ _ _ _ | exact Kd.N_nil _ _ _ _ _ | exact Kd.V_nil _ _ _ _ _ | exact Kd.Q_nil _ _ _ _ _ | exact Kd.S_nil _ _ _ _ _, by repeat (first | (with_reducible first | exact HB.out | apply below_alloc | apply pw_below_drewN | apply below_drew1 | refine below_set ?_ GE884.out) | exact HB.out)⟩
end Go.Proofs.Ytgbjbpjmbghlbaa.G
end
section
namespace Go.Proofs.Ytgbjbpjmbghlbaa.G
open Go.RowKit Go.Proofs.YtgbjbpjmbghlbaaW.PrintWords
set_option linter.unusedVariables false
set_option linter.unusedSimpArgs false
structure Ist {α : Type} (d : Kd α) : Prop where
  set : ∀ {w : World} {base : Nat} {ok : Nat → Prop} {x : α} {cs : List Value} {j : Nat} {z0 : Int} (z : Int), cs[j]? = some (.int .i64 z0) → d.M w base ok x cs → d.M w base ok x (cs.set j (.int .i64 z))
  mv : ∀ {w : World} {base : Nat} {ok : Nat → Prop} {x : α} {cs : List Value} {g o : Nat} {z0 : Int} (z : Int), w.cell? ⟨g, o, none⟩ = some (.int .i64 z0) → d.M w base ok x cs → d.M (w.setCell ⟨g, o, none⟩ (.int .i64 z)) base ok x cs
theorem chunk_set {inner : List Value} {o a n : Nat} (u : Value) (h1 : a ≤ o) (h2 : o < a + n) : ((inner.set o u).drop a).take n = ((inner.drop a).take n).set (o - a) u := by
  apply List.ext_getElem?
  intro q
  rw [List.getElem?_take, List.getElem?_drop, List.getElem?_set, List.getElem?_set, List.getElem?_take, List.getElem?_drop, List.length_take, List.length_drop]
  by_cases hq : q < n
  · rw [if_pos hq, if_pos hq]
    by_cases e : o = a + q
    · rw [if_pos e, if_pos (show o - a = q by omega)]
      by_cases hl : o < inner.length
      · rw [if_pos (by omega), if_pos (by omega)]
      · rw [if_neg (by omega), if_neg (by omega)]
    · rw [if_neg e, if_neg (by omega)]
  · rw [if_neg hq, if_neg hq]
    rw [if_neg (by omega)]
theorem chunk_far {inner : List Value} {o a n : Nat} (u : Value) (h : ¬ (a ≤ o ∧ o < a + n)) : ((inner.set o u).drop a).take n = (inner.drop a).take n := by
  apply List.ext_getElem?
  intro q
  rw [List.getElem?_take, List.getElem?_drop, List.getElem?_set, List.getElem?_take, List.getElem?_drop]
  by_cases hq : q < n
  · rw [if_pos hq, if_pos hq, if_neg (by omega)]
  · rw [if_neg hq, if_neg hq]
theorem ist_R {α : Type} {d : Kd α} (hd : Ist d) {e : Nat} {w : World} {base : Nat} {ok : Nat → Prop} {v : Value} {xs : List α} {g o : Nat} {z0 : Int} (z : Int) (hc : w.cell? ⟨g, o, none⟩ = some (.int .i64 z0)) (h : d.R e w base ok v xs) : d.R e (w.setCell ⟨g, o, none⟩ (.int .i64 z)) base ok v xs := by
  obtain ⟨h0, inner, ho, hr⟩ := h
  by_cases hg : v.ownBlock = some g
  · obtain ⟨A, c, rfl⟩ : ∃ A c, v = .slice A xs.length c := own_slice ho
    obtain ⟨gb, ho2⟩ : ∃ ad : Addr, A = some ad := by
      cases A with
      | none => simp [Value.ownBlock] at hg
      | some ad => exact ⟨ad, rfl⟩
    subst ho2
    have hgb : gb = ⟨g, 0, none⟩ := by
      rcases ho.2 with ⟨h1, _⟩ | ⟨g', cap, cur, h1, _⟩
      · cases h1
      · injection h1 with h1 _ _
        injection h1 with h1
        have h2 : gb.block = g := by simpa [Value.ownBlock] using hg
        rw [h1] at h2
        rw [h1, ← h2]
    subst hgb
    refine ⟨h0, inner.set o (.int .i64 z), (ho.stored o _).1, by rw [List.length_set]; exact hr.1, fun j p hj => ?_⟩
    have hM := hr.2 j p hj
    by_cases hin : j * d.sz ≤ o ∧ o < j * d.sz + d.sz
    · rw [chunk_set _ hin.1 hin.2]
      refine hd.mv z hc (hd.set (z0 := z0) z ?_ hM)
      have hlen := d.K_len (d.K_of_M hM)
      rw [List.length_take, List.length_drop] at hlen
      have hol : o < inner.length := by omega
      have h3 := ho.cells (g := g) (by simp [Value.ownBlock]) o _ (List.getElem?_eq_getElem hol)
      rw [add_plain, hc] at h3
      injection h3 with h3
      rw [List.getElem?_take, if_pos (by omega), List.getElem?_drop, show j * d.sz + (o - j * d.sz) = o by omega, List.getElem?_eq_getElem hol, h3]
    · rw [chunk_far _ hin]
      exact hd.mv z hc hM
  · exact ⟨h0, inner, own_setCell ho (fun e => hg e.symm) _, hr.imp_ (fun p c hp => hd.mv z hc hp)⟩
def anyInt : Kd Unit where
  sz := 1
  E := []
  K := fun _ _ cs => ∃ z : Int, cs = [.int .i64 z]
  M := fun _ _ _ _ cs => ∃ z : Int, cs = [.int .i64 z]
  K_len := by rintro w x cs ⟨z, rfl⟩; rfl
  K_one := by
    rintro w x cs ⟨z, rfl⟩ u hu
    rw [List.mem_singleton.1 hu]
    rfl
  K_below := fun _ h => h
  K_of_M := fun h => h
  M_mono := fun _ h => h
  M_bound := fun h => h
  M_move := fun _ h => h
  M_lower := fun _ h => h
theorem ist_anyInt : Ist anyInt := by
  refine ⟨?_, ?_⟩
  · rintro w base ok x cs j z0 z hj ⟨z1, rfl⟩
    cases j with
    | zero => exact ⟨z, rfl⟩
    | succ j => simp at hj
  · rintro w base ok x cs g o z0 z _ h
    exact h
theorem ist_slice {α : Type} {d : Kd α} (e : Nat) (hd : Ist d) : Ist (Kd.slice e d) := by
  refine ⟨?_, ?_⟩
  · rintro w base ok x cs j z0 z hj ⟨v, rfl, h⟩
    obtain ⟨A, c, rfl⟩ := Kd.R_slice h
    cases j with
    | zero => simp at hj
    | succ j => simp at hj
  · rintro w base ok x cs g o z0 z hc ⟨v, rfl, h⟩
    exact ⟨v, rfl, ist_R hd z hc h⟩
theorem ist_pair {α β : Type} {a : Kd α} {b : Kd β} (ha : Ist a) (hb : Ist b) : Ist (Kd.pair a b) := by
  refine ⟨?_, ?_⟩
  · rintro w base ok x cs j z0 z hj ⟨c0, c1, rfl, h0, h1⟩
    by_cases hl : j < c0.length
    · rw [List.getElem?_append_left hl] at hj
      exact ⟨c0.set j (.int .i64 z), c1, by rw [List.set_append_left _ _ hl], ha.set z hj h0, h1⟩
    · rw [List.getElem?_append_right (by omega)] at hj
      exact ⟨c0, c1.set (j - c0.length) (.int .i64 z), by rw [List.set_append_right _ _ (by omega)], h0, hb.set z hj h1⟩
  · rintro w base ok x cs g o z0 z hc ⟨c0, c1, rfl, h0, h1⟩
    exact ⟨c0, c1, rfl, ha.mv z hc h0, hb.mv z hc h1⟩
theorem ist_iso {α β : Type} {d : Kd α} (f : β → α) (hd : Ist d) : Ist (Kd.iso d f) := ⟨fun z hj h => hd.set z hj h, fun z hc h => hd.mv z hc h⟩
theorem ist_bot {α : Type} (sz : Nat) (E : List Nat) : Ist (Kd.bot (α := α) sz E) := ⟨fun _ _ h => h.elim, fun _ _ h => h.elim⟩
theorem ist_upto {α : Type} {F : Kd α → Kd α} {sz : Nat} {E : List Nat} (hF : ∀ d, Ist d → Ist (F d)) : ∀ n, Ist (Kd.upto F sz E n)
  | 0 => ist_bot sz E
  | n + 1 => hF _ (ist_upto hF n)
theorem ist_fix {α : Type} {F : Kd α → Kd α} {sz : Nat} {E : List Nat} {hs : ∀ n, (Kd.upto F sz E n).sz = sz} {hE : ∀ n q, q ∈ (Kd.upto F sz E n).E → q ∈ E} (hF : ∀ d, Ist d → Ist (F d)) : Ist (Kd.fix F sz E hs hE) := by
  refine ⟨?_, ?_⟩
  · rintro w base ok x cs j z0 z hj ⟨n, h⟩
    exact ⟨n, (ist_upto hF n).set z hj h⟩
  · rintro w base ok x cs g o z0 z hc ⟨n, h⟩
    exact ⟨n, (ist_upto hF n).mv z hc h⟩
theorem R_map {α β : Type} {d : Kd α} {d' : Kd β} (f : α → β) (hs : d.sz = d'.sz) (hM : ∀ w base ok x cs, d.M w base ok x cs → d'.M w base ok (f x) cs) {e : Nat} {w : World} {base : Nat} {ok : Nat → Prop} {v : Value} {xs : List α} (h : d.R e w base ok v xs) : d'.R e w base ok v (xs.map f) := by
  obtain ⟨h0, inner, ho, hr⟩ := h
  refine ⟨h0, inner, by rw [List.length_map, ← hs]; exact ho, by rw [List.length_map, ← hs]; exact hr.1, fun j p hj => ?_⟩
  rw [List.getElem?_map] at hj
  obtain ⟨x, hx, rfl⟩ := Option.map_eq_some_iff.1 hj
  rw [← hs]
  exact hM _ _ _ _ _ (hr.2 j x hx)
structure Marked (w w' : World) (base : Nat) (ok : Nat → Prop) : Prop where
  below : Below base w w'
  kept : Kept w w' ok
  size : w'.heap.size = w.heap.size
  rows : ∀ {α : Type} {d : Kd α}, Ist d → ∀ {e b : Nat} {o : Nat → Prop} {v : Value} {xs : List α}, d.R e w b o v xs → d.R e w' b o v xs
theorem Marked.refl (w : World) (base : Nat) (ok : Nat → Prop) : Marked w w base ok := ⟨Below.refl _ _, Kept.refl _ _, rfl, fun _ _ _ _ _ _ h => h⟩
theorem Marked.trans {w w1 w2 : World} {base : Nat} {ok : Nat → Prop} (h : Marked w w1 base ok) (k : Marked w1 w2 base ok) : Marked w w2 base ok :=
  ⟨h.below.trans k.below, h.kept.then_ k.kept (fun _ hk => .inl hk), k.size.trans h.size, fun hd _ _ _ _ _ hr => k.rows hd (h.rows hd hr)⟩
theorem Marked.mono {w w1 : World} {base base' : Nat} {ok ok' : Nat → Prop} (h : Marked w w1 base ok) (hb : base' ≤ base) (hk : ∀ k, ok k → ok' k) : Marked w w1 base' ok' := ⟨h.below.mono hb, h.kept.mono hk, h.size, h.rows⟩
theorem Marked.drew {w w1 : World} {base : Nat} {ok : Nat → Prop} (h : Marked w w1 base ok) (n : Nat) : Marked w (w1.drewN n) base ok := ⟨pw_below_drewN h.below n, h.kept.drewN n, h.size, fun hd _ _ _ _ _ hr => Kd.R_drewN (h.rows hd hr) n⟩
theorem Marked.store {w w1 : World} {base : Nat} {ok : Nat → Prop} (h : Marked w w1 base ok) {g o : Nat} {z0 : Int} (z : Int) (hc : w1.cell? ⟨g, o, none⟩ = some (.int .i64 z0)) (hg : ok g) (hb : base ≤ g) : Marked w (w1.setCell ⟨g, o, none⟩ (.int .i64 z)) base ok :=
  ⟨h.below.setCell hb _, h.kept.setCell (.inl hg) _, by simpa [World.setCell] using h.size, fun hd _ _ _ _ _ hr => ist_R hd z hc (h.rows hd hr)⟩
end Go.Proofs.Ytgbjbpjmbghlbaa.G
end
section
namespace Go.Proofs.Ytgbjbpjmbghlbaa.G
open Go.RowKit Go.Proofs.YtgbjbpjmbghlbaaW.PrintWords
set_option linter.unusedVariables false
set_option linter.unusedSimpArgs false
def OwnI {α : Type} (d : Kd α) (e : Nat) (W0 W : World) (lo hi : Nat) (v : Value) (xs : List α) : Prop := W0.heap.size ≤ lo ∧ hi ≤ W.heap.size ∧ Kd.R d e W W0.heap.size (fun k => lo ≤ k ∧ k < hi) v xs
def OwnS {α : Type} (d : Kd α) (e : Nat) (W0 W : World) (lo hi : Nat) (v : Value) (xs : List α) : Prop := W0.heap.size ≤ lo ∧ hi ≤ W.heap.size ∧ Kd.S d e W W0.heap.size (fun k => lo ≤ k ∧ k < hi) v xs
section
variable {α : Type} {d : Kd α} {e : Nat} {W0 W W' : World} {lo hi lo' hi' : Nat} {ok : Nat → Prop} {v : Value} {xs : List α}
theorem OwnI.new (hB : W0.heap.size ≤ W.heap.size) (hl : W.heap.size ≤ W'.heap.size) (ho : Kd.R d e W' W.heap.size ok v xs) : OwnI d e W0 W' W.heap.size W'.heap.size v xs :=
  ⟨hB, Nat.le_refl _, Kd.R_lower (Kd.R_mono (Kd.R_bound ho) (fun k hk => ⟨hk.2.1, hk.2.2.1⟩)) hB⟩
theorem OwnS.new (hB : W0.heap.size ≤ W.heap.size) (hl : W.heap.size ≤ W'.heap.size) (ho : Kd.S d e W' W.heap.size ok v xs) : OwnS d e W0 W' W.heap.size W'.heap.size v xs :=
  ⟨hB, Nat.le_refl _, Kd.S_lower (Kd.S_mono (Kd.S_bound ho) (fun k hk => ⟨hk.2.1, hk.2.2.1⟩)) hB⟩
theorem OwnI.below (h : OwnI d e W0 W lo hi v xs) (hb : Below W.heap.size W W') : OwnI d e W0 W' lo hi v xs := ⟨h.1, Nat.le_trans h.2.1 hb.size, Kd.R_below h.2.2 hb⟩
theorem OwnS.below (h : OwnS d e W0 W lo hi v xs) (hb : Below W.heap.size W W') : OwnS d e W0 W' lo hi v xs := ⟨h.1, Nat.le_trans h.2.1 hb.size, Kd.S_below h.2.2 hb⟩
theorem OwnI.kept (h : OwnI d e W0 W lo hi v xs) (hk : Kept W W' (fun k => lo' ≤ k ∧ k < hi')) (hd : hi ≤ lo' ∨ hi' ≤ lo) : OwnI d e W0 W' lo hi v xs :=
  ⟨h.1, Nat.le_trans h.2.1 hk.1, Kd.R_kept h.2.2 hk (fun k h1 h2 => by omega)⟩
theorem OwnS.kept (h : OwnS d e W0 W lo hi v xs) (hk : Kept W W' (fun k => lo' ≤ k ∧ k < hi')) (hd : hi ≤ lo' ∨ hi' ≤ lo) : OwnS d e W0 W' lo hi v xs :=
  ⟨h.1, Nat.le_trans h.2.1 hk.1, Kd.S_kept h.2.2 hk (fun k h1 h2 => by omega)⟩
theorem OwnI.reads (h : OwnI d e W0 W lo hi v xs) : ∃ A c, v = .slice A xs.length c ∧ xs.length ≤ c ∧ d.C W A xs.length xs := Kd.R_reads h.2.2
theorem OwnS.reads (h : OwnS d e W0 W lo hi v xs) : ∃ A c, v = .slice A xs.length c ∧ xs.length ≤ c ∧ d.C W A xs.length xs := Kd.S_reads h.2.2
theorem OwnI.slice (h : OwnI d e W0 W lo hi v xs) : ∃ A c, v = .slice A xs.length c := Kd.R_slice h.2.2
theorem OwnS.slice (h : OwnS d e W0 W lo hi v xs) : ∃ A c, v = .slice A xs.length c := Kd.S_slice h.2.2
theorem OwnI.C {A : Option Addr} {n c : Nat} (h : OwnI d e W0 W lo hi (.slice A n c) xs) : d.C W A xs.length xs := (Kd.R_reads' h.2.2).2.2
theorem OwnS.C {A : Option Addr} {n c : Nat} (h : OwnS d e W0 W lo hi (.slice A n c) xs) : d.C W A xs.length xs := (Kd.S_reads' h.2.2).2.2
theorem OwnI.room {A : Option Addr} {n c : Nat} (h : OwnI d e W0 W lo hi (.slice A n c) xs) : xs.length ≤ c := by have h1 := Kd.R_reads' h.2.2; omega
theorem OwnS.room {A : Option Addr} {n c : Nat} (h : OwnS d e W0 W lo hi (.slice A n c) xs) : xs.length ≤ c := by have h1 := Kd.S_reads' h.2.2; omega
theorem OwnI.len {A : Option Addr} {n c : Nat} (h : OwnI d e W0 W lo hi (.slice A n c) xs) : xs.length = n := (Kd.R_reads' h.2.2).1.symm
theorem OwnS.len {A : Option Addr} {n c : Nat} (h : OwnS d e W0 W lo hi (.slice A n c) xs) : xs.length = n := (Kd.S_reads' h.2.2).1.symm
theorem blkI {g : Nat} {o : Obj} (hb : W.heap[g]? = some o) (hk : Kept W W' (fun k => lo' ≤ k ∧ k < hi')) (hd : g < lo' ∨ hi' ≤ g) : W'.heap[g]? = some o := blk_kept hb hk (by omega)
end
theorem own_back {α : Type} {d : Kd α} (hE : d.E = []) {e : Nat} {W0 W W' : World} {lo hi : Nat} {v : Value} {xs ys : List α} {ok : Nat → Prop} (h : OwnI d e W0 W lo hi v xs) (hk : Kept W W' (fun k => lo ≤ k ∧ k < hi)) (h' : Kd.R d e W' W0.heap.size ok v ys) : OwnI d e W0 W' lo hi v ys :=
  ⟨h.1, Nat.le_trans h.2.1 hk.1, Kd.R_mono (Kd.R_tight hE h') (fun k e => h.2.2.1 k e.symm)⟩
end Go.Proofs.Ytgbjbpjmbghlbaa.G
end
section
namespace Go.Proofs.Ytgbjbpjmbghlbaa.G
open Go.RowKit Go.Proofs.YtgbjbpjmbghlbaaW.PrintWords Go.Proofs.YtgbjbpjmbghlbaaW.PrintLast Go.Proofs.YtgbjbpjmbghlbaaW.PrintMore
set_option linter.unusedVariables false
set_option linter.unusedSimpArgs false
theorem lwInt (k : Nat) {W0 W : World} {lo hi : Nat} {v : Value} {xs ys : List Int} {a r : Int} (hB : Below W0.heap.size W0 W) (h : OwnI (Kd.int .i64) 3 W0 W lo hi v xs) (hf : laws_markIntS.f k xs a = some (r, ys)) :
    Calls Try.prog 22 #[v, .int .i64 a] W fun e W' => e = .returned (.int .i64 r) ∧ OwnI (Kd.int .i64) 3 W0 W' lo hi v ys ∧ Below W0.heap.size W0 W' ∧ Kept W W' (fun k => lo ≤ k ∧ k < hi) :=
  (laws_markIntS.calls k _ v xs a r ys W0 W hB h.2.2 hf).mono fun e W' ⟨h1, h2, h3, h4⟩ => ⟨h1, own_back rfl h h4 h2, h3, h4⟩
end Go.Proofs.Ytgbjbpjmbghlbaa.G
end
section
namespace Go.Proofs.Ytgbjbpjmbghlbaa.G
open Go.RowKit Go.Proofs.YtgbjbpjmbghlbaaW.PrintWords Go.Proofs.YtgbjbpjmbghlbaaW.PrintLast Go.Proofs.YtgbjbpjmbghlbaaW.PrintMore
set_option linter.unusedVariables false
set_option linter.unusedSimpArgs false
inductive Sh where
  | mk : List Sh → Sh
def Sh.parts : Sh → List Sh
  | .mk ps => ps
mutual
def Sh.cnt : Sh → Nat
  | .mk ps => 1 + Sh.cntL ps
def Sh.cntL : List Sh → Nat
  | [] => 0
  | p :: ps => Sh.cnt p + Sh.cntL ps
end
mutual
def shT : S30 → Sh
  | ⟨_, _, ps⟩ => .mk (shL ps)
def shL : List S30 → List Sh
  | [] => []
  | p :: ps => shT p :: shL ps
end
theorem shL_map (ps : List S30) : shL ps = ps.map shT := by
  induction ps with
  | nil => simp [shL]
  | cons p ps ih => simp [shL, ih]
theorem shT_parts (t : S30) : (shT t).parts = t.f2.map shT := by
  cases t
  simp only [shT, Sh.parts, shL_map]
theorem cnt_parts (s : Sh) : s.cnt = 1 + Sh.cntL s.parts := by cases s; simp [Sh.cnt, Sh.parts]
theorem cntL_take (ss : List Sh) (i : Nat) (h : i < ss.length) : Sh.cntL (ss.take (i + 1)) = Sh.cntL (ss.take i) + ss[i].cnt := by
  induction ss generalizing i with
  | nil => simp at h
  | cons s ss ih =>
    cases i with
    | zero => simp [Sh.cntL]
    | succ i =>
      have := ih i (by simpa using h)
      simp only [List.take_succ_cons, Sh.cntL, List.getElem_cons_succ, this]
      omega
theorem cntL_le (ss : List Sh) (i : Nat) (h : i < ss.length) : Sh.cntL (ss.take i) + ss[i].cnt ≤ Sh.cntL ss := by
  induction ss generalizing i with
  | nil => simp at h
  | cons s ss ih =>
    cases i with
    | zero => simp [Sh.cntL]
    | succ i =>
      have := ih i (by simpa using h)
      simp only [List.take_succ_cons, Sh.cntL, List.getElem_cons_succ]
      omega
def FSh (d : Kd Sh) : Kd Sh := Kd.iso (Kd.pair anyInt (Kd.pair anyInt (Kd.slice 30 d))) (fun s : Sh => ((), (), s.parts))
theorem FSh_sub : Kd.Sub FSh [30] := Kd.sub_iso _ (Kd.sub_pair (Kd.sub_const _ (by decide)) (Kd.sub_pair (Kd.sub_const _ (by decide)) (Kd.sub_slice 30 (by decide) Kd.sub_id)))
theorem FSh_sz : ∀ n, (Kd.upto FSh 3 [30] n).sz = 3 := Kd.upto_sz (fun _ => rfl)
def kSh : Kd Sh := Kd.fix FSh 3 [30] FSh_sz (Kd.upto_E FSh_sub)
theorem ist_FSh (d : Kd Sh) (h : Ist d) : Ist (FSh d) := ist_iso _ (ist_pair ist_anyInt (ist_pair ist_anyInt (ist_slice _ h)))
theorem ist_kSh : Ist kSh := ist_fix ist_FSh
theorem kSh_openM {w : World} {base : Nat} {ok : Nat → Prop} {x : Sh} {cs : List Value} (h : kSh.M w base ok x cs) : ∃ (a b : Int) (v : Value), cs = [.int .i64 a, .int .i64 b, v] ∧ kSh.R 30 w base ok v x.parts := by
  obtain ⟨n, h⟩ := h
  cases n with
  | zero => exact h.elim
  | succ n =>
    obtain ⟨_, _, rfl, ⟨a, rfl⟩, ⟨_, _, rfl, ⟨b, rfl⟩, ⟨v, rfl, g⟩⟩⟩ := h
    exact ⟨a, b, v, rfl, Kd.fix_R g⟩
theorem sh_upto : ∀ (n : Nat) {w : World} {base : Nat} {ok : Nat → Prop} {x : S30} {cs : List Value}, (Kd.upto F30 3 [30] n).M w base ok x cs → (Kd.upto FSh 3 [30] n).M w base ok (shT x) cs := by
  intro n
  induction n with
  | zero => intro w base ok x cs h; exact h.elim
  | succ n ih =>
    intro w base ok x cs h
    obtain ⟨_, _, rfl, rfl, ⟨_, _, rfl, rfl, ⟨v, rfl, g⟩⟩⟩ := h
    refine ⟨_, _, rfl, ⟨_, rfl⟩, ⟨_, _, rfl, ⟨_, rfl⟩, ⟨v, rfl, ?_⟩⟩⟩
    show (Kd.upto FSh 3 [30] n).R _ w base ok v (shT x).parts
    rw [shT_parts]
    exact R_map shT ((sz30 n).trans (FSh_sz n).symm) (fun _ _ _ _ _ h => ih h) g
theorem sh_R {w : World} {base : Nat} {ok : Nat → Prop} {v : Value} {xs : List S30} (h : k30.R 30 w base ok v xs) : kSh.R 30 w base ok v (xs.map shT) :=
  R_map shT rfl (fun w base ok x cs h => by obtain ⟨n, h⟩ := h; exact ⟨n, sh_upto n h⟩) h
set_option maxHeartbeats 8000000 in
set_option maxRecDepth 100000 in
theorem markTask_w : ∀ (N : Nat) (ss : List Sh) (_ : Sh.cntL ss ≤ N) (A : Option Addr) (c : Nat) (k : Int) (w : World) (base : Nat) (ok : Nat → Prop) (_ : kSh.R 30 w base ok (.slice A ss.length c) ss) (_ : 0 ≤ k) (_ : k + 2 * (Sh.cntL ss : Int) ≤ 4611686018427387904),
    Calls Try.prog 74 #[.slice A ss.length c, .int .i64 k] w fun e w' => e = .returned (.int .i64 (k + 2 * (Sh.cntL ss : Int))) ∧ Marked w w' base ok := by
  intro N
  induction N using Nat.strongRecOn with
  | _ N ih =>
  intro ss hN A c k w base ok hR h0 hk
  have HI := Aside0.mk ih
  have HR := Aside0.mk hR
  have HN := Aside0.mk hN
  have H0 := Aside0.mk (And.intro h0 hk)
  clear ih hR hN h0 hk
  go_enter Try.func74, Try.ntmps74
  go_wp2
  go_loopg [1, 5] ss.length (fun kq v1 v5 w' => ∃ (i : Nat) (x1 x5 : Int), v1 = .int .i64 x1 ∧ v5 = .int .i64 x5 ∧ Aside0 (x1 = k + 2 * (Sh.cntL (ss.take i) : Int)) ∧ Aside0 (x5 = (i : Int)) ∧ Aside0 (i + kq = ss.length) ∧ Aside0 (Marked w w' base ok))
  case atStart => exact ⟨0, k, 0, rfl, rfl, ⟨by simp [Sh.cntL]⟩, ⟨rfl⟩, ⟨by omega⟩, ⟨Marked.refl _ _ _⟩⟩
  case round =>
    obtain ⟨i, x1, x5, rfl, rfl, HX1, HX5, HIK, HM⟩ := hrel
    cases gk with
    | zero =>
      have hb : decide (x5 < (ss.length : Int)) = false := decide_eq_false (by have := HX5.out; have := HIK.out; omega)
      have HE : Aside0 (x1 = k + 2 * (Sh.cntL ss : Int)) := ⟨by have h1 := HX1.out; have h2 := HIK.out; rw [List.take_of_length_le (by omega)] at h1; exact h1⟩
      clear HX1
      go_wp2
      go_ret
      exact ⟨by rw [HE.out]; rfl, HM.out⟩
    | succ gk =>
      have HLT : Aside0 (i < ss.length) := ⟨by have := HIK.out; omega⟩
      have hb : decide (x5 < (ss.length : Int)) = true := decide_eq_true (by have := HX5.out; have := HLT.out; omega)
      have HC := Aside0.mk (cntL_le ss i HLT.out)
      have HC2 := Aside0.mk (cntL_take ss i HLT.out)
      have HCP := Aside0.mk (cnt_parts (ss[i]'HLT.out))
      have HRr := Aside0.mk (HM.out.rows ist_kSh HR.out)
      have hp : 0 ≤ x5 := by have := HX5.out; omega
      have hq : x5 < (ss.length : Int) := by have := HX5.out; have := HLT.out; omega
      have HP := Aside0.mk hp
      have HQ := Aside0.mk hq
      obtain ⟨g, cap, e, hbg, _, _, _⟩ := Kd.R_form HRr.out (by have := HLT.out; omega)
      cases e
      have hOKg := HRr.out.1 g rfl
      have HG := Aside0.mk (And.intro hOKg hbg)
      clear hOKg hbg
      obtain ⟨ce, hcl, hM, hcc, hfr⟩ := Kd.R_elem HRr.out (.mk []) x5 hp hq
      obtain ⟨a, b, v, rfl, _⟩ := kSh_openM hM
      have hx0 : wr.cell? ⟨g, x5.toNat * 3, none⟩ = some (.int .i64 a) := hcc 0 _ rfl
      have hf0 : wr.frozen? ⟨g, x5.toNat * 3, none⟩ = false := hfr 0
      have HX0 := Aside0.mk hx0
      clear hcl hcc hfr hM
      have hp' : (0 ≤ x5) = True := eq_true hp
      have hq' : (x5 < (ss.length : Int)) = True := eq_true hq
      clear hp hq
      have HEI0 : Aside0 (ss.getD x5.toNat (.mk []) = ss[i]'HLT.out) := ⟨by rw [HX5.out, Int.toNat_natCast, List.getD_eq_getElem?_getD, List.getElem?_eq_getElem HLT.out, Option.getD_some]⟩
      go_wp2_with (first
        | ((with_reducible refine gate_store (t := 3) (p := 16) rfl ?_); refine store_event (t := 3) (p := 16) (v := ?vo_1) (w1 := (wr.setCell ⟨g, x5.toNat * 3, none⟩ (.int .i64 x1))) ?hg ?ho ?hn ?hr ?_; (case ho => rfl); (case hg => rfl); (case hn => rfl); (case hr => first | (go_simp; done) | (go_simp; rfl)); intro w9 hw; have HM9 := Aside0.mk (show Marked w w9 base ok from by rw [hw]; exact HM.out.store _ HX0.out HG.out.1 HG.out.2); clear hw hx0 hf0;
           obtain ⟨ce, hcl, hM, hcc, hfr⟩ := Kd.R_elem (HM9.out.rows ist_kSh HR.out) (.mk []) x5 HP.out HQ.out; obtain ⟨a9, b9, v9, rfl, _⟩ := kSh_openM hM; have hx1 : w9.cell? ⟨g, x5.toNat * 3 + 1, none⟩ = some (.int .i64 b9) := hcc 1 _ rfl; have hf1 : w9.frozen? ⟨g, x5.toNat * 3 + 1, none⟩ = false := hfr 1; have HX1' := Aside0.mk hx1; clear hcl hcc hfr hM)
        | ((with_reducible refine gate_store (t := 3) (p := 23) rfl ?_); refine store_event (t := 3) (p := 23) (v := ?vo_2) (w1 := (w9.setCell ⟨g, x5.toNat * 3 + 1, none⟩ (.int .i64 (wrap64 (x1 + 1))))) ?hg ?ho ?hn ?hr ?_; (case ho => rfl); (case hg => rfl); (case hn => rfl); (case hr => first | (go_simp; done) | (go_simp; rfl)); intro w11 hw; have HM11 := Aside0.mk (show Marked w w11 base ok from by rw [hw]; exact HM9.out.store _ HX1'.out HG.out.1 HG.out.2); clear hw hx1 hf1;
           obtain ⟨ce, hcl, hM, hcc, hfr⟩ := Kd.R_elem (HM11.out.rows ist_kSh HR.out) (.mk []) x5 HP.out HQ.out; have hsi := HEI0.out; clear HEI0; generalize ss.getD x5.toNat (.mk []) = si at hM hsi; have HEI := Aside0.mk hsi; clear hsi; obtain ⟨a11, b11, v11, rfl, hRv⟩ := kSh_openM hM; obtain ⟨Av, cv, rfl⟩ := Kd.R_slice hRv; have HRV := Aside0.mk hRv; have hx2 : w11.cell? ⟨g, x5.toNat * 3 + 2, none⟩ = some (.slice Av si.parts.length cv) := hcc 2 _ rfl; clear hcl hcc hfr hM hRv))
      have hA : Sh.cntL si.parts < N := by
        rw [HEI.out]
        have h1 := HC.out
        have h2 := HCP.out
        have h3 := HN.out
        omega
      have hB : 0 ≤ wrap64 (wrap64 (x1 + 1) + 1) := by
        have h1 := HX1.out
        have h2 := H0.out
        have h3 := HC.out
        have h4 := HCP.out
        unfold wrap64
        omega
      have hD : wrap64 (wrap64 (x1 + 1) + 1) + 2 * (Sh.cntL si.parts : Int) ≤ 4611686018427387904 := by
        rw [HEI.out]
        have h1 := HX1.out
        have h2 := H0.out
        have h3 := HC.out
        have h4 := HCP.out
        unfold wrap64
        omega
      have HCALL := Aside0.mk (HI.out _ hA si.parts (Nat.le_refl _) Av cv (wrap64 (wrap64 (x1 + 1) + 1)) w11 base _ HRV.out hB hD)
      clear hA hB hD
      with_reducible refine HCALL.out.mono ?_
      rintro e w1 ⟨rfl, hm⟩
      have HMM := Aside0.mk (HM11.out.trans (hm.mono (Nat.le_refl _) (fun _ hk => hk.1)))
      clear hm
      go_wp2
      go_roundg gk
      case measure => omega
      case rel => exact ⟨i + 1, _, _, rfl, rfl, ⟨by rw [HEI.out]; have h1 := HX1.out; have h2 := H0.out; have h3 := HC.out; have h4 := HCP.out; have h5 := HC2.out; unfold wrap64; omega⟩, ⟨by have h1 := HX5.out; have h2 := HLT.out; have h3 := (Kd.R_reads' HR.out).2.2.2.1; unfold wrap64; omega⟩, ⟨by have := HIK.out; omega⟩, HMM⟩
end Go.Proofs.Ytgbjbpjmbghlbaa.G
end
section
namespace Go.Proofs.Ytgbjbpjmbghlbaa.G
open Go.RowKit Go.Proofs.YtgbjbpjmbghlbaaW.PrintWords Go.Proofs.YtgbjbpjmbghlbaaW.PrintLast Go.Proofs.YtgbjbpjmbghlbaaW.PrintMore
set_option linter.unusedVariables false
set_option linter.unusedSimpArgs false
theorem lwTaskS {W0 W : World} {lo hi : Nat} {v : Value} {xs : List S30} {a : Int} (hB : Below W0.heap.size W0 W) (h : OwnI k30 30 W0 W lo hi v xs) (h0 : 0 ≤ a) (h1 : a + 2 * (Sh.cntL (xs.map shT) : Int) ≤ 4611686018427387904) :
    Calls Try.prog 74 #[v, .int .i64 a] W fun e W' => e = .returned (.int .i64 (a + 2 * (Sh.cntL (xs.map shT) : Int))) ∧ Below W0.heap.size W0 W' ∧ Kept W W' (fun k => lo ≤ k ∧ k < hi) := by
  obtain ⟨A, c, rfl⟩ := h.slice
  have hR := sh_R h.2.2
  have hl : (xs.map shT).length = xs.length := List.length_map ..
  have := markTask_w _ (xs.map shT) (Nat.le_refl _) A c a W W0.heap.size _ (by rw [hl]; exact hR) h0 h1
  rw [hl] at this
  exact this.mono fun e W' ⟨e1, hm⟩ => ⟨e1, hB.trans hm.below, hm.kept⟩
set_option maxHeartbeats 8000000 in
set_option maxRecDepth 100000 in
theorem lwTask {W0 W : World} {lo hi : Nat} {v : Value} {x y : Int} {xs : List S30} {a : Int} (hB : Below W0.heap.size W0 W) (h : OwnI k30 30 W0 W lo hi v xs) (h0 : 0 ≤ a) (h1 : a + 2 * (Sh.cntL (xs.map shT) : Int) ≤ 4611686018427387904) :
    Calls Try.prog 21 #[.agg #[.int .i64 x, .int .i64 y, v], .int .i64 a] W fun e W' => e = .returned (.int .i64 (a + 2 * (Sh.cntL (xs.map shT) : Int))) ∧ Below W0.heap.size W0 W' ∧ Kept W W' (fun k => lo ≤ k ∧ k < hi) := by
  have hu := Try.underlying30
  obtain ⟨A, c, rfl⟩ := h.slice
  have hb := below_alloc (Below.refl W.heap.size W) (.cells #[.int .i64 x, .int .i64 y, .slice A xs.length c] 30)
  have HC := Aside0.mk (lwTaskS (hB.trans (hb.mono hB.size)) (h.below hb) h0 h1)
  have HK := Aside0.mk (Kept.of_below hb (fun k => lo ≤ k ∧ k < hi))
  clear hb h hB h0 h1
  go_enter Try.func21, Try.ntmps21
  go_wp2_with fail
  with_reducible refine HC.out.mono ?_
  rintro e w1 ⟨rfl, hb1, hk1⟩
  have HB1 := Aside0.mk hb1
  have HK1 := Aside0.mk (HK.out.then_ hk1 (fun _ h => .inl h))
  clear hb1 hk1
  go_wp2
  go_ret
  exact ⟨rfl, HB1.out, HK1.out⟩
end Go.Proofs.Ytgbjbpjmbghlbaa.G
end
section
namespace Go.Proofs.Ytgbjbpjmbghlbaa.G
open Go.RowKit Go.Proofs.YtgbjbpjmbghlbaaW.PrintWords Go.Proofs.YtgbjbpjmbghlbaaW.PrintLast Go.Proofs.YtgbjbpjmbghlbaaW.PrintMore
set_option linter.unusedVariables false
set_option linter.unusedSimpArgs false
set_option maxHeartbeats 8000000 in
set_option maxRecDepth 100000 in
theorem lw_FnExactHiddenOf (A0 : Option Addr) (c0 : Nat) (l0 : List (Int)) (a1_0 : Int) (a1_1 : Int) (A1_2 : Option Addr) (c1_2 : Nat) (l1_2 : List (S24)) (A2 : Option Addr) (c2 : Nat) (l2 : List (Int)) (w : World) (hr0 : Kd.C (Kd.int .i64) w A0 l0.length l0) (hc0 : l0.length ≤ c0) (hr1_2 : Kd.C k24 w A1_2 l1_2.length l1_2) (hc1_2 : l1_2.length ≤ c1_2) (hr2 : Kd.C (Kd.int .i64) w A2 l2.length l2) (hc2 : l2.length ≤ c2) (hl_l0 : (l0.length : Int) ≤ 1048576) (hl_l2 : (l2.length : Int) ≤ 1048576) (r1 : Int) (r2 : List Int) (r3 : Int) (r4 : Int) (r5 : List (S30)) (r6 : List Int) (r7 : List Int) (r8 : Bool) (m9 : List (Int)) (k10 : Int) (m11 : List (Int)) (k12 : Int) (m13 : List (Int)) (k14 : Int) (K1 : Nat) (H1 : laws_szTask.f K1 a1_0 a1_1 l1_2 1048576 = some r1) (K2 : Nat) (H2 : laws_toIntS.f K2 l0 = some r2) (K3 : Nat) (H3 : laws_toTask.f K3 a1_0 a1_1 l1_2 = some (r3, r4, r5)) (K4 : Nat) (H4 : laws_toIntS.f K4 l2 = some r6) (K5 : Nat) (H5 : spec_HiddenOf.f K5 r2 r3 r4 r5 r6 = some (r7, r8)) (K6 : Nat) (H6 : impl_HiddenOf.f K6 r2 r3 r4 r5 r6 = some (r7, r8)) (K7 : Nat) (H7 : laws_eqIntS.f K7 r7 r7 = some true) (K8 : Nat) (H8 : laws_eqIntS.f K8 r2 r2 = some true) (K9 : Nat) (H9 : laws_eqTask.f K9 r3 r4 r5 r3 r4 r5 = some true) (K10 : Nat) (H10 : laws_eqIntS.f K10 r6 r6 = some true) (K11 : Nat) (H11 : laws_markIntS.f K11 r2 1 = some (k10, m9)) (K12 : Nat) (H12 : laws_markIntS.f K12 r6 (k10 + 2 * (Sh.cntL (r5.map shT) : Int)) = some (k12, m11)) (K13 : Nat) (H13 : laws_markIntS.f K13 r7 1 = some (k14, m13)) (K14 : Nat) (H14 : laws_heldIntS.f K14 m13 1 = some k14) (hx_1 : 0 ≤ r1) (hx_2 : 0 ≤ k10) (hx_3 : k10 + 2 * (Sh.cntL (r5.map shT) : Int) ≤ 4611686018427387904) (hx_4 : 0 ≤ k12) (hx_5 : 0 ≤ k14) :
   Calls Try.prog 8 #[.slice A0 l0.length c0, .agg #[.int .i64 a1_0, .int .i64 a1_1, .slice A1_2 l1_2.length c1_2], .slice A2 l2.length c2] w fun e w' => e = .returned (.bool true) ∧ Below w.heap.size w w' := by
 have hu24 := Try.underlying24
 have hu30 := Try.underlying30
 have HR0 := Aside0.mk hr0
 have HC0 := Aside0.mk hc0
 clear hr0 hc0
 have HR1_2 := Aside0.mk hr1_2
 have HC1_2 := Aside0.mk hc1_2
 clear hr1_2 hc1_2
 have HR2 := Aside0.mk hr2
 have HC2 := Aside0.mk hc2
 clear hr2 hc2
 have G1 := Aside0.mk H1
 clear H1
 have G2 := Aside0.mk H2
 clear H2
 have G3 := Aside0.mk H3
 clear H3
 have G4 := Aside0.mk H4
 clear H4
 have G5 := Aside0.mk H5
 clear H5
 have G6 := Aside0.mk H6
 clear H6
 have G7 := Aside0.mk H7
 clear H7
 have G8 := Aside0.mk H8
 clear H8
 have G9 := Aside0.mk H9
 clear H9
 have G10 := Aside0.mk H10
 clear H10
 have G11 := Aside0.mk H11
 clear H11
 have G12 := Aside0.mk H12
 clear H12
 have G13 := Aside0.mk H13
 clear H13
 have G14 := Aside0.mk H14
 clear H14
 have HX1 := Aside0.mk hx_1
 have HX2 := Aside0.mk hx_2
 have HX3 := Aside0.mk hx_3
 have HX4 := Aside0.mk hx_4
 have HX5 := Aside0.mk hx_5
 have hd_1 : decide (r1 < 0) = false := decide_eq_false (by omega)
 have hd_2 : decide (k10 < 0) = false := decide_eq_false (by omega)
 have hd_4 : decide (k12 < 0) = false := decide_eq_false (by omega)
 have hd_5 : decide (k14 < 0) = false := decide_eq_false (by omega)
 have hds_1 : decide (k10 + 2 * (Sh.cntL (r5.map shT) : Int) < 0) = false := decide_eq_false (by omega)
 have hdl_l0 : decide ((l0.length : Int) > 1048576) = false := decide_eq_false (by omega)
 have hdl_l2 : decide ((l2.length : Int) > 1048576) = false := decide_eq_false (by omega)
 clear hx_1 hx_2 hx_3 hx_4 hx_5 hl_l0 hl_l2
 have HB := Aside0.mk (Below.refl w.heap.size w)
 go_enter Try.func8, Try.ntmps8
 have hx1 : (w.alloc (.cells #[.int .i64 a1_0, .int .i64 a1_1, .slice A1_2 l1_2.length c1_2] 24)).cell? ⟨w.heap.size, 0, none⟩ = some (.int .i64 a1_0) := (blk_cell (show (w.alloc (.cells #[.int .i64 a1_0, .int .i64 a1_1, .slice A1_2 l1_2.length c1_2] 24)).heap[w.heap.size]? = some (.cells #[.int .i64 a1_0, .int .i64 a1_1, .slice A1_2 l1_2.length c1_2] 24 (0, 0)) from by have h_ := heap_alloc_new w (.cells #[.int .i64 a1_0, .int .i64 a1_1, .slice A1_2 l1_2.length c1_2] 24); simpa using h_) 0).trans rfl
 have hx2 : (w.alloc (.cells #[.int .i64 a1_0, .int .i64 a1_1, .slice A1_2 l1_2.length c1_2] 24)).cell? ⟨w.heap.size, 1, none⟩ = some (.int .i64 a1_1) := (blk_cell (show (w.alloc (.cells #[.int .i64 a1_0, .int .i64 a1_1, .slice A1_2 l1_2.length c1_2] 24)).heap[w.heap.size]? = some (.cells #[.int .i64 a1_0, .int .i64 a1_1, .slice A1_2 l1_2.length c1_2] 24 (0, 0)) from by have h_ := heap_alloc_new w (.cells #[.int .i64 a1_0, .int .i64 a1_1, .slice A1_2 l1_2.length c1_2] 24); simpa using h_) 1).trans rfl
 have hx3 : (w.alloc (.cells #[.int .i64 a1_0, .int .i64 a1_1, .slice A1_2 l1_2.length c1_2] 24)).cell? ⟨w.heap.size, 2, none⟩ = some (.slice A1_2 l1_2.length c1_2) := (blk_cell (show (w.alloc (.cells #[.int .i64 a1_0, .int .i64 a1_1, .slice A1_2 l1_2.length c1_2] 24)).heap[w.heap.size]? = some (.cells #[.int .i64 a1_0, .int .i64 a1_1, .slice A1_2 l1_2.length c1_2] 24 (0, 0)) from by have h_ := heap_alloc_new w (.cells #[.int .i64 a1_0, .int .i64 a1_1, .slice A1_2 l1_2.length c1_2] 24); simpa using h_) 2).trans rfl
 have CK := Aside0.mk (laws_szTask.calls K1 a1_0 a1_1 A1_2 c1_2 l1_2 1048576 r1 (w.alloc (.cells #[.int .i64 a1_0, .int .i64 a1_1, .slice A1_2 l1_2.length c1_2] 24)) (Kd.C_below HR1_2.out (below_alloc HB.out _)) HC1_2.out G1.out)
 go_wp2_with fail
 with_reducible refine CK.out.mono ?_
 rintro e w4 ⟨rfl, hb0⟩
 have hb := hb0
 clear CK hb0
 clear hx1 hx2 hx3
 have hW_ : Below w.heap.size w w4 := (below_alloc (Below.refl w.heap.size w) _).trans (hb.mono (below_alloc (Below.refl w.heap.size w) _).size)
 have SZ1 := Aside0.mk (Nat.le_trans (Nat.succ_le_of_lt (blk_lt (show (w.alloc (.cells #[.int .i64 a1_0, .int .i64 a1_1, .slice A1_2 l1_2.length c1_2] 24)).heap[w.heap.size]? = some (.cells #[.int .i64 a1_0, .int .i64 a1_1, .slice A1_2 l1_2.length c1_2] 24 (0, 0)) from by have h_ := heap_alloc_new w (.cells #[.int .i64 a1_0, .int .i64 a1_1, .slice A1_2 l1_2.length c1_2] 24); simpa using h_)) : w.heap.size + 1 ≤ (w.alloc (.cells #[.int .i64 a1_0, .int .i64 a1_1, .slice A1_2 l1_2.length c1_2] 24)).heap.size) hb.size)
 have SS1 := SZ1
 clear SZ1
 have BX0 := Aside0.mk ((hb.block _ (blk_lt (show (w.alloc (.cells #[.int .i64 a1_0, .int .i64 a1_1, .slice A1_2 l1_2.length c1_2] 24)).heap[w.heap.size]? = some (.cells #[.int .i64 a1_0, .int .i64 a1_1, .slice A1_2 l1_2.length c1_2] 24 (0, 0)) from by have h_ := heap_alloc_new w (.cells #[.int .i64 a1_0, .int .i64 a1_1, .slice A1_2 l1_2.length c1_2] 24); simpa using h_))).trans (show (w.alloc (.cells #[.int .i64 a1_0, .int .i64 a1_1, .slice A1_2 l1_2.length c1_2] 24)).heap[w.heap.size]? = some (.cells #[.int .i64 a1_0, .int .i64 a1_1, .slice A1_2 l1_2.length c1_2] 24 (0, 0)) from by have h_ := heap_alloc_new w (.cells #[.int .i64 a1_0, .int .i64 a1_1, .slice A1_2 l1_2.length c1_2] 24); simpa using h_))
 replace HB := Aside0.mk (HB.out.trans (hW_.mono HB.out.size))
 clear hb hW_
 try go_wp2_with fail
 refine start_ (n := 12) (S := fun w' => w'.cell? ⟨w.heap.size, 0, none⟩ = some (.int .i64 a1_0) ∧ w'.cell? ⟨w.heap.size, 1, none⟩ = some (.int .i64 a1_1) ∧ w'.cell? ⟨w.heap.size, 2, none⟩ = some (.slice A1_2 l1_2.length c1_2)) (ds := []) #[false, false, false, false, false, false, false, false, false, false, false, false] (by kernel_rfl) rfl rfl ⟨(blk_cell (blk_drew BX0.out) 0).trans rfl, (blk_cell (blk_drew BX0.out) 1).trans rfl, (blk_cell (blk_drew BX0.out) 2).trans rfl⟩ (fun hHeld => ?_)
 have hW_ := below_drew1 (Below.refl w4.heap.size w4)
 have SZ2 := Aside0.mk (Nat.le_trans (Nat.le_refl w4.heap.size : w4.heap.size ≤ w4.heap.size) (below_drew1 (Below.refl w4.heap.size w4)).size)
 replace BX0 := Aside0.mk (blk_drew BX0.out)
 generalize w4.drew = w5 at hW_ hHeld SZ2 BX0 ⊢
 have SS2 := Aside0.mk (And.intro SZ2.out SS1.out)
 clear SS1
 clear SZ2
 replace HB := Aside0.mk (HB.out.trans (hW_.mono HB.out.size))
 clear hW_
 refine pure_ (i := 0) (N := some 32) (v := ?_) (a' := ?_) #[true, false, false, false, false, false, false, false, false, false, false, false] rfl rfl (by kernel_rfl) (fun _ _ _ h => h) (Or.inl ⟨by rfl, ?_⟩) ?_ ?_
 rotate_left
 · intro w'
   go_simp
   with_reducible rfl
 rotate_left
 · simp only [Act.put, List.setIfInBounds_toArray, List.set_cons_zero, List.set_cons_succ, i64_w, i32_w]
   rfl
 refine take_ (i := 2) (N := some 34) (v := ?_) (a' := ?_) #[true, false, true, false, false, false, false, false, false, false, false, false] rfl rfl (by kernel_rfl) (fun _ _ _ h => h) (Or.inl ⟨by rfl, ?_⟩) hHeld ?_ ?_
 rotate_left
 · rintro w' ⟨s0, s1, s2⟩
   go_simp
   with_reducible rfl
 rotate_left
 · simp only [Act.put, List.setIfInBounds_toArray, List.set_cons_zero, List.set_cons_succ, i64_w, i32_w]
   rfl
 refine pure_ (i := 4) (N := some 36) (v := ?_) (a' := ?_) #[true, false, true, false, true, false, false, false, false, false, false, false] rfl rfl (by kernel_rfl) (fun _ _ _ h => h) (Or.inl ⟨by rfl, ?_⟩) ?_ ?_
 rotate_left
 · intro w'
   go_simp
   with_reducible rfl
 rotate_left
 · simp only [Act.put, List.setIfInBounds_toArray, List.set_cons_zero, List.set_cons_succ, i64_w, i32_w]
   rfl
 have CK := Aside0.mk (laws_toIntS.calls K2 A0 c0 l0 r2 w5 (Kd.C_below HR0.out HB.out) HC0.out G2.out)
 refine one_ (i := 1) (N := some 33) #[true, true, true, false, true, false, false, false, false, false, false, false] rfl rfl (by kernel_rfl) (by decide) (fun K hK => ?_)
 refine goes_ Try.func46 (by kernel_rfl) rfl #[.slice A0 l0.length c0] (by rfl) rfl rfl (by (try simp only [List.map_toArray, List.map_cons, List.map_nil]); first | done | rfl) ?_
 with_reducible refine CK.out.mono ?_
 rintro e w6 ⟨v0_, rfl, ho0, hb0⟩
 refine ⟨_, rfl, ?_⟩
 have hb := hb0
 clear CK hb0
 have hW_ := hb
 replace BX0 := Aside0.mk ((hb.block _ (blk_lt BX0.out)).trans BX0.out)
 obtain ⟨lo1, elo1⟩ : ∃ n_, w5.heap.size = n_ := ⟨_, rfl⟩
 obtain ⟨hi1, ehi1⟩ : ∃ n_, w6.heap.size = n_ := ⟨_, rfl⟩
 have hn_0 := OwnI.new (W0 := w) HB.out.size hb.size ho0
 rw [elo1, ehi1] at hn_0
 obtain ⟨Ao7, co7, rfl⟩ := hn_0.slice
 have HOo7 := Aside0.mk hn_0
 clear hn_0 ho0
 have SP1 := Aside0.mk (And.intro (by have h_ := hb.size; rw [elo1, ehi1] at h_; exact h_ : lo1 ≤ hi1) (And.intro (Nat.le_of_eq elo1 : w5.heap.size ≤ lo1) (Nat.le_of_eq ehi1.symm : hi1 ≤ w6.heap.size)))
 have SS3 := Aside0.mk (And.intro SP1.out SS2.out)
 clear SS2
 clear SP1
 replace HB := Aside0.mk (HB.out.trans (hW_.mono HB.out.size))
 clear hb hW_ elo1 ehi1
 refine hK.out _ _ ⟨(blk_cell BX0.out 0).trans rfl, (blk_cell BX0.out 1).trans rfl, (blk_cell BX0.out 2).trans rfl⟩ (fun hHeld => ?_)
 clear hK K
 refine norm_ (a' := ?_) ?_ ?_
 rotate_left
 · show Act.put _ (some 33) _ = _
   simp only [Act.put, List.setIfInBounds_toArray, List.set_cons_zero, List.set_cons_succ, i64_w, i32_w]
   rfl
 have CK := Aside0.mk (laws_toTask.calls K3 a1_0 a1_1 A1_2 c1_2 l1_2 r3 r4 r5 w6 (Kd.C_below HR1_2.out HB.out) HC1_2.out G3.out)
 refine one_ (i := 3) (N := some 35) #[true, true, true, true, true, false, false, false, false, false, false, false] rfl rfl (by kernel_rfl) (by decide) (fun K hK => ?_)
 refine goes_ Try.func17 (by kernel_rfl) rfl #[.agg #[.int .i64 a1_0, .int .i64 a1_1, .slice A1_2 l1_2.length c1_2]] (by rfl) rfl rfl (by (try simp only [List.map_toArray, List.map_cons, List.map_nil]); first | done | rfl) ?_
 with_reducible refine CK.out.mono ?_
 rintro e w8 ⟨v2_, rfl, ho0, hb0⟩
 refine ⟨_, rfl, ?_⟩
 have hb := hb0
 clear CK hb0
 have hW_ := hb
 replace BX0 := Aside0.mk ((hb.block _ (blk_lt BX0.out)).trans BX0.out)
 replace HOo7 := Aside0.mk (HOo7.out.below hW_)
 obtain ⟨lo2, elo2⟩ : ∃ n_, w6.heap.size = n_ := ⟨_, rfl⟩
 obtain ⟨hi2, ehi2⟩ : ∃ n_, w8.heap.size = n_ := ⟨_, rfl⟩
 have hn_0 := OwnI.new (W0 := w) HB.out.size hb.size ho0
 rw [elo2, ehi2] at hn_0
 obtain ⟨Ao9, co9, rfl⟩ := hn_0.slice
 have HOo9 := Aside0.mk hn_0
 clear hn_0 ho0
 have SP2 := Aside0.mk (And.intro (by have h_ := hb.size; rw [elo2, ehi2] at h_; exact h_ : lo2 ≤ hi2) (And.intro (Nat.le_of_eq elo2 : w6.heap.size ≤ lo2) (Nat.le_of_eq ehi2.symm : hi2 ≤ w8.heap.size)))
 have SS4 := Aside0.mk (And.intro SP2.out SS3.out)
 clear SS3
 clear SP2
 replace HB := Aside0.mk (HB.out.trans (hW_.mono HB.out.size))
 clear hb hW_ elo2 ehi2
 refine hK.out _ _ ⟨(blk_cell BX0.out 0).trans rfl, (blk_cell BX0.out 1).trans rfl, (blk_cell BX0.out 2).trans rfl⟩ (fun hHeld => ?_)
 clear hK K
 refine norm_ (a' := ?_) ?_ ?_
 rotate_left
 · show Act.put _ (some 35) _ = _
   simp only [Act.put, List.setIfInBounds_toArray, List.set_cons_zero, List.set_cons_succ, i64_w, i32_w]
   rfl
 have CK := Aside0.mk (laws_toIntS.calls K4 A2 c2 l2 r6 w8 (Kd.C_below HR2.out HB.out) HC2.out G4.out)
 refine one_ (i := 5) (N := some 37) #[true, true, true, true, true, true, false, false, false, false, false, false] rfl rfl (by kernel_rfl) (by decide) (fun K hK => ?_)
 refine goes_ Try.func46 (by kernel_rfl) rfl #[.slice A2 l2.length c2] (by rfl) rfl rfl (by (try simp only [List.map_toArray, List.map_cons, List.map_nil]); first | done | rfl) ?_
 with_reducible refine CK.out.mono ?_
 rintro e w10 ⟨v0_, rfl, ho0, hb0⟩
 refine ⟨_, rfl, ?_⟩
 have hb := hb0
 clear CK hb0
 have hW_ := hb
 replace BX0 := Aside0.mk ((hb.block _ (blk_lt BX0.out)).trans BX0.out)
 replace HOo7 := Aside0.mk (HOo7.out.below hW_)
 replace HOo9 := Aside0.mk (HOo9.out.below hW_)
 obtain ⟨lo3, elo3⟩ : ∃ n_, w8.heap.size = n_ := ⟨_, rfl⟩
 obtain ⟨hi3, ehi3⟩ : ∃ n_, w10.heap.size = n_ := ⟨_, rfl⟩
 have hn_0 := OwnI.new (W0 := w) HB.out.size hb.size ho0
 rw [elo3, ehi3] at hn_0
 obtain ⟨Ao11, co11, rfl⟩ := hn_0.slice
 have HOo11 := Aside0.mk hn_0
 clear hn_0 ho0
 have SP3 := Aside0.mk (And.intro (by have h_ := hb.size; rw [elo3, ehi3] at h_; exact h_ : lo3 ≤ hi3) (And.intro (Nat.le_of_eq elo3 : w8.heap.size ≤ lo3) (Nat.le_of_eq ehi3.symm : hi3 ≤ w10.heap.size)))
 have SS5 := Aside0.mk (And.intro SP3.out SS4.out)
 clear SS4
 clear SP3
 replace HB := Aside0.mk (HB.out.trans (hW_.mono HB.out.size))
 clear hb hW_ elo3 ehi3
 refine hK.out _ _ ⟨(blk_cell BX0.out 0).trans rfl, (blk_cell BX0.out 1).trans rfl, (blk_cell BX0.out 2).trans rfl⟩ (fun hHeld => ?_)
 clear hK K
 refine norm_ (a' := ?_) ?_ ?_
 rotate_left
 · show Act.put _ (some 37) _ = _
   simp only [Act.put, List.setIfInBounds_toArray, List.set_cons_zero, List.set_cons_succ, i64_w, i32_w]
   rfl
 have CK := Aside0.mk (spec_HiddenOf.calls K5 Ao7 co7 r2 r3 r4 Ao9 co9 r5 Ao11 co11 r6 r7 r8 w10 HOo7.out.C HOo7.out.room HOo9.out.C HOo9.out.room HOo11.out.C HOo11.out.room G5.out)
 refine one_ (i := 6) (N := some 38) #[true, true, true, true, true, true, true, false, false, false, false, false] rfl rfl (by kernel_rfl) (by decide) (fun K hK => ?_)
 refine goes_ Try.func45 (by kernel_rfl) rfl #[.slice Ao7 r2.length co7, .agg #[.int .i64 r3, .int .i64 r4, .slice Ao9 r5.length co9], .slice Ao11 r6.length co11] (by rfl) rfl rfl (by (try simp only [List.map_toArray, List.map_cons, List.map_nil]); first | done | rfl) ?_
 with_reducible refine CK.out.mono ?_
 rintro e w12 ⟨v0_, rfl, ho0, hb0⟩
 refine ⟨_, rfl, ?_⟩
 have hb := hb0
 clear CK hb0
 have hW_ := hb
 replace BX0 := Aside0.mk ((hb.block _ (blk_lt BX0.out)).trans BX0.out)
 replace HOo7 := Aside0.mk (HOo7.out.below hW_)
 replace HOo9 := Aside0.mk (HOo9.out.below hW_)
 replace HOo11 := Aside0.mk (HOo11.out.below hW_)
 obtain ⟨lo4, elo4⟩ : ∃ n_, w10.heap.size = n_ := ⟨_, rfl⟩
 obtain ⟨hi4, ehi4⟩ : ∃ n_, w12.heap.size = n_ := ⟨_, rfl⟩
 have hn_0 := OwnI.new (W0 := w) HB.out.size hb.size ho0
 rw [elo4, ehi4] at hn_0
 obtain ⟨Ao13, co13, rfl⟩ := hn_0.slice
 have HOo13 := Aside0.mk hn_0
 clear hn_0 ho0
 have SP4 := Aside0.mk (And.intro (by have h_ := hb.size; rw [elo4, ehi4] at h_; exact h_ : lo4 ≤ hi4) (And.intro (Nat.le_of_eq elo4 : w10.heap.size ≤ lo4) (Nat.le_of_eq ehi4.symm : hi4 ≤ w12.heap.size)))
 have SS6 := Aside0.mk (And.intro SP4.out SS5.out)
 clear SS5
 clear SP4
 replace HB := Aside0.mk (HB.out.trans (hW_.mono HB.out.size))
 clear hb hW_ elo4 ehi4
 refine hK.out _ _ ⟨(blk_cell BX0.out 0).trans rfl, (blk_cell BX0.out 1).trans rfl, (blk_cell BX0.out 2).trans rfl⟩ (fun hHeld => ?_)
 clear hK K
 refine norm_ (a' := ?_) ?_ ?_
 rotate_left
 · show Act.put _ (some 38) _ = _
   simp only [Act.put, List.setIfInBounds_toArray, List.set_cons_zero, List.set_cons_succ, i64_w, i32_w]
   rfl
 refine pure_ (i := 7) (N := some 31) (v := ?_) (a' := ?_) #[true, true, true, true, true, true, true, true, false, false, false, false] rfl rfl (by kernel_rfl) (fun _ _ _ h => h) (Or.inl ⟨by rfl, ?_⟩) ?_ ?_
 rotate_left
 · intro w'
   go_simp
   with_reducible rfl
 rotate_left
 · simp only [Act.put, List.setIfInBounds_toArray, List.set_cons_zero, List.set_cons_succ, i64_w, i32_w]
   rfl
 refine pure_ (i := 8) (N := some 39) (v := ?_) (a' := ?_) #[true, true, true, true, true, true, true, true, true, false, false, false] rfl rfl (by kernel_rfl) (fun _ _ _ h => h) (Or.inl ⟨by rfl, ?_⟩) ?_ ?_
 rotate_left
 · intro w'
   go_simp
   with_reducible rfl
 rotate_left
 · simp only [Act.put, List.setIfInBounds_toArray, List.set_cons_zero, List.set_cons_succ, i64_w, i32_w]
   rfl
 refine pure_ (i := 9) (N := some 40) (v := ?_) (a' := ?_) #[true, true, true, true, true, true, true, true, true, true, false, false] rfl rfl (by kernel_rfl) (fun _ _ _ h => h) (Or.inl ⟨by rfl, ?_⟩) ?_ ?_
 rotate_left
 · intro w'
   go_simp
   with_reducible rfl
 rotate_left
 · simp only [Act.put, List.setIfInBounds_toArray, List.set_cons_zero, List.set_cons_succ, i64_w, i32_w]
   rfl
 refine pure_ (i := 10) (N := some 8) (v := ?_) (a' := ?_) #[true, true, true, true, true, true, true, true, true, true, true, false] rfl rfl (by kernel_rfl) (fun _ _ _ h => h) (Or.inl ⟨by rfl, ?_⟩) ?_ ?_
 rotate_left
 · intro w'
   go_simp
   with_reducible rfl
 rotate_left
 · simp only [Act.put, List.setIfInBounds_toArray, List.set_cons_zero, List.set_cons_succ, i64_w, i32_w]
   rfl
 refine pure_ (i := 11) (N := some 9) (v := ?_) (a' := ?_) #[true, true, true, true, true, true, true, true, true, true, true, true] rfl rfl (by kernel_rfl) (fun _ _ _ h => h) (Or.inl ⟨by rfl, ?_⟩) ?_ ?_
 rotate_left
 · intro w'
   go_simp
   with_reducible rfl
 rotate_left
 · simp only [Act.put, List.setIfInBounds_toArray, List.set_cons_zero, List.set_cons_succ, i64_w, i32_w]
   rfl
 refine done_ (by kernel_rfl) ?_
 clear hHeld
 have CK := Aside0.mk (laws_toIntS.calls K2 A0 c0 l0 r2 w12 (Kd.C_below HR0.out HB.out) HC0.out G2.out)
 go_wp2_with fail
 with_reducible refine CK.out.mono ?_
 rintro e w14 ⟨v0_, rfl, ho0, hb0⟩
 have hb := hb0
 clear CK hb0
 have hW_ := hb
 replace BX0 := Aside0.mk ((hb.block _ (blk_lt BX0.out)).trans BX0.out)
 replace HOo7 := Aside0.mk (HOo7.out.below hW_)
 replace HOo9 := Aside0.mk (HOo9.out.below hW_)
 replace HOo11 := Aside0.mk (HOo11.out.below hW_)
 replace HOo13 := Aside0.mk (HOo13.out.below hW_)
 obtain ⟨lo5, elo5⟩ : ∃ n_, w12.heap.size = n_ := ⟨_, rfl⟩
 obtain ⟨hi5, ehi5⟩ : ∃ n_, w14.heap.size = n_ := ⟨_, rfl⟩
 have hn_0 := OwnI.new (W0 := w) HB.out.size hb.size ho0
 rw [elo5, ehi5] at hn_0
 obtain ⟨Ao15, co15, rfl⟩ := hn_0.slice
 have HOo15 := Aside0.mk hn_0
 clear hn_0 ho0
 have SP5 := Aside0.mk (And.intro (by have h_ := hb.size; rw [elo5, ehi5] at h_; exact h_ : lo5 ≤ hi5) (And.intro (Nat.le_of_eq elo5 : w12.heap.size ≤ lo5) (Nat.le_of_eq ehi5.symm : hi5 ≤ w14.heap.size)))
 have SS7 := Aside0.mk (And.intro SP5.out SS6.out)
 clear SS6
 clear SP5
 replace HB := Aside0.mk (HB.out.trans (hW_.mono HB.out.size))
 clear hb hW_ elo5 ehi5
 have hx16 : w14.cell? ⟨w.heap.size, 0, none⟩ = some (.int .i64 a1_0) := (blk_cell BX0.out 0).trans rfl
 have hx17 : w14.cell? ⟨w.heap.size, 1, none⟩ = some (.int .i64 a1_1) := (blk_cell BX0.out 1).trans rfl
 have hx18 : w14.cell? ⟨w.heap.size, 2, none⟩ = some (.slice A1_2 l1_2.length c1_2) := (blk_cell BX0.out 2).trans rfl
 have CK := Aside0.mk (laws_toTask.calls K3 a1_0 a1_1 A1_2 c1_2 l1_2 r3 r4 r5 w14 (Kd.C_below HR1_2.out HB.out) HC1_2.out G3.out)
 go_wp2_with fail
 with_reducible refine CK.out.mono ?_
 rintro e w19 ⟨v2_, rfl, ho0, hb0⟩
 have hb := hb0
 clear CK hb0
 clear hx16 hx17 hx18
 have hW_ := hb
 replace BX0 := Aside0.mk ((hb.block _ (blk_lt BX0.out)).trans BX0.out)
 replace HOo7 := Aside0.mk (HOo7.out.below hW_)
 replace HOo9 := Aside0.mk (HOo9.out.below hW_)
 replace HOo11 := Aside0.mk (HOo11.out.below hW_)
 replace HOo13 := Aside0.mk (HOo13.out.below hW_)
 replace HOo15 := Aside0.mk (HOo15.out.below hW_)
 obtain ⟨lo6, elo6⟩ : ∃ n_, w14.heap.size = n_ := ⟨_, rfl⟩
 obtain ⟨hi6, ehi6⟩ : ∃ n_, w19.heap.size = n_ := ⟨_, rfl⟩
 have hn_0 := OwnI.new (W0 := w) HB.out.size hb.size ho0
 rw [elo6, ehi6] at hn_0
 obtain ⟨Ao20, co20, rfl⟩ := hn_0.slice
 have HOo20 := Aside0.mk hn_0
 clear hn_0 ho0
 have SP6 := Aside0.mk (And.intro (by have h_ := hb.size; rw [elo6, ehi6] at h_; exact h_ : lo6 ≤ hi6) (And.intro (Nat.le_of_eq elo6 : w14.heap.size ≤ lo6) (Nat.le_of_eq ehi6.symm : hi6 ≤ w19.heap.size)))
 have SS8 := Aside0.mk (And.intro SP6.out SS7.out)
 clear SS7
 clear SP6
 replace HB := Aside0.mk (HB.out.trans (hW_.mono HB.out.size))
 clear hb hW_ elo6 ehi6
 have CK := Aside0.mk (laws_toIntS.calls K4 A2 c2 l2 r6 (w19.alloc (.cells #[.int .i64 r3, .int .i64 r4, .slice Ao20 r5.length co20] 30)) (Kd.C_below HR2.out (below_alloc HB.out _)) HC2.out G4.out)
 go_wp2_with fail
 with_reducible refine CK.out.mono ?_
 rintro e w21 ⟨v0_, rfl, ho0, hb0⟩
 have hb := hb0
 clear CK hb0
 have hW_ : Below w19.heap.size w19 w21 := (below_alloc (Below.refl w19.heap.size w19) _).trans (hb.mono (below_alloc (Below.refl w19.heap.size w19) _).size)
 replace BX0 := Aside0.mk ((hb.block _ (blk_lt (blk_alloc BX0.out _))).trans (blk_alloc BX0.out _))
 have BX1 := Aside0.mk ((hb.block _ (blk_lt (show (w19.alloc (.cells #[.int .i64 r3, .int .i64 r4, .slice Ao20 r5.length co20] 30)).heap[w19.heap.size]? = some (.cells #[.int .i64 r3, .int .i64 r4, .slice Ao20 r5.length co20] 30 (0, 0)) from by have h_ := heap_alloc_new w19 (.cells #[.int .i64 r3, .int .i64 r4, .slice Ao20 r5.length co20] 30); simpa using h_))).trans (show (w19.alloc (.cells #[.int .i64 r3, .int .i64 r4, .slice Ao20 r5.length co20] 30)).heap[w19.heap.size]? = some (.cells #[.int .i64 r3, .int .i64 r4, .slice Ao20 r5.length co20] 30 (0, 0)) from by have h_ := heap_alloc_new w19 (.cells #[.int .i64 r3, .int .i64 r4, .slice Ao20 r5.length co20] 30); simpa using h_))
 replace HOo7 := Aside0.mk (HOo7.out.below hW_)
 replace HOo9 := Aside0.mk (HOo9.out.below hW_)
 replace HOo11 := Aside0.mk (HOo11.out.below hW_)
 replace HOo13 := Aside0.mk (HOo13.out.below hW_)
 replace HOo15 := Aside0.mk (HOo15.out.below hW_)
 replace HOo20 := Aside0.mk (HOo20.out.below hW_)
 obtain ⟨lo7, elo7⟩ : ∃ n_, (w19.alloc (.cells #[.int .i64 r3, .int .i64 r4, .slice Ao20 r5.length co20] 30)).heap.size = n_ := ⟨_, rfl⟩
 obtain ⟨hi7, ehi7⟩ : ∃ n_, w21.heap.size = n_ := ⟨_, rfl⟩
 have hn_0 := OwnI.new (W0 := w) (below_alloc HB.out _).size hb.size ho0
 rw [elo7, ehi7] at hn_0
 obtain ⟨Ao22, co22, rfl⟩ := hn_0.slice
 have HOo22 := Aside0.mk hn_0
 clear hn_0 ho0
 have SP7 := Aside0.mk (And.intro (by have h_ := hb.size; rw [elo7, ehi7] at h_; exact h_ : lo7 ≤ hi7) (And.intro (by have h_ := (Nat.succ_le_of_lt (blk_lt (show (w19.alloc (.cells #[.int .i64 r3, .int .i64 r4, .slice Ao20 r5.length co20] 30)).heap[w19.heap.size]? = some (.cells #[.int .i64 r3, .int .i64 r4, .slice Ao20 r5.length co20] 30 (0, 0)) from by have h_ := heap_alloc_new w19 (.cells #[.int .i64 r3, .int .i64 r4, .slice Ao20 r5.length co20] 30); simpa using h_)) : w19.heap.size + 1 ≤ (w19.alloc (.cells #[.int .i64 r3, .int .i64 r4, .slice Ao20 r5.length co20] 30)).heap.size); rw [elo7] at h_; exact h_ : w19.heap.size + 1 ≤ lo7) (Nat.le_of_eq ehi7.symm : hi7 ≤ w21.heap.size)))
 have SS9 := Aside0.mk (And.intro SP7.out SS8.out)
 clear SS8
 clear SP7
 replace HB := Aside0.mk (HB.out.trans (hW_.mono HB.out.size))
 clear hb hW_ elo7 ehi7
 have hx23 : w21.cell? ⟨w19.heap.size, 0, none⟩ = some (.int .i64 r3) := (blk_cell BX1.out 0).trans rfl
 have hx24 : w21.cell? ⟨w19.heap.size, 1, none⟩ = some (.int .i64 r4) := (blk_cell BX1.out 1).trans rfl
 have hx25 : w21.cell? ⟨w19.heap.size, 2, none⟩ = some (.slice Ao20 r5.length co20) := (blk_cell BX1.out 2).trans rfl
 have CK := Aside0.mk (impl_HiddenOf.calls K6 Ao15 co15 r2 r3 r4 Ao20 co20 r5 Ao22 co22 r6 r7 r8 w21 HOo15.out.C HOo15.out.room HOo20.out.C HOo20.out.room HOo22.out.C HOo22.out.room G6.out)
 go_wp2_with fail
 with_reducible refine CK.out.mono ?_
 rintro e w26 ⟨v0_, rfl, ho0, hb0⟩
 have hb := hb0
 clear CK hb0
 clear hx23 hx24 hx25
 have hW_ := hb
 replace BX0 := Aside0.mk ((hb.block _ (blk_lt BX0.out)).trans BX0.out)
 replace BX1 := Aside0.mk ((hb.block _ (blk_lt BX1.out)).trans BX1.out)
 replace HOo7 := Aside0.mk (HOo7.out.below hW_)
 replace HOo9 := Aside0.mk (HOo9.out.below hW_)
 replace HOo11 := Aside0.mk (HOo11.out.below hW_)
 replace HOo13 := Aside0.mk (HOo13.out.below hW_)
 replace HOo15 := Aside0.mk (HOo15.out.below hW_)
 replace HOo20 := Aside0.mk (HOo20.out.below hW_)
 replace HOo22 := Aside0.mk (HOo22.out.below hW_)
 obtain ⟨lo8, elo8⟩ : ∃ n_, w21.heap.size = n_ := ⟨_, rfl⟩
 obtain ⟨hi8, ehi8⟩ : ∃ n_, w26.heap.size = n_ := ⟨_, rfl⟩
 have hn_0 := OwnI.new (W0 := w) HB.out.size hb.size ho0
 rw [elo8, ehi8] at hn_0
 obtain ⟨Ao27, co27, rfl⟩ := hn_0.slice
 have HOo27 := Aside0.mk hn_0
 clear hn_0 ho0
 have SP8 := Aside0.mk (And.intro (by have h_ := hb.size; rw [elo8, ehi8] at h_; exact h_ : lo8 ≤ hi8) (And.intro (Nat.le_of_eq elo8 : w21.heap.size ≤ lo8) (Nat.le_of_eq ehi8.symm : hi8 ≤ w26.heap.size)))
 have SS10 := Aside0.mk (And.intro SP8.out SS9.out)
 clear SS9
 clear SP8
 replace HB := Aside0.mk (HB.out.trans (hW_.mono HB.out.size))
 clear hb hW_ elo8 ehi8
 have CK := Aside0.mk (laws_eqIntS.calls K7 Ao27 co27 r7 Ao13 co13 r7 true w26 HOo27.out.C HOo27.out.room HOo13.out.C HOo13.out.room G7.out)
 go_wp2_with fail
 with_reducible refine CK.out.mono ?_
 rintro e w28 ⟨rfl, hb0⟩
 have hb := hb0.below
 clear CK hb0
 have hW_ := hb
 have SZ3 := Aside0.mk hb.size
 have SS11 := Aside0.mk (And.intro SZ3.out SS10.out)
 clear SS10
 clear SZ3
 replace BX0 := Aside0.mk ((hb.block _ (blk_lt BX0.out)).trans BX0.out)
 replace BX1 := Aside0.mk ((hb.block _ (blk_lt BX1.out)).trans BX1.out)
 replace HOo7 := Aside0.mk (HOo7.out.below hW_)
 replace HOo9 := Aside0.mk (HOo9.out.below hW_)
 replace HOo11 := Aside0.mk (HOo11.out.below hW_)
 replace HOo13 := Aside0.mk (HOo13.out.below hW_)
 replace HOo15 := Aside0.mk (HOo15.out.below hW_)
 replace HOo20 := Aside0.mk (HOo20.out.below hW_)
 replace HOo22 := Aside0.mk (HOo22.out.below hW_)
 replace HOo27 := Aside0.mk (HOo27.out.below hW_)
 replace HB := Aside0.mk (HB.out.trans (hW_.mono HB.out.size))
 clear hb hW_
 have CK := Aside0.mk (laws_toIntS.calls K2 A0 c0 l0 r2 w28 (Kd.C_below HR0.out HB.out) HC0.out G2.out)
 go_wp2_with fail
 with_reducible refine CK.out.mono ?_
 rintro e w29 ⟨v0_, rfl, ho0, hb0⟩
 have hb := hb0
 clear CK hb0
 have hW_ := hb
 replace BX0 := Aside0.mk ((hb.block _ (blk_lt BX0.out)).trans BX0.out)
 replace BX1 := Aside0.mk ((hb.block _ (blk_lt BX1.out)).trans BX1.out)
 replace HOo7 := Aside0.mk (HOo7.out.below hW_)
 replace HOo9 := Aside0.mk (HOo9.out.below hW_)
 replace HOo11 := Aside0.mk (HOo11.out.below hW_)
 replace HOo13 := Aside0.mk (HOo13.out.below hW_)
 replace HOo15 := Aside0.mk (HOo15.out.below hW_)
 replace HOo20 := Aside0.mk (HOo20.out.below hW_)
 replace HOo22 := Aside0.mk (HOo22.out.below hW_)
 replace HOo27 := Aside0.mk (HOo27.out.below hW_)
 obtain ⟨lo9, elo9⟩ : ∃ n_, w28.heap.size = n_ := ⟨_, rfl⟩
 obtain ⟨hi9, ehi9⟩ : ∃ n_, w29.heap.size = n_ := ⟨_, rfl⟩
 have hn_0 := OwnI.new (W0 := w) HB.out.size hb.size ho0
 rw [elo9, ehi9] at hn_0
 obtain ⟨Ao30, co30, rfl⟩ := hn_0.slice
 have HOo30 := Aside0.mk hn_0
 clear hn_0 ho0
 have SP9 := Aside0.mk (And.intro (by have h_ := hb.size; rw [elo9, ehi9] at h_; exact h_ : lo9 ≤ hi9) (And.intro (Nat.le_of_eq elo9 : w28.heap.size ≤ lo9) (Nat.le_of_eq ehi9.symm : hi9 ≤ w29.heap.size)))
 have SS12 := Aside0.mk (And.intro SP9.out SS11.out)
 clear SS11
 clear SP9
 replace HB := Aside0.mk (HB.out.trans (hW_.mono HB.out.size))
 clear hb hW_ elo9 ehi9
 have CK := Aside0.mk (laws_eqIntS.calls K8 Ao15 co15 r2 Ao30 co30 r2 true w29 HOo15.out.C HOo15.out.room HOo30.out.C HOo30.out.room G8.out)
 go_wp2_with fail
 with_reducible refine CK.out.mono ?_
 rintro e w31 ⟨rfl, hb0⟩
 have hb := hb0.below
 clear CK hb0
 have hW_ := hb
 have SZ4 := Aside0.mk hb.size
 have SS13 := Aside0.mk (And.intro SZ4.out SS12.out)
 clear SS12
 clear SZ4
 replace BX0 := Aside0.mk ((hb.block _ (blk_lt BX0.out)).trans BX0.out)
 replace BX1 := Aside0.mk ((hb.block _ (blk_lt BX1.out)).trans BX1.out)
 replace HOo7 := Aside0.mk (HOo7.out.below hW_)
 replace HOo9 := Aside0.mk (HOo9.out.below hW_)
 replace HOo11 := Aside0.mk (HOo11.out.below hW_)
 replace HOo13 := Aside0.mk (HOo13.out.below hW_)
 replace HOo15 := Aside0.mk (HOo15.out.below hW_)
 replace HOo20 := Aside0.mk (HOo20.out.below hW_)
 replace HOo22 := Aside0.mk (HOo22.out.below hW_)
 replace HOo27 := Aside0.mk (HOo27.out.below hW_)
 replace HOo30 := Aside0.mk (HOo30.out.below hW_)
 replace HB := Aside0.mk (HB.out.trans (hW_.mono HB.out.size))
 clear hb hW_
 try go_wp2_with fail
 refine start_ (n := 5) (S := fun w' => w'.cell? ⟨w19.heap.size, 0, none⟩ = some (.int .i64 r3) ∧ w'.cell? ⟨w19.heap.size, 1, none⟩ = some (.int .i64 r4) ∧ w'.cell? ⟨w19.heap.size, 2, none⟩ = some (.slice Ao20 r5.length co20) ∧ w'.cell? ⟨w.heap.size, 0, none⟩ = some (.int .i64 a1_0) ∧ w'.cell? ⟨w.heap.size, 1, none⟩ = some (.int .i64 a1_1) ∧ w'.cell? ⟨w.heap.size, 2, none⟩ = some (.slice A1_2 l1_2.length c1_2)) (ds := []) #[false, false, false, false, false] (by kernel_rfl) rfl rfl ⟨(blk_cell (blk_drew BX1.out) 0).trans rfl, (blk_cell (blk_drew BX1.out) 1).trans rfl, (blk_cell (blk_drew BX1.out) 2).trans rfl, (blk_cell (blk_drew BX0.out) 0).trans rfl, (blk_cell (blk_drew BX0.out) 1).trans rfl, (blk_cell (blk_drew BX0.out) 2).trans rfl⟩ (fun hHeld => ?_)
 have hW_ := below_drew1 (Below.refl w31.heap.size w31)
 have SZ5 := Aside0.mk (Nat.le_trans (Nat.le_refl w31.heap.size : w31.heap.size ≤ w31.heap.size) (below_drew1 (Below.refl w31.heap.size w31)).size)
 replace BX0 := Aside0.mk (blk_drew BX0.out)
 replace BX1 := Aside0.mk (blk_drew BX1.out)
 generalize w31.drew = w32 at hW_ hHeld SZ5 BX0 BX1 ⊢
 have SS14 := Aside0.mk (And.intro SZ5.out SS13.out)
 clear SS13
 clear SZ5
 replace HOo7 := Aside0.mk (HOo7.out.below hW_)
 replace HOo9 := Aside0.mk (HOo9.out.below hW_)
 replace HOo11 := Aside0.mk (HOo11.out.below hW_)
 replace HOo13 := Aside0.mk (HOo13.out.below hW_)
 replace HOo15 := Aside0.mk (HOo15.out.below hW_)
 replace HOo20 := Aside0.mk (HOo20.out.below hW_)
 replace HOo22 := Aside0.mk (HOo22.out.below hW_)
 replace HOo27 := Aside0.mk (HOo27.out.below hW_)
 replace HOo30 := Aside0.mk (HOo30.out.below hW_)
 replace HB := Aside0.mk (HB.out.trans (hW_.mono HB.out.size))
 clear hW_
 refine take_ (i := 0) (N := some 68) (v := ?_) (a' := ?_) #[true, false, false, false, false] rfl rfl (by kernel_rfl) (fun _ _ _ h => h) (Or.inl ⟨by rfl, ?_⟩) hHeld ?_ ?_
 rotate_left
 · rintro w' ⟨s0, s1, s2, s3, s4, s5⟩
   go_simp
   with_reducible rfl
 rotate_left
 · simp only [Act.put, List.setIfInBounds_toArray, List.set_cons_zero, List.set_cons_succ, i64_w, i32_w]
   rfl
 refine take_ (i := 1) (N := some 69) (v := ?_) (a' := ?_) #[true, true, false, false, false] rfl rfl (by kernel_rfl) (fun _ _ _ h => h) (Or.inl ⟨by rfl, ?_⟩) hHeld ?_ ?_
 rotate_left
 · rintro w' ⟨s0, s1, s2, s3, s4, s5⟩
   go_simp
   with_reducible rfl
 rotate_left
 · simp only [Act.put, List.setIfInBounds_toArray, List.set_cons_zero, List.set_cons_succ, i64_w, i32_w]
   rfl
 have CK := Aside0.mk (laws_toTask.calls K3 a1_0 a1_1 A1_2 c1_2 l1_2 r3 r4 r5 w32 (Kd.C_below HR1_2.out HB.out) HC1_2.out G3.out)
 refine one_ (i := 2) (N := some 70) #[true, true, true, false, false] rfl rfl (by kernel_rfl) (by decide) (fun K hK => ?_)
 refine goes_ Try.func17 (by kernel_rfl) rfl #[.agg #[.int .i64 a1_0, .int .i64 a1_1, .slice A1_2 l1_2.length c1_2]] (by rfl) rfl rfl (by (try simp only [List.map_toArray, List.map_cons, List.map_nil]); first | done | rfl) ?_
 with_reducible refine CK.out.mono ?_
 rintro e w33 ⟨v2_, rfl, ho0, hb0⟩
 refine ⟨_, rfl, ?_⟩
 have hb := hb0
 clear CK hb0
 have hW_ := hb
 replace BX0 := Aside0.mk ((hb.block _ (blk_lt BX0.out)).trans BX0.out)
 replace BX1 := Aside0.mk ((hb.block _ (blk_lt BX1.out)).trans BX1.out)
 replace HOo7 := Aside0.mk (HOo7.out.below hW_)
 replace HOo9 := Aside0.mk (HOo9.out.below hW_)
 replace HOo11 := Aside0.mk (HOo11.out.below hW_)
 replace HOo13 := Aside0.mk (HOo13.out.below hW_)
 replace HOo15 := Aside0.mk (HOo15.out.below hW_)
 replace HOo20 := Aside0.mk (HOo20.out.below hW_)
 replace HOo22 := Aside0.mk (HOo22.out.below hW_)
 replace HOo27 := Aside0.mk (HOo27.out.below hW_)
 replace HOo30 := Aside0.mk (HOo30.out.below hW_)
 obtain ⟨lo10, elo10⟩ : ∃ n_, w32.heap.size = n_ := ⟨_, rfl⟩
 obtain ⟨hi10, ehi10⟩ : ∃ n_, w33.heap.size = n_ := ⟨_, rfl⟩
 have hn_0 := OwnI.new (W0 := w) HB.out.size hb.size ho0
 rw [elo10, ehi10] at hn_0
 obtain ⟨Ao34, co34, rfl⟩ := hn_0.slice
 have HOo34 := Aside0.mk hn_0
 clear hn_0 ho0
 have SP10 := Aside0.mk (And.intro (by have h_ := hb.size; rw [elo10, ehi10] at h_; exact h_ : lo10 ≤ hi10) (And.intro (Nat.le_of_eq elo10 : w32.heap.size ≤ lo10) (Nat.le_of_eq ehi10.symm : hi10 ≤ w33.heap.size)))
 have SS15 := Aside0.mk (And.intro SP10.out SS14.out)
 clear SS14
 clear SP10
 replace HB := Aside0.mk (HB.out.trans (hW_.mono HB.out.size))
 clear hb hW_ elo10 ehi10
 refine hK.out _ _ ⟨(blk_cell BX1.out 0).trans rfl, (blk_cell BX1.out 1).trans rfl, (blk_cell BX1.out 2).trans rfl, (blk_cell BX0.out 0).trans rfl, (blk_cell BX0.out 1).trans rfl, (blk_cell BX0.out 2).trans rfl⟩ (fun hHeld => ?_)
 clear hK K
 refine norm_ (a' := ?_) ?_ ?_
 rotate_left
 · show Act.put _ (some 70) _ = _
   simp only [Act.put, List.setIfInBounds_toArray, List.set_cons_zero, List.set_cons_succ, i64_w, i32_w]
   rfl
 have CK := Aside0.mk (laws_eqTask.calls K9 r3 r4 Ao20 co20 r5 r3 r4 Ao34 co34 r5 true w33 HOo20.out.C HOo20.out.room HOo34.out.C HOo34.out.room G9.out)
 refine one_ (i := 3) (N := some 71) #[true, true, true, true, false] rfl rfl (by kernel_rfl) (by decide) (fun K hK => ?_)
 refine goes_ Try.func20 (by kernel_rfl) rfl #[.agg #[.int .i64 r3, .int .i64 r4, .slice Ao20 r5.length co20], .agg #[.int .i64 r3, .int .i64 r4, .slice Ao34 r5.length co34]] (by rfl) rfl rfl (by (try simp only [List.map_toArray, List.map_cons, List.map_nil]); first | done | rfl) ?_
 with_reducible refine CK.out.mono ?_
 rintro e w35 ⟨rfl, hb0⟩
 refine ⟨_, rfl, ?_⟩
 have hb := hb0
 clear CK hb0
 have hW_ := hb
 have SZ6 := Aside0.mk hb.size
 have SS16 := Aside0.mk (And.intro SZ6.out SS15.out)
 clear SS15
 clear SZ6
 replace BX0 := Aside0.mk ((hb.block _ (blk_lt BX0.out)).trans BX0.out)
 replace BX1 := Aside0.mk ((hb.block _ (blk_lt BX1.out)).trans BX1.out)
 replace HOo7 := Aside0.mk (HOo7.out.below hW_)
 replace HOo9 := Aside0.mk (HOo9.out.below hW_)
 replace HOo11 := Aside0.mk (HOo11.out.below hW_)
 replace HOo13 := Aside0.mk (HOo13.out.below hW_)
 replace HOo15 := Aside0.mk (HOo15.out.below hW_)
 replace HOo20 := Aside0.mk (HOo20.out.below hW_)
 replace HOo22 := Aside0.mk (HOo22.out.below hW_)
 replace HOo27 := Aside0.mk (HOo27.out.below hW_)
 replace HOo30 := Aside0.mk (HOo30.out.below hW_)
 replace HOo34 := Aside0.mk (HOo34.out.below hW_)
 replace HB := Aside0.mk (HB.out.trans (hW_.mono HB.out.size))
 clear hb hW_
 refine hK.out _ _ ⟨(blk_cell BX1.out 0).trans rfl, (blk_cell BX1.out 1).trans rfl, (blk_cell BX1.out 2).trans rfl, (blk_cell BX0.out 0).trans rfl, (blk_cell BX0.out 1).trans rfl, (blk_cell BX0.out 2).trans rfl⟩ (fun hHeld => ?_)
 clear hK K
 refine norm_ (a' := ?_) ?_ ?_
 rotate_left
 · show Act.put _ (some 71) _ = _
   simp only [Act.put, List.setIfInBounds_toArray, List.set_cons_zero, List.set_cons_succ, i64_w, i32_w]
   rfl
 refine pure_ (i := 4) (N := some 72) (v := ?_) (a' := ?_) #[true, true, true, true, true] rfl rfl (by kernel_rfl) (fun _ _ _ h => h) (Or.inl ⟨by rfl, ?_⟩) ?_ ?_
 rotate_left
 · intro w'
   go_simp
   with_reducible rfl
 rotate_left
 · simp only [Act.put, List.setIfInBounds_toArray, List.set_cons_zero, List.set_cons_succ, i64_w, i32_w]
   rfl
 refine done_ (by kernel_rfl) ?_
 clear hHeld
 have CK := Aside0.mk (laws_toIntS.calls K4 A2 c2 l2 r6 w35 (Kd.C_below HR2.out HB.out) HC2.out G4.out)
 go_wp2_with fail
 with_reducible refine CK.out.mono ?_
 rintro e w36 ⟨v0_, rfl, ho0, hb0⟩
 have hb := hb0
 clear CK hb0
 have hW_ := hb
 replace BX0 := Aside0.mk ((hb.block _ (blk_lt BX0.out)).trans BX0.out)
 replace BX1 := Aside0.mk ((hb.block _ (blk_lt BX1.out)).trans BX1.out)
 replace HOo7 := Aside0.mk (HOo7.out.below hW_)
 replace HOo9 := Aside0.mk (HOo9.out.below hW_)
 replace HOo11 := Aside0.mk (HOo11.out.below hW_)
 replace HOo13 := Aside0.mk (HOo13.out.below hW_)
 replace HOo15 := Aside0.mk (HOo15.out.below hW_)
 replace HOo20 := Aside0.mk (HOo20.out.below hW_)
 replace HOo22 := Aside0.mk (HOo22.out.below hW_)
 replace HOo27 := Aside0.mk (HOo27.out.below hW_)
 replace HOo30 := Aside0.mk (HOo30.out.below hW_)
 replace HOo34 := Aside0.mk (HOo34.out.below hW_)
 obtain ⟨lo11, elo11⟩ : ∃ n_, w35.heap.size = n_ := ⟨_, rfl⟩
 obtain ⟨hi11, ehi11⟩ : ∃ n_, w36.heap.size = n_ := ⟨_, rfl⟩
 have hn_0 := OwnI.new (W0 := w) HB.out.size hb.size ho0
 rw [elo11, ehi11] at hn_0
 obtain ⟨Ao37, co37, rfl⟩ := hn_0.slice
 have HOo37 := Aside0.mk hn_0
 clear hn_0 ho0
 have SP11 := Aside0.mk (And.intro (by have h_ := hb.size; rw [elo11, ehi11] at h_; exact h_ : lo11 ≤ hi11) (And.intro (Nat.le_of_eq elo11 : w35.heap.size ≤ lo11) (Nat.le_of_eq ehi11.symm : hi11 ≤ w36.heap.size)))
 have SS17 := Aside0.mk (And.intro SP11.out SS16.out)
 clear SS16
 clear SP11
 replace HB := Aside0.mk (HB.out.trans (hW_.mono HB.out.size))
 clear hb hW_ elo11 ehi11
 have CK := Aside0.mk (laws_eqIntS.calls K10 Ao22 co22 r6 Ao37 co37 r6 true w36 HOo22.out.C HOo22.out.room HOo37.out.C HOo37.out.room G10.out)
 go_wp2_with fail
 with_reducible refine CK.out.mono ?_
 rintro e w38 ⟨rfl, hb0⟩
 have hb := hb0.below
 clear CK hb0
 have hW_ := hb
 have SZ7 := Aside0.mk hb.size
 have SS18 := Aside0.mk (And.intro SZ7.out SS17.out)
 clear SS17
 clear SZ7
 replace BX0 := Aside0.mk ((hb.block _ (blk_lt BX0.out)).trans BX0.out)
 replace BX1 := Aside0.mk ((hb.block _ (blk_lt BX1.out)).trans BX1.out)
 replace HOo7 := Aside0.mk (HOo7.out.below hW_)
 replace HOo9 := Aside0.mk (HOo9.out.below hW_)
 replace HOo11 := Aside0.mk (HOo11.out.below hW_)
 replace HOo13 := Aside0.mk (HOo13.out.below hW_)
 replace HOo15 := Aside0.mk (HOo15.out.below hW_)
 replace HOo20 := Aside0.mk (HOo20.out.below hW_)
 replace HOo22 := Aside0.mk (HOo22.out.below hW_)
 replace HOo27 := Aside0.mk (HOo27.out.below hW_)
 replace HOo30 := Aside0.mk (HOo30.out.below hW_)
 replace HOo34 := Aside0.mk (HOo34.out.below hW_)
 replace HOo37 := Aside0.mk (HOo37.out.below hW_)
 replace HB := Aside0.mk (HB.out.trans (hW_.mono HB.out.size))
 clear hb hW_
 have CK := Aside0.mk (lwInt K11 HB.out HOo15.out G11.out)
 go_wp2_with fail
 with_reducible refine CK.out.mono ?_
 rintro e w39 ⟨rfl, ho0, hb, hk⟩
 clear CK
 have SZ8 := Aside0.mk hk.1
 have SS19 := Aside0.mk (And.intro SZ8.out SS18.out)
 clear SS18
 clear SZ8
 replace BX0 := Aside0.mk (blkI BX0.out hk (by have s_ := SS19.out; omega))
 replace BX1 := Aside0.mk (blkI BX1.out hk (by have s_ := SS19.out; omega))
 replace HOo7 := Aside0.mk (HOo7.out.kept hk (by have s_ := SS19.out; omega))
 replace HOo9 := Aside0.mk (HOo9.out.kept hk (by have s_ := SS19.out; omega))
 replace HOo11 := Aside0.mk (HOo11.out.kept hk (by have s_ := SS19.out; omega))
 replace HOo13 := Aside0.mk (HOo13.out.kept hk (by have s_ := SS19.out; omega))
 replace HOo20 := Aside0.mk (HOo20.out.kept hk (by have s_ := SS19.out; omega))
 replace HOo22 := Aside0.mk (HOo22.out.kept hk (by have s_ := SS19.out; omega))
 replace HOo27 := Aside0.mk (HOo27.out.kept hk (by have s_ := SS19.out; omega))
 replace HOo30 := Aside0.mk (HOo30.out.kept hk (by have s_ := SS19.out; omega))
 replace HOo34 := Aside0.mk (HOo34.out.kept hk (by have s_ := SS19.out; omega))
 replace HOo37 := Aside0.mk (HOo37.out.kept hk (by have s_ := SS19.out; omega))
 replace HOo15 := Aside0.mk ho0
 have HLo15 := Aside0.mk (ho0.len : m9.length = r2.length)
 replace HB := Aside0.mk hb
 clear hb hk ho0
 have hx40 : w39.cell? ⟨w19.heap.size, 0, none⟩ = some (.int .i64 r3) := (blk_cell BX1.out 0).trans rfl
 have hx41 : w39.cell? ⟨w19.heap.size, 1, none⟩ = some (.int .i64 r4) := (blk_cell BX1.out 1).trans rfl
 have hx42 : w39.cell? ⟨w19.heap.size, 2, none⟩ = some (.slice Ao20 r5.length co20) := (blk_cell BX1.out 2).trans rfl
 have CK := Aside0.mk (lwTask (a := k10) (x := r3) (y := r4) HB.out HOo20.out (by have p0_ := HX2.out; omega) HX3.out)
 go_wp2_with fail
 with_reducible refine CK.out.mono ?_
 rintro e w43 ⟨rfl, hb, hk⟩
 clear CK
 clear hx40 hx41 hx42
 have SZ9 := Aside0.mk hk.1
 have SS20 := Aside0.mk (And.intro SZ9.out SS19.out)
 clear SS19
 clear SZ9
 replace BX0 := Aside0.mk (blkI BX0.out hk (by have s_ := SS20.out; omega))
 replace BX1 := Aside0.mk (blkI BX1.out hk (by have s_ := SS20.out; omega))
 replace HOo7 := Aside0.mk (HOo7.out.kept hk (by have s_ := SS20.out; omega))
 replace HOo9 := Aside0.mk (HOo9.out.kept hk (by have s_ := SS20.out; omega))
 replace HOo11 := Aside0.mk (HOo11.out.kept hk (by have s_ := SS20.out; omega))
 replace HOo13 := Aside0.mk (HOo13.out.kept hk (by have s_ := SS20.out; omega))
 replace HOo15 := Aside0.mk (HOo15.out.kept hk (by have s_ := SS20.out; omega))
 replace HOo22 := Aside0.mk (HOo22.out.kept hk (by have s_ := SS20.out; omega))
 replace HOo27 := Aside0.mk (HOo27.out.kept hk (by have s_ := SS20.out; omega))
 replace HOo30 := Aside0.mk (HOo30.out.kept hk (by have s_ := SS20.out; omega))
 replace HOo34 := Aside0.mk (HOo34.out.kept hk (by have s_ := SS20.out; omega))
 replace HOo37 := Aside0.mk (HOo37.out.kept hk (by have s_ := SS20.out; omega))
 clear HOo20
 replace HB := Aside0.mk hb
 clear hb hk
 have CK := Aside0.mk (lwInt K12 HB.out HOo22.out G12.out)
 go_wp2_with fail
 with_reducible refine CK.out.mono ?_
 rintro e w44 ⟨rfl, ho0, hb, hk⟩
 clear CK
 have SZ10 := Aside0.mk hk.1
 have SS21 := Aside0.mk (And.intro SZ10.out SS20.out)
 clear SS20
 clear SZ10
 replace BX0 := Aside0.mk (blkI BX0.out hk (by have s_ := SS21.out; omega))
 replace BX1 := Aside0.mk (blkI BX1.out hk (by have s_ := SS21.out; omega))
 replace HOo7 := Aside0.mk (HOo7.out.kept hk (by have s_ := SS21.out; omega))
 replace HOo9 := Aside0.mk (HOo9.out.kept hk (by have s_ := SS21.out; omega))
 replace HOo11 := Aside0.mk (HOo11.out.kept hk (by have s_ := SS21.out; omega))
 replace HOo13 := Aside0.mk (HOo13.out.kept hk (by have s_ := SS21.out; omega))
 replace HOo15 := Aside0.mk (HOo15.out.kept hk (by have s_ := SS21.out; omega))
 replace HOo27 := Aside0.mk (HOo27.out.kept hk (by have s_ := SS21.out; omega))
 replace HOo30 := Aside0.mk (HOo30.out.kept hk (by have s_ := SS21.out; omega))
 replace HOo34 := Aside0.mk (HOo34.out.kept hk (by have s_ := SS21.out; omega))
 replace HOo37 := Aside0.mk (HOo37.out.kept hk (by have s_ := SS21.out; omega))
 replace HOo22 := Aside0.mk ho0
 have HLo22 := Aside0.mk (ho0.len : m11.length = r6.length)
 replace HB := Aside0.mk hb
 clear hb hk ho0
 have CK := Aside0.mk (laws_eqIntS.calls K7 Ao27 co27 r7 Ao13 co13 r7 true w44 HOo27.out.C HOo27.out.room HOo13.out.C HOo13.out.room G7.out)
 go_wp2_with fail
 with_reducible refine CK.out.mono ?_
 rintro e w45 ⟨rfl, hb0⟩
 have hb := hb0.below
 clear CK hb0
 have hW_ := hb
 have SZ11 := Aside0.mk hb.size
 have SS22 := Aside0.mk (And.intro SZ11.out SS21.out)
 clear SS21
 clear SZ11
 replace BX0 := Aside0.mk ((hb.block _ (blk_lt BX0.out)).trans BX0.out)
 replace BX1 := Aside0.mk ((hb.block _ (blk_lt BX1.out)).trans BX1.out)
 replace HOo7 := Aside0.mk (HOo7.out.below hW_)
 replace HOo9 := Aside0.mk (HOo9.out.below hW_)
 replace HOo11 := Aside0.mk (HOo11.out.below hW_)
 replace HOo13 := Aside0.mk (HOo13.out.below hW_)
 replace HOo15 := Aside0.mk (HOo15.out.below hW_)
 replace HOo22 := Aside0.mk (HOo22.out.below hW_)
 replace HOo27 := Aside0.mk (HOo27.out.below hW_)
 replace HOo30 := Aside0.mk (HOo30.out.below hW_)
 replace HOo34 := Aside0.mk (HOo34.out.below hW_)
 replace HOo37 := Aside0.mk (HOo37.out.below hW_)
 replace HB := Aside0.mk (HB.out.trans (hW_.mono HB.out.size))
 clear hb hW_
 have CK := Aside0.mk (lwInt K13 HB.out HOo27.out G13.out)
 go_wp2_with fail
 with_reducible refine CK.out.mono ?_
 rintro e w46 ⟨rfl, ho0, hb, hk⟩
 clear CK
 have SZ12 := Aside0.mk hk.1
 have SS23 := Aside0.mk (And.intro SZ12.out SS22.out)
 clear SS22
 clear SZ12
 replace BX0 := Aside0.mk (blkI BX0.out hk (by have s_ := SS23.out; omega))
 replace BX1 := Aside0.mk (blkI BX1.out hk (by have s_ := SS23.out; omega))
 replace HOo7 := Aside0.mk (HOo7.out.kept hk (by have s_ := SS23.out; omega))
 replace HOo9 := Aside0.mk (HOo9.out.kept hk (by have s_ := SS23.out; omega))
 replace HOo11 := Aside0.mk (HOo11.out.kept hk (by have s_ := SS23.out; omega))
 replace HOo13 := Aside0.mk (HOo13.out.kept hk (by have s_ := SS23.out; omega))
 replace HOo15 := Aside0.mk (HOo15.out.kept hk (by have s_ := SS23.out; omega))
 replace HOo22 := Aside0.mk (HOo22.out.kept hk (by have s_ := SS23.out; omega))
 replace HOo30 := Aside0.mk (HOo30.out.kept hk (by have s_ := SS23.out; omega))
 replace HOo34 := Aside0.mk (HOo34.out.kept hk (by have s_ := SS23.out; omega))
 replace HOo37 := Aside0.mk (HOo37.out.kept hk (by have s_ := SS23.out; omega))
 replace HOo27 := Aside0.mk ho0
 have HLo27 := Aside0.mk (ho0.len : m13.length = r7.length)
 replace HB := Aside0.mk hb
 clear hb hk ho0
 have CK0 := laws_heldIntS.calls K14 Ao27 co27 m13 1 k14 w46 HOo27.out.C HOo27.out.room G14.out
 rw [HLo27.out] at CK0
 have CK := Aside0.mk CK0
 clear CK0
 go_wp2_with fail
 with_reducible refine CK.out.mono ?_
 rintro e w47 ⟨rfl, hb0⟩
 have hb := hb0.below
 clear CK hb0
 have hW_ := hb
 have SZ13 := Aside0.mk hb.size
 have SS24 := Aside0.mk (And.intro SZ13.out SS23.out)
 clear SS23
 clear SZ13
 replace BX0 := Aside0.mk ((hb.block _ (blk_lt BX0.out)).trans BX0.out)
 replace BX1 := Aside0.mk ((hb.block _ (blk_lt BX1.out)).trans BX1.out)
 replace HOo7 := Aside0.mk (HOo7.out.below hW_)
 replace HOo9 := Aside0.mk (HOo9.out.below hW_)
 replace HOo11 := Aside0.mk (HOo11.out.below hW_)
 replace HOo13 := Aside0.mk (HOo13.out.below hW_)
 replace HOo15 := Aside0.mk (HOo15.out.below hW_)
 replace HOo22 := Aside0.mk (HOo22.out.below hW_)
 replace HOo27 := Aside0.mk (HOo27.out.below hW_)
 replace HOo30 := Aside0.mk (HOo30.out.below hW_)
 replace HOo34 := Aside0.mk (HOo34.out.below hW_)
 replace HOo37 := Aside0.mk (HOo37.out.below hW_)
 replace HB := Aside0.mk (HB.out.trans (hW_.mono HB.out.size))
 clear hb hW_
 try go_wp2_with fail
 refine start_ (n := 12) (S := fun w' => w'.cell? ⟨w.heap.size, 0, none⟩ = some (.int .i64 a1_0) ∧ w'.cell? ⟨w.heap.size, 1, none⟩ = some (.int .i64 a1_1) ∧ w'.cell? ⟨w.heap.size, 2, none⟩ = some (.slice A1_2 l1_2.length c1_2)) (ds := []) #[false, false, false, false, false, false, false, false, false, false, false, false] (by kernel_rfl) rfl rfl ⟨(blk_cell (blk_drew BX0.out) 0).trans rfl, (blk_cell (blk_drew BX0.out) 1).trans rfl, (blk_cell (blk_drew BX0.out) 2).trans rfl⟩ (fun hHeld => ?_)
 have hW_ := below_drew1 (Below.refl w47.heap.size w47)
 have SZ14 := Aside0.mk (Nat.le_trans (Nat.le_refl w47.heap.size : w47.heap.size ≤ w47.heap.size) (below_drew1 (Below.refl w47.heap.size w47)).size)
 replace BX0 := Aside0.mk (blk_drew BX0.out)
 replace BX1 := Aside0.mk (blk_drew BX1.out)
 generalize w47.drew = w48 at hW_ hHeld SZ14 BX0 BX1 ⊢
 have SS25 := Aside0.mk (And.intro SZ14.out SS24.out)
 clear SS24
 clear SZ14
 replace HOo7 := Aside0.mk (HOo7.out.below hW_)
 replace HOo9 := Aside0.mk (HOo9.out.below hW_)
 replace HOo11 := Aside0.mk (HOo11.out.below hW_)
 replace HOo13 := Aside0.mk (HOo13.out.below hW_)
 replace HOo15 := Aside0.mk (HOo15.out.below hW_)
 replace HOo22 := Aside0.mk (HOo22.out.below hW_)
 replace HOo27 := Aside0.mk (HOo27.out.below hW_)
 replace HOo30 := Aside0.mk (HOo30.out.below hW_)
 replace HOo34 := Aside0.mk (HOo34.out.below hW_)
 replace HOo37 := Aside0.mk (HOo37.out.below hW_)
 replace HB := Aside0.mk (HB.out.trans (hW_.mono HB.out.size))
 clear hW_
 refine pure_ (i := 0) (N := some 112) (v := ?_) (a' := ?_) #[true, false, false, false, false, false, false, false, false, false, false, false] rfl rfl (by kernel_rfl) (fun _ _ _ h => h) (Or.inl ⟨by rfl, ?_⟩) ?_ ?_
 rotate_left
 · intro w'
   go_simp
   with_reducible rfl
 rotate_left
 · simp only [Act.put, List.setIfInBounds_toArray, List.set_cons_zero, List.set_cons_succ, i64_w, i32_w]
   rfl
 refine take_ (i := 2) (N := some 114) (v := ?_) (a' := ?_) #[true, false, true, false, false, false, false, false, false, false, false, false] rfl rfl (by kernel_rfl) (fun _ _ _ h => h) (Or.inl ⟨by rfl, ?_⟩) hHeld ?_ ?_
 rotate_left
 · rintro w' ⟨s0, s1, s2⟩
   go_simp
   with_reducible rfl
 rotate_left
 · simp only [Act.put, List.setIfInBounds_toArray, List.set_cons_zero, List.set_cons_succ, i64_w, i32_w]
   rfl
 refine pure_ (i := 4) (N := some 116) (v := ?_) (a' := ?_) #[true, false, true, false, true, false, false, false, false, false, false, false] rfl rfl (by kernel_rfl) (fun _ _ _ h => h) (Or.inl ⟨by rfl, ?_⟩) ?_ ?_
 rotate_left
 · intro w'
   go_simp
   with_reducible rfl
 rotate_left
 · simp only [Act.put, List.setIfInBounds_toArray, List.set_cons_zero, List.set_cons_succ, i64_w, i32_w]
   rfl
 have CK := Aside0.mk (laws_toIntS.calls K2 A0 c0 l0 r2 w48 (Kd.C_below HR0.out HB.out) HC0.out G2.out)
 refine one_ (i := 1) (N := some 113) #[true, true, true, false, true, false, false, false, false, false, false, false] rfl rfl (by kernel_rfl) (by decide) (fun K hK => ?_)
 refine goes_ Try.func46 (by kernel_rfl) rfl #[.slice A0 l0.length c0] (by rfl) rfl rfl (by (try simp only [List.map_toArray, List.map_cons, List.map_nil]); first | done | rfl) ?_
 with_reducible refine CK.out.mono ?_
 rintro e w49 ⟨v0_, rfl, ho0, hb0⟩
 refine ⟨_, rfl, ?_⟩
 have hb := hb0
 clear CK hb0
 have hW_ := hb
 replace BX0 := Aside0.mk ((hb.block _ (blk_lt BX0.out)).trans BX0.out)
 replace BX1 := Aside0.mk ((hb.block _ (blk_lt BX1.out)).trans BX1.out)
 replace HOo7 := Aside0.mk (HOo7.out.below hW_)
 replace HOo9 := Aside0.mk (HOo9.out.below hW_)
 replace HOo11 := Aside0.mk (HOo11.out.below hW_)
 replace HOo13 := Aside0.mk (HOo13.out.below hW_)
 replace HOo15 := Aside0.mk (HOo15.out.below hW_)
 replace HOo22 := Aside0.mk (HOo22.out.below hW_)
 replace HOo27 := Aside0.mk (HOo27.out.below hW_)
 replace HOo30 := Aside0.mk (HOo30.out.below hW_)
 replace HOo34 := Aside0.mk (HOo34.out.below hW_)
 replace HOo37 := Aside0.mk (HOo37.out.below hW_)
 obtain ⟨lo12, elo12⟩ : ∃ n_, w48.heap.size = n_ := ⟨_, rfl⟩
 obtain ⟨hi12, ehi12⟩ : ∃ n_, w49.heap.size = n_ := ⟨_, rfl⟩
 have hn_0 := OwnI.new (W0 := w) HB.out.size hb.size ho0
 rw [elo12, ehi12] at hn_0
 obtain ⟨Ao50, co50, rfl⟩ := hn_0.slice
 have HOo50 := Aside0.mk hn_0
 clear hn_0 ho0
 have SP12 := Aside0.mk (And.intro (by have h_ := hb.size; rw [elo12, ehi12] at h_; exact h_ : lo12 ≤ hi12) (And.intro (Nat.le_of_eq elo12 : w48.heap.size ≤ lo12) (Nat.le_of_eq ehi12.symm : hi12 ≤ w49.heap.size)))
 have SS26 := Aside0.mk (And.intro SP12.out SS25.out)
 clear SS25
 clear SP12
 replace HB := Aside0.mk (HB.out.trans (hW_.mono HB.out.size))
 clear hb hW_ elo12 ehi12
 refine hK.out _ _ ⟨(blk_cell BX0.out 0).trans rfl, (blk_cell BX0.out 1).trans rfl, (blk_cell BX0.out 2).trans rfl⟩ (fun hHeld => ?_)
 clear hK K
 refine norm_ (a' := ?_) ?_ ?_
 rotate_left
 · show Act.put _ (some 113) _ = _
   simp only [Act.put, List.setIfInBounds_toArray, List.set_cons_zero, List.set_cons_succ, i64_w, i32_w]
   rfl
 have CK := Aside0.mk (laws_toTask.calls K3 a1_0 a1_1 A1_2 c1_2 l1_2 r3 r4 r5 w49 (Kd.C_below HR1_2.out HB.out) HC1_2.out G3.out)
 refine one_ (i := 3) (N := some 115) #[true, true, true, true, true, false, false, false, false, false, false, false] rfl rfl (by kernel_rfl) (by decide) (fun K hK => ?_)
 refine goes_ Try.func17 (by kernel_rfl) rfl #[.agg #[.int .i64 a1_0, .int .i64 a1_1, .slice A1_2 l1_2.length c1_2]] (by rfl) rfl rfl (by (try simp only [List.map_toArray, List.map_cons, List.map_nil]); first | done | rfl) ?_
 with_reducible refine CK.out.mono ?_
 rintro e w51 ⟨v2_, rfl, ho0, hb0⟩
 refine ⟨_, rfl, ?_⟩
 have hb := hb0
 clear CK hb0
 have hW_ := hb
 replace BX0 := Aside0.mk ((hb.block _ (blk_lt BX0.out)).trans BX0.out)
 replace BX1 := Aside0.mk ((hb.block _ (blk_lt BX1.out)).trans BX1.out)
 replace HOo7 := Aside0.mk (HOo7.out.below hW_)
 replace HOo9 := Aside0.mk (HOo9.out.below hW_)
 replace HOo11 := Aside0.mk (HOo11.out.below hW_)
 replace HOo13 := Aside0.mk (HOo13.out.below hW_)
 replace HOo15 := Aside0.mk (HOo15.out.below hW_)
 replace HOo22 := Aside0.mk (HOo22.out.below hW_)
 replace HOo27 := Aside0.mk (HOo27.out.below hW_)
 replace HOo30 := Aside0.mk (HOo30.out.below hW_)
 replace HOo34 := Aside0.mk (HOo34.out.below hW_)
 replace HOo37 := Aside0.mk (HOo37.out.below hW_)
 replace HOo50 := Aside0.mk (HOo50.out.below hW_)
 obtain ⟨lo13, elo13⟩ : ∃ n_, w49.heap.size = n_ := ⟨_, rfl⟩
 obtain ⟨hi13, ehi13⟩ : ∃ n_, w51.heap.size = n_ := ⟨_, rfl⟩
 have hn_0 := OwnI.new (W0 := w) HB.out.size hb.size ho0
 rw [elo13, ehi13] at hn_0
 obtain ⟨Ao52, co52, rfl⟩ := hn_0.slice
 have HOo52 := Aside0.mk hn_0
 clear hn_0 ho0
 have SP13 := Aside0.mk (And.intro (by have h_ := hb.size; rw [elo13, ehi13] at h_; exact h_ : lo13 ≤ hi13) (And.intro (Nat.le_of_eq elo13 : w49.heap.size ≤ lo13) (Nat.le_of_eq ehi13.symm : hi13 ≤ w51.heap.size)))
 have SS27 := Aside0.mk (And.intro SP13.out SS26.out)
 clear SS26
 clear SP13
 replace HB := Aside0.mk (HB.out.trans (hW_.mono HB.out.size))
 clear hb hW_ elo13 ehi13
 refine hK.out _ _ ⟨(blk_cell BX0.out 0).trans rfl, (blk_cell BX0.out 1).trans rfl, (blk_cell BX0.out 2).trans rfl⟩ (fun hHeld => ?_)
 clear hK K
 refine norm_ (a' := ?_) ?_ ?_
 rotate_left
 · show Act.put _ (some 115) _ = _
   simp only [Act.put, List.setIfInBounds_toArray, List.set_cons_zero, List.set_cons_succ, i64_w, i32_w]
   rfl
 have CK := Aside0.mk (laws_toIntS.calls K4 A2 c2 l2 r6 w51 (Kd.C_below HR2.out HB.out) HC2.out G4.out)
 refine one_ (i := 5) (N := some 117) #[true, true, true, true, true, true, false, false, false, false, false, false] rfl rfl (by kernel_rfl) (by decide) (fun K hK => ?_)
 refine goes_ Try.func46 (by kernel_rfl) rfl #[.slice A2 l2.length c2] (by rfl) rfl rfl (by (try simp only [List.map_toArray, List.map_cons, List.map_nil]); first | done | rfl) ?_
 with_reducible refine CK.out.mono ?_
 rintro e w53 ⟨v0_, rfl, ho0, hb0⟩
 refine ⟨_, rfl, ?_⟩
 have hb := hb0
 clear CK hb0
 have hW_ := hb
 replace BX0 := Aside0.mk ((hb.block _ (blk_lt BX0.out)).trans BX0.out)
 replace BX1 := Aside0.mk ((hb.block _ (blk_lt BX1.out)).trans BX1.out)
 replace HOo7 := Aside0.mk (HOo7.out.below hW_)
 replace HOo9 := Aside0.mk (HOo9.out.below hW_)
 replace HOo11 := Aside0.mk (HOo11.out.below hW_)
 replace HOo13 := Aside0.mk (HOo13.out.below hW_)
 replace HOo15 := Aside0.mk (HOo15.out.below hW_)
 replace HOo22 := Aside0.mk (HOo22.out.below hW_)
 replace HOo27 := Aside0.mk (HOo27.out.below hW_)
 replace HOo30 := Aside0.mk (HOo30.out.below hW_)
 replace HOo34 := Aside0.mk (HOo34.out.below hW_)
 replace HOo37 := Aside0.mk (HOo37.out.below hW_)
 replace HOo50 := Aside0.mk (HOo50.out.below hW_)
 replace HOo52 := Aside0.mk (HOo52.out.below hW_)
 obtain ⟨lo14, elo14⟩ : ∃ n_, w51.heap.size = n_ := ⟨_, rfl⟩
 obtain ⟨hi14, ehi14⟩ : ∃ n_, w53.heap.size = n_ := ⟨_, rfl⟩
 have hn_0 := OwnI.new (W0 := w) HB.out.size hb.size ho0
 rw [elo14, ehi14] at hn_0
 obtain ⟨Ao54, co54, rfl⟩ := hn_0.slice
 have HOo54 := Aside0.mk hn_0
 clear hn_0 ho0
 have SP14 := Aside0.mk (And.intro (by have h_ := hb.size; rw [elo14, ehi14] at h_; exact h_ : lo14 ≤ hi14) (And.intro (Nat.le_of_eq elo14 : w51.heap.size ≤ lo14) (Nat.le_of_eq ehi14.symm : hi14 ≤ w53.heap.size)))
 have SS28 := Aside0.mk (And.intro SP14.out SS27.out)
 clear SS27
 clear SP14
 replace HB := Aside0.mk (HB.out.trans (hW_.mono HB.out.size))
 clear hb hW_ elo14 ehi14
 refine hK.out _ _ ⟨(blk_cell BX0.out 0).trans rfl, (blk_cell BX0.out 1).trans rfl, (blk_cell BX0.out 2).trans rfl⟩ (fun hHeld => ?_)
 clear hK K
 refine norm_ (a' := ?_) ?_ ?_
 rotate_left
 · show Act.put _ (some 117) _ = _
   simp only [Act.put, List.setIfInBounds_toArray, List.set_cons_zero, List.set_cons_succ, i64_w, i32_w]
   rfl
 have CK := Aside0.mk (impl_HiddenOf.calls K6 Ao50 co50 r2 r3 r4 Ao52 co52 r5 Ao54 co54 r6 r7 r8 w53 HOo50.out.C HOo50.out.room HOo52.out.C HOo52.out.room HOo54.out.C HOo54.out.room G6.out)
 refine one_ (i := 6) (N := some 118) #[true, true, true, true, true, true, true, false, false, false, false, false] rfl rfl (by kernel_rfl) (by decide) (fun K hK => ?_)
 refine goes_ Try.func47 (by kernel_rfl) rfl #[.slice Ao50 r2.length co50, .agg #[.int .i64 r3, .int .i64 r4, .slice Ao52 r5.length co52], .slice Ao54 r6.length co54] (by rfl) rfl rfl (by (try simp only [List.map_toArray, List.map_cons, List.map_nil]); first | done | rfl) ?_
 with_reducible refine CK.out.mono ?_
 rintro e w55 ⟨v0_, rfl, ho0, hb0⟩
 refine ⟨_, rfl, ?_⟩
 have hb := hb0
 clear CK hb0
 have hW_ := hb
 replace BX0 := Aside0.mk ((hb.block _ (blk_lt BX0.out)).trans BX0.out)
 replace BX1 := Aside0.mk ((hb.block _ (blk_lt BX1.out)).trans BX1.out)
 replace HOo7 := Aside0.mk (HOo7.out.below hW_)
 replace HOo9 := Aside0.mk (HOo9.out.below hW_)
 replace HOo11 := Aside0.mk (HOo11.out.below hW_)
 replace HOo13 := Aside0.mk (HOo13.out.below hW_)
 replace HOo15 := Aside0.mk (HOo15.out.below hW_)
 replace HOo22 := Aside0.mk (HOo22.out.below hW_)
 replace HOo27 := Aside0.mk (HOo27.out.below hW_)
 replace HOo30 := Aside0.mk (HOo30.out.below hW_)
 replace HOo34 := Aside0.mk (HOo34.out.below hW_)
 replace HOo37 := Aside0.mk (HOo37.out.below hW_)
 replace HOo50 := Aside0.mk (HOo50.out.below hW_)
 replace HOo52 := Aside0.mk (HOo52.out.below hW_)
 replace HOo54 := Aside0.mk (HOo54.out.below hW_)
 obtain ⟨lo15, elo15⟩ : ∃ n_, w53.heap.size = n_ := ⟨_, rfl⟩
 obtain ⟨hi15, ehi15⟩ : ∃ n_, w55.heap.size = n_ := ⟨_, rfl⟩
 have hn_0 := OwnI.new (W0 := w) HB.out.size hb.size ho0
 rw [elo15, ehi15] at hn_0
 obtain ⟨Ao56, co56, rfl⟩ := hn_0.slice
 have HOo56 := Aside0.mk hn_0
 clear hn_0 ho0
 have SP15 := Aside0.mk (And.intro (by have h_ := hb.size; rw [elo15, ehi15] at h_; exact h_ : lo15 ≤ hi15) (And.intro (Nat.le_of_eq elo15 : w53.heap.size ≤ lo15) (Nat.le_of_eq ehi15.symm : hi15 ≤ w55.heap.size)))
 have SS29 := Aside0.mk (And.intro SP15.out SS28.out)
 clear SS28
 clear SP15
 replace HB := Aside0.mk (HB.out.trans (hW_.mono HB.out.size))
 clear hb hW_ elo15 ehi15
 refine hK.out _ _ ⟨(blk_cell BX0.out 0).trans rfl, (blk_cell BX0.out 1).trans rfl, (blk_cell BX0.out 2).trans rfl⟩ (fun hHeld => ?_)
 clear hK K
 refine norm_ (a' := ?_) ?_ ?_
 rotate_left
 · show Act.put _ (some 118) _ = _
   simp only [Act.put, List.setIfInBounds_toArray, List.set_cons_zero, List.set_cons_succ, i64_w, i32_w]
   rfl
 refine pure_ (i := 7) (N := some 111) (v := ?_) (a' := ?_) #[true, true, true, true, true, true, true, true, false, false, false, false] rfl rfl (by kernel_rfl) (fun _ _ _ h => h) (Or.inl ⟨by rfl, ?_⟩) ?_ ?_
 rotate_left
 · intro w'
   go_simp
   with_reducible rfl
 rotate_left
 · simp only [Act.put, List.setIfInBounds_toArray, List.set_cons_zero, List.set_cons_succ, i64_w, i32_w]
   rfl
 refine pure_ (i := 8) (N := some 119) (v := ?_) (a' := ?_) #[true, true, true, true, true, true, true, true, true, false, false, false] rfl rfl (by kernel_rfl) (fun _ _ _ h => h) (Or.inl ⟨by rfl, ?_⟩) ?_ ?_
 rotate_left
 · intro w'
   go_simp
   with_reducible rfl
 rotate_left
 · simp only [Act.put, List.setIfInBounds_toArray, List.set_cons_zero, List.set_cons_succ, i64_w, i32_w]
   rfl
 refine pure_ (i := 9) (N := some 120) (v := ?_) (a' := ?_) #[true, true, true, true, true, true, true, true, true, true, false, false] rfl rfl (by kernel_rfl) (fun _ _ _ h => h) (Or.inl ⟨by rfl, ?_⟩) ?_ ?_
 rotate_left
 · intro w'
   go_simp
   with_reducible rfl
 rotate_left
 · simp only [Act.put, List.setIfInBounds_toArray, List.set_cons_zero, List.set_cons_succ, i64_w, i32_w]
   rfl
 refine pure_ (i := 10) (N := some 18) (v := ?_) (a' := ?_) #[true, true, true, true, true, true, true, true, true, true, true, false] rfl rfl (by kernel_rfl) (fun _ _ _ h => h) (Or.inl ⟨by rfl, ?_⟩) ?_ ?_
 rotate_left
 · intro w'
   go_simp
   with_reducible rfl
 rotate_left
 · simp only [Act.put, List.setIfInBounds_toArray, List.set_cons_zero, List.set_cons_succ, i64_w, i32_w]
   rfl
 refine pure_ (i := 11) (N := some 19) (v := ?_) (a' := ?_) #[true, true, true, true, true, true, true, true, true, true, true, true] rfl rfl (by kernel_rfl) (fun _ _ _ h => h) (Or.inl ⟨by rfl, ?_⟩) ?_ ?_
 rotate_left
 · intro w'
   go_simp
   with_reducible rfl
 rotate_left
 · simp only [Act.put, List.setIfInBounds_toArray, List.set_cons_zero, List.set_cons_succ, i64_w, i32_w]
   rfl
 refine done_ (by kernel_rfl) ?_
 clear hHeld
 have CK := Aside0.mk (laws_eqIntS.calls K7 Ao56 co56 r7 Ao13 co13 r7 true w55 HOo56.out.C HOo56.out.room HOo13.out.C HOo13.out.room G7.out)
 go_wp2_with fail
 with_reducible refine CK.out.mono ?_
 rintro e w57 ⟨rfl, hb0⟩
 have hb := hb0.below
 clear CK hb0
 have hW_ := hb
 have SZ15 := Aside0.mk hb.size
 have SS30 := Aside0.mk (And.intro SZ15.out SS29.out)
 clear SS29
 clear SZ15
 replace BX0 := Aside0.mk ((hb.block _ (blk_lt BX0.out)).trans BX0.out)
 replace BX1 := Aside0.mk ((hb.block _ (blk_lt BX1.out)).trans BX1.out)
 replace HOo7 := Aside0.mk (HOo7.out.below hW_)
 replace HOo9 := Aside0.mk (HOo9.out.below hW_)
 replace HOo11 := Aside0.mk (HOo11.out.below hW_)
 replace HOo13 := Aside0.mk (HOo13.out.below hW_)
 replace HOo15 := Aside0.mk (HOo15.out.below hW_)
 replace HOo22 := Aside0.mk (HOo22.out.below hW_)
 replace HOo27 := Aside0.mk (HOo27.out.below hW_)
 replace HOo30 := Aside0.mk (HOo30.out.below hW_)
 replace HOo34 := Aside0.mk (HOo34.out.below hW_)
 replace HOo37 := Aside0.mk (HOo37.out.below hW_)
 replace HOo50 := Aside0.mk (HOo50.out.below hW_)
 replace HOo52 := Aside0.mk (HOo52.out.below hW_)
 replace HOo54 := Aside0.mk (HOo54.out.below hW_)
 replace HOo56 := Aside0.mk (HOo56.out.below hW_)
 replace HB := Aside0.mk (HB.out.trans (hW_.mono HB.out.size))
 clear hb hW_
 have CK0 := laws_heldIntS.calls K14 Ao27 co27 m13 1 k14 w57 HOo27.out.C HOo27.out.room G14.out
 rw [HLo27.out] at CK0
 have CK := Aside0.mk CK0
 clear CK0
 go_wp2_with fail
 with_reducible refine CK.out.mono ?_
 rintro e w58 ⟨rfl, hb0⟩
 have hb := hb0.below
 clear CK hb0
 have hW_ := hb
 have SZ16 := Aside0.mk hb.size
 have SS31 := Aside0.mk (And.intro SZ16.out SS30.out)
 clear SS30
 clear SZ16
 replace BX0 := Aside0.mk ((hb.block _ (blk_lt BX0.out)).trans BX0.out)
 replace BX1 := Aside0.mk ((hb.block _ (blk_lt BX1.out)).trans BX1.out)
 replace HOo7 := Aside0.mk (HOo7.out.below hW_)
 replace HOo9 := Aside0.mk (HOo9.out.below hW_)
 replace HOo11 := Aside0.mk (HOo11.out.below hW_)
 replace HOo13 := Aside0.mk (HOo13.out.below hW_)
 replace HOo15 := Aside0.mk (HOo15.out.below hW_)
 replace HOo22 := Aside0.mk (HOo22.out.below hW_)
 replace HOo27 := Aside0.mk (HOo27.out.below hW_)
 replace HOo30 := Aside0.mk (HOo30.out.below hW_)
 replace HOo34 := Aside0.mk (HOo34.out.below hW_)
 replace HOo37 := Aside0.mk (HOo37.out.below hW_)
 replace HOo50 := Aside0.mk (HOo50.out.below hW_)
 replace HOo52 := Aside0.mk (HOo52.out.below hW_)
 replace HOo54 := Aside0.mk (HOo54.out.below hW_)
 replace HOo56 := Aside0.mk (HOo56.out.below hW_)
 replace HB := Aside0.mk (HB.out.trans (hW_.mono HB.out.size))
 clear hb hW_
 go_wp2
 go_ret
 exact ⟨rfl, HB.out⟩
set_option maxHeartbeats 8000000 in
set_option maxRecDepth 100000 in
theorem lw_FnExactHiddenOf_e0 (A0 : Option Addr) (c0 : Nat) (l0 : List (Int)) (a1_0 : Int) (a1_1 : Int) (A1_2 : Option Addr) (c1_2 : Nat) (l1_2 : List (S24)) (A2 : Option Addr) (c2 : Nat) (l2 : List (Int)) (w : World) (hr0 : Kd.C (Kd.int .i64) w A0 l0.length l0) (hc0 : l0.length ≤ c0) (hr1_2 : Kd.C k24 w A1_2 l1_2.length l1_2) (hc1_2 : l1_2.length ≤ c1_2) (hr2 : Kd.C (Kd.int .i64) w A2 l2.length l2) (hc2 : l2.length ≤ c2) (hl_l0 : (l0.length : Int) > 1048576)   :
   Calls Try.prog 8 #[.slice A0 l0.length c0, .agg #[.int .i64 a1_0, .int .i64 a1_1, .slice A1_2 l1_2.length c1_2], .slice A2 l2.length c2] w fun e w' => e = .returned (.bool true) ∧ Below w.heap.size w w' := by
 have hu24 := Try.underlying24
 have hu30 := Try.underlying30
 have HR0 := Aside0.mk hr0
 have HC0 := Aside0.mk hc0
 clear hr0 hc0
 have HR1_2 := Aside0.mk hr1_2
 have HC1_2 := Aside0.mk hc1_2
 clear hr1_2 hc1_2
 have HR2 := Aside0.mk hr2
 have HC2 := Aside0.mk hc2
 clear hr2 hc2
 have hdl_l0 : decide ((l0.length : Int) > 1048576) = true := decide_eq_true (by omega)
 clear hl_l0
 have HB := Aside0.mk (Below.refl w.heap.size w)
 go_enter Try.func8, Try.ntmps8
 go_wp2
 go_ret
 exact ⟨rfl, (below_alloc HB.out _)⟩
set_option maxHeartbeats 8000000 in
set_option maxRecDepth 100000 in
theorem lw_FnExactHiddenOf_e1 (A0 : Option Addr) (c0 : Nat) (l0 : List (Int)) (a1_0 : Int) (a1_1 : Int) (A1_2 : Option Addr) (c1_2 : Nat) (l1_2 : List (S24)) (A2 : Option Addr) (c2 : Nat) (l2 : List (Int)) (w : World) (hr0 : Kd.C (Kd.int .i64) w A0 l0.length l0) (hc0 : l0.length ≤ c0) (hr1_2 : Kd.C k24 w A1_2 l1_2.length l1_2) (hc1_2 : l1_2.length ≤ c1_2) (hr2 : Kd.C (Kd.int .i64) w A2 l2.length l2) (hc2 : l2.length ≤ c2) (hl_l0 : (l0.length : Int) ≤ 1048576) (hl_l2 : (l2.length : Int) > 1048576)   :
   Calls Try.prog 8 #[.slice A0 l0.length c0, .agg #[.int .i64 a1_0, .int .i64 a1_1, .slice A1_2 l1_2.length c1_2], .slice A2 l2.length c2] w fun e w' => e = .returned (.bool true) ∧ Below w.heap.size w w' := by
 have hu24 := Try.underlying24
 have hu30 := Try.underlying30
 have HR0 := Aside0.mk hr0
 have HC0 := Aside0.mk hc0
 clear hr0 hc0
 have HR1_2 := Aside0.mk hr1_2
 have HC1_2 := Aside0.mk hc1_2
 clear hr1_2 hc1_2
 have HR2 := Aside0.mk hr2
 have HC2 := Aside0.mk hc2
 clear hr2 hc2
 have hdl_l0 : decide ((l0.length : Int) > 1048576) = false := decide_eq_false (by omega)
 have hdl_l2 : decide ((l2.length : Int) > 1048576) = true := decide_eq_true (by omega)
 clear hl_l0 hl_l2
 have HB := Aside0.mk (Below.refl w.heap.size w)
 go_enter Try.func8, Try.ntmps8
 go_wp2
 go_ret
 exact ⟨rfl, (below_alloc HB.out _)⟩
set_option maxHeartbeats 8000000 in
set_option maxRecDepth 100000 in
theorem lw_FnExactHiddenOf_e2 (A0 : Option Addr) (c0 : Nat) (l0 : List (Int)) (a1_0 : Int) (a1_1 : Int) (A1_2 : Option Addr) (c1_2 : Nat) (l1_2 : List (S24)) (A2 : Option Addr) (c2 : Nat) (l2 : List (Int)) (w : World) (hr0 : Kd.C (Kd.int .i64) w A0 l0.length l0) (hc0 : l0.length ≤ c0) (hr1_2 : Kd.C k24 w A1_2 l1_2.length l1_2) (hc1_2 : l1_2.length ≤ c1_2) (hr2 : Kd.C (Kd.int .i64) w A2 l2.length l2) (hc2 : l2.length ≤ c2) (hl_l0 : (l0.length : Int) ≤ 1048576) (hl_l2 : (l2.length : Int) ≤ 1048576) (r1 : Int) (K1 : Nat) (H1 : laws_szTask.f K1 a1_0 a1_1 l1_2 1048576 = some r1) (hx_1 : r1 < 0) :
   Calls Try.prog 8 #[.slice A0 l0.length c0, .agg #[.int .i64 a1_0, .int .i64 a1_1, .slice A1_2 l1_2.length c1_2], .slice A2 l2.length c2] w fun e w' => e = .returned (.bool true) ∧ Below w.heap.size w w' := by
 have hu24 := Try.underlying24
 have hu30 := Try.underlying30
 have HR0 := Aside0.mk hr0
 have HC0 := Aside0.mk hc0
 clear hr0 hc0
 have HR1_2 := Aside0.mk hr1_2
 have HC1_2 := Aside0.mk hc1_2
 clear hr1_2 hc1_2
 have HR2 := Aside0.mk hr2
 have HC2 := Aside0.mk hc2
 clear hr2 hc2
 have G1 := Aside0.mk H1
 clear H1
 have HX1 := Aside0.mk hx_1
 have hd_1 : decide (r1 < 0) = true := decide_eq_true (by omega)
 have hdl_l0 : decide ((l0.length : Int) > 1048576) = false := decide_eq_false (by omega)
 have hdl_l2 : decide ((l2.length : Int) > 1048576) = false := decide_eq_false (by omega)
 clear hx_1 hl_l0 hl_l2
 have HB := Aside0.mk (Below.refl w.heap.size w)
 go_enter Try.func8, Try.ntmps8
 have hx1 : (w.alloc (.cells #[.int .i64 a1_0, .int .i64 a1_1, .slice A1_2 l1_2.length c1_2] 24)).cell? ⟨w.heap.size, 0, none⟩ = some (.int .i64 a1_0) := (blk_cell (show (w.alloc (.cells #[.int .i64 a1_0, .int .i64 a1_1, .slice A1_2 l1_2.length c1_2] 24)).heap[w.heap.size]? = some (.cells #[.int .i64 a1_0, .int .i64 a1_1, .slice A1_2 l1_2.length c1_2] 24 (0, 0)) from by have h_ := heap_alloc_new w (.cells #[.int .i64 a1_0, .int .i64 a1_1, .slice A1_2 l1_2.length c1_2] 24); simpa using h_) 0).trans rfl
 have hx2 : (w.alloc (.cells #[.int .i64 a1_0, .int .i64 a1_1, .slice A1_2 l1_2.length c1_2] 24)).cell? ⟨w.heap.size, 1, none⟩ = some (.int .i64 a1_1) := (blk_cell (show (w.alloc (.cells #[.int .i64 a1_0, .int .i64 a1_1, .slice A1_2 l1_2.length c1_2] 24)).heap[w.heap.size]? = some (.cells #[.int .i64 a1_0, .int .i64 a1_1, .slice A1_2 l1_2.length c1_2] 24 (0, 0)) from by have h_ := heap_alloc_new w (.cells #[.int .i64 a1_0, .int .i64 a1_1, .slice A1_2 l1_2.length c1_2] 24); simpa using h_) 1).trans rfl
 have hx3 : (w.alloc (.cells #[.int .i64 a1_0, .int .i64 a1_1, .slice A1_2 l1_2.length c1_2] 24)).cell? ⟨w.heap.size, 2, none⟩ = some (.slice A1_2 l1_2.length c1_2) := (blk_cell (show (w.alloc (.cells #[.int .i64 a1_0, .int .i64 a1_1, .slice A1_2 l1_2.length c1_2] 24)).heap[w.heap.size]? = some (.cells #[.int .i64 a1_0, .int .i64 a1_1, .slice A1_2 l1_2.length c1_2] 24 (0, 0)) from by have h_ := heap_alloc_new w (.cells #[.int .i64 a1_0, .int .i64 a1_1, .slice A1_2 l1_2.length c1_2] 24); simpa using h_) 2).trans rfl
 have CK := Aside0.mk (laws_szTask.calls K1 a1_0 a1_1 A1_2 c1_2 l1_2 1048576 r1 (w.alloc (.cells #[.int .i64 a1_0, .int .i64 a1_1, .slice A1_2 l1_2.length c1_2] 24)) (Kd.C_below HR1_2.out (below_alloc HB.out _)) HC1_2.out G1.out)
 go_wp2_with fail
 with_reducible refine CK.out.mono ?_
 rintro e w4 ⟨rfl, hb0⟩
 have hb := hb0
 clear CK hb0
 clear hx1 hx2 hx3
 have hW_ : Below w.heap.size w w4 := (below_alloc (Below.refl w.heap.size w) _).trans (hb.mono (below_alloc (Below.refl w.heap.size w) _).size)
 have SZ1 := Aside0.mk (Nat.le_trans (Nat.succ_le_of_lt (blk_lt (show (w.alloc (.cells #[.int .i64 a1_0, .int .i64 a1_1, .slice A1_2 l1_2.length c1_2] 24)).heap[w.heap.size]? = some (.cells #[.int .i64 a1_0, .int .i64 a1_1, .slice A1_2 l1_2.length c1_2] 24 (0, 0)) from by have h_ := heap_alloc_new w (.cells #[.int .i64 a1_0, .int .i64 a1_1, .slice A1_2 l1_2.length c1_2] 24); simpa using h_)) : w.heap.size + 1 ≤ (w.alloc (.cells #[.int .i64 a1_0, .int .i64 a1_1, .slice A1_2 l1_2.length c1_2] 24)).heap.size) hb.size)
 have SS1 := SZ1
 clear SZ1
 have BX0 := Aside0.mk ((hb.block _ (blk_lt (show (w.alloc (.cells #[.int .i64 a1_0, .int .i64 a1_1, .slice A1_2 l1_2.length c1_2] 24)).heap[w.heap.size]? = some (.cells #[.int .i64 a1_0, .int .i64 a1_1, .slice A1_2 l1_2.length c1_2] 24 (0, 0)) from by have h_ := heap_alloc_new w (.cells #[.int .i64 a1_0, .int .i64 a1_1, .slice A1_2 l1_2.length c1_2] 24); simpa using h_))).trans (show (w.alloc (.cells #[.int .i64 a1_0, .int .i64 a1_1, .slice A1_2 l1_2.length c1_2] 24)).heap[w.heap.size]? = some (.cells #[.int .i64 a1_0, .int .i64 a1_1, .slice A1_2 l1_2.length c1_2] 24 (0, 0)) from by have h_ := heap_alloc_new w (.cells #[.int .i64 a1_0, .int .i64 a1_1, .slice A1_2 l1_2.length c1_2] 24); simpa using h_))
 replace HB := Aside0.mk (HB.out.trans (hW_.mono HB.out.size))
 clear hb hW_
 go_wp2
 go_ret
 exact ⟨rfl, HB.out⟩
end Go.Proofs.Ytgbjbpjmbghlbaa.G
end
section
namespace Go.Proofs.Ytgbjbpjmbghlbaa.G
open Go.RowKit Go.Proofs.YtgbjbpjmbghlbaaW.PrintWords
set_option linter.unusedVariables false
set_option linter.unusedSimpArgs false
def Rep (D : List Int → Int → Int → TR) (x : Int) (fs : List Fk) : Prop :=
  (∀ (pre post : List Int) (lk : Int), D (pre ++ (fs.map (·.f1) ++ post)) (pre.length : Int) lk = (x, true, ((pre.length + fs.length : Nat) : Int), lk)) ∧
  (∀ (pre : List Int) (m : Nat) (f : Fk) (lk : Int), fs[m]? = some f → D (pre ++ (fs.map (·.f1)).take m) (pre.length : Int) lk = (0, false, ((pre.length + m : Nat) : Int), f.f0))
theorem rep_get (n x : Int) : Rep (fun got a lk => getT got a lk n) x [⟨n, x⟩] := by
  refine ⟨fun pre post lk => ?_, fun pre m f lk hf => ?_⟩
  · have e : rd (pre ++ ([(⟨n, x⟩ : Fk)].map (·.f1) ++ post)) (pre.length : Int) = x := by
      simp [rd, List.getD_eq_getElem?_getD]
    show getT (pre ++ ([(⟨n, x⟩ : Fk)].map (·.f1) ++ post)) (pre.length : Int) lk n = _
    unfold getT
    rw [if_neg (by simp only [List.length_append, List.map_cons, List.map_nil, List.length_cons, List.length_nil]; omega), e]
    rfl
  · match m, hf with
    | 0, hf =>
      simp only [List.getElem?_cons_zero, Option.some.injEq] at hf
      subst hf
      unfold getT
      simp
    | m + 1, hf => simp at hf
theorem rep_pure (x : Int) : Rep (fun _ a lk => (x, true, a, lk)) x [] := ⟨fun pre post lk => rfl, fun pre m f lk hf => by simp at hf⟩
theorem rep_seq {D : List Int → Int → Int → TR} {E : List Int → Int → Int → Int → TR} {v u : Int} {fs gs : List Fk} (h : Rep D v fs) (g : Rep (fun got a lk => E got v a lk) u gs) : Rep (fun got a lk => seqT (D got a lk) (E got)) u (fs ++ gs) := by
  refine ⟨fun pre post lk => ?_, fun pre m f lk hf => ?_⟩
  · have e1 := h.1 pre (gs.map (·.f1) ++ post) lk
    have e2 := g.1 (pre ++ fs.map (·.f1)) post lk
    simp only at e2
    rw [List.map_append, List.append_assoc]
    simp only [e1, seqT, if_true]
    rw [show pre ++ (fs.map (·.f1) ++ (gs.map (·.f1) ++ post)) = (pre ++ fs.map (·.f1)) ++ (gs.map (·.f1) ++ post) by simp]
    rw [show ((pre.length + fs.length : Nat) : Int) = ((pre ++ fs.map (·.f1)).length : Int) by simp, e2]
    simp only [List.length_append, List.length_map]
    rw [Nat.add_assoc]
  · rw [List.map_append]
    by_cases hm : m < fs.length
    · rw [List.getElem?_append_left hm] at hf
      rw [List.take_append_of_le_length (by rw [List.length_map]; omega)]
      simp only [h.2 pre m f lk hf, seqT, Bool.false_eq_true, if_false]
    · rw [List.getElem?_append_right (by omega)] at hf
      have e0 : (fs.map (·.f1) ++ gs.map (·.f1)).take m = fs.map (·.f1) ++ (gs.map (·.f1)).take (m - fs.length) := by
        rw [List.take_append, List.length_map, List.take_of_length_le (by rw [List.length_map]; omega)]
      rw [e0]
      have e1 := h.1 pre ((gs.map (·.f1)).take (m - fs.length)) lk
      have e2 := g.2 (pre ++ fs.map (·.f1)) (m - fs.length) f lk hf
      simp only at e2
      simp only [e1, seqT, if_true]
      rw [← List.append_assoc]
      rw [show ((pre.length + fs.length : Nat) : Int) = ((pre ++ fs.map (·.f1)).length : Int) by simp, e2]
      simp only [List.length_append, List.length_map]
      rw [show pre.length + fs.length + (m - fs.length) = pre.length + m by omega]
theorem rep_congr {D D' : List Int → Int → Int → TR} {x : Int} {fs : List Fk} (h : Rep D x fs) (e : D' = D) : Rep D' x fs := e ▸ h
theorem rep_doT (vs : List Int) {t : Tk} (h : Fits t) : Rep (fun got a lk => doT got t a lk) (runT vs t).1 (runT vs t).2 := by
  induction h with
  | num n h0 h1 => rw [runT_num]; exact rep_congr (rep_pure n) (by funext got a lk; exact doT_num got n a lk)
  | get n h0 h1 => rw [runT_get]; exact rep_congr (rep_get n _) (by funext got a lk; exact doT_get got n a lk)
  | add x y _ _ ihx ihy =>
    rw [runT_add]
    have h := rep_seq (E := fun got v a lk => seqT (doT got y a lk) fun u a lk => ((v + u) % 97, true, a, lk)) ihx (rep_seq (E := fun got u a lk => (((runT vs x).1 + u) % 97, true, a, lk)) ihy (rep_pure _))
    rw [List.append_nil] at h
    exact rep_congr h (by funext got a lk; exact doT_add got x y a lk)
  | mul x y _ _ ihx ihy =>
    rw [runT_mul]
    have h := rep_seq (E := fun got v a lk => seqT (doT got y a lk) fun u a lk => ((v * u) % 97, true, a, lk)) ihx (rep_seq (E := fun got u a lk => (((runT vs x).1 * u) % 97, true, a, lk)) ihy (rep_pure _))
    rw [List.append_nil] at h
    exact rep_congr h (by funext got a lk; exact doT_mul got x y a lk)
  | iff x y z _ _ _ ihx ihy ihz =>
    by_cases hv : (runT vs x).1 = 0
    · rw [runT_if0 vs x y z hv]
      have h := rep_seq (E := fun got v a lk => if v = 0 then doT got z a lk else doT got y a lk) ihx (rep_congr ihz (by funext got a lk; rw [if_pos hv]))
      exact rep_congr h (by funext got a lk; exact doT_if got x y z a lk)
    · rw [runT_if1 vs x y z hv]
      have h := rep_seq (E := fun got v a lk => if v = 0 then doT got z a lk else doT got y a lk) ihx (rep_congr ihy (by funext got a lk; rw [if_neg hv]))
      exact rep_congr h (by funext got a lk; exact doT_if got x y z a lk)
  | «at» n h0 h1 x _ ihx =>
    rw [runT_at]
    have h := rep_seq (E := fun got v a lk => getT got a lk ((n + v) % 10)) ihx (rep_get ((n + (runT vs x).1) % 10) (atV vs ((n + (runT vs x).1) % 10)))
    exact rep_congr h (by funext got a lk; exact doT_at got n x a lk)
theorem runT_keys {vs : List Int} (hv : vs.all isVal = true) {t : Tk} (h : Fits t) : ∀ f ∈ (runT vs t).2, 0 ≤ f.f0 ∧ f.f0 ≤ 9 ∧ f.f1 = atV vs f.f0 := by
  induction h with
  | num n h0 h1 => rw [runT_num]; intro f hf; cases hf
  | get n h0 h1 =>
    rw [runT_get]
    intro f hf
    simp only [List.mem_singleton] at hf
    subst hf
    exact ⟨h0, h1, rfl⟩
  | add x y _ _ ihx ihy =>
    rw [runT_add]
    intro f hf
    rcases List.mem_append.1 hf with hf | hf
    · exact ihx f hf
    · exact ihy f hf
  | mul x y _ _ ihx ihy =>
    rw [runT_mul]
    intro f hf
    rcases List.mem_append.1 hf with hf | hf
    · exact ihx f hf
    · exact ihy f hf
  | iff x y z _ _ _ ihx ihy ihz =>
    by_cases hz : (runT vs x).1 = 0
    · rw [runT_if0 vs x y z hz]
      intro f hf
      rcases List.mem_append.1 hf with hf | hf
      · exact ihx f hf
      · exact ihz f hf
    · rw [runT_if1 vs x y z hz]
      intro f hf
      rcases List.mem_append.1 hf with hf | hf
      · exact ihx f hf
      · exact ihy f hf
  | «at» n h0 h1 x hx ihx =>
    rw [runT_at]
    have hval := runT_val hv hx
    intro f hf
    rcases List.mem_append.1 hf with hf | hf
    · exact ihx f hf
    · simp only [List.mem_singleton] at hf
      subst hf
      refine ⟨?_, ?_, rfl⟩ <;> simp only <;> omega
end Go.Proofs.Ytgbjbpjmbghlbaa.G
end
section
namespace Go.Proofs.Ytgbjbpjmbghlbaa.G
open Go.RowKit Go.Proofs.YtgbjbpjmbghlbaaW.PrintWords
set_option linter.unusedVariables false
set_option linter.unusedSimpArgs false
theorem isKey_ev (a : Int) : impl_isKey.f a = some (decide (0 ≤ a ∧ a < 10)) := by
  unfold impl_isKey.f
  by_cases h : a ≥ 0
  · rw [if_pos h]; simp only [ge_iff_le] at h; simp [h]
  · rw [if_neg h]; simp only [ge_iff_le] at h; simp [h]
theorem isValue_ev (a : Int) : impl_isValue.f a = some (decide (0 ≤ a ∧ a ≤ 96)) := by
  unfold impl_isValue.f
  by_cases h : a ≥ 0
  · rw [if_pos h]; simp only [ge_iff_le] at h; simp [h]
  · rw [if_neg h]; simp only [ge_iff_le] at h; simp [h]
theorem ite_prop (P : Prop) [Decidable P] (c : Bool) : (if P then some c else some false) = some (decide P && c) := by by_cases h : P <;> simp [h]
theorem fits_now (k : Nat) (a b : Int) (l : List Tk) : impl_Task_fits.f (k + 1) a b l = some (shapeB a b l.length) := by
  unfold impl_Task_fits.f
  have e0 : ∀ m : Nat, ((l.length : Int) == (m : Int)) = decide (l.length = m) := fun m => by rw [Bool.eq_iff_iff]; simp only [beq_iff_eq, decide_eq_true_eq]; omega
  have e1 : ((l.length : Int) == 0) = decide (l.length = 0) := e0 0
  have e2 : ((l.length : Int) == 1) = decide (l.length = 1) := e0 1
  have e3 : ((l.length : Int) == 2) = decide (l.length = 2) := e0 2
  have e4 : ((l.length : Int) == 3) = decide (l.length = 3) := e0 3
  simp only [impl_Task_fits.j0, isKey_ev, isValue_ev, Option.bind_some, e1, e2, e3, e4, ite_prop, Bool.decide_eq_true]
  clear e0 e1 e2 e3 e4
  unfold shapeB
  by_cases h0 : a = 0
  · simp only [h0, if_true]
  by_cases h1 : a = 1
  · simp only [h0, h1, if_true, if_false, show ¬ ((1 : Int) = 0) by decide]
  by_cases h2 : a = 2
  · simp only [h2, if_true, if_false, show ¬ ((2 : Int) = 0) by decide, show ¬ ((2 : Int) = 1) by decide, show ((2 : Int) == 2) = true by decide]
  by_cases h3 : a = 3
  · simp only [h3, if_true, if_false, show ¬ ((3 : Int) = 0) by decide, show ¬ ((3 : Int) = 1) by decide, show ¬ ((3 : Int) = 2) by decide, show ((3 : Int) == 3) = true by decide]
  have h3b : (a == 3) = false := beq_eq_false_iff_ne.mpr h3
  by_cases h4 : a = 4
  · simp only [h4, if_true, if_false, show ¬ ((4 : Int) = 0) by decide, show ¬ ((4 : Int) = 1) by decide, show ¬ ((4 : Int) = 2) by decide, show ¬ ((4 : Int) = 3) by decide, show ((4 : Int) == 3) = false by decide, Bool.false_eq_true, decide_true, Bool.true_and]
  by_cases h5 : a = 5
  · simp only [h5, if_true, if_false, show ¬ ((5 : Int) = 0) by decide, show ¬ ((5 : Int) = 1) by decide, show ¬ ((5 : Int) = 2) by decide, show ¬ ((5 : Int) = 3) by decide, show ¬ ((5 : Int) = 4) by decide, show ((5 : Int) == 3) = false by decide, Bool.false_eq_true, decide_true, Bool.true_and]
  simp only [h0, h1, h2, h3, h4, h5, h3b, if_false, Bool.false_eq_true, decide_false, Bool.false_and]
theorem fits_ev (a b : Int) (l : List Tk) : Ev (fun k => impl_Task_fits.f k a b l) (shapeB a b l.length) := ⟨1, fun k hk => by
  obtain ⟨m, rfl⟩ : ∃ m, k = m + 1 := ⟨k - 1, by omega⟩
  exact fits_now m a b l⟩
end Go.Proofs.Ytgbjbpjmbghlbaa.G
end
section
namespace Go.Proofs.Ytgbjbpjmbghlbaa.G
open Go.RowKit Go.Proofs.YtgbjbpjmbghlbaaW.PrintWords
set_option linter.unusedVariables false
set_option linter.unusedSimpArgs false
theorem Ev.eq {α : Type} {g : Nat → Option α} {r r' : α} (h : Ev g r) (e : r = r') : Ev g r' := e ▸ h
theorem Ev.of_eq {α : Type} {o : Option α} {r : α} (h : o = some r) : Ev (fun _ => o) r := ⟨0, fun _ _ => h⟩
def CountsTo (t : Tk) (room r : Int) : Prop := ((fitT t = true ∧ (nodT t : Int) ≤ room) → r = nodT t) ∧ (¬ (fitT t = true ∧ (nodT t : Int) ≤ room) → room < r) ∧ 1 ≤ r ∧ r ≤ 16 + 16 * room
theorem countTo_loop (ps : List Tk) (hlen : ps.length ≤ 3) (room : Int) (h0 : 0 ≤ room) (h1 : room ≤ 15)
    (ih : ∀ p ∈ ps, ∀ rm : Int, 0 ≤ rm → rm ≤ 15 → ∃ r, Ev (fun k => impl_Task_countTo.f k p.f0 p.f1 p.f2 rm) r ∧ CountsTo p rm r) :
    ∀ (d i : Nat) (n : Int), d = ps.length - i → i ≤ ps.length → 1 ≤ n → n ≤ 16 + 16 * room →
      ∃ r, Ev (fun k => impl_Task_countTo.l0 k room n ps (ps.length : Int) (i : Int)) r ∧ ((fitL (ps.drop i) = true ∧ n + (nodL (ps.drop i) : Int) ≤ room) → r = n + nodL (ps.drop i)) ∧ (¬ (fitL (ps.drop i) = true ∧ n + (nodL (ps.drop i) : Int) ≤ room) → room < r) ∧ 1 ≤ r ∧ r ≤ 16 + 16 * room := by
  intro d
  induction d with
  | zero =>
    intro i n hd hi hn hn2
    have e : i = ps.length := by omega
    subst e
    refine ⟨n, Ev.step (fun k => by rw [impl_Task_countTo.l0]) ?_, ?_⟩
    · simp only [if_neg (show ¬ ((ps.length : Int) < (ps.length : Int)) by omega)]
      exact Ev.now n
    · simp only [List.drop_length, fitL, nodL]
      refine ⟨fun _ => by simp, fun h => ?_, hn, hn2⟩
      simp at h
      omega
  | succ d ihd =>
    intro i n hd hi hn hn2
    have hlt : i < ps.length := by omega
    have hrd := rd_tk ps i hlt
    have hdr := drop_tk ps i hlt
    have hmem : ps[i] ∈ ps := List.getElem_mem hlt
    by_cases hg : n > room
    · refine ⟨16, Ev.step (fun k => by rw [impl_Task_countTo.l0]) ?_, fun h => ?_, fun _ => by omega, by omega, by omega⟩
      · simp only [if_pos (show (i : Int) < (ps.length : Int) by omega), if_pos (show (0 : Int) ≤ (i : Int) by omega), if_pos hg]
        exact Ev.now 16
      · exfalso
        have := h.2
        omega
    · obtain ⟨c, hc, hc1, hc2, hc3, hc4⟩ := ih ps[i] hmem (room - n) (by omega) (by omega)
      obtain ⟨r, hr, hr1, hr2, hr3, hr4⟩ := ihd (i + 1) (n + c) (by omega) (by omega) (by omega) (by omega)
      refine ⟨r, Ev.step (fun k => by rw [impl_Task_countTo.l0]) ?_, ?_, ?_, hr3, hr4⟩
      · simp only [if_pos (show (i : Int) < (ps.length : Int) by omega), if_pos (show (0 : Int) ≤ (i : Int) by omega), if_neg hg, hrd]
        rw [wrap_id (room - n) (by omega) (by omega), wrap_nat i (by omega)]
        refine Ev.bind hc ?_
        simp only [wrap_id (n + c) (by omega) (by omega)]
        exact hr
      · rw [hdr]
        simp only [fitL, nodL, Bool.and_eq_true]
        rintro ⟨⟨f1, f2⟩, h3⟩
        have e := hc1 ⟨f1, by omega⟩
        rw [hr1 ⟨f2, by omega⟩]
        omega
      · rw [hdr]
        simp only [fitL, nodL, Bool.and_eq_true]
        intro hno
        by_cases hp : fitT ps[i] = true ∧ (nodT ps[i] : Int) ≤ room - n
        · have e := hc1 hp
          exact hr2 (fun h => hno ⟨⟨hp.1, h.1⟩, by have := h.2; omega⟩)
        · have := hc2 hp
          exact hr2 (fun h => by have := h.2; omega)
theorem countTo_ev : ∀ t : Tk, ∀ room : Int, 0 ≤ room → room ≤ 15 → ∃ r, Ev (fun k => impl_Task_countTo.f k t.f0 t.f1 t.f2 room) r ∧ CountsTo t room r := by
  refine tk_ind fun t ih room h0 h1 => ?_
  by_cases hr : room < 1
  · refine ⟨16, Ev.step (fun k => by rw [impl_Task_countTo.f]) ?_, ?_, ?_, by omega, by omega⟩
    · simp only [if_pos hr]
      refine Ev.step (fun k => by rw [impl_Task_countTo.j0]) ?_
      simp only [if_true]
      exact Ev.now 16
    · rintro ⟨_, h⟩
      have := nodT_pos t
      omega
    · intro _
      omega
  · have hshape := fits_ev t.f0 t.f1 t.f2
    by_cases hf : shapeB t.f0 t.f1 t.f2.length = true
    · obtain ⟨r, hr1, hr2, hr3, hr4, hr5⟩ := countTo_loop t.f2 (shapeB_len hf) room h0 h1 ih t.f2.length 0 1 (by omega) (by omega) (by omega) (by omega)
      refine ⟨r, Ev.step (fun k => by rw [impl_Task_countTo.f]) ?_, ?_, ?_, hr4, hr5⟩
      · simp only [if_neg hr]
        refine Ev.bind hshape ?_
        simp only [hf, Bool.not_true]
        refine Ev.step (fun k => by rw [impl_Task_countTo.j0]) ?_
        simp only [Bool.false_eq_true, if_false]
        exact hr1
      · rw [fitT_eq, nodT_eq, hf]
        simp only [List.drop_zero, Bool.true_and] at hr2 ⊢
        rintro ⟨a, b⟩
        rw [hr2 ⟨a, by omega⟩]
        omega
      · rw [fitT_eq, nodT_eq, hf]
        simp only [List.drop_zero, Bool.true_and] at hr3 ⊢
        intro h
        exact hr3 (fun ⟨a, b⟩ => h ⟨a, by omega⟩)
    · refine ⟨16, Ev.step (fun k => by rw [impl_Task_countTo.f]) ?_, ?_, ?_, by omega, by omega⟩
      · simp only [if_neg hr]
        refine Ev.bind hshape ?_
        simp only [Bool.not_eq_true] at hf
        simp only [hf, Bool.not_false]
        refine Ev.step (fun k => by rw [impl_Task_countTo.j0]) ?_
        simp only [if_true]
        exact Ev.now 16
      · rw [fitT_eq]
        intro h
        simp [hf] at h
      · intro _
        omega
theorem count_loop (ps : List Tk) (hlen : ps.length ≤ 3) :
    ∀ (d i : Nat) (n : Int), d = ps.length - i → i ≤ ps.length → 1 ≤ n → n ≤ 300 →
      ∃ r, Ev (fun k => impl_Task_count.l0 k n ps (ps.length : Int) (i : Int)) r ∧ ((fitL (ps.drop i) = true ∧ n + (nodL (ps.drop i) : Int) ≤ 15) → r = n + nodL (ps.drop i)) ∧ (¬ (fitL (ps.drop i) = true ∧ n + (nodL (ps.drop i) : Int) ≤ 15) → 15 < r) := by
  intro d
  induction d with
  | zero =>
    intro i n hd hi hn hn2
    have e : i = ps.length := by omega
    subst e
    refine ⟨n, Ev.step (fun k => by rw [impl_Task_count.l0]) ?_, ?_⟩
    · simp only [if_neg (show ¬ ((ps.length : Int) < (ps.length : Int)) by omega)]
      exact Ev.now n
    · simp only [List.drop_length, fitL, nodL]
      refine ⟨fun _ => by simp, fun h => ?_⟩
      simp at h
      omega
  | succ d ihd =>
    intro i n hd hi hn hn2
    have hlt : i < ps.length := by omega
    have hrd := rd_tk ps i hlt
    have hdr := drop_tk ps i hlt
    by_cases hg : n > 15
    · refine ⟨n, Ev.step (fun k => by rw [impl_Task_count.l0]) ?_, fun h => ?_, fun _ => by omega⟩
      · simp only [if_pos (show (i : Int) < (ps.length : Int) by omega), if_pos (show (0 : Int) ≤ (i : Int) by omega), if_pos hg]
        exact Ev.now n
      · exfalso
        have := h.2
        omega
    · obtain ⟨c, hc, hc1, hc2, hc3, hc4⟩ := countTo_ev ps[i] (15 - n) (by omega) (by omega)
      obtain ⟨r, hr, hr1, hr2⟩ := ihd (i + 1) (n + c) (by omega) (by omega) (by omega) (by omega)
      refine ⟨r, Ev.step (fun k => by rw [impl_Task_count.l0]) ?_, ?_, ?_⟩
      · simp only [if_pos (show (i : Int) < (ps.length : Int) by omega), if_pos (show (0 : Int) ≤ (i : Int) by omega), if_neg hg, hrd]
        rw [wrap_id (15 - n) (by omega) (by omega), wrap_nat i (by omega)]
        refine Ev.bind hc ?_
        simp only [wrap_id (n + c) (by omega) (by omega)]
        exact hr
      · rw [hdr]
        simp only [fitL, nodL, Bool.and_eq_true]
        rintro ⟨⟨f1, f2⟩, h3⟩
        have e := hc1 ⟨f1, by omega⟩
        rw [hr1 ⟨f2, by omega⟩]
        omega
      · rw [hdr]
        simp only [fitL, nodL, Bool.and_eq_true]
        intro hno
        by_cases hp : fitT ps[i] = true ∧ (nodT ps[i] : Int) ≤ 15 - n
        · have e := hc1 hp
          exact hr2 (fun h => hno ⟨⟨hp.1, h.1⟩, by have := h.2; omega⟩)
        · have := hc2 hp
          exact hr2 (fun h => by have := h.2; omega)
theorem count_ev (t : Tk) : ∃ r, Ev (fun k => impl_Task_count.f k t.f0 t.f1 t.f2) r ∧ (okT t = true → r = nodT t) ∧ (okT t = false → 15 < r) := by
  have hshape := fits_ev t.f0 t.f1 t.f2
  by_cases hf : shapeB t.f0 t.f1 t.f2.length = true
  · obtain ⟨r, hr1, hr2, hr3⟩ := count_loop t.f2 (shapeB_len hf) t.f2.length 0 1 (by omega) (by omega) (by omega) (by omega)
    refine ⟨r, ?_, ?_, ?_⟩
    · unfold impl_Task_count.f
      refine Ev.bind hshape ?_
      simp only [hf, if_true]
      exact hr1
    · intro h
      have h1 := okT_fit h
      have h2 := okT_nod h
      rw [fitT_eq, Bool.and_eq_true] at h1
      rw [nodT_eq] at h2 ⊢
      simp only [List.drop_zero] at hr2
      rw [hr2 ⟨h1.2, by omega⟩]
      omega
    · intro h
      simp only [List.drop_zero] at hr3
      refine hr3 (fun ⟨a, b⟩ => ?_)
      rw [okT, fitT_eq, nodT_eq, hf, a] at h
      simp at h
      omega
  · refine ⟨16, ?_, ?_, fun _ => by omega⟩
    · unfold impl_Task_count.f
      refine Ev.bind hshape ?_
      simp only [hf, Bool.false_eq_true, if_false]
      exact Ev.now 16
    · intro h
      have h1 := okT_fit h
      rw [fitT_eq, Bool.and_eq_true] at h1
      exact absurd h1.1 hf
theorem implOk_ev (t : Tk) : Ev (fun k => impl_TaskOk.f k t.f0 t.f1 t.f2) (okT t) := by
  obtain ⟨r, hr, h1, h2⟩ := count_ev t
  unfold impl_TaskOk.f
  refine Ev.bind hr ?_
  refine Ev.of_eq ?_
  cases h : okT t with
  | true => have := h1 h; have := okT_nod h; simp; omega
  | false => have := h2 h; simp; omega
theorem l1Shape_now (k : Nat) (a : Int) : spec_l1Shape.f (k + 1) a = some (if a = 0 then (0, 96, true) else if a = 1 then (0, 9, true) else if a = 2 then (2, 0, true) else if a = 3 then (2, 0, true) else if a = 4 then (3, 0, true) else if a = 5 then (1, 9, true) else (0, 0, false)) := by
  unfold spec_l1Shape.f
  simp only [spec_l1Shape.j0]
  repeat' split
  all_goals simp_all
theorem l1Shape_ev (a : Int) : Ev (fun k => spec_l1Shape.f k a) (if a = 0 then (0, 96, true) else if a = 1 then (0, 9, true) else if a = 2 then (2, 0, true) else if a = 3 then (2, 0, true) else if a = 4 then (3, 0, true) else if a = 5 then (1, 9, true) else (0, 0, false)) := ⟨1, fun k hk => by
  obtain ⟨m, rfl⟩ : ∃ m, k = m + 1 := ⟨k - 1, by omega⟩
  exact l1Shape_now m a⟩
theorem l6In_ev (a b c : Int) : spec_l6In.f a b c = some (decide (b ≤ a ∧ a ≤ c)) := by
  unfold spec_l6In.f
  by_cases h : a ≥ b
  · rw [if_pos h]; simp only [ge_iff_le] at h; simp [h]
  · rw [if_neg h]; simp only [ge_iff_le] at h; simp [h]
theorem l1Fit_loop (a b : Int) (ps : List Tk) (hlen : ps.length ≤ 3) (ih : ∀ p ∈ ps, Ev (fun k => spec_l1Fit.f k p.f0 p.f1 p.f2) (fitT p)) :
    ∀ (d i : Nat), d = ps.length - i → i ≤ ps.length → Ev (fun k => spec_l1Fit.l0 k (i : Int) a b ps) (fitL (ps.drop i)) := by
  intro d
  induction d with
  | zero =>
    intro i hd hi
    have e : i = ps.length := by omega
    subst e
    refine Ev.step (fun k => by rw [spec_l1Fit.l0]) ?_
    simp only [if_neg (show ¬ ((ps.length : Int) < (ps.length : Int)) by omega), List.drop_length, fitL]
    exact Ev.now true
  | succ d ihd =>
    intro i hd hi
    have hlt : i < ps.length := by omega
    have hrd := rd_tk ps i hlt
    have hmem : ps[i] ∈ ps := List.getElem_mem hlt
    rw [drop_tk ps i hlt]
    refine Ev.step (fun k => by rw [spec_l1Fit.l0]) ?_
    simp only [if_pos (show (i : Int) < (ps.length : Int) by omega), if_pos (show (0 : Int) ≤ (i : Int) by omega), hrd]
    refine Ev.bind (ih _ hmem) ?_
    simp only [fitL]
    cases h : fitT ps[i] with
    | true =>
      simp only [if_true, Bool.true_and, wrap_nat i (by omega)]
      exact ihd (i + 1) (by omega) (by omega)
    | false =>
      simp only [Bool.false_eq_true, if_false, Bool.false_and]
      exact Ev.now false
theorem l1Fit_ev : ∀ t : Tk, Ev (fun k => spec_l1Fit.f k t.f0 t.f1 t.f2) (fitT t) := by
  refine tk_ind fun t ih => ?_
  refine Ev.step (fun k => by rw [spec_l1Fit.f]) ?_
  refine Ev.bind (l1Shape_ev t.f0) ?_
  rw [fitT_eq]
  have bad : Ev (fun k => spec_l1Fit.j0 k true t.f0 t.f1 t.f2) false := by
    refine Ev.step (fun k => by rw [spec_l1Fit.j0]) ?_
    simp only [if_true]
    exact Ev.now false
  have good : t.f2.length ≤ 3 → ∀ c : Bool, Ev (fun k => spec_l1Fit.j0 k (!c) t.f0 t.f1 t.f2) (c && fitL t.f2) := by
    intro hl c
    refine Ev.step (fun k => by rw [spec_l1Fit.j0]) ?_
    cases c with
    | false =>
      simp only [Bool.not_false, if_true, Bool.false_and]
      exact Ev.now false
    | true =>
      simp only [Bool.not_true, Bool.false_eq_true, if_false, Bool.true_and]
      exact l1Fit_loop t.f0 t.f1 t.f2 hl ih t.f2.length 0 (by omega) (by omega)
  have e0 : ∀ m : Nat, ((t.f2.length : Int) = (m : Int)) = (t.f2.length = m) := fun m => by rw [eq_iff_iff]; omega
  have e1 : ((t.f2.length : Int) = 0) = (t.f2.length = 0) := e0 0
  have e2 : ((t.f2.length : Int) = 1) = (t.f2.length = 1) := e0 1
  have e3 : ((t.f2.length : Int) = 2) = (t.f2.length = 2) := e0 2
  have e4 : ((t.f2.length : Int) = 3) = (t.f2.length = 3) := e0 3
  simp only [l6In_ev, Option.bind_some]
  unfold shapeB
  by_cases h0 : t.f0 = 0
  · simp only [h0, if_true, e1] at good bad ⊢
    by_cases hl : t.f2.length = 0
    · simp only [hl, if_true, decide_true, Bool.and_true] at good ⊢
      exact good (by omega) _
    · simp only [hl, if_false, decide_false, Bool.and_false, Bool.false_and]
      exact bad
  by_cases h1 : t.f0 = 1
  · have e9 : ∀ x : Int, (0 ≤ x ∧ x < 10) = (0 ≤ x ∧ x ≤ 9) := fun x => by rw [eq_iff_iff]; omega
    simp only [h1, if_true, e1, e9, show ¬ ((1 : Int) = 0) by decide, if_false] at good bad ⊢
    by_cases hl : t.f2.length = 0
    · simp only [hl, if_true, decide_true, Bool.and_true] at good ⊢
      exact good (by omega) _
    · simp only [hl, if_false, decide_false, Bool.and_false, Bool.false_and]
      exact bad
  by_cases h2 : t.f0 = 2
  · have e9 : ∀ x : Int, (x = 0) = (0 ≤ x ∧ x ≤ 0) := fun x => by rw [eq_iff_iff]; omega
    simp only [h2, if_true, e3, e9 t.f1, show ¬ ((2 : Int) = 0) by decide, show ¬ ((2 : Int) = 1) by decide, if_false] at good bad ⊢
    by_cases hl : t.f2.length = 2
    · simp only [hl, if_true, decide_true, Bool.and_true] at good ⊢
      exact good (by omega) _
    · simp only [hl, if_false, decide_false, Bool.and_false, Bool.false_and]
      exact bad
  by_cases h3 : t.f0 = 3
  · have e9 : ∀ x : Int, (x = 0) = (0 ≤ x ∧ x ≤ 0) := fun x => by rw [eq_iff_iff]; omega
    simp only [h3, if_true, e3, e9 t.f1, show ¬ ((3 : Int) = 0) by decide, show ¬ ((3 : Int) = 1) by decide, show ¬ ((3 : Int) = 2) by decide, if_false] at good bad ⊢
    by_cases hl : t.f2.length = 2
    · simp only [hl, if_true, decide_true, Bool.and_true] at good ⊢
      exact good (by omega) _
    · simp only [hl, if_false, decide_false, Bool.and_false, Bool.false_and]
      exact bad
  by_cases h4 : t.f0 = 4
  · have e9 : ∀ x : Int, (x = 0) = (0 ≤ x ∧ x ≤ 0) := fun x => by rw [eq_iff_iff]; omega
    simp only [h4, if_true, e4, e9 t.f1, show ¬ ((4 : Int) = 0) by decide, show ¬ ((4 : Int) = 1) by decide, show ¬ ((4 : Int) = 2) by decide, show ¬ ((4 : Int) = 3) by decide, if_false] at good bad ⊢
    by_cases hl : t.f2.length = 3
    · simp only [hl, if_true, decide_true, Bool.and_true] at good ⊢
      exact good (by omega) _
    · simp only [hl, if_false, decide_false, Bool.and_false, Bool.false_and]
      exact bad
  by_cases h5 : t.f0 = 5
  · have e9 : ∀ x : Int, (0 ≤ x ∧ x < 10) = (0 ≤ x ∧ x ≤ 9) := fun x => by rw [eq_iff_iff]; omega
    simp only [h5, if_true, e2, e9 t.f1, show ¬ ((5 : Int) = 0) by decide, show ¬ ((5 : Int) = 1) by decide, show ¬ ((5 : Int) = 2) by decide, show ¬ ((5 : Int) = 3) by decide, show ¬ ((5 : Int) = 4) by decide, if_false] at good bad ⊢
    by_cases hl : t.f2.length = 1
    · simp only [hl, if_true, decide_true, Bool.and_true] at good ⊢
      exact good (by omega) _
    · simp only [hl, if_false, decide_false, Bool.and_false, Bool.false_and]
      exact bad
  · simp only [h0, h1, h2, h3, h4, h5, if_false, Bool.false_eq_true, Bool.false_and]
    exact bad
theorem l1Nodes_loop (a b : Int) (ps : List Tk) (hlen : ps.length ≤ 4000000000) (ih : ∀ p ∈ ps, (nodT p : Int) ≤ 4000000000 → Ev (fun k => spec_l1Nodes.f k p.f0 p.f1 p.f2) (nodT p : Int)) :
    ∀ (d i : Nat) (n : Int), d = ps.length - i → i ≤ ps.length → 0 ≤ n → n + (nodL (ps.drop i) : Int) ≤ 4000000000 → Ev (fun k => spec_l1Nodes.l0 k n (i : Int) a b ps) (n + nodL (ps.drop i)) := by
  intro d
  induction d with
  | zero =>
    intro i n hd hi hn hb
    have e : i = ps.length := by omega
    subst e
    refine Ev.step (fun k => by rw [spec_l1Nodes.l0]) ?_
    simp only [if_neg (show ¬ ((ps.length : Int) < (ps.length : Int)) by omega), List.drop_length, nodL]
    exact Ev.eq (Ev.now n) (by omega)
  | succ d ihd =>
    intro i n hd hi hn hb
    have hlt : i < ps.length := by omega
    have hrd := rd_tk ps i hlt
    have hmem : ps[i] ∈ ps := List.getElem_mem hlt
    rw [drop_tk ps i hlt] at hb ⊢
    simp only [nodL] at hb ⊢
    refine Ev.step (fun k => by rw [spec_l1Nodes.l0]) ?_
    simp only [if_pos (show (i : Int) < (ps.length : Int) by omega), if_pos (show (0 : Int) ≤ (i : Int) by omega), hrd]
    refine Ev.bind (ih _ hmem (by omega)) ?_
    simp only [wrap_nat i (by omega), wrap_id (n + (nodT ps[i] : Int)) (by omega) (by omega)]
    exact Ev.eq (ihd (i + 1) (n + nodT ps[i]) (by omega) (by omega) (by omega) (by omega)) (by omega)
theorem l1Nodes_ev : ∀ t : Tk, (nodT t : Int) ≤ 4000000000 → Ev (fun k => spec_l1Nodes.f k t.f0 t.f1 t.f2) (nodT t : Int) := by
  refine tk_ind fun t ih hb => ?_
  rw [nodT_eq] at hb ⊢
  have := nodL_len t.f2
  refine Ev.step (fun k => by rw [spec_l1Nodes.f]) ?_
  exact Ev.eq (l1Nodes_loop t.f0 t.f1 t.f2 (by omega) ih t.f2.length 0 1 (by omega) (by omega) (by omega) (by rw [List.drop_zero]; omega)) (by rw [List.drop_zero]; omega)
theorem specOk_ev (t : Tk) (hb : (nodT t : Int) ≤ 4000000000) : Ev (fun k => spec_TaskOk.f k t.f0 t.f1 t.f2) (okT t) := by
  unfold spec_TaskOk.f
  refine Ev.bind (l1Fit_ev t) ?_
  unfold okT
  cases h : fitT t with
  | false =>
    simp only [Bool.false_eq_true, if_false, Bool.false_and]
    exact Ev.now false
  | true =>
    simp only [if_true, Bool.true_and]
    refine Ev.bind (l1Nodes_ev t hb) ?_
    refine Ev.of_eq ?_
    congr 1
    rw [Bool.eq_iff_iff]
    simp only [decide_eq_true_eq]
    omega
end Go.Proofs.Ytgbjbpjmbghlbaa.G
end
