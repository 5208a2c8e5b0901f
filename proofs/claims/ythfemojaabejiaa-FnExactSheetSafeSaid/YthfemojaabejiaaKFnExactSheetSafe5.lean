-- Written by pack.py (ours): the claim's texts, cut down to what its theorem reaches.
import Derived.Laws.EntriesVeiled
import Derived.Test.YthfemojaabejiaaKFnExactSheetSafe4
section
namespace Go.Proofs.Ythfemojaabejiaa.G
open Go.RowKit Go.Proofs.YthfemojaabejiaaW.PrintWords Go.Proofs.YthfemojaabejiaaW.PrintLast Go.Proofs.YthfemojaabejiaaW.PrintMore
set_option linter.unusedVariables false
set_option linter.unusedSimpArgs false
theorem blk_new' {w : World} {o : Obj} {n : Nat} (h : n = w.heap.size) : (w.alloc o).heap[n]? = some o := by subst h; exact blk_new w o
theorem reach_start (w : World) (A0 : Option Addr) (c0 n0 : Nat) (A1 : Option Addr) (c1 n1 : Nat) :
    ReachAt w w.heap.size (w.heap.size + 3) (w.heap.size + 4) (w.heap.size + 1) (w.heap.size + 2) A0 c0 n0 A1 c1 n1 []
      (((((w.alloc (.cells #[.slice A0 n0 c0, .slice A1 n1 c1] 30 (0, 0))).alloc (.cells #[.func (.func 64) #[.agg #[.slice A0 n0 c0, .slice A1 n1 c1]] #[]] 84 (0, 0))).alloc (.map #[] 0)).alloc (.cells #[.map (some (w.heap.size + 2))] 81 (0, 0))).alloc
        (.cells #[.func (.func 114) #[] #[.pointer (some ⟨w.heap.size, 0, none⟩), .pointer (some ⟨w.heap.size + 3, 0, none⟩), .pointer (some ⟨w.heap.size + 4, 0, none⟩), .pointer (some ⟨w.heap.size + 1, 0, none⟩)]] 145 (0, 0))) where
  below := (((((Below.refl w.heap.size w).alloc (Nat.le_refl _) _).alloc (by simp) _).alloc (by simp; omega) _).alloc (by simp; omega) _).alloc (by simp; omega) _
  hs := blk_alloc (blk_alloc (blk_alloc (blk_alloc (blk_new w _) _) _) _) _
  hn := blk_alloc (blk_alloc (blk_alloc (blk_new' (by simp)) _) _) _
  ho := blk_alloc (blk_new' (by simp)) _
  hw := blk_new' (by simp)
  hm := by
    have h := BSet.made ((w.alloc (.cells #[.slice A0 n0 c0, .slice A1 n1 c1] 30 (0, 0))).alloc (.cells #[.func (.func 64) #[.agg #[.slice A0 n0 c0, .slice A1 n1 c1]] #[]] 84 (0, 0))) Try.prog 3 4
    have e : ((w.alloc (.cells #[.slice A0 n0 c0, .slice A1 n1 c1] 30 (0, 0))).alloc (.cells #[.func (.func 64) #[.agg #[.slice A0 n0 c0, .slice A1 n1 c1]] #[]] 84 (0, 0))).heap.size = w.heap.size + 2 := by simp
    rw [e] at h
    have h2 : BSet _ Try.prog 3 4 (w.heap.size + 2) (castL []) := h
    exact (h2.kept (World.grownBy_alloc _ _ none) (by simp)).kept (World.grownBy_alloc _ _ none) (by simp)
  base := by omega
def ReachedP (w : World) (made : List Bool) (may : Nat → List Nat) (L : List Nat) (e : Ending) (w' : World) : Prop :=
  ∃ (M : Nat) (ext : List Nat), e = .returned (.map (some M)) ∧ Topo.Walked (fun k => made.getD k false) may L [] ext ∧ BSet w' Try.prog 3 4 M (castL ext) ∧ Below w.heap.size w w' ∧ w.heap.size ≤ M
set_option maxHeartbeats 8000000 in
set_option maxRecDepth 100000 in
theorem reached_w {w : World} {A0 : Option Addr} {c0 : Nat} {made : List Bool} {A1 : Option Addr} {c1 : Nat} {tasks : List Tk} (may : Nat → List Nat)
    (hr0 : Kd.C Kd.bool w A0 made.length made) (hc0 : made.length ≤ c0) (hr1 : Kd.C k141 w A1 tasks.length tasks) (hc1 : tasks.length ≤ c1) (hml : made.length ≤ 100000)
    (hmay : ∀ k, k < made.length → made.getD k false = true → ∃ kr, impl_Sheet_may.f kr made tasks (k : Int) = some (castL (may k))) (L : List Nat) (A : Option Addr) (c : Nat) (hrL : Kd.C (Kd.int .i64) w A L.length (castL L)) :
    Calls Try.prog 62 #[.agg #[.slice A0 made.length c0, .slice A1 tasks.length c1], .slice A L.length c, .func (.func 64) #[.agg #[.slice A0 made.length c0, .slice A1 tasks.length c1]] #[]] w (ReachedP w made may L) := by
  have HS := Aside0.mk (reach_start w A0 c0 made.length A1 c1 tasks.length)
  have CK := Aside0.mk (reach_w (w0 := w) may hr0 hc0 hr1 hc1 (by omega) hmay (made.length + 1) L [] _ A c (by simp) List.nodup_nil (fun k hk => by cases hk) HS.out (Kd.C_below hrL (HS.out.below)))
  have hmf : ∀ (fn : Fn) (first cap : Array Value) (W : World), (Instr.makeFunc fn first cap).run Try.prog W = .ok (.func fn first cap) W := fun _ _ _ _ => rfl
  have hmm := @run_makeMap Try.prog
  have hu0 := Try.underlying30
  clear hr0 hc0 hr1 hc1 hml hmay hrL HS
  go_enter Try.func62, Try.ntmps62
  go_wp2_with (go_at_call 114; (with_reducible refine CK.out.mono ?_); rintro e w1 ⟨rfl, ext, hW, hR, hK⟩; have HR1 := Aside0.mk hR; have HW1 := Aside0.mk hW; have ho0 : w1.cell? ⟨w.heap.size + 1 + 1 + 1, 0, none⟩ = some (.map (some (w.heap.size + 2))) := (blk_cell hR.ho 0).trans rfl; clear hR hW hK CK)
  go_ret
  exact ⟨_, ext, rfl, HW1.out, by have := HR1.out.hm; simpa using this, HR1.out.below, by omega⟩
end Go.Proofs.Ythfemojaabejiaa.G
end
section
namespace Go.Proofs.Ythfemojaabejiaa.G
open Go.RowKit Go.Proofs.YthfemojaabejiaaW.PrintWords Go.Proofs.YthfemojaabejiaaW.PrintLast Go.Proofs.YthfemojaabejiaaW.PrintMore
attribute [local go_sem] max2_int min2_int max_two min_two max_three min_three max_four min_four
set_option linter.unusedVariables false
set_option linter.unusedSimpArgs false
def slices_Index_int.l0 : Nat → List Int → Int → Int → Int → Option (Int)
  | 0, _, _, _, _ => none
  | k + 1, x0, x1, x7, x8 => if x8 < x7 then (if 0 ≤ x8 then (if x8 < (x0.length : Int) then (if x1 = (rd x0 x8) then (some x8) else (slices_Index_int.l0 k x0 x1 x7 (wrap64 (x8 + 1)))) else (none)) else (none)) else (some (-1))
def slices_Index_int.f (k : Nat) (l0 : List Int) (a1 : Int) : Option (Int) := slices_Index_int.l0 k l0 a1 (l0.length : Int) 0
set_option maxHeartbeats 8000000 in
set_option maxRecDepth 100000 in
theorem slices_Index_int.calls (k : Nat) (A0 : Option Addr) (c0 : Nat) (l0 : List Int) (a1 : Int) (r : Int) (w : World) (hr0 : Kd.C (Kd.int .i64) w A0 l0.length l0) (hc0 : l0.length ≤ c0) (h : slices_Index_int.f k l0 a1 = some r) :
    Calls Try.prog 139 #[.slice A0 l0.length c0, .int .i64 a1] w fun e w' => e = .returned (.int .i64 r) ∧ Drawn0 w w' := by
  have HR0 := Aside0.mk hr0
  have HC0 := Aside0.mk hc0
  clear hr0 hc0
  have H : (slices_Index_int.l0 k l0 a1 (l0.length : Int) 0) = some r := h
  clear h
  have H' := Aside0.mk H
  clear H
  go_enter Try.func139, Try.ntmps139
  go_wp2
  go_loopg [8] k (fun kq v8 w' => ∃ (x8_1 : Int), v8 = .int .i64 x8_1 ∧ Aside0 (slices_Index_int.l0 kq l0 a1 (l0.length : Int) x8_1 = some r) ∧ Aside0 (kq ≤ k) ∧ Drawn0 w w')
  case atStart => exact ⟨(0), (by first | rfl | (simp; done) | (simp [*]; done)), H', ⟨Nat.le_refl _⟩, by repeat (first | exact Drawn0.refl _ | apply Drawn0.step)⟩
  case round =>
    clear H'
    try clear c1
    try clear p2
    obtain ⟨x8_1, rfl, HA, HK1, ⟨m1, rfl⟩⟩ := hrel
    cases gk with
    | zero => exact absurd HA.out (by simp [slices_Index_int.l0])
    | succ k1 =>
      have H := HA.out
      clear HA
      simp only [slices_Index_int.l0] at H
      by_cases c3 : x8_1 < (l0.length : Int)
      · rw [if_pos c3] at H
        have c3b0 : decide (x8_1 < (l0.length : Int)) = true := decide_eq_true c3
        clear c3
        by_cases c4 : 0 ≤ x8_1
        · rw [if_pos c4] at H
          have c4b0 : decide (0 ≤ x8_1) = true := decide_eq_true c4
          clear c4
          by_cases c5 : x8_1 < (l0.length : Int)
          · rw [if_pos c5] at H
            have c5b0 : decide (x8_1 < (l0.length : Int)) = true := decide_eq_true c5
            clear c5
            by_cases c6 : a1 = (rd l0 x8_1)
            · rw [if_pos c6] at H
              have c6b0 : (a1 == (rd l0 x8_1)) = true := beq_iff_eq.mpr c6
              have c6b1 : (a1 != (rd l0 x8_1)) = false := bne_eq_false_iff_eq.mpr c6
              clear c6
              obtain rfl := Option.some.inj H
              have p224 : 0 ≤ (x8_1 : Int) := of_decide_eq_true (by first | (with_reducible assumption) | assumption)
              have q224 : x8_1 < (l0.length : Int) := of_decide_eq_true (by first | (with_reducible assumption) | assumption)
              obtain ⟨ad224, e224, hx224_0⟩ := Kd.at_int HR0.out x8_1 p224 q224
              cases e224
              replace p224 := eq_true p224
              replace q224 := eq_true q224
              go_wp2
              go_ret
              exact ⟨by first | rfl | (simp; done) | (simp [*]; done), by repeat (first | exact Drawn0.refl _ | apply Drawn0.step)⟩
            · rw [if_neg c6] at H
              have c6b0 : (a1 == (rd l0 x8_1)) = false := beq_eq_false_iff_ne.mpr c6
              have c6b1 : (a1 != (rd l0 x8_1)) = true := bne_iff_ne.mpr c6
              have H' := Aside0.mk H
              clear H
              have p224 : 0 ≤ (x8_1 : Int) := of_decide_eq_true (by first | (with_reducible assumption) | assumption)
              have q224 : x8_1 < (l0.length : Int) := of_decide_eq_true (by first | (with_reducible assumption) | assumption)
              obtain ⟨ad224, e224, hx224_0⟩ := Kd.at_int HR0.out x8_1 p224 q224
              cases e224
              replace p224 := eq_true p224
              replace q224 := eq_true q224
              go_wp2
              go_roundg k1
              case measure => have := HK1.out; omega
              case rel => exact ⟨(wrap64 (x8_1 + 1)), (by first | rfl | (simp; done) | (simp [*]; done)), H', ⟨by have := HK1.out; omega⟩, by repeat (first | exact Drawn0.refl _ | apply Drawn0.step)⟩
          · rw [if_neg c5] at H
            exact absurd H (by simp)
        · rw [if_neg c4] at H
          exact absurd H (by simp)
      · rw [if_neg c3] at H
        have c3b0 : decide (x8_1 < (l0.length : Int)) = false := decide_eq_false c3
        clear c3
        obtain rfl := Option.some.inj H
        go_wp2
        go_ret
        exact ⟨by first | rfl | (simp; done) | (simp [*]; done), by repeat (first | exact Drawn0.refl _ | apply Drawn0.step)⟩
def slices_Contains_int.f (k : Nat) (l0 : List Int) (a1 : Int) : Option (Bool) := (slices_Index_int.f k l0 a1).bind fun t225 => (some (decide (t225 ≥ 0)))
set_option maxHeartbeats 8000000 in
set_option maxRecDepth 100000 in
theorem slices_Contains_int.calls (k : Nat) (A0 : Option Addr) (c0 : Nat) (l0 : List Int) (a1 : Int) (r : Bool) (w : World) (hr0 : Kd.C (Kd.int .i64) w A0 l0.length l0) (hc0 : l0.length ≤ c0) (h : slices_Contains_int.f k l0 a1 = some r) :
    Calls Try.prog 111 #[.slice A0 l0.length c0, .int .i64 a1] w fun e w' => e = .returned (.bool r) ∧ Drawn0 w w' := by
  have HR0 := Aside0.mk hr0
  have HC0 := Aside0.mk hc0
  clear hr0 hc0
  have H : ((slices_Index_int.f k l0 a1).bind fun t225 => (some (decide (t225 ≥ 0)))) = some r := h
  clear h
  replace H := Option.bind_eq_some_iff.mp H
  obtain ⟨t225, A30, H⟩ := H
  replace H : (some (decide (t225 ≥ 0))) = some r := H
  have A3 := Aside0.mk A30
  clear A30
  obtain rfl := Option.some.inj H
  go_enter Try.func111, Try.ntmps111
  go_wp2_with (first | ((with_reducible refine gate_callee (f := 139) rfl ?_); refine goesL_ (some 7) rfl rfl Try.func139 (by kernel_rfl) rfl #[.slice A0 l0.length c0, .int .i64 a1] rfl (by (try simp only [List.map_toArray, List.map_cons, List.map_nil]); first | done | rfl | (simp only [List.length_drop, List.length_take]; rfl)) ?_; (with_reducible refine (slices_Index_int.calls k _ _ l0 a1 t225 _ ?side1 ?side2 A3.out).mono ?_); (case side1 => repeat (first | exact HR0.out | (with_reducible refine Kd.C_alloc ?_ _) | (with_reducible refine Kd.C_drewN ?_ _) | (with_reducible refine Kd.C_drew ?_))); (case side2 => exact HC0.out); rintro e w' ⟨rfl, ⟨nd, rfl⟩⟩; refine ⟨_, rfl, ?_⟩))
  go_ret
  exact ⟨by first | rfl | (simp; done) | (simp [*]; done), by repeat (first | exact Drawn0.refl _ | apply Drawn0.step)⟩
end Go.Proofs.Ythfemojaabejiaa.G
end
section
namespace Go.Proofs.Ythfemojaabejiaa.G
open Go.RowKit Go.Proofs.YthfemojaabejiaaW.PrintWords Go.Proofs.YthfemojaabejiaaW.PrintLast Go.Proofs.YthfemojaabejiaaW.PrintMore
set_option linter.unusedVariables false
set_option linter.unusedSimpArgs false
theorem index_f (l : List Int) (n : Int) (hl : l.length ≤ 9223372036854775807) : ∃ k, slices_Contains_int.f k l n = some (l.contains n) := by
  have rdI : ∀ (i : Nat) (h : i < l.length), rd l (i : Int) = l[i] := fun i h => by
    simp only [rd, Int.toNat_natCast, List.getD_eq_getElem?_getD, List.getElem?_eq_getElem h, Option.getD_some]
  have loop : ∀ (d i : Nat), d = l.length - i → i ≤ l.length → ∃ r : Int, slices_Index_int.l0 (d + 1) l n (l.length : Int) (i : Int) = some r ∧ decide (r ≥ 0) = (l.drop i).contains n := by
    intro d
    induction d with
    | zero =>
      intro i hd hi
      refine ⟨-1, ?_, ?_⟩
      · rw [slices_Index_int.l0, if_neg (by omega)]
      · rw [List.drop_of_length_le (by omega)]; rfl
    | succ d ih =>
      intro i hd hi
      have hlt : i < l.length := by omega
      rw [slices_Index_int.l0, if_pos (by omega), if_pos (by omega), if_pos (by omega), rdI i hlt, List.drop_eq_getElem_cons hlt]
      by_cases hc : n = l[i]
      · refine ⟨(i : Int), by rw [if_pos hc], ?_⟩
        rw [List.contains_cons, ← hc]
        simp
      · obtain ⟨r, h1, h2⟩ := ih (i + 1) (by omega) (by omega)
        refine ⟨r, ?_, ?_⟩
        · rw [if_neg hc, show wrap64 ((i : Int) + 1) = ((i + 1 : Nat) : Int) from by unfold wrap64; omega]
          exact h1
        · rw [h2, List.contains_cons, beq_eq_false_iff_ne.2 hc, Bool.false_or]
  obtain ⟨r, h1, h2⟩ := loop l.length 0 (by omega) (by omega)
  refine ⟨l.length + 1, ?_⟩
  unfold slices_Contains_int.f slices_Index_int.f
  rw [show ((0 : Nat) : Int) = 0 from rfl] at h1
  rw [h1, Option.bind_some, h2, List.drop_zero]
end Go.Proofs.Ythfemojaabejiaa.G
end
section
namespace Go.Proofs.Ythfemojaabejiaa.G
open Go.RowKit Go.Proofs.YthfemojaabejiaaW.PrintWords Go.Proofs.YthfemojaabejiaaW.PrintLast Go.Proofs.YthfemojaabejiaaW.PrintMore
set_option linter.unusedVariables false
set_option linter.unusedSimpArgs false
theorem wpList_bset_len {P : Program} {ops : Array Oper} {Q : Exit → Act → World → Prop} {rest : List Oper} {w : World} {o : Oper} {a : Act} (hg : o.guard = none) (m : Operand) (t : TypeId) (hop : o.op = Op.call { callee := Callee.builtin Builtin.len, args := #[m], argTypes := #[t] })
    {k e : TypeId} {b : Nat} {S : List Int} (h : BSet w P k e b S) (ht : P.underlying t = some (.map k e)) (hm : a.eval m = .map (some b)) (hK : wpList P ops Q rest (a.put o.dst (.int .i64 (S.length : Int))) w) : wpList P ops Q (o :: rest) a w := by
  refine wpList_plain hg fun K' hK' => ?_
  unfold Oper.wp
  simp [execOp, hop, resolve, invoke, builtin, hm, h.len ht o.type, Result.andThen]
  exact hK' _ _ hK
theorem contains_dec (l : List Int) (x : Int) : l.contains x = decide (x ∈ l) := by simp
set_option maxHeartbeats 8000000 in
set_option maxRecDepth 100000 in
theorem topo1_calls {Bo : Nat} {Ao : Option Addr} {co : Nat} {OL : List Int} (x : Int) (W : World) (hb : W.heap[Bo]? = some (.cells #[.slice Ao OL.length co] 34 (0, 0))) (hr : Kd.C (Kd.int .i64) W Ao OL.length OL) (hc : OL.length ≤ co) (hl : OL.length ≤ 1000000) :
    Calls Try.prog 113 #[.int .i64 x, .pointer (some ⟨Bo, 0, none⟩)] W fun e W' => e = .returned (.bool (!decide (x ∈ OL))) ∧ Below W.heap.size W W' := by
  obtain ⟨kc, hk⟩ := index_f OL x (by omega)
  rw [contains_dec] at hk
  have CK := Aside0.mk (slices_Contains_int.calls kc Ao co OL x (decide (x ∈ OL)) W hr hc hk)
  have hq : W.cell? ⟨Bo, 0, none⟩ = some (.slice Ao OL.length co) := (blk_cell hb 0).trans rfl
  clear hb hr hc hl hk
  go_enter Try.func113, Try.ntmps113
  go_wp2_with (go_at_call 111; refine CK.out.mono ?_; rintro e w1 ⟨rfl, ⟨m, rfl⟩⟩)
  go_ret
  exact ⟨rfl, pw_below_drewN (Below.refl _ _) m⟩
structure TopoAt (w0 : World) (Bs Bo : Nat) (A0 : Option Addr) (c0 n0 : Nat) (A1 : Option Addr) (c1 n1 : Nat) (out : List Nat) (W : World) : Prop where
  below : Below w0.heap.size w0 W
  hs : W.heap[Bs]? = some (.cells #[.slice A0 n0 c0, .slice A1 n1 c1] 30 (0, 0))
  ho : ∃ Ao co, W.heap[Bo]? = some (.cells #[.slice Ao (castL out).length co] 34 (0, 0)) ∧ Kd.R (Kd.int .i64) 3 W w0.heap.size (fun k => k ≠ Bs ∧ k ≠ Bo) (.slice Ao (castL out).length co) (castL out)
  bs : w0.heap.size ≤ Bs
  bo : w0.heap.size ≤ Bo
  ne : Bs ≠ Bo
theorem TopoAt.on {w0 W W' : World} {Bs Bo : Nat} {A0 : Option Addr} {c0 n0 : Nat} {A1 : Option Addr} {c1 n1 : Nat} {out : List Nat} (h : TopoAt w0 Bs Bo A0 c0 n0 A1 c1 n1 out W) (hb : Below W.heap.size W W') : TopoAt w0 Bs Bo A0 c0 n0 A1 c1 n1 out W' := by
  obtain ⟨Ao, co, h1, h2⟩ := h.ho
  exact ⟨h.below.trans (hb.mono h.below.size), blk_below h.hs hb, ⟨Ao, co, blk_below h1 hb, Kd.R_below h2 hb⟩, h.bs, h.bo, h.ne⟩
def TopoP (w0 : World) (r : Option (List Nat)) (e : Ending) (W : World) : Prop :=
  Below w0.heap.size w0 W ∧ match r with
    | none => e = .returned (.tuple #[.slice none 0 0, .bool false])
    | some l => ∃ v, e = .returned (.tuple #[v, .bool true]) ∧ Kd.R (Kd.int .i64) 3 W w0.heap.size (fun _ => True) v (castL l)
theorem contains_cast (l : List Nat) (x : Nat) : (castL l).contains (x : Int) = l.contains x := by
  rw [Bool.eq_iff_iff, List.contains_iff_mem, List.contains_iff_mem, castL_mem]
theorem any_cast (l out : List Nat) : ((castL l).any fun x => !decide (x ∈ castL out)) = !(l.all fun j => out.contains j) := by
  induction l with
  | nil => rfl
  | cons y l ih =>
    show (!decide ((y : Int) ∈ castL out) || (castL l).any fun x => !decide (x ∈ castL out)) = _
    rw [ih, ← contains_dec, contains_cast, List.all_cons]
    cases out.contains y <;> simp
theorem pick_at {n : Nat} {need : Nat → Bool} {may : Nat → List Nat} {out : List Nat} {i : Nat} (hi : i < n) (h : ∀ j, j < i → Topo.free need may out j = false) (hf : Topo.free need may out i = true) : Topo.pick n need may out = some i := by
  unfold Topo.pick
  rw [List.find?_eq_some_iff_getElem]
  refine ⟨hf, i, by rw [List.length_range]; exact hi, by simp, fun j hj => ?_⟩
  simp [h j hj]
theorem pick_no {n : Nat} {need : Nat → Bool} {may : Nat → List Nat} {out : List Nat} (h : ∀ j, j < n → Topo.free need may out j = false) : Topo.pick n need may out = none := by
  unfold Topo.pick
  rw [List.find?_eq_none]
  intro x hx
  rw [List.mem_range] at hx
  simp [h x hx]
theorem topo_tells {w0 w2 : World} {Bs Bo : Nat} {A0 : Option Addr} {c0 n0 : Nat} {A1 : Option Addr} {c1 n1 : Nat} {out : List Nat} (h : TopoAt w0 Bs Bo A0 c0 n0 A1 c1 n1 out w2) (hl : (castL out).length ≤ 1000000) (l : List Int) : Tells 113 #[.pointer (some ⟨Bo, 0, none⟩)] (Value.int .i64) (fun x => !decide (x ∈ castL out)) w2 l := by
  intro x _ W hW
  obtain ⟨Ao, co, hbo, hro⟩ := h.ho
  have h1 := Kd.R_reads' hro
  exact topo1_calls x W (blk_below hbo hW) (Kd.C_below h1.2.2 hW) h1.2.1 hl
set_option maxHeartbeats 16000000 in
set_option maxRecDepth 100000 in
theorem topo_w {w : World} {M : Nat} {A0 : Option Addr} {c0 : Nat} {made : List Bool} {A1 : Option Addr} {c1 : Nat} {tasks : List Tk} (may : Nat → List Nat) (NL : List Nat)
    (hr0 : Kd.C Kd.bool w A0 made.length made) (hc0 : made.length ≤ c0) (hr1 : Kd.C k141 w A1 tasks.length tasks) (hc1 : tasks.length ≤ c1) (hml : made.length ≤ 100000) (hnl : NL.length ≤ 100000)
    (hmay : ∀ k, k < made.length → k ∈ NL → ∃ kr, impl_Sheet_may.f kr made tasks (k : Int) = some (castL (may k))) (hset : BSet w Try.prog 3 4 M (castL NL)) :
    Calls Try.prog 61 #[.agg #[.slice A0 made.length c0, .slice A1 tasks.length c1], .map (some M)] w (TopoP w (Topo.topo made.length (fun k => NL.contains k) may NL.length [])) := by
  have HR0 := Aside0.mk hr0
  have HC0 := Aside0.mk hc0
  have HR1 := Aside0.mk hr1
  have HC1 := Aside0.mk hc1
  have HML := Aside0.mk hml
  have HNL := Aside0.mk hnl
  have HMAY := Aside0.mk hmay
  have HSET := Aside0.mk hset
  have hu0 := Try.underlying30
  have HT0 : Aside0 (TopoAt w w.heap.size (w.heap.size + 1) A0 c0 made.length A1 c1 tasks.length [] ((w.alloc (.cells #[.slice A0 made.length c0, .slice A1 tasks.length c1] 30 (0, 0))).alloc (.cells #[.slice none 0 0] 34 (0, 0)))) := ⟨{
    below := ((Below.refl w.heap.size w).alloc (Nat.le_refl _) _).alloc (by simp) _
    hs := blk_alloc (blk_new w _) _
    ho := ⟨none, 0, by have := blk_new (w.alloc (.cells #[.slice A0 made.length c0, .slice A1 tasks.length c1] 30 (0, 0))) (.cells #[.slice none 0 0] 34 (0, 0)); simpa [castL] using this, Kd.R_nil _ _ _ _ _⟩
    bs := Nat.le_refl _
    bo := by omega
    ne := by omega }⟩
  clear hr0 hc0 hr1 hc1 hml hnl hmay hset
  go_enter Try.func61, Try.ntmps61
  go_wp2
  go_step3
  go_wp2
  go_step3
  go_wp2
  have hmf : ∀ (fn : Fn) (first cap : Array Value) (W : World), (Instr.makeFunc fn first cap).run Try.prog W = .ok (.func fn first cap) W := fun _ _ _ _ => rfl
  go_loopg [7] NL.length (fun kq v7 w' => ∃ out : List Nat, Aside0 (out.length + kq = NL.length) ∧ Aside0 (Topo.topo made.length (fun k => NL.contains k) may NL.length [] = Topo.topo made.length (fun k => NL.contains k) may kq out) ∧ Aside0 (TopoAt w w.heap.size (w.heap.size + 1) A0 c0 made.length A1 c1 tasks.length out w'))
  case atStart => exact ⟨[], ⟨by simp⟩, ⟨rfl⟩, HT0⟩
  case round =>
    clear HT0
    obtain ⟨out, HOL, HTE, HTA⟩ := hrel
    have HOLB : Aside0 ((castL out).length ≤ 1000000) := ⟨by rw [castL_len]; have := HOL.out; have := HNL.out; omega⟩
    obtain ⟨Ao, co, hbo, hro⟩ := HTA.out.ho
    have HRO := Aside0.mk hro
    have HBO := Aside0.mk hbo
    have hq0 : wr.cell? ⟨w.heap.size + 1, 0, none⟩ = some (.slice Ao (castL out).length co) := (blk_cell hbo 0).trans rfl
    have hs0 : wr.cell? ⟨w.heap.size, 0, none⟩ = some (.slice A0 made.length c0) := (blk_cell HTA.out.hs 0).trans rfl
    have hs1 : wr.cell? ⟨w.heap.size, 1, none⟩ = some (.slice A1 tasks.length c1) := (blk_cell HTA.out.hs 1).trans rfl
    have HSET1 := Aside0.mk (HSET.out.move (HTA.out.below.block M HSET.out.lt))
    clear hbo hro
    cases gk with
    | zero =>
      have hlen : decide ((castL out).length < (castL NL).length) = false := decide_eq_false (by rw [castL_len, castL_len]; have := HOL.out; omega)
      go_wp2_with (at_len; refine wpList_bset_len rfl _ 81 rfl HSET1.out Try.underlying81 rfl ?_)
      try rw [Exit.noGoto_ret]
      go_ret2
      refine ⟨HTA.out.below, ?_⟩
      rw [HTE.out]
      exact ⟨_, rfl, Kd.R_mono HRO.out (fun _ _ => trivial)⟩
    | succ g =>
      have hlen : decide ((castL out).length < (castL NL).length) = true := decide_eq_true (by rw [castL_len, castL_len]; have := HOL.out; omega)
      go_wp2_with (at_len; refine wpList_bset_len rfl _ 81 rfl HSET1.out Try.underlying81 rfl ?_)
      clear hlen hq0 hs0 hs1
      obtain ⟨wo, rfl⟩ : ∃ wo : World, wo = wr := ⟨_, rfl⟩
      go_loopg [16] made.length (fun kq v16 w' => ∃ i : Nat, v16 = .int .i64 (i : Int) ∧ Aside0 (i + kq = made.length) ∧ Aside0 (∀ j, j < i → Topo.free (fun k => NL.contains k) may out j = false) ∧ Aside0 (TopoAt w w.heap.size (w.heap.size + 1) A0 c0 made.length A1 c1 tasks.length out w'))
      case atStart => exact ⟨0, by simp, ⟨by omega⟩, ⟨fun j h => by omega⟩, HTA⟩
      case round =>
        clear HTA HRO HBO HSET1
        obtain ⟨i, rfl, HIK, HFR, HTA⟩ := hrel
        obtain ⟨Ao, co, hbo, hro⟩ := HTA.out.ho
        have HRO := Aside0.mk hro
        have HBO := Aside0.mk hbo
        have hq0 : wr.cell? ⟨w.heap.size + 1, 0, none⟩ = some (.slice Ao (castL out).length co) := (blk_cell hbo 0).trans rfl
        have hs0 : wr.cell? ⟨w.heap.size, 0, none⟩ = some (.slice A0 made.length c0) := (blk_cell HTA.out.hs 0).trans rfl
        have hs1 : wr.cell? ⟨w.heap.size, 1, none⟩ = some (.slice A1 tasks.length c1) := (blk_cell HTA.out.hs 1).trans rfl
        have HSET1 := Aside0.mk (HSET.out.move (HTA.out.below.block M HSET.out.lt))
        clear hbo hro
        cases gk with
        | zero =>
          have hi : i = made.length := by have := HIK.out; omega
          have hge : made.length ≤ i := by omega
          have hge2 : ¬ (i < made.length) := by omega
          have HIE := Aside0.mk hi
          clear hi
          go_wp2
          try rw [Exit.noGoto_ret]
          go_ret2
          refine ⟨HTA.out.below, ?_⟩
          rw [HTE.out]
          unfold Topo.topo
          rw [pick_no (fun j hj => HFR.out j (by rw [HIE.out]; exact hj))]
          rfl
        | succ gi =>
          have hlt : i < made.length := by have := HIK.out; omega
          have HLT := Aside0.mk hlt
          have hmax : (i : Int) + 1 ≤ 9223372036854775807 := by have := HML.out; omega
          have HWF : Aside0 ((Lit.int .i64 (i : Int)).wf = true) := ⟨WalkArith.wf_i64 (by omega)⟩
          have hlk := HSET1.out.look Try.underlying81 Try.underlying3 Try.underlying4 (zeroBool _) HWF.out
          have HNF : Topo.free (fun k => NL.contains k) may out i = false → Aside0 (∀ j, j < i + 1 → Topo.free (fun k => NL.contains k) may out j = false) := fun h => ⟨fun j hj => by
            rcases Nat.lt_or_ge j i with h1 | h1
            · exact HFR.out j h1
            · have : j = i := by omega
              rw [this]; exact h⟩
          by_cases hn : i ∈ NL
          · rw [decide_eq_true ((castL_mem _ _).2 hn)] at hlk
            obtain ⟨kc, hkc⟩ := index_f (castL out) (i : Int) (by have := HOLB.out; omega)
            rw [contains_cast] at hkc
            by_cases ho : out.contains i = true
            · rw [ho] at hkc
              have HKC := Aside0.mk hkc
              have HFF := HNF (by simp only [Topo.free]; rw [ho]; simp)
              clear hkc ho hn HNF
              go_wp2_with (go_at_call 111; refine (slices_Contains_int.calls kc Ao co (castL out) (i : Int) _ _ (Kd.R_reads' HRO.out).2.2 (Kd.R_reads' HRO.out).2.1 HKC.out).mono ?_; rintro e w1 ⟨rfl, ⟨m, rfl⟩⟩; have TA1 := Aside0.mk (HTA.out.on (pw_below_drewN (Below.refl _ _) m)); clear hq0 hs0 hs1; have hs0 : (wr.drewN m).cell? ⟨w.heap.size, 0, none⟩ = some (.slice A0 made.length c0) := (blk_cell TA1.out.hs 0).trans rfl; have hs1 : (wr.drewN m).cell? ⟨w.heap.size, 1, none⟩ = some (.slice A1 tasks.length c1) := (blk_cell TA1.out.hs 1).trans rfl; generalize wr.drewN m = w1 at TA1 hs0 hs1 ⊢; clear hlk)
              go_roundg gi
              case measure => omega
              case rel => exact ⟨i + 1, by go_num, ⟨by have := HIK.out; omega⟩, HFF, TA1⟩
            · have ho' : out.contains i = false := by simpa using ho
              rw [ho'] at hkc
              have HKC := Aside0.mk hkc
              obtain ⟨kr, hkr⟩ := HMAY.out i HLT.out hn
              have HKR := Aside0.mk hkr
              have HEN : Aside0 (∀ (args : Array Value) (W : World), (callFunc 113 args).run Try.prog W = .ok (.enter 113 args) W) := ⟨enters_fn Try.func113 (by kernel_rfl) rfl⟩
              by_cases hf : ((may i).all fun j => out.contains j) = true
              · have HFA := Aside0.mk hf
                have HPK := Aside0.mk (pick_at (n := made.length) HLT.out HFR.out (by simp only [Topo.free]; rw [ho', hf, List.contains_iff_mem.2 hn]; rfl))
                clear hkc ho ho' hkr hf hn HNF
                go_wp2_with (first | (go_at_call 111; refine (slices_Contains_int.calls kc Ao co (castL out) (i : Int) _ _ (Kd.R_reads' HRO.out).2.2 (Kd.R_reads' HRO.out).2.1 HKC.out).mono ?_; rintro e w1 ⟨rfl, ⟨m, rfl⟩⟩; have TA1 := Aside0.mk (HTA.out.on (pw_below_drewN (Below.refl _ _) m)); clear hq0 hs0 hs1; have hs0 : (wr.drewN m).cell? ⟨w.heap.size, 0, none⟩ = some (.slice A0 made.length c0) := (blk_cell TA1.out.hs 0).trans rfl; have hs1 : (wr.drewN m).cell? ⟨w.heap.size, 1, none⟩ = some (.slice A1 tasks.length c1) := (blk_cell TA1.out.hs 1).trans rfl; generalize wr.drewN m = w1 at TA1 hs0 hs1 ⊢; clear hlk) | (go_at_call 64; refine (impl_Sheet_may.calls kr A0 c0 made A1 c1 tasks (i : Int) _ _ (Kd.C_below HR0.out TA1.out.below) HC0.out (Kd.C_below HR1.out TA1.out.below) HC1.out HKR.out).mono ?_; rintro e w2 ⟨vm, rfl, hvm, hb2⟩; have TA2 := Aside0.mk (TA1.out.on hb2); obtain ⟨Am, cm, rfl, _, hCm⟩ := Kd.R_reads hvm; have HCM := Aside0.mk hCm; clear hvm hb2 hCm hs0 hs1) | (go_at_call 112; refine (containsFunc_int 113 #[.pointer (some ⟨w.heap.size + 1, 0, none⟩)] (fun x => !decide (x ∈ castL out)) Am cm (castL (may i)) _ HCM.out HEN.out (topo_tells TA2.out HOLB.out _)).mono ?_; rintro e w3 ⟨rfl, hb3⟩; rw [any_cast, HFA.out]; have TA3 := Aside0.mk (TA2.out.on hb3); clear hb3; obtain ⟨A3, c3, hbo3, hro3⟩ := TA3.out.ho; have HBO3 := Aside0.mk hbo3; have HRO3 := Aside0.mk hro3; have hq3 : w3.cell? ⟨w.heap.size + 1, 0, none⟩ = some (.slice A3 (castL out).length c3) := (blk_cell hbo3 0).trans rfl; clear hbo3 hro3) | (at_builtin; refine Kd.R_append (Kd.int .i64) (w0 := w) w.heap.size rfl (.tmp 34) (.tmp 36) 34 3 (.int .i64 0) 8 rfl Try.underlying34 infoInt rfl (by decide) (by omega) (.slice A3 (castL out).length c3) (castL out) (i : Int) [.int .i64 (i : Int)] (fun k => k ≠ w.heap.size ∧ k ≠ w.heap.size + 1) (fun _ => False) rfl rfl ?aP (fun _ hk => hk.elim) ?aF ?aO ?aB ?aS ?aL ?_; (case aP => rfl); (case aB => exact TA3.out.below); (case aF => exact (fun k hk => by have h1 := TA3.out.below.size; have h2 := blk_lt HBO3.out; omega)); (case aO => exact HRO3.out); (case aS => exact TA3.out.below.size); (case aL => have := HOLB.out; omega); intro v4 w4 ho hb hg hat; obtain ⟨A4, c4, e4⟩ := Kd.R_slice ho; subst e4; have hbo4 := blk_grown HBO3.out hg (Kd.R_away HRO3.out (fun k hk e => hk.2 e)); have hs4 := blk_grown TA3.out.hs hg (Kd.R_away HRO3.out (fun k hk e => hk.1 e)); have HBO4 := Aside0.mk hbo4; have HS4 := Aside0.mk hs4; have HRO4 := Aside0.mk ho; have HB4 := Aside0.mk hb; clear hq3; have hq4 : w4.cell? ⟨w.heap.size + 1, 0, none⟩ = some (.slice A3 (castL out).length c3) := (blk_cell hbo4 0).trans rfl; have hf4 := blk_frozen hbo4 0; clear ho hb hg hat hbo4 hs4))
                go_roundg g
                case measure => omega
                case rel =>
                  refine ⟨out ++ [i], ⟨by rw [List.length_append, List.length_singleton]; have := HOL.out; omega⟩, ⟨?_⟩, ⟨?_⟩⟩
                  · rw [HTE.out]
                    conv => lhs; unfold Topo.topo
                    rw [HPK.out]
                  · exact ⟨HB4.out.setCell (p := ⟨w.heap.size + 1, 0, none⟩) (by simp) _, blk_far (p := ⟨w.heap.size + 1, 0, none⟩) HS4.out (by simp) _, ⟨A4, c4, by have h5 := blk_put HBO4.out 0 (.slice A4 ((castL out).length + 1) c4) rfl; rw [castL_snoc, List.length_append, List.length_singleton]; exact h5, by rw [castL_snoc]; exact Kd.R_far (p := ⟨w.heap.size + 1, 0, none⟩) HRO4.out (fun k hk => hk.2) _⟩, Nat.le_refl _, by omega, by omega⟩
              · have hf' : ((may i).all fun j => out.contains j) = false := by simpa using hf
                have HFA := Aside0.mk hf'
                have HFF := HNF (by simp only [Topo.free]; rw [hf', Bool.and_false])
                clear hkc ho ho' hkr hf hf' hn HNF
                go_wp2_with (first | (go_at_call 111; refine (slices_Contains_int.calls kc Ao co (castL out) (i : Int) _ _ (Kd.R_reads' HRO.out).2.2 (Kd.R_reads' HRO.out).2.1 HKC.out).mono ?_; rintro e w1 ⟨rfl, ⟨m, rfl⟩⟩; have TA1 := Aside0.mk (HTA.out.on (pw_below_drewN (Below.refl _ _) m)); clear hq0 hs0 hs1; have hs0 : (wr.drewN m).cell? ⟨w.heap.size, 0, none⟩ = some (.slice A0 made.length c0) := (blk_cell TA1.out.hs 0).trans rfl; have hs1 : (wr.drewN m).cell? ⟨w.heap.size, 1, none⟩ = some (.slice A1 tasks.length c1) := (blk_cell TA1.out.hs 1).trans rfl; generalize wr.drewN m = w1 at TA1 hs0 hs1 ⊢; clear hlk) | (go_at_call 64; refine (impl_Sheet_may.calls kr A0 c0 made A1 c1 tasks (i : Int) _ _ (Kd.C_below HR0.out TA1.out.below) HC0.out (Kd.C_below HR1.out TA1.out.below) HC1.out HKR.out).mono ?_; rintro e w2 ⟨vm, rfl, hvm, hb2⟩; have TA2 := Aside0.mk (TA1.out.on hb2); obtain ⟨Am, cm, rfl, _, hCm⟩ := Kd.R_reads hvm; have HCM := Aside0.mk hCm; clear hvm hb2 hCm hs0 hs1) | (go_at_call 112; refine (containsFunc_int 113 #[.pointer (some ⟨w.heap.size + 1, 0, none⟩)] (fun x => !decide (x ∈ castL out)) Am cm (castL (may i)) _ HCM.out HEN.out (topo_tells TA2.out HOLB.out _)).mono ?_; rintro e w3 ⟨rfl, hb3⟩; rw [any_cast, HFA.out]; have TA3 := Aside0.mk (TA2.out.on hb3); clear hb3))
                go_roundg gi
                case measure => omega
                case rel => exact ⟨i + 1, by go_num, ⟨by have := HIK.out; omega⟩, HFF, TA3⟩
          · rw [decide_eq_false (fun h => hn ((castL_mem _ _).1 h))] at hlk
            have HFF := HNF (by simp only [Topo.free]; rw [show NL.contains i = false by simpa using hn]; simp)
            clear hn HNF
            go_wp2
            go_roundg gi
            case measure => omega
            case rel => exact ⟨i + 1, by go_num, ⟨by have := HIK.out; omega⟩, HFF, HTA⟩
end Go.Proofs.Ythfemojaabejiaa.G
end
section
namespace Go.Proofs.Ythfemojaabejiaa.G
open Go.RowKit Go.Proofs.YthfemojaabejiaaW.PrintWords Go.Proofs.YthfemojaabejiaaW.PrintLast Go.Proofs.YthfemojaabejiaaW.PrintMore
attribute [local go_sem] max2_int min2_int max_two min_two max_three min_three max_four min_four
set_option linter.unusedVariables false
set_option linter.unusedSimpArgs false
def laws_szBoolS.f (l0 : List Bool) (a1 : Int) : Option (Int) := if (wrap64 (a1 - (l0.length : Int))) < 0 then (some (-1)) else (some (wrap64 (a1 - (l0.length : Int))))
set_option maxHeartbeats 8000000 in
set_option maxRecDepth 100000 in
theorem laws_szBoolS.calls (A0 : Option Addr) (c0 : Nat) (l0 : List Bool) (a1 : Int) (r : Int) (w : World) (hr0 : Kd.C Kd.bool w A0 l0.length l0) (hc0 : l0.length ≤ c0) (h : laws_szBoolS.f l0 a1 = some r) :
    Calls Try.prog 54 #[.slice A0 l0.length c0, .int .i64 a1] w fun e w' => e = .returned (.int .i64 r) ∧ Drawn0 w w' := by
  have HR0 := Aside0.mk hr0
  have HC0 := Aside0.mk hc0
  clear hr0 hc0
  have H : (if (wrap64 (a1 - (l0.length : Int))) < 0 then (some (-1)) else (some (wrap64 (a1 - (l0.length : Int))))) = some r := h
  clear h
  by_cases c3 : (wrap64 (a1 - (l0.length : Int))) < 0
  · rw [if_pos c3] at H
    have c3b0 : decide ((wrap64 (a1 - (l0.length : Int))) < 0) = true := decide_eq_true c3
    clear c3
    obtain rfl := Option.some.inj H
    go_enter Try.func54, Try.ntmps54
    go_wp2
    go_ret
    exact ⟨by first | rfl | (simp; done) | (simp [*]; done), by repeat (first | exact Drawn0.refl _ | apply Drawn0.step)⟩
  · rw [if_neg c3] at H
    have c3b0 : decide ((wrap64 (a1 - (l0.length : Int))) < 0) = false := decide_eq_false c3
    clear c3
    obtain rfl := Option.some.inj H
    go_enter Try.func54, Try.ntmps54
    go_wp2
    go_ret
    exact ⟨by first | rfl | (simp; done) | (simp [*]; done), by repeat (first | exact Drawn0.refl _ | apply Drawn0.step)⟩
mutual
def laws_szTask.f : Nat → Int → Int → List (S138) → Int → Option (Int)
  | 0, _, _, _, _ => none
  | k + 1, a0_0, a0_1, l0_2, a1 => (laws_szTaskS.f k l0_2 a1).bind fun t102 => (if t102 < 0 then (some (-1)) else (some t102))
def laws_szTaskS.l0 : Nat → List (S138) → Int → Int → Option (Int)
  | 0, _, _, _ => none
  | k + 1, x0, x1, x5 => if x5 < (x0.length : Int) then (if 0 ≤ x5 then ((laws_szTask.f k ((rd_T138 x0 x5).f0) ((rd_T138 x0 x5).f1) ((rd_T138 x0 x5).f2) x1).bind fun t104 => (if t104 < 0 then (some (-1)) else (laws_szTaskS.l0 k x0 t104 (wrap64 (x5 + 1))))) else (none)) else (some x1)
def laws_szTaskS.f : Nat → List (S138) → Int → Option (Int)
  | 0, _, _ => none
  | k + 1, l0, a1 => if (wrap64 (a1 - (l0.length : Int))) < 0 then (some (-1)) else (laws_szTaskS.l0 k l0 (wrap64 (a1 - (l0.length : Int))) 0)
end
set_option maxHeartbeats 8000000 in
set_option maxRecDepth 100000 in
theorem laws_szTask.calls_ih (k : Nat) (ih_106 : ∀ j, j < k → ∀ (a0_0 : Int) (a0_1 : Int) (A0_2 : Option Addr) (c0_2 : Nat) (l0_2 : List (S138)) (a1 : Int) (r : Int) (w : World) (hr0_2 : Kd.C k138 w A0_2 l0_2.length l0_2) (hc0_2 : l0_2.length ≤ c0_2) (h : laws_szTask.f j a0_0 a0_1 l0_2 a1 = some r),
    Calls Try.prog 106 #[.agg #[.int .i64 a0_0, .int .i64 a0_1, .slice A0_2 l0_2.length c0_2], .int .i64 a1] w fun e w' => e = .returned (.int .i64 r) ∧ Below w.heap.size w w') (ih_55 : ∀ j, j < k → ∀ (A0 : Option Addr) (c0 : Nat) (l0 : List (S138)) (a1 : Int) (r : Int) (w : World) (hr0 : Kd.C k138 w A0 l0.length l0) (hc0 : l0.length ≤ c0) (h : laws_szTaskS.f j l0 a1 = some r),
    Calls Try.prog 55 #[.slice A0 l0.length c0, .int .i64 a1] w fun e w' => e = .returned (.int .i64 r) ∧ Below w.heap.size w w') : ∀ (a0_0 : Int) (a0_1 : Int) (A0_2 : Option Addr) (c0_2 : Nat) (l0_2 : List (S138)) (a1 : Int) (r : Int) (w : World) (hr0_2 : Kd.C k138 w A0_2 l0_2.length l0_2) (hc0_2 : l0_2.length ≤ c0_2) (h : laws_szTask.f k a0_0 a0_1 l0_2 a1 = some r),
    Calls Try.prog 106 #[.agg #[.int .i64 a0_0, .int .i64 a0_1, .slice A0_2 l0_2.length c0_2], .int .i64 a1] w fun e w' => e = .returned (.int .i64 r) ∧ Below w.heap.size w w' := by
  intro a0_0 a0_1 A0_2 c0_2 l0_2 a1 r w hr0_2 hc0_2 h
  cases k with
  | zero => exact absurd h (by simp [laws_szTask.f])
  | succ k =>
  simp only [laws_szTask.f] at h
  have hu138 := Try.underlying138
  have HR0_2 := Aside0.mk hr0_2
  have HC0_2 := Aside0.mk hc0_2
  clear hr0_2 hc0_2
  have HB := Aside0.mk (Below.refl w.heap.size w)
  have H : ((laws_szTaskS.f k l0_2 a1).bind fun t102 => (if t102 < 0 then (some (-1)) else (some t102))) = some r := h
  clear h
  replace H := Option.bind_eq_some_iff.mp H
  obtain ⟨t102, A30, H⟩ := H
  replace H : (if t102 < 0 then (some (-1)) else (some t102)) = some r := H
  have A3 := Aside0.mk A30
  clear A30
  by_cases c4 : t102 < 0
  · rw [if_pos c4] at H
    have c4b0 : decide (t102 < 0) = true := decide_eq_true c4
    clear c4
    obtain rfl := Option.some.inj H
    go_enter Try.func106, Try.ntmps106
    go_wp2_with (first | ((with_reducible refine gate_dst (N := 2) rfl ?_); refine box_event ?hg (N := 2) ?hd (cs := #[.int .i64 a0_0, .int .i64 a0_1, .slice A0_2 l0_2.length c0_2]) (t := 138) ?hr ?_; (case hd => rfl); (case hg => rfl); (case hr => first | (go_simp; done) | (go_simp; rfl)); intro gb101 hg w5 hbox hb; have n0_ := Aside0.mk (below_step (by repeat (first | (with_reducible first | exact HB.out | apply below_alloc | apply pw_below_drewN | apply below_drew1) | exact HB.out)) hb); have n1_ := Aside0.mk (hbox); have n2_ := Aside0.mk ((by rw [hg]; exact (below_size (by repeat (first | (with_reducible first | exact HB.out | apply below_alloc | apply pw_below_drewN | apply below_drew1) | exact HB.out))) : w.heap.size ≤ gb101)); have n3_ := Aside0.mk ((by rw [hg]; exact (below_size (by repeat (first | (with_reducible first | exact HB.out | apply below_alloc | apply pw_below_drewN | apply below_drew1) | exact HB.out))) : w.heap.size ≤ gb101)); clear HB; have HB := n0_; have BK101 := n1_; have GW101 := n2_; have GE101 := n3_; clear n0_ n1_ n2_ n3_; clear hb hbox hg; have hcz6_0 : w5.cell? ⟨gb101, 0, none⟩ = some (.int .i64 a0_0) := (blk_cell BK101.out 0).trans rfl; have hcz6_1 : w5.cell? ⟨gb101, 1, none⟩ = some (.int .i64 a0_1) := (blk_cell BK101.out 1).trans rfl; have hcz6_2 : w5.cell? ⟨gb101, 2, none⟩ = some (.slice A0_2 l0_2.length c0_2) := (blk_cell BK101.out 2).trans rfl; have hfz6_0 := blk_frozen BK101.out 0; have hfz6_1 := blk_frozen BK101.out 1; have hfz6_2 := blk_frozen BK101.out 2) | ((with_reducible refine gate_callee (f := 55) rfl ?_); refine goesL_ (some 8) rfl rfl Try.func55 (by kernel_rfl) rfl #[.slice A0_2 l0_2.length c0_2, .int .i64 a1] rfl (by (try simp only [List.map_toArray, List.map_cons, List.map_nil]); first | done | rfl | (simp only [List.length_drop, List.length_take]; rfl)) ?_; (with_reducible refine (ih_55 k (by omega) _ _ l0_2 a1 t102 _ ?side1 ?side2 A3.out).mono ?_); (case side1 => repeat (first | exact (Kd.C_below HR0_2.out HB.out) | (with_reducible refine Kd.C_alloc ?_ _) | (with_reducible refine Kd.C_drewN ?_ _) | (with_reducible refine Kd.C_drew ?_))); (case side2 => exact HC0_2.out); rintro e w7 ⟨rfl, hb⟩; refine ⟨_, rfl, ?_⟩; have n0_ := Aside0.mk (blk_below (g := gb101) (o := .cells #[.int .i64 a0_0, .int .i64 a0_1, .slice A0_2 l0_2.length c0_2] 138 (0, 0)) (by (with_reducible repeat (first | refine blk_drewN ?_ _ | refine blk_drew ?_ | refine blk_alloc ?_ _)); exact BK101.out) hb); have n1_ := Aside0.mk (below_step (by repeat (first | (with_reducible first | exact HB.out | apply below_alloc | apply pw_below_drewN | apply below_drew1 | refine below_set ?_ GE101.out) | exact HB.out)) hb); clear BK101; clear HB; have BK101 := n0_; have HB := n1_; clear n0_ n1_; (try clear hb); (try clear hb2); (try clear hk); (try clear hi)))
    go_ret
    exact ⟨by first | rfl | (simp [errW_none, errW_some] <;> rfl) | (simp [*, errW_none, errW_some] <;> rfl), by repeat (first | (with_reducible first | exact HB.out | apply below_alloc | apply pw_below_drewN | apply below_drew1 | refine below_set ?_ GE101.out) | exact HB.out)⟩
  · rw [if_neg c4] at H
    have c4b0 : decide (t102 < 0) = false := decide_eq_false c4
    clear c4
    obtain rfl := Option.some.inj H
    go_enter Try.func106, Try.ntmps106
    go_wp2_with (first | ((with_reducible refine gate_dst (N := 2) rfl ?_); refine box_event ?hg (N := 2) ?hd (cs := #[.int .i64 a0_0, .int .i64 a0_1, .slice A0_2 l0_2.length c0_2]) (t := 138) ?hr ?_; (case hd => rfl); (case hg => rfl); (case hr => first | (go_simp; done) | (go_simp; rfl)); intro gb101 hg w8 hbox hb; have n0_ := Aside0.mk (below_step (by repeat (first | (with_reducible first | exact HB.out | apply below_alloc | apply pw_below_drewN | apply below_drew1) | exact HB.out)) hb); have n1_ := Aside0.mk (hbox); have n2_ := Aside0.mk ((by rw [hg]; exact (below_size (by repeat (first | (with_reducible first | exact HB.out | apply below_alloc | apply pw_below_drewN | apply below_drew1) | exact HB.out))) : w.heap.size ≤ gb101)); have n3_ := Aside0.mk ((by rw [hg]; exact (below_size (by repeat (first | (with_reducible first | exact HB.out | apply below_alloc | apply pw_below_drewN | apply below_drew1) | exact HB.out))) : w.heap.size ≤ gb101)); clear HB; have HB := n0_; have BK101 := n1_; have GW101 := n2_; have GE101 := n3_; clear n0_ n1_ n2_ n3_; clear hb hbox hg; have hcz9_0 : w8.cell? ⟨gb101, 0, none⟩ = some (.int .i64 a0_0) := (blk_cell BK101.out 0).trans rfl; have hcz9_1 : w8.cell? ⟨gb101, 1, none⟩ = some (.int .i64 a0_1) := (blk_cell BK101.out 1).trans rfl; have hcz9_2 : w8.cell? ⟨gb101, 2, none⟩ = some (.slice A0_2 l0_2.length c0_2) := (blk_cell BK101.out 2).trans rfl; have hfz9_0 := blk_frozen BK101.out 0; have hfz9_1 := blk_frozen BK101.out 1; have hfz9_2 := blk_frozen BK101.out 2) | ((with_reducible refine gate_callee (f := 55) rfl ?_); refine goesL_ (some 8) rfl rfl Try.func55 (by kernel_rfl) rfl #[.slice A0_2 l0_2.length c0_2, .int .i64 a1] rfl (by (try simp only [List.map_toArray, List.map_cons, List.map_nil]); first | done | rfl | (simp only [List.length_drop, List.length_take]; rfl)) ?_; (with_reducible refine (ih_55 k (by omega) _ _ l0_2 a1 t102 _ ?side1 ?side2 A3.out).mono ?_); (case side1 => repeat (first | exact (Kd.C_below HR0_2.out HB.out) | (with_reducible refine Kd.C_alloc ?_ _) | (with_reducible refine Kd.C_drewN ?_ _) | (with_reducible refine Kd.C_drew ?_))); (case side2 => exact HC0_2.out); rintro e w10 ⟨rfl, hb⟩; refine ⟨_, rfl, ?_⟩; have n0_ := Aside0.mk (blk_below (g := gb101) (o := .cells #[.int .i64 a0_0, .int .i64 a0_1, .slice A0_2 l0_2.length c0_2] 138 (0, 0)) (by (with_reducible repeat (first | refine blk_drewN ?_ _ | refine blk_drew ?_ | refine blk_alloc ?_ _)); exact BK101.out) hb); have n1_ := Aside0.mk (below_step (by repeat (first | (with_reducible first | exact HB.out | apply below_alloc | apply pw_below_drewN | apply below_drew1 | refine below_set ?_ GE101.out) | exact HB.out)) hb); clear BK101; clear HB; have BK101 := n0_; have HB := n1_; clear n0_ n1_; (try clear hb); (try clear hb2); (try clear hk); (try clear hi)))
    go_ret
    exact ⟨by first | rfl | (simp [errW_none, errW_some] <;> rfl) | (simp [*, errW_none, errW_some] <;> rfl), by repeat (first | (with_reducible first | exact HB.out | apply below_alloc | apply pw_below_drewN | apply below_drew1 | refine below_set ?_ GE101.out) | exact HB.out)⟩
set_option maxHeartbeats 8000000 in
set_option maxRecDepth 100000 in
theorem laws_szTaskS.calls_ih (k : Nat) (ih_106 : ∀ j, j < k → ∀ (a0_0 : Int) (a0_1 : Int) (A0_2 : Option Addr) (c0_2 : Nat) (l0_2 : List (S138)) (a1 : Int) (r : Int) (w : World) (hr0_2 : Kd.C k138 w A0_2 l0_2.length l0_2) (hc0_2 : l0_2.length ≤ c0_2) (h : laws_szTask.f j a0_0 a0_1 l0_2 a1 = some r),
    Calls Try.prog 106 #[.agg #[.int .i64 a0_0, .int .i64 a0_1, .slice A0_2 l0_2.length c0_2], .int .i64 a1] w fun e w' => e = .returned (.int .i64 r) ∧ Below w.heap.size w w') (ih_55 : ∀ j, j < k → ∀ (A0 : Option Addr) (c0 : Nat) (l0 : List (S138)) (a1 : Int) (r : Int) (w : World) (hr0 : Kd.C k138 w A0 l0.length l0) (hc0 : l0.length ≤ c0) (h : laws_szTaskS.f j l0 a1 = some r),
    Calls Try.prog 55 #[.slice A0 l0.length c0, .int .i64 a1] w fun e w' => e = .returned (.int .i64 r) ∧ Below w.heap.size w w') : ∀ (A0 : Option Addr) (c0 : Nat) (l0 : List (S138)) (a1 : Int) (r : Int) (w : World) (hr0 : Kd.C k138 w A0 l0.length l0) (hc0 : l0.length ≤ c0) (h : laws_szTaskS.f k l0 a1 = some r),
    Calls Try.prog 55 #[.slice A0 l0.length c0, .int .i64 a1] w fun e w' => e = .returned (.int .i64 r) ∧ Below w.heap.size w w' := by
  intro A0 c0 l0 a1 r w hr0 hc0 h
  cases k with
  | zero => exact absurd h (by simp [laws_szTaskS.f])
  | succ k =>
  simp only [laws_szTaskS.f] at h
  have hu138 := Try.underlying138
  have HR0 := Aside0.mk hr0
  have HC0 := Aside0.mk hc0
  clear hr0 hc0
  have HB := Aside0.mk (Below.refl w.heap.size w)
  have H : (if (wrap64 (a1 - (l0.length : Int))) < 0 then (some (-1)) else (laws_szTaskS.l0 k l0 (wrap64 (a1 - (l0.length : Int))) 0)) = some r := h
  clear h
  by_cases c3 : (wrap64 (a1 - (l0.length : Int))) < 0
  · rw [if_pos c3] at H
    have c3b0 : decide ((wrap64 (a1 - (l0.length : Int))) < 0) = true := decide_eq_true c3
    clear c3
    obtain rfl := Option.some.inj H
    go_enter Try.func55, Try.ntmps55
    go_wp2
    go_ret
    exact ⟨by first | rfl | (simp [errW_none, errW_some] <;> rfl) | (simp [*, errW_none, errW_some] <;> rfl), by repeat (first | (with_reducible first | exact HB.out | apply below_alloc | apply pw_below_drewN | apply below_drew1) | exact HB.out)⟩
  · rw [if_neg c3] at H
    have c3b0 : decide ((wrap64 (a1 - (l0.length : Int))) < 0) = false := decide_eq_false c3
    clear c3
    have H' := Aside0.mk H
    clear H
    go_enter Try.func55, Try.ntmps55
    go_wp2
    go_loopg [1, 5] k (fun kq v1 v5 w' => ∃ (x1_1 : Int) (x5_1 : Int), v1 = .int .i64 x1_1 ∧ v5 = .int .i64 x5_1 ∧ Aside0 (laws_szTaskS.l0 kq l0 x1_1 x5_1 = some r) ∧ Aside0 (kq ≤ k) ∧ Aside0 (Below w.heap.size w w'))
    case atStart => exact ⟨(wrap64 (a1 - (l0.length : Int))), (0), (by first | rfl | (simp; done) | (simp [*]; done)), (by first | rfl | (simp; done) | (simp [*]; done)), H', ⟨Nat.le_refl _⟩, ⟨by repeat (first | (with_reducible first | exact HB.out | apply below_alloc | apply pw_below_drewN | apply below_drew1) | exact HB.out)⟩⟩
    case round =>
      clear H'
      try clear p2
      try clear c3
      try clear c3b0
      obtain ⟨x1_1, x5_1, rfl, rfl, HA, HK1, HB⟩ := hrel
      cases gk with
      | zero => exact absurd HA.out (by simp [laws_szTaskS.l0])
      | succ k1 =>
        have H := HA.out
        clear HA
        simp only [laws_szTaskS.l0] at H
        by_cases c4 : x5_1 < (l0.length : Int)
        · rw [if_pos c4] at H
          have c4b0 : decide (x5_1 < (l0.length : Int)) = true := decide_eq_true c4
          clear c4
          by_cases c5 : 0 ≤ x5_1
          · rw [if_pos c5] at H
            have c5b0 : decide (0 ≤ x5_1) = true := decide_eq_true c5
            clear c5
            replace H := Option.bind_eq_some_iff.mp H
            obtain ⟨t104, A60, H⟩ := H
            replace H : (if t104 < 0 then (some (-1)) else (laws_szTaskS.l0 k1 l0 t104 (wrap64 (x5_1 + 1)))) = some r := H
            have A6 := Aside0.mk A60
            clear A60
            by_cases c7 : t104 < 0
            · rw [if_pos c7] at H
              have c7b0 : decide (t104 < 0) = true := decide_eq_true c7
              clear c7
              obtain rfl := Option.some.inj H
              have p103 : 0 ≤ (x5_1 : Int) := of_decide_eq_true (by first | (with_reducible assumption) | assumption)
              have q103 : x5_1 < (l0.length : Int) := of_decide_eq_true (by first | (with_reducible assumption) | assumption)
              obtain ⟨ad103, A103_2, c103_2, e103, hx103_0, hx103_1, hx103_2, hl103_2, hi103_2⟩ := at_T138 HR0.out x5_1 p103 q103
              cases e103
              replace hx103_0 := (HB.out.cell (World.block_lt_of_cell? w _ hx103_0)).trans hx103_0
              replace hx103_1 := (HB.out.cell (World.block_lt_of_cell? w _ hx103_1)).trans hx103_1
              replace hx103_2 := (HB.out.cell (World.block_lt_of_cell? w _ hx103_2)).trans hx103_2
              have HR103_2 := Aside0.mk hi103_2
              have HC103_2 := Aside0.mk hl103_2
              clear hi103_2 hl103_2
              replace p103 := eq_true p103
              replace q103 := eq_true q103
              go_wp2_with (first | ((with_reducible refine gate_callee (f := 106) rfl ?_); refine goesL_ (some 23) rfl rfl Try.func106 (by kernel_rfl) rfl #[.agg #[.int .i64 ((rd_T138 l0 x5_1).f0), .int .i64 ((rd_T138 l0 x5_1).f1), .slice A103_2 ((rd_T138 l0 x5_1).f2).length c103_2], .int .i64 x1_1] rfl (by (try simp only [List.map_toArray, List.map_cons, List.map_nil]); first | done | rfl | (simp only [List.length_drop, List.length_take]; rfl)) ?_; (with_reducible refine (ih_106 k1 (by have := HK1.out; omega) ((rd_T138 l0 x5_1).f0) ((rd_T138 l0 x5_1).f1) _ _ ((rd_T138 l0 x5_1).f2) x1_1 t104 _ ?side1 ?side2 A6.out).mono ?_); (case side1 => repeat (first | exact (Kd.C_below HR103_2.out HB.out) | (with_reducible refine Kd.C_alloc ?_ _) | (with_reducible refine Kd.C_drewN ?_ _) | (with_reducible refine Kd.C_drew ?_))); (case side2 => exact HC103_2.out); rintro e w8 ⟨rfl, hb⟩; refine ⟨_, rfl, ?_⟩; have n0_ := Aside0.mk (below_step (by repeat (first | (with_reducible first | exact HB.out | apply below_alloc | apply pw_below_drewN | apply below_drew1) | exact HB.out)) hb); clear HB; have HB := n0_; clear n0_; (try clear hb); (try clear hb2); (try clear hk); (try clear hi)))
              go_ret
              exact ⟨by first | rfl | (simp [errW_none, errW_some] <;> rfl) | (simp [*, errW_none, errW_some] <;> rfl), by repeat (first | (with_reducible first | exact HB.out | apply below_alloc | apply pw_below_drewN | apply below_drew1) | exact HB.out)⟩
            · rw [if_neg c7] at H
              have c7b0 : decide (t104 < 0) = false := decide_eq_false c7
              clear c7
              have H' := Aside0.mk H
              clear H
              have p103 : 0 ≤ (x5_1 : Int) := of_decide_eq_true (by first | (with_reducible assumption) | assumption)
              have q103 : x5_1 < (l0.length : Int) := of_decide_eq_true (by first | (with_reducible assumption) | assumption)
              obtain ⟨ad103, A103_2, c103_2, e103, hx103_0, hx103_1, hx103_2, hl103_2, hi103_2⟩ := at_T138 HR0.out x5_1 p103 q103
              cases e103
              replace hx103_0 := (HB.out.cell (World.block_lt_of_cell? w _ hx103_0)).trans hx103_0
              replace hx103_1 := (HB.out.cell (World.block_lt_of_cell? w _ hx103_1)).trans hx103_1
              replace hx103_2 := (HB.out.cell (World.block_lt_of_cell? w _ hx103_2)).trans hx103_2
              have HR103_2 := Aside0.mk hi103_2
              have HC103_2 := Aside0.mk hl103_2
              clear hi103_2 hl103_2
              replace p103 := eq_true p103
              replace q103 := eq_true q103
              go_wp2_with (first | ((with_reducible refine gate_callee (f := 106) rfl ?_); refine goesL_ (some 23) rfl rfl Try.func106 (by kernel_rfl) rfl #[.agg #[.int .i64 ((rd_T138 l0 x5_1).f0), .int .i64 ((rd_T138 l0 x5_1).f1), .slice A103_2 ((rd_T138 l0 x5_1).f2).length c103_2], .int .i64 x1_1] rfl (by (try simp only [List.map_toArray, List.map_cons, List.map_nil]); first | done | rfl | (simp only [List.length_drop, List.length_take]; rfl)) ?_; (with_reducible refine (ih_106 k1 (by have := HK1.out; omega) ((rd_T138 l0 x5_1).f0) ((rd_T138 l0 x5_1).f1) _ _ ((rd_T138 l0 x5_1).f2) x1_1 t104 _ ?side1 ?side2 A6.out).mono ?_); (case side1 => repeat (first | exact (Kd.C_below HR103_2.out HB.out) | (with_reducible refine Kd.C_alloc ?_ _) | (with_reducible refine Kd.C_drewN ?_ _) | (with_reducible refine Kd.C_drew ?_))); (case side2 => exact HC103_2.out); rintro e w9 ⟨rfl, hb⟩; refine ⟨_, rfl, ?_⟩; have n0_ := Aside0.mk (below_step (by repeat (first | (with_reducible first | exact HB.out | apply below_alloc | apply pw_below_drewN | apply below_drew1) | exact HB.out)) hb); clear HB; have HB := n0_; clear n0_; (try clear hb); (try clear hb2); (try clear hk); (try clear hi)))
              go_roundg k1
              case measure => have := HK1.out; omega
              case rel => exact ⟨(t104), (wrap64 (x5_1 + 1)), (by first | rfl | (simp; done) | (simp [*]; done)), (by first | rfl | (simp; done) | (simp [*]; done)), H', ⟨by have := HK1.out; omega⟩, ⟨by repeat (first | (with_reducible first | exact HB.out | apply below_alloc | apply pw_below_drewN | apply below_drew1) | exact HB.out)⟩⟩
          · rw [if_neg c5] at H
            exact absurd H (by simp)
        · rw [if_neg c4] at H
          have c4b0 : decide (x5_1 < (l0.length : Int)) = false := decide_eq_false c4
          clear c4
          obtain rfl := Option.some.inj H
          go_wp2
          go_ret
          exact ⟨by first | rfl | (simp [errW_none, errW_some] <;> rfl) | (simp [*, errW_none, errW_some] <;> rfl), by repeat (first | (with_reducible first | exact HB.out | apply below_alloc | apply pw_below_drewN | apply below_drew1) | exact HB.out)⟩
theorem laws_szTask.calls_all (k : Nat) : (∀ (a0_0 : Int) (a0_1 : Int) (A0_2 : Option Addr) (c0_2 : Nat) (l0_2 : List (S138)) (a1 : Int) (r : Int) (w : World) (hr0_2 : Kd.C k138 w A0_2 l0_2.length l0_2) (hc0_2 : l0_2.length ≤ c0_2) (h : laws_szTask.f k a0_0 a0_1 l0_2 a1 = some r),
    Calls Try.prog 106 #[.agg #[.int .i64 a0_0, .int .i64 a0_1, .slice A0_2 l0_2.length c0_2], .int .i64 a1] w fun e w' => e = .returned (.int .i64 r) ∧ Below w.heap.size w w') ∧ (∀ (A0 : Option Addr) (c0 : Nat) (l0 : List (S138)) (a1 : Int) (r : Int) (w : World) (hr0 : Kd.C k138 w A0 l0.length l0) (hc0 : l0.length ≤ c0) (h : laws_szTaskS.f k l0 a1 = some r),
    Calls Try.prog 55 #[.slice A0 l0.length c0, .int .i64 a1] w fun e w' => e = .returned (.int .i64 r) ∧ Below w.heap.size w w') := by
  induction k using Nat.strongRecOn with
  | _ k ih =>
  exact ⟨laws_szTask.calls_ih k (fun j hj => (ih j hj).1) (fun j hj => (ih j hj).2), laws_szTaskS.calls_ih k (fun j hj => (ih j hj).1) (fun j hj => (ih j hj).2)⟩
theorem laws_szTaskS.calls (k : Nat) : ∀ (A0 : Option Addr) (c0 : Nat) (l0 : List (S138)) (a1 : Int) (r : Int) (w : World) (hr0 : Kd.C k138 w A0 l0.length l0) (hc0 : l0.length ≤ c0) (h : laws_szTaskS.f k l0 a1 = some r),
    Calls Try.prog 55 #[.slice A0 l0.length c0, .int .i64 a1] w fun e w' => e = .returned (.int .i64 r) ∧ Below w.heap.size w w' := (laws_szTask.calls_all k).2
def laws_szSheet.f (k : Nat) (l0_0 : List Bool) (l0_1 : List (S138)) (a1 : Int) : Option (Int) := (laws_szBoolS.f l0_0 a1).bind fun t106 => (if t106 < 0 then (some (-1)) else ((laws_szTaskS.f k l0_1 t106).bind fun t107 => (if t107 < 0 then (some (-1)) else (some t107))))
set_option maxHeartbeats 8000000 in
set_option maxRecDepth 100000 in
theorem laws_szSheet.calls (k : Nat) (A0_0 : Option Addr) (c0_0 : Nat) (l0_0 : List Bool) (A0_1 : Option Addr) (c0_1 : Nat) (l0_1 : List (S138)) (a1 : Int) (r : Int) (w : World) (hr0_0 : Kd.C Kd.bool w A0_0 l0_0.length l0_0) (hc0_0 : l0_0.length ≤ c0_0) (hr0_1 : Kd.C k138 w A0_1 l0_1.length l0_1) (hc0_1 : l0_1.length ≤ c0_1) (h : laws_szSheet.f k l0_0 l0_1 a1 = some r) :
    Calls Try.prog 14 #[.agg #[.slice A0_0 l0_0.length c0_0, .slice A0_1 l0_1.length c0_1], .int .i64 a1] w fun e w' => e = .returned (.int .i64 r) ∧ Below w.heap.size w w' := by
  have hu25 := Try.underlying25
  have HR0_0 := Aside0.mk hr0_0
  have HC0_0 := Aside0.mk hc0_0
  clear hr0_0 hc0_0
  have HR0_1 := Aside0.mk hr0_1
  have HC0_1 := Aside0.mk hc0_1
  clear hr0_1 hc0_1
  have HB := Aside0.mk (Below.refl w.heap.size w)
  have H : ((laws_szBoolS.f l0_0 a1).bind fun t106 => (if t106 < 0 then (some (-1)) else ((laws_szTaskS.f k l0_1 t106).bind fun t107 => (if t107 < 0 then (some (-1)) else (some t107))))) = some r := h
  clear h
  replace H := Option.bind_eq_some_iff.mp H
  obtain ⟨t106, A30, H⟩ := H
  replace H : (if t106 < 0 then (some (-1)) else ((laws_szTaskS.f k l0_1 t106).bind fun t107 => (if t107 < 0 then (some (-1)) else (some t107)))) = some r := H
  have A3 := Aside0.mk A30
  clear A30
  by_cases c4 : t106 < 0
  · rw [if_pos c4] at H
    have c4b0 : decide (t106 < 0) = true := decide_eq_true c4
    clear c4
    obtain rfl := Option.some.inj H
    go_enter Try.func14, Try.ntmps14
    go_wp2_with (first | ((with_reducible refine gate_dst (N := 2) rfl ?_); refine box_event ?hg (N := 2) ?hd (cs := #[.slice A0_0 l0_0.length c0_0, .slice A0_1 l0_1.length c0_1]) (t := 25) ?hr ?_; (case hd => rfl); (case hg => rfl); (case hr => first | (go_simp; done) | (go_simp; rfl)); intro gb105 hg w5 hbox hb; have n0_ := Aside0.mk (below_step (by repeat (first | (with_reducible first | exact HB.out | apply below_alloc | apply pw_below_drewN | apply below_drew1) | exact HB.out)) hb); have n1_ := Aside0.mk (hbox); have n2_ := Aside0.mk ((by rw [hg]; exact (below_size (by repeat (first | (with_reducible first | exact HB.out | apply below_alloc | apply pw_below_drewN | apply below_drew1) | exact HB.out))) : w.heap.size ≤ gb105)); have n3_ := Aside0.mk ((by rw [hg]; exact (below_size (by repeat (first | (with_reducible first | exact HB.out | apply below_alloc | apply pw_below_drewN | apply below_drew1) | exact HB.out))) : w.heap.size ≤ gb105)); clear HB; have HB := n0_; have BK105 := n1_; have GW105 := n2_; have GE105 := n3_; clear n0_ n1_ n2_ n3_; clear hb hbox hg; have hcz6_0 : w5.cell? ⟨gb105, 0, none⟩ = some (.slice A0_0 l0_0.length c0_0) := (blk_cell BK105.out 0).trans rfl; have hcz6_1 : w5.cell? ⟨gb105, 1, none⟩ = some (.slice A0_1 l0_1.length c0_1) := (blk_cell BK105.out 1).trans rfl; have hfz6_0 := blk_frozen BK105.out 0; have hfz6_1 := blk_frozen BK105.out 1) | ((with_reducible refine gate_callee (f := 54) rfl ?_); refine goesL_ (some 8) rfl rfl Try.func54 (by kernel_rfl) rfl #[.slice A0_0 l0_0.length c0_0, .int .i64 a1] rfl (by (try simp only [List.map_toArray, List.map_cons, List.map_nil]); first | done | rfl | (simp only [List.length_drop, List.length_take]; rfl)) ?_; (with_reducible refine (laws_szBoolS.calls _ _ l0_0 a1 t106 _ ?side1 ?side2 A3.out).mono ?_); (case side1 => repeat (first | exact (Kd.C_below HR0_0.out HB.out) | (with_reducible refine Kd.C_alloc ?_ _) | (with_reducible refine Kd.C_drewN ?_ _) | (with_reducible refine Kd.C_drew ?_))); (case side2 => exact HC0_0.out); rintro e w' ⟨rfl, ⟨nd, rfl⟩⟩; refine ⟨_, rfl, ?_⟩))
    go_ret
    exact ⟨by first | rfl | (simp [errW_none, errW_some] <;> rfl) | (simp [*, errW_none, errW_some] <;> rfl), by repeat (first | (with_reducible first | exact HB.out | apply below_alloc | apply pw_below_drewN | apply below_drew1 | refine below_set ?_ GE105.out) | exact HB.out)⟩
  · rw [if_neg c4] at H
    have c4b0 : decide (t106 < 0) = false := decide_eq_false c4
    clear c4
    replace H := Option.bind_eq_some_iff.mp H
    obtain ⟨t107, A70, H⟩ := H
    replace H : (if t107 < 0 then (some (-1)) else (some t107)) = some r := H
    have A7 := Aside0.mk A70
    clear A70
    by_cases c8 : t107 < 0
    · rw [if_pos c8] at H
      have c8b0 : decide (t107 < 0) = true := decide_eq_true c8
      clear c8
      obtain rfl := Option.some.inj H
      go_enter Try.func14, Try.ntmps14
      go_wp2_with (first | ((with_reducible refine gate_dst (N := 2) rfl ?_); refine box_event ?hg (N := 2) ?hd (cs := #[.slice A0_0 l0_0.length c0_0, .slice A0_1 l0_1.length c0_1]) (t := 25) ?hr ?_; (case hd => rfl); (case hg => rfl); (case hr => first | (go_simp; done) | (go_simp; rfl)); intro gb105 hg w9 hbox hb; have n0_ := Aside0.mk (below_step (by repeat (first | (with_reducible first | exact HB.out | apply below_alloc | apply pw_below_drewN | apply below_drew1) | exact HB.out)) hb); have n1_ := Aside0.mk (hbox); have n2_ := Aside0.mk ((by rw [hg]; exact (below_size (by repeat (first | (with_reducible first | exact HB.out | apply below_alloc | apply pw_below_drewN | apply below_drew1) | exact HB.out))) : w.heap.size ≤ gb105)); have n3_ := Aside0.mk ((by rw [hg]; exact (below_size (by repeat (first | (with_reducible first | exact HB.out | apply below_alloc | apply pw_below_drewN | apply below_drew1) | exact HB.out))) : w.heap.size ≤ gb105)); clear HB; have HB := n0_; have BK105 := n1_; have GW105 := n2_; have GE105 := n3_; clear n0_ n1_ n2_ n3_; clear hb hbox hg; have hcz10_0 : w9.cell? ⟨gb105, 0, none⟩ = some (.slice A0_0 l0_0.length c0_0) := (blk_cell BK105.out 0).trans rfl; have hcz10_1 : w9.cell? ⟨gb105, 1, none⟩ = some (.slice A0_1 l0_1.length c0_1) := (blk_cell BK105.out 1).trans rfl; have hfz10_0 := blk_frozen BK105.out 0; have hfz10_1 := blk_frozen BK105.out 1) | ((with_reducible refine gate_callee (f := 54) rfl ?_); refine goesL_ (some 8) rfl rfl Try.func54 (by kernel_rfl) rfl #[.slice A0_0 l0_0.length c0_0, .int .i64 a1] rfl (by (try simp only [List.map_toArray, List.map_cons, List.map_nil]); first | done | rfl | (simp only [List.length_drop, List.length_take]; rfl)) ?_; (with_reducible refine (laws_szBoolS.calls _ _ l0_0 a1 t106 _ ?side1 ?side2 A3.out).mono ?_); (case side1 => repeat (first | exact (Kd.C_below HR0_0.out HB.out) | (with_reducible refine Kd.C_alloc ?_ _) | (with_reducible refine Kd.C_drewN ?_ _) | (with_reducible refine Kd.C_drew ?_))); (case side2 => exact HC0_0.out); rintro e w' ⟨rfl, ⟨nd, rfl⟩⟩; refine ⟨_, rfl, ?_⟩) | ((with_reducible refine gate_callee (f := 55) rfl ?_); refine goesL_ (some 14) rfl rfl Try.func55 (by kernel_rfl) rfl #[.slice A0_1 l0_1.length c0_1, .int .i64 t106] rfl (by (try simp only [List.map_toArray, List.map_cons, List.map_nil]); first | done | rfl | (simp only [List.length_drop, List.length_take]; rfl)) ?_; (with_reducible refine (laws_szTaskS.calls k _ _ l0_1 t106 t107 _ ?side1 ?side2 A7.out).mono ?_); (case side1 => repeat (first | exact (Kd.C_below HR0_1.out (by repeat (first | (with_reducible first | exact HB.out | apply below_alloc | apply pw_below_drewN | apply below_drew1 | refine below_set ?_ GE105.out) | exact HB.out))) | (with_reducible refine Kd.C_alloc ?_ _) | (with_reducible refine Kd.C_drewN ?_ _) | (with_reducible refine Kd.C_drew ?_))); (case side2 => exact HC0_1.out); rintro e w11 ⟨rfl, hb⟩; refine ⟨_, rfl, ?_⟩; have n0_ := Aside0.mk (blk_below (g := gb105) (o := .cells #[.slice A0_0 l0_0.length c0_0, .slice A0_1 l0_1.length c0_1] 25 (0, 0)) (by (with_reducible repeat (first | refine blk_drewN ?_ _ | refine blk_drew ?_ | refine blk_alloc ?_ _)); exact BK105.out) hb); have n1_ := Aside0.mk (below_step (by repeat (first | (with_reducible first | exact HB.out | apply below_alloc | apply pw_below_drewN | apply below_drew1 | refine below_set ?_ GE105.out) | exact HB.out)) hb); clear BK105; clear HB; have BK105 := n0_; have HB := n1_; clear n0_ n1_; (try clear hb); (try clear hb2); (try clear hk); (try clear hi)))
      go_ret
      exact ⟨by first | rfl | (simp [errW_none, errW_some] <;> rfl) | (simp [*, errW_none, errW_some] <;> rfl), by repeat (first | (with_reducible first | exact HB.out | apply below_alloc | apply pw_below_drewN | apply below_drew1 | refine below_set ?_ GE105.out) | exact HB.out)⟩
    · rw [if_neg c8] at H
      have c8b0 : decide (t107 < 0) = false := decide_eq_false c8
      clear c8
      obtain rfl := Option.some.inj H
      go_enter Try.func14, Try.ntmps14
      go_wp2_with (first | ((with_reducible refine gate_dst (N := 2) rfl ?_); refine box_event ?hg (N := 2) ?hd (cs := #[.slice A0_0 l0_0.length c0_0, .slice A0_1 l0_1.length c0_1]) (t := 25) ?hr ?_; (case hd => rfl); (case hg => rfl); (case hr => first | (go_simp; done) | (go_simp; rfl)); intro gb105 hg w12 hbox hb; have n0_ := Aside0.mk (below_step (by repeat (first | (with_reducible first | exact HB.out | apply below_alloc | apply pw_below_drewN | apply below_drew1) | exact HB.out)) hb); have n1_ := Aside0.mk (hbox); have n2_ := Aside0.mk ((by rw [hg]; exact (below_size (by repeat (first | (with_reducible first | exact HB.out | apply below_alloc | apply pw_below_drewN | apply below_drew1) | exact HB.out))) : w.heap.size ≤ gb105)); have n3_ := Aside0.mk ((by rw [hg]; exact (below_size (by repeat (first | (with_reducible first | exact HB.out | apply below_alloc | apply pw_below_drewN | apply below_drew1) | exact HB.out))) : w.heap.size ≤ gb105)); clear HB; have HB := n0_; have BK105 := n1_; have GW105 := n2_; have GE105 := n3_; clear n0_ n1_ n2_ n3_; clear hb hbox hg; have hcz13_0 : w12.cell? ⟨gb105, 0, none⟩ = some (.slice A0_0 l0_0.length c0_0) := (blk_cell BK105.out 0).trans rfl; have hcz13_1 : w12.cell? ⟨gb105, 1, none⟩ = some (.slice A0_1 l0_1.length c0_1) := (blk_cell BK105.out 1).trans rfl; have hfz13_0 := blk_frozen BK105.out 0; have hfz13_1 := blk_frozen BK105.out 1) | ((with_reducible refine gate_callee (f := 54) rfl ?_); refine goesL_ (some 8) rfl rfl Try.func54 (by kernel_rfl) rfl #[.slice A0_0 l0_0.length c0_0, .int .i64 a1] rfl (by (try simp only [List.map_toArray, List.map_cons, List.map_nil]); first | done | rfl | (simp only [List.length_drop, List.length_take]; rfl)) ?_; (with_reducible refine (laws_szBoolS.calls _ _ l0_0 a1 t106 _ ?side1 ?side2 A3.out).mono ?_); (case side1 => repeat (first | exact (Kd.C_below HR0_0.out HB.out) | (with_reducible refine Kd.C_alloc ?_ _) | (with_reducible refine Kd.C_drewN ?_ _) | (with_reducible refine Kd.C_drew ?_))); (case side2 => exact HC0_0.out); rintro e w' ⟨rfl, ⟨nd, rfl⟩⟩; refine ⟨_, rfl, ?_⟩) | ((with_reducible refine gate_callee (f := 55) rfl ?_); refine goesL_ (some 14) rfl rfl Try.func55 (by kernel_rfl) rfl #[.slice A0_1 l0_1.length c0_1, .int .i64 t106] rfl (by (try simp only [List.map_toArray, List.map_cons, List.map_nil]); first | done | rfl | (simp only [List.length_drop, List.length_take]; rfl)) ?_; (with_reducible refine (laws_szTaskS.calls k _ _ l0_1 t106 t107 _ ?side1 ?side2 A7.out).mono ?_); (case side1 => repeat (first | exact (Kd.C_below HR0_1.out (by repeat (first | (with_reducible first | exact HB.out | apply below_alloc | apply pw_below_drewN | apply below_drew1 | refine below_set ?_ GE105.out) | exact HB.out))) | (with_reducible refine Kd.C_alloc ?_ _) | (with_reducible refine Kd.C_drewN ?_ _) | (with_reducible refine Kd.C_drew ?_))); (case side2 => exact HC0_1.out); rintro e w14 ⟨rfl, hb⟩; refine ⟨_, rfl, ?_⟩; have n0_ := Aside0.mk (blk_below (g := gb105) (o := .cells #[.slice A0_0 l0_0.length c0_0, .slice A0_1 l0_1.length c0_1] 25 (0, 0)) (by (with_reducible repeat (first | refine blk_drewN ?_ _ | refine blk_drew ?_ | refine blk_alloc ?_ _)); exact BK105.out) hb); have n1_ := Aside0.mk (below_step (by repeat (first | (with_reducible first | exact HB.out | apply below_alloc | apply pw_below_drewN | apply below_drew1 | refine below_set ?_ GE105.out) | exact HB.out)) hb); clear BK105; clear HB; have BK105 := n0_; have HB := n1_; clear n0_ n1_; (try clear hb); (try clear hb2); (try clear hk); (try clear hi)))
      go_ret
      exact ⟨by first | rfl | (simp [errW_none, errW_some] <;> rfl) | (simp [*, errW_none, errW_some] <;> rfl), by repeat (first | (with_reducible first | exact HB.out | apply below_alloc | apply pw_below_drewN | apply below_drew1 | refine below_set ?_ GE105.out) | exact HB.out)⟩
def spec_l6In.f (a0 : Int) (a1 : Int) (a2 : Int) : Option (Bool) := if a0 ≥ a1 then (some (decide (a0 ≤ a2))) else (some false)
set_option maxHeartbeats 8000000 in
set_option maxRecDepth 100000 in
theorem spec_l6In.calls (a0 : Int) (a1 : Int) (a2 : Int) (r : Bool) (w : World) (h : spec_l6In.f a0 a1 a2 = some r) :
    Calls Try.prog 82 #[.int .i64 a0, .int .i64 a1, .int .i64 a2] w fun e w' => e = .returned (.bool r) ∧ Drawn0 w w' := by
  have H : (if a0 ≥ a1 then (some (decide (a0 ≤ a2))) else (some false)) = some r := h
  clear h
  by_cases c4 : a0 ≥ a1
  · rw [if_pos c4] at H
    have c4b0 : decide (a1 ≤ a0) = true := decide_eq_true c4
    clear c4
    obtain rfl := Option.some.inj H
    go_enter Try.func82, Try.ntmps82
    go_wp2
    go_ret
    exact ⟨by first | rfl | (simp; done) | (simp [*]; done), by repeat (first | exact Drawn0.refl _ | apply Drawn0.step)⟩
  · rw [if_neg c4] at H
    have c4b0 : decide (a1 ≤ a0) = false := decide_eq_false c4
    clear c4
    obtain rfl := Option.some.inj H
    go_enter Try.func82, Try.ntmps82
    go_wp2
    go_ret
    exact ⟨by first | rfl | (simp; done) | (simp [*]; done), by repeat (first | exact Drawn0.refl _ | apply Drawn0.step)⟩
def spec_l1Shape.j0 : Nat → Int → Bool → Option (Int × Int × Bool)
  | 0, _, _ => none
  | k + 1, x5, x10 => if x10 = true then (some (2, 0, true)) else (if x5 = 4 then (some (3, 0, true)) else (if x5 = 5 then (some (1, 9, true)) else (some (0, 0, false))))
def spec_l1Shape.f (k : Nat) (a0 : Int) : Option (Int × Int × Bool) := if a0 = 0 then (some (0, 96, true)) else (if a0 = 1 then (some (0, 9, true)) else (if a0 = 2 then (spec_l1Shape.j0 k a0 (a0 == 2)) else (spec_l1Shape.j0 k a0 (a0 == 3))))
set_option maxHeartbeats 8000000 in
set_option maxRecDepth 100000 in
theorem spec_l1Shape.calls (k : Nat) (a0 : Int) (r1 : Int) (r2 : Int) (r3 : Bool) (w : World) (h : spec_l1Shape.f k a0 = some (r1, r2, r3)) :
    Calls Try.prog 160 #[.int .i64 a0] w fun e w' => e = .returned (.tuple #[.int .i64 r1, .int .i64 r2, .bool r3]) ∧ Drawn0 w w' := by
  have H : (if a0 = 0 then (some (0, 96, true)) else (if a0 = 1 then (some (0, 9, true)) else (if a0 = 2 then (spec_l1Shape.j0 k a0 (a0 == 2)) else (spec_l1Shape.j0 k a0 (a0 == 3))))) = some (r1, r2, r3) := h
  clear h
  by_cases c2 : a0 = 0
  · rw [if_pos c2] at H
    have c2b0 : (a0 == 0) = true := beq_iff_eq.mpr c2
    have c2b1 : (a0 != 0) = false := bne_eq_false_iff_eq.mpr c2
    clear c2
    simp only [Option.some.injEq, Prod.mk.injEq] at H
    obtain ⟨rfl, rfl, rfl⟩ := H
    go_enter Try.func160, Try.ntmps160
    go_wp2
    go_ret3
    exact ⟨by first | rfl | (simp; done) | (simp [*]; done), by repeat (first | exact Drawn0.refl _ | apply Drawn0.step)⟩
  · rw [if_neg c2] at H
    have c2b0 : (a0 == 0) = false := beq_eq_false_iff_ne.mpr c2
    have c2b1 : (a0 != 0) = true := bne_iff_ne.mpr c2
    by_cases c3 : a0 = 1
    · rw [if_pos c3] at H
      have c3b0 : (a0 == 1) = true := beq_iff_eq.mpr c3
      have c3b1 : (a0 != 1) = false := bne_eq_false_iff_eq.mpr c3
      clear c3
      simp only [Option.some.injEq, Prod.mk.injEq] at H
      obtain ⟨rfl, rfl, rfl⟩ := H
      go_enter Try.func160, Try.ntmps160
      go_wp2
      go_ret3
      exact ⟨by first | rfl | (simp; done) | (simp [*]; done), by repeat (first | exact Drawn0.refl _ | apply Drawn0.step)⟩
    · rw [if_neg c3] at H
      have c3b0 : (a0 == 1) = false := beq_eq_false_iff_ne.mpr c3
      have c3b1 : (a0 != 1) = true := bne_iff_ne.mpr c3
      have HC4 := Aside0.mk H
      clear H
      go_enter Try.func160, Try.ntmps160
      go_upto_if 10 with (fail)
      go_cut [10] (fun v10 wc => ∃ (kq : Nat) (x10_3 : Bool), v10 = .bool x10_3 ∧ Aside0 (spec_l1Shape.j0 kq a0 x10_3 = some (r1, r2, r3)) ∧ Aside0 (kq ≤ k) ∧ Drawn0 w wc)
      case first =>
        have H := HC4.out
        clear HC4
        by_cases c5 : a0 = 2
        · rw [if_pos c5] at H
          have c5b0 : (a0 == 2) = true := beq_iff_eq.mpr c5
          have c5b1 : (a0 != 2) = false := bne_eq_false_iff_eq.mpr c5
          clear c5
          (first | rw [c5b0] | (simp only [i64_w, i32_w]; rw [c5b0]) | skip)
          have H' := Aside0.mk H
          clear H
          go_wp2
          go_meet
          case rel => exact ⟨_, ((a0 == 2)), (by first | rfl | (simp; done) | (simp [*]; done)), H', ⟨by first | omega | exact Nat.le_refl _⟩, by repeat (first | exact Drawn0.refl _ | apply Drawn0.step)⟩
        · rw [if_neg c5] at H
          have c5b0 : (a0 == 2) = false := beq_eq_false_iff_ne.mpr c5
          have c5b1 : (a0 != 2) = true := bne_iff_ne.mpr c5
          (first | rw [c5b0] | (simp only [i64_w, i32_w]; rw [c5b0]) | skip)
          have H' := Aside0.mk H
          clear H
          go_wp2
          go_meet
          case rel => exact ⟨_, ((a0 == 3)), (by first | rfl | (simp; done) | (simp [*]; done)), H', ⟨by first | omega | exact Nat.le_refl _⟩, by repeat (first | exact Drawn0.refl _ | apply Drawn0.step)⟩
      case rest =>
        clear HC4
        try clear c1
        try clear c2
        try clear c2b0
        try clear c2b1
        try clear p2
        try clear c3
        try clear c3b0
        try clear c3b1
        try clear c5
        try clear c5b0
        try clear c5b1
        obtain ⟨kq, x10_3, rfl, HA, HJ3, ⟨mc3, rfl⟩⟩ := hcut
        cases kq with
        | zero => exact absurd HA.out (by simp [spec_l1Shape.j0])
        | succ kj3 =>
          have H := HA.out
          clear HA
          simp only [spec_l1Shape.j0] at H
          by_cases c6 : x10_3 = true
          · subst c6
            have H1 : (some (2, 0, true)) = some (r1, r2, r3) := by rw [if_pos rfl] at H; exact H
            clear H
            have H := H1
            clear H1
            simp only [Option.some.injEq, Prod.mk.injEq] at H
            obtain ⟨rfl, rfl, rfl⟩ := H
            go_wp2
            go_ret3
            exact ⟨by first | rfl | (simp; done) | (simp [*]; done), by repeat (first | exact Drawn0.refl _ | apply Drawn0.step)⟩
          · replace c6 := Bool.eq_false_iff.mpr c6
            subst c6
            have H1 : (if a0 = 4 then (some (3, 0, true)) else (if a0 = 5 then (some (1, 9, true)) else (some (0, 0, false)))) = some (r1, r2, r3) := by rw [if_neg (show ¬ (false = true) by decide)] at H; exact H
            clear H
            have H := H1
            clear H1
            by_cases c7 : a0 = 4
            · rw [if_pos c7] at H
              have c7b0 : (a0 == 4) = true := beq_iff_eq.mpr c7
              have c7b1 : (a0 != 4) = false := bne_eq_false_iff_eq.mpr c7
              clear c7
              simp only [Option.some.injEq, Prod.mk.injEq] at H
              obtain ⟨rfl, rfl, rfl⟩ := H
              go_wp2
              go_ret3
              exact ⟨by first | rfl | (simp; done) | (simp [*]; done), by repeat (first | exact Drawn0.refl _ | apply Drawn0.step)⟩
            · rw [if_neg c7] at H
              have c7b0 : (a0 == 4) = false := beq_eq_false_iff_ne.mpr c7
              have c7b1 : (a0 != 4) = true := bne_iff_ne.mpr c7
              by_cases c8 : a0 = 5
              · rw [if_pos c8] at H
                have c8b0 : (a0 == 5) = true := beq_iff_eq.mpr c8
                have c8b1 : (a0 != 5) = false := bne_eq_false_iff_eq.mpr c8
                clear c8
                simp only [Option.some.injEq, Prod.mk.injEq] at H
                obtain ⟨rfl, rfl, rfl⟩ := H
                go_wp2
                go_ret3
                exact ⟨by first | rfl | (simp; done) | (simp [*]; done), by repeat (first | exact Drawn0.refl _ | apply Drawn0.step)⟩
              · rw [if_neg c8] at H
                have c8b0 : (a0 == 5) = false := beq_eq_false_iff_ne.mpr c8
                have c8b1 : (a0 != 5) = true := bne_iff_ne.mpr c8
                simp only [Option.some.injEq, Prod.mk.injEq] at H
                obtain ⟨rfl, rfl, rfl⟩ := H
                go_wp2
                go_ret3
                exact ⟨by first | rfl | (simp; done) | (simp [*]; done), by repeat (first | exact Drawn0.refl _ | apply Drawn0.step)⟩
mutual
def spec_l1Fit.j0 : Nat → Bool → Int → Int → List (S141) → Option (Bool)
  | 0, _, _, _, _ => none
  | k + 1, x29, x109000, x109001, x109002 => if x29 = true then (some false) else (spec_l1Fit.l0 k 0 x109000 x109001 x109002)
def spec_l1Fit.l0 : Nat → Int → Int → Int → List (S141) → Option (Bool)
  | 0, _, _, _, _ => none
  | k + 1, x6, x109000, x109001, x109002 => if x6 < (x109002.length : Int) then (if 0 ≤ x6 then ((spec_l1Fit.f k ((rd_T141 x109002 x6).f0) ((rd_T141 x109002 x6).f1) ((rd_T141 x109002 x6).f2)).bind fun t114 => (if t114 = true then (spec_l1Fit.l0 k (wrap64 (x6 + 1)) x109000 x109001 x109002) else (some false))) else (none)) else (some true)
def spec_l1Fit.f : Nat → Int → Int → List (S141) → Option (Bool)
  | 0, _, _, _ => none
  | k + 1, a0_0, a0_1, l0_2 => (spec_l1Shape.f k a0_0).bind fun bt109 => (if bt109.2.2 = true then (if (l0_2.length : Int) = bt109.1 then ((spec_l6In.f a0_1 0 bt109.2.1).bind fun t112 => (spec_l1Fit.j0 k (!t112) a0_0 a0_1 l0_2)) else (spec_l1Fit.j0 k true a0_0 a0_1 l0_2)) else (spec_l1Fit.j0 k true a0_0 a0_1 l0_2))
end
set_option maxHeartbeats 8000000 in
set_option maxRecDepth 100000 in
theorem spec_l1Fit.calls (k : Nat) : ∀ (a0_0 : Int) (a0_1 : Int) (A0_2 : Option Addr) (c0_2 : Nat) (l0_2 : List (S141)) (r : Bool) (w : World) (hr0_2 : Kd.C k141 w A0_2 l0_2.length l0_2) (hc0_2 : l0_2.length ≤ c0_2) (h : spec_l1Fit.f k a0_0 a0_1 l0_2 = some r),
    Calls Try.prog 144 #[.agg #[.int .i64 a0_0, .int .i64 a0_1, .slice A0_2 l0_2.length c0_2]] w fun e w' => e = .returned (.bool r) ∧ Below w.heap.size w w' := by
  induction k using Nat.strongRecOn with
  | _ k ih =>
  intro a0_0 a0_1 A0_2 c0_2 l0_2 r w hr0_2 hc0_2 h
  cases k with
  | zero => exact absurd h (by simp [spec_l1Fit.f])
  | succ k =>
  simp only [spec_l1Fit.f] at h
  have hu141 := Try.underlying141
  have HR0_2 := Aside0.mk hr0_2
  have HC0_2 := Aside0.mk hc0_2
  clear hr0_2 hc0_2
  have HB := Aside0.mk (Below.refl w.heap.size w)
  have H : ((spec_l1Shape.f k a0_0).bind fun bt109 => (if bt109.2.2 = true then (if (l0_2.length : Int) = bt109.1 then ((spec_l6In.f a0_1 0 bt109.2.1).bind fun t112 => (spec_l1Fit.j0 k (!t112) a0_0 a0_1 l0_2)) else (spec_l1Fit.j0 k true a0_0 a0_1 l0_2)) else (spec_l1Fit.j0 k true a0_0 a0_1 l0_2))) = some r := h
  clear h
  replace H := Option.bind_eq_some_iff.mp H
  obtain ⟨⟨t109, t110, t111⟩, A20, H⟩ := H
  replace H : (if t111 = true then (if (l0_2.length : Int) = t109 then ((spec_l6In.f a0_1 0 t110).bind fun t112 => (spec_l1Fit.j0 k (!t112) a0_0 a0_1 l0_2)) else (spec_l1Fit.j0 k true a0_0 a0_1 l0_2)) else (spec_l1Fit.j0 k true a0_0 a0_1 l0_2)) = some r := H
  have A2 := Aside0.mk A20
  clear A20
  have HC3 := Aside0.mk H
  clear H
  go_enter Try.func144, Try.ntmps144
  go_upto_region 2 with (first | ((with_reducible refine gate_dst (N := 1) rfl ?_); (try (refine gate_guard (by rfl) ?_; dsimp only)); refine box_event ?hg (N := 1) ?hd (cs := #[.int .i64 a0_0, .int .i64 a0_1, .slice A0_2 l0_2.length c0_2]) (t := 141) ?hr ?_; (case hd => rfl); (case hg => rfl); (case hr => first | (go_simp; done) | (go_simp; rfl)); intro gb108 hg w4 hbox hb; have n0_ := Aside0.mk (below_step (by repeat (first | (with_reducible first | exact HB.out | apply below_alloc | apply pw_below_drewN | apply below_drew1) | exact HB.out)) hb); have n1_ := Aside0.mk (hbox); have n2_ := Aside0.mk ((by rw [hg]; exact (below_size (by repeat (first | (with_reducible first | exact HB.out | apply below_alloc | apply pw_below_drewN | apply below_drew1) | exact HB.out))) : w.heap.size ≤ gb108)); have n3_ := Aside0.mk ((by rw [hg]; exact (below_size (by repeat (first | (with_reducible first | exact HB.out | apply below_alloc | apply pw_below_drewN | apply below_drew1) | exact HB.out))) : w.heap.size ≤ gb108)); clear HB; have HB := n0_; have BK108 := n1_; have GW108 := n2_; have GE108 := n3_; clear n0_ n1_ n2_ n3_; clear hb hbox hg; have hcz5_0 : w4.cell? ⟨gb108, 0, none⟩ = some (.int .i64 a0_0) := (blk_cell BK108.out 0).trans rfl; have hcz5_1 : w4.cell? ⟨gb108, 1, none⟩ = some (.int .i64 a0_1) := (blk_cell BK108.out 1).trans rfl; have hcz5_2 : w4.cell? ⟨gb108, 2, none⟩ = some (.slice A0_2 l0_2.length c0_2) := (blk_cell BK108.out 2).trans rfl; have hfz5_0 := blk_frozen BK108.out 0; have hfz5_1 := blk_frozen BK108.out 1; have hfz5_2 := blk_frozen BK108.out 2) | ((with_reducible refine gate_callee (f := 160) rfl ?_); refine goesL_ (some 10) rfl rfl Try.func160 (by kernel_rfl) rfl #[.int .i64 a0_0] rfl (by (try simp only [List.map_toArray, List.map_cons, List.map_nil]); first | done | rfl | (simp only [List.length_drop, List.length_take]; rfl)) ?_; (with_reducible refine (spec_l1Shape.calls k a0_0 t109 t110 t111 _ A2.out).mono ?_); rintro e w' ⟨rfl, ⟨nd, rfl⟩⟩; refine ⟨_, rfl, ?_⟩))
  (try simp only [Act.put, List.setIfInBounds_toArray, List.set_cons_zero, List.set_cons_succ])
  go_cut [29] (fun v29 wc => ∃ (kq : Nat) (x29_2 : Bool), v29 = .bool x29_2 ∧ Aside0 (spec_l1Fit.j0 kq x29_2 a0_0 a0_1 l0_2 = some r) ∧ Aside0 (kq ≤ k) ∧ Aside0 (wc.heap[gb108]? = some (.cells #[.int .i64 a0_0, .int .i64 a0_1, (.slice A0_2 l0_2.length c0_2)] 141 (0, 0))) ∧ Aside0 (Below w.heap.size w wc))
  case first =>
    have H := HC3.out
    clear HC3
    by_cases c6 : t111 = true
    · subst c6
      have H1 : (if (l0_2.length : Int) = t109 then ((spec_l6In.f a0_1 0 t110).bind fun t112 => (spec_l1Fit.j0 k (!t112) a0_0 a0_1 l0_2)) else (spec_l1Fit.j0 k true a0_0 a0_1 l0_2)) = some r := by rw [if_pos rfl] at H; exact H
      clear H
      have H := H1
      clear H1
      by_cases c7 : (l0_2.length : Int) = t109
      · rw [if_pos c7] at H
        have c7b0 : ((l0_2.length : Int) == t109) = true := beq_iff_eq.mpr c7
        have c7b1 : ((l0_2.length : Int) != t109) = false := bne_eq_false_iff_eq.mpr c7
        clear c7
        (first | rw [c7b0] | (simp only [i64_w, i32_w]; rw [c7b0]) | skip)
        replace H := Option.bind_eq_some_iff.mp H
        obtain ⟨t112, A80, H⟩ := H
        replace H : (spec_l1Fit.j0 k (!t112) a0_0 a0_1 l0_2) = some r := H
        have A8 := Aside0.mk A80
        clear A80
        have H' := Aside0.mk H
        clear H
        have hcz9_0 : w4.cell? ⟨gb108, 0, none⟩ = some (.int .i64 a0_0) := (blk_cell BK108.out 0).trans rfl
        have hcz9_1 : w4.cell? ⟨gb108, 1, none⟩ = some (.int .i64 a0_1) := (blk_cell BK108.out 1).trans rfl
        have hcz9_2 : w4.cell? ⟨gb108, 2, none⟩ = some (.slice A0_2 l0_2.length c0_2) := (blk_cell BK108.out 2).trans rfl
        have hfz9_0 := blk_frozen BK108.out 0
        have hfz9_1 := blk_frozen BK108.out 1
        have hfz9_2 := blk_frozen BK108.out 2
        go_wp2_with (first | (go_at_call 82; (with_reducible refine (spec_l6In.calls a0_1 0 t110 t112 _ A8.out).mono ?_); rintro e w' ⟨rfl, ⟨nd, rfl⟩⟩))
        go_meet
        case rel => exact ⟨_, (!t112), (by first | rfl | (simp; done) | (simp [*]; done)), H', ⟨by first | omega | exact Nat.le_refl _⟩, ⟨by (with_reducible repeat (first | refine blk_drewN ?_ _ | refine blk_drew ?_ | refine blk_alloc ?_ _)); exact BK108.out⟩, ⟨by repeat (first | (with_reducible first | exact HB.out | apply below_alloc | apply pw_below_drewN | apply below_drew1 | refine below_set ?_ GE108.out) | exact HB.out)⟩⟩
      · rw [if_neg c7] at H
        have c7b0 : ((l0_2.length : Int) == t109) = false := beq_eq_false_iff_ne.mpr c7
        have c7b1 : ((l0_2.length : Int) != t109) = true := bne_iff_ne.mpr c7
        (first | rw [c7b0] | (simp only [i64_w, i32_w]; rw [c7b0]) | skip)
        have H' := Aside0.mk H
        clear H
        have hcz10_0 : w4.cell? ⟨gb108, 0, none⟩ = some (.int .i64 a0_0) := (blk_cell BK108.out 0).trans rfl
        have hcz10_1 : w4.cell? ⟨gb108, 1, none⟩ = some (.int .i64 a0_1) := (blk_cell BK108.out 1).trans rfl
        have hcz10_2 : w4.cell? ⟨gb108, 2, none⟩ = some (.slice A0_2 l0_2.length c0_2) := (blk_cell BK108.out 2).trans rfl
        have hfz10_0 := blk_frozen BK108.out 0
        have hfz10_1 := blk_frozen BK108.out 1
        have hfz10_2 := blk_frozen BK108.out 2
        go_wp2
        go_meet
        case rel => exact ⟨_, (true), (by first | rfl | (simp; done) | (simp [*]; done)), H', ⟨by first | omega | exact Nat.le_refl _⟩, ⟨by (with_reducible repeat (first | refine blk_drewN ?_ _ | refine blk_drew ?_ | refine blk_alloc ?_ _)); exact BK108.out⟩, ⟨by repeat (first | (with_reducible first | exact HB.out | apply below_alloc | apply pw_below_drewN | apply below_drew1 | refine below_set ?_ GE108.out) | exact HB.out)⟩⟩
    · replace c6 := Bool.eq_false_iff.mpr c6
      subst c6
      have H1 : (spec_l1Fit.j0 k true a0_0 a0_1 l0_2) = some r := by rw [if_neg (show ¬ (false = true) by decide)] at H; exact H
      clear H
      have H := H1
      clear H1
      have H' := Aside0.mk H
      clear H
      go_wp2
      go_meet
      case rel => exact ⟨_, (true), (by first | rfl | (simp; done) | (simp [*]; done)), H', ⟨by first | omega | exact Nat.le_refl _⟩, ⟨by (with_reducible repeat (first | refine blk_drewN ?_ _ | refine blk_drew ?_ | refine blk_alloc ?_ _)); exact BK108.out⟩, ⟨by repeat (first | (with_reducible first | exact HB.out | apply below_alloc | apply pw_below_drewN | apply below_drew1 | refine below_set ?_ GE108.out) | exact HB.out)⟩⟩
  case rest =>
    clear HC3
    try clear c1
    try clear p2
    try clear c6
    try clear c7
    try clear c7b0
    try clear c7b1
    try clear hcz10_0
    try clear hcz10_1
    try clear hcz10_2
    try clear hcz5_0
    try clear hcz5_1
    try clear hcz5_2
    try clear hcz9_0
    try clear hcz9_1
    try clear hcz9_2
    try clear hfz10_0
    try clear hfz10_1
    try clear hfz10_2
    try clear hfz5_0
    try clear hfz5_1
    try clear hfz5_2
    try clear hfz9_0
    try clear hfz9_1
    try clear hfz9_2
    obtain ⟨kq, x29_2, rfl, HA, HJ2, BK108, HB⟩ := hcut
    cases kq with
    | zero => exact absurd HA.out (by simp [spec_l1Fit.j0])
    | succ kj2 =>
      have H := HA.out
      clear HA
      simp only [spec_l1Fit.j0] at H
      by_cases c11 : x29_2 = true
      · subst c11
        have H1 : (some false) = some r := by rw [if_pos rfl] at H; exact H
        clear H
        have H := H1
        clear H1
        obtain rfl := Option.some.inj H
        go_wp2
        go_ret
        exact ⟨by first | rfl | (simp [errW_none, errW_some] <;> rfl) | (simp [*, errW_none, errW_some] <;> rfl), by repeat (first | (with_reducible first | exact HB.out | apply below_alloc | apply pw_below_drewN | apply below_drew1 | refine below_set ?_ GE108.out) | exact HB.out)⟩
      · replace c11 := Bool.eq_false_iff.mpr c11
        subst c11
        have H1 : (spec_l1Fit.l0 kj2 0 a0_0 a0_1 l0_2) = some r := by rw [if_neg (show ¬ (false = true) by decide)] at H; exact H
        clear H
        have H := H1
        clear H1
        have H' := Aside0.mk H
        clear H
        go_wp2
        go_loopg [6] kj2 (fun kq v6 w' => ∃ (x6_2 : Int), v6 = .int .i64 x6_2 ∧ Aside0 (spec_l1Fit.l0 kq x6_2 a0_0 a0_1 l0_2 = some r) ∧ Aside0 (kq ≤ kj2) ∧ Aside0 (w'.heap[gb108]? = some (.cells #[.int .i64 a0_0, .int .i64 a0_1, (.slice A0_2 l0_2.length c0_2)] 141 (0, 0))) ∧ Aside0 (Below w.heap.size w w'))
        case atStart => exact ⟨(0), (by first | rfl | (simp; done) | (simp [*]; done)), H', ⟨Nat.le_refl _⟩, ⟨by (with_reducible repeat (first | refine blk_drewN ?_ _ | refine blk_drew ?_ | refine blk_alloc ?_ _)); exact BK108.out⟩, ⟨by repeat (first | (with_reducible first | exact HB.out | apply below_alloc | apply pw_below_drewN | apply below_drew1 | refine below_set ?_ GE108.out) | exact HB.out)⟩⟩
        case round =>
          clear H'
          try clear c1
          try clear p2
          try clear c6
          try clear c7
          try clear c7b0
          try clear c7b1
          try clear c11
          try clear hcz10_0
          try clear hcz10_1
          try clear hcz10_2
          try clear hcz5_0
          try clear hcz5_1
          try clear hcz5_2
          try clear hcz9_0
          try clear hcz9_1
          try clear hcz9_2
          try clear hfz10_0
          try clear hfz10_1
          try clear hfz10_2
          try clear hfz5_0
          try clear hfz5_1
          try clear hfz5_2
          try clear hfz9_0
          try clear hfz9_1
          try clear hfz9_2
          try clear p2
          obtain ⟨x6_2, rfl, HA, HK2, BK108, HB⟩ := hrel
          cases gk with
          | zero => exact absurd HA.out (by simp [spec_l1Fit.l0])
          | succ k2 =>
            have H := HA.out
            clear HA
            simp only [spec_l1Fit.l0] at H
            by_cases c12 : x6_2 < (l0_2.length : Int)
            · rw [if_pos c12] at H
              have c12b0 : decide (x6_2 < (l0_2.length : Int)) = true := decide_eq_true c12
              clear c12
              by_cases c13 : 0 ≤ x6_2
              · rw [if_pos c13] at H
                have c13b0 : decide (0 ≤ x6_2) = true := decide_eq_true c13
                clear c13
                replace H := Option.bind_eq_some_iff.mp H
                obtain ⟨t114, A140, H⟩ := H
                replace H : (if t114 = true then (spec_l1Fit.l0 k2 (wrap64 (x6_2 + 1)) a0_0 a0_1 l0_2) else (some false)) = some r := H
                have A14 := Aside0.mk A140
                clear A140
                by_cases c15 : t114 = true
                · subst c15
                  have H1 : (spec_l1Fit.l0 k2 (wrap64 (x6_2 + 1)) a0_0 a0_1 l0_2) = some r := by rw [if_pos rfl] at H; exact H
                  clear H
                  have H := H1
                  clear H1
                  have H' := Aside0.mk H
                  clear H
                  have hcz16_0 : wr.cell? ⟨gb108, 0, none⟩ = some (.int .i64 a0_0) := (blk_cell BK108.out 0).trans rfl
                  have hcz16_1 : wr.cell? ⟨gb108, 1, none⟩ = some (.int .i64 a0_1) := (blk_cell BK108.out 1).trans rfl
                  have hcz16_2 : wr.cell? ⟨gb108, 2, none⟩ = some (.slice A0_2 l0_2.length c0_2) := (blk_cell BK108.out 2).trans rfl
                  have hfz16_0 := blk_frozen BK108.out 0
                  have hfz16_1 := blk_frozen BK108.out 1
                  have hfz16_2 := blk_frozen BK108.out 2
                  have p113 : 0 ≤ (x6_2 : Int) := of_decide_eq_true (by first | (with_reducible assumption) | assumption)
                  have q113 : x6_2 < (l0_2.length : Int) := of_decide_eq_true (by first | (with_reducible assumption) | assumption)
                  obtain ⟨ad113, A113_2, c113_2, e113, hx113_0, hx113_1, hx113_2, hl113_2, hi113_2⟩ := at_T141 HR0_2.out x6_2 p113 q113
                  cases e113
                  replace hx113_0 := (HB.out.cell (World.block_lt_of_cell? w _ hx113_0)).trans hx113_0
                  replace hx113_1 := (HB.out.cell (World.block_lt_of_cell? w _ hx113_1)).trans hx113_1
                  replace hx113_2 := (HB.out.cell (World.block_lt_of_cell? w _ hx113_2)).trans hx113_2
                  have HR113_2 := Aside0.mk hi113_2
                  have HC113_2 := Aside0.mk hl113_2
                  clear hi113_2 hl113_2
                  replace p113 := eq_true p113
                  replace q113 := eq_true q113
                  go_wp2_with (first | ((with_reducible refine gate_callee (f := 144) rfl ?_); refine goesL_ (some 42) rfl rfl Try.func144 (by kernel_rfl) rfl #[.agg #[.int .i64 ((rd_T141 l0_2 x6_2).f0), .int .i64 ((rd_T141 l0_2 x6_2).f1), .slice A113_2 ((rd_T141 l0_2 x6_2).f2).length c113_2]] rfl (by (try simp only [List.map_toArray, List.map_cons, List.map_nil]); first | done | rfl | (simp only [List.length_drop, List.length_take]; rfl)) ?_; (with_reducible refine (ih k2 (by have := HJ2.out; have := HK2.out; omega) ((rd_T141 l0_2 x6_2).f0) ((rd_T141 l0_2 x6_2).f1) _ _ ((rd_T141 l0_2 x6_2).f2) true _ ?side1 ?side2 A14.out).mono ?_); (case side1 => repeat (first | exact (Kd.C_below HR113_2.out HB.out) | (with_reducible refine Kd.C_alloc ?_ _) | (with_reducible refine Kd.C_drewN ?_ _) | (with_reducible refine Kd.C_drew ?_))); (case side2 => exact HC113_2.out); rintro e w17 ⟨rfl, hb⟩; refine ⟨_, rfl, ?_⟩; have n0_ := Aside0.mk (blk_below (g := gb108) (o := .cells #[.int .i64 a0_0, .int .i64 a0_1, .slice (some ad113) l0_2.length c0_2] 141 (0, 0)) (by (with_reducible repeat (first | refine blk_drewN ?_ _ | refine blk_drew ?_ | refine blk_alloc ?_ _)); exact BK108.out) hb); have n1_ := Aside0.mk (below_step (by repeat (first | (with_reducible first | exact HB.out | apply below_alloc | apply pw_below_drewN | apply below_drew1 | refine below_set ?_ GE108.out) | exact HB.out)) hb); clear BK108; clear HB; have BK108 := n0_; have HB := n1_; clear n0_ n1_; (try clear hb); (try clear hb2); (try clear hk); (try clear hi)))
                  go_roundg k2
                  case measure => have := HJ2.out; have := HK2.out; omega
                  case rel => exact ⟨(wrap64 (x6_2 + 1)), (by first | rfl | (simp; done) | (simp [*]; done)), H', ⟨by have := HJ2.out; have := HK2.out; omega⟩, ⟨by (with_reducible repeat (first | refine blk_drewN ?_ _ | refine blk_drew ?_ | refine blk_alloc ?_ _)); exact BK108.out⟩, ⟨by repeat (first | (with_reducible first | exact HB.out | apply below_alloc | apply pw_below_drewN | apply below_drew1 | refine below_set ?_ GE108.out) | exact HB.out)⟩⟩
                · replace c15 := Bool.eq_false_iff.mpr c15
                  subst c15
                  have H1 : (some false) = some r := by rw [if_neg (show ¬ (false = true) by decide)] at H; exact H
                  clear H
                  have H := H1
                  clear H1
                  obtain rfl := Option.some.inj H
                  have hcz18_0 : wr.cell? ⟨gb108, 0, none⟩ = some (.int .i64 a0_0) := (blk_cell BK108.out 0).trans rfl
                  have hcz18_1 : wr.cell? ⟨gb108, 1, none⟩ = some (.int .i64 a0_1) := (blk_cell BK108.out 1).trans rfl
                  have hcz18_2 : wr.cell? ⟨gb108, 2, none⟩ = some (.slice A0_2 l0_2.length c0_2) := (blk_cell BK108.out 2).trans rfl
                  have hfz18_0 := blk_frozen BK108.out 0
                  have hfz18_1 := blk_frozen BK108.out 1
                  have hfz18_2 := blk_frozen BK108.out 2
                  have p113 : 0 ≤ (x6_2 : Int) := of_decide_eq_true (by first | (with_reducible assumption) | assumption)
                  have q113 : x6_2 < (l0_2.length : Int) := of_decide_eq_true (by first | (with_reducible assumption) | assumption)
                  obtain ⟨ad113, A113_2, c113_2, e113, hx113_0, hx113_1, hx113_2, hl113_2, hi113_2⟩ := at_T141 HR0_2.out x6_2 p113 q113
                  cases e113
                  replace hx113_0 := (HB.out.cell (World.block_lt_of_cell? w _ hx113_0)).trans hx113_0
                  replace hx113_1 := (HB.out.cell (World.block_lt_of_cell? w _ hx113_1)).trans hx113_1
                  replace hx113_2 := (HB.out.cell (World.block_lt_of_cell? w _ hx113_2)).trans hx113_2
                  have HR113_2 := Aside0.mk hi113_2
                  have HC113_2 := Aside0.mk hl113_2
                  clear hi113_2 hl113_2
                  replace p113 := eq_true p113
                  replace q113 := eq_true q113
                  go_wp2_with (first | ((with_reducible refine gate_callee (f := 144) rfl ?_); refine goesL_ (some 42) rfl rfl Try.func144 (by kernel_rfl) rfl #[.agg #[.int .i64 ((rd_T141 l0_2 x6_2).f0), .int .i64 ((rd_T141 l0_2 x6_2).f1), .slice A113_2 ((rd_T141 l0_2 x6_2).f2).length c113_2]] rfl (by (try simp only [List.map_toArray, List.map_cons, List.map_nil]); first | done | rfl | (simp only [List.length_drop, List.length_take]; rfl)) ?_; (with_reducible refine (ih k2 (by have := HJ2.out; have := HK2.out; omega) ((rd_T141 l0_2 x6_2).f0) ((rd_T141 l0_2 x6_2).f1) _ _ ((rd_T141 l0_2 x6_2).f2) false _ ?side1 ?side2 A14.out).mono ?_); (case side1 => repeat (first | exact (Kd.C_below HR113_2.out HB.out) | (with_reducible refine Kd.C_alloc ?_ _) | (with_reducible refine Kd.C_drewN ?_ _) | (with_reducible refine Kd.C_drew ?_))); (case side2 => exact HC113_2.out); rintro e w19 ⟨rfl, hb⟩; refine ⟨_, rfl, ?_⟩; have n0_ := Aside0.mk (blk_below (g := gb108) (o := .cells #[.int .i64 a0_0, .int .i64 a0_1, .slice (some ad113) l0_2.length c0_2] 141 (0, 0)) (by (with_reducible repeat (first | refine blk_drewN ?_ _ | refine blk_drew ?_ | refine blk_alloc ?_ _)); exact BK108.out) hb); have n1_ := Aside0.mk (below_step (by repeat (first | (with_reducible first | exact HB.out | apply below_alloc | apply pw_below_drewN | apply below_drew1 | refine below_set ?_ GE108.out) | exact HB.out)) hb); clear BK108; clear HB; have BK108 := n0_; have HB := n1_; clear n0_ n1_; (try clear hb); (try clear hb2); (try clear hk); (try clear hi)))
                  go_ret
                  exact ⟨by first | rfl | (simp [errW_none, errW_some] <;> rfl) | (simp [*, errW_none, errW_some] <;> rfl), by repeat (first | (with_reducible first | exact HB.out | apply below_alloc | apply pw_below_drewN | apply below_drew1 | refine below_set ?_ GE108.out) | exact HB.out)⟩
              · rw [if_neg c13] at H
                exact absurd H (by simp)
            · rw [if_neg c12] at H
              have c12b0 : decide (x6_2 < (l0_2.length : Int)) = false := decide_eq_false c12
              clear c12
              obtain rfl := Option.some.inj H
              have hcz20_0 : wr.cell? ⟨gb108, 0, none⟩ = some (.int .i64 a0_0) := (blk_cell BK108.out 0).trans rfl
              have hcz20_1 : wr.cell? ⟨gb108, 1, none⟩ = some (.int .i64 a0_1) := (blk_cell BK108.out 1).trans rfl
              have hcz20_2 : wr.cell? ⟨gb108, 2, none⟩ = some (.slice A0_2 l0_2.length c0_2) := (blk_cell BK108.out 2).trans rfl
              have hfz20_0 := blk_frozen BK108.out 0
              have hfz20_1 := blk_frozen BK108.out 1
              have hfz20_2 := blk_frozen BK108.out 2
              go_wp2
              go_ret
              exact ⟨by first | rfl | (simp [errW_none, errW_some] <;> rfl) | (simp [*, errW_none, errW_some] <;> rfl), by repeat (first | (with_reducible first | exact HB.out | apply below_alloc | apply pw_below_drewN | apply below_drew1 | refine below_set ?_ GE108.out) | exact HB.out)⟩
end Go.Proofs.Ythfemojaabejiaa.G
end
section
namespace Go.Proofs.Ythfemojaabejiaa.G
open Go.RowKit Go.Proofs.YthfemojaabejiaaW.PrintWords Go.Proofs.YthfemojaabejiaaW.PrintLast Go.Proofs.YthfemojaabejiaaW.PrintMore
attribute [local go_sem] max2_int min2_int max_two min_two max_three min_three max_four min_four
set_option linter.unusedVariables false
set_option linter.unusedSimpArgs false
mutual
def spec_l1Nodes.l0 : Nat → Int → Int → Int → Int → List (S141) → Option (Int)
  | 0, _, _, _, _, _ => none
  | k + 1, x3, x4, x116000, x116001, x116002 => if x4 < (x116002.length : Int) then (if 0 ≤ x4 then ((spec_l1Nodes.f k ((rd_T141 x116002 x4).f0) ((rd_T141 x116002 x4).f1) ((rd_T141 x116002 x4).f2)).bind fun t117 => (spec_l1Nodes.l0 k (wrap64 (x3 + t117)) (wrap64 (x4 + 1)) x116000 x116001 x116002)) else (none)) else (some x3)
def spec_l1Nodes.f : Nat → Int → Int → List (S141) → Option (Int)
  | 0, _, _, _ => none
  | k + 1, a0_0, a0_1, l0_2 => spec_l1Nodes.l0 k 1 0 a0_0 a0_1 l0_2
end
set_option maxHeartbeats 8000000 in
set_option maxRecDepth 100000 in
theorem spec_l1Nodes.calls (k : Nat) : ∀ (a0_0 : Int) (a0_1 : Int) (A0_2 : Option Addr) (c0_2 : Nat) (l0_2 : List (S141)) (r : Int) (w : World) (hr0_2 : Kd.C k141 w A0_2 l0_2.length l0_2) (hc0_2 : l0_2.length ≤ c0_2) (h : spec_l1Nodes.f k a0_0 a0_1 l0_2 = some r),
    Calls Try.prog 145 #[.agg #[.int .i64 a0_0, .int .i64 a0_1, .slice A0_2 l0_2.length c0_2]] w fun e w' => e = .returned (.int .i64 r) ∧ Below w.heap.size w w' := by
  induction k using Nat.strongRecOn with
  | _ k ih =>
  intro a0_0 a0_1 A0_2 c0_2 l0_2 r w hr0_2 hc0_2 h
  cases k with
  | zero => exact absurd h (by simp [spec_l1Nodes.f])
  | succ k =>
  simp only [spec_l1Nodes.f] at h
  have hu141 := Try.underlying141
  have HR0_2 := Aside0.mk hr0_2
  have HC0_2 := Aside0.mk hc0_2
  clear hr0_2 hc0_2
  have HB := Aside0.mk (Below.refl w.heap.size w)
  have H : (spec_l1Nodes.l0 k 1 0 a0_0 a0_1 l0_2) = some r := h
  clear h
  have H' := Aside0.mk H
  clear H
  go_enter Try.func145, Try.ntmps145
  go_wp2_with (first | ((with_reducible refine gate_dst (N := 1) rfl ?_); refine box_event ?hg (N := 1) ?hd (cs := #[.int .i64 a0_0, .int .i64 a0_1, .slice A0_2 l0_2.length c0_2]) (t := 141) ?hr ?_; (case hd => rfl); (case hg => rfl); (case hr => first | (go_simp; done) | (go_simp; rfl)); intro gb115 hg w2 hbox hb; have n0_ := Aside0.mk (below_step (by repeat (first | (with_reducible first | exact HB.out | apply below_alloc | apply pw_below_drewN | apply below_drew1) | exact HB.out)) hb); have n1_ := Aside0.mk (hbox); have n2_ := Aside0.mk ((by rw [hg]; exact (below_size (by repeat (first | (with_reducible first | exact HB.out | apply below_alloc | apply pw_below_drewN | apply below_drew1) | exact HB.out))) : w.heap.size ≤ gb115)); have n3_ := Aside0.mk ((by rw [hg]; exact (below_size (by repeat (first | (with_reducible first | exact HB.out | apply below_alloc | apply pw_below_drewN | apply below_drew1) | exact HB.out))) : w.heap.size ≤ gb115)); clear HB; have HB := n0_; have BK115 := n1_; have GW115 := n2_; have GE115 := n3_; clear n0_ n1_ n2_ n3_; clear hb hbox hg))
  go_loopg [3, 4] k (fun kq v3 v4 w' => ∃ (x3_1 : Int) (x4_1 : Int), v3 = .int .i64 x3_1 ∧ v4 = .int .i64 x4_1 ∧ Aside0 (spec_l1Nodes.l0 kq x3_1 x4_1 a0_0 a0_1 l0_2 = some r) ∧ Aside0 (kq ≤ k) ∧ Aside0 (w'.heap[gb115]? = some (.cells #[.int .i64 a0_0, .int .i64 a0_1, (.slice A0_2 l0_2.length c0_2)] 141 (0, 0))) ∧ Aside0 (Below w.heap.size w w'))
  case atStart => exact ⟨(1), (0), (by first | rfl | (simp; done) | (simp [*]; done)), (by first | rfl | (simp; done) | (simp [*]; done)), H', ⟨Nat.le_refl _⟩, ⟨by (with_reducible repeat (first | refine blk_drewN ?_ _ | refine blk_drew ?_ | refine blk_alloc ?_ _)); exact BK115.out⟩, ⟨by repeat (first | (with_reducible first | exact HB.out | apply below_alloc | apply pw_below_drewN | apply below_drew1 | refine below_set ?_ GE115.out) | exact HB.out)⟩⟩
  case round =>
    clear H'
    try clear c1
    try clear p2
    obtain ⟨x3_1, x4_1, rfl, rfl, HA, HK1, BK115, HB⟩ := hrel
    cases gk with
    | zero => exact absurd HA.out (by simp [spec_l1Nodes.l0])
    | succ k1 =>
      have H := HA.out
      clear HA
      simp only [spec_l1Nodes.l0] at H
      by_cases c3 : x4_1 < (l0_2.length : Int)
      · rw [if_pos c3] at H
        have c3b0 : decide (x4_1 < (l0_2.length : Int)) = true := decide_eq_true c3
        clear c3
        by_cases c4 : 0 ≤ x4_1
        · rw [if_pos c4] at H
          have c4b0 : decide (0 ≤ x4_1) = true := decide_eq_true c4
          clear c4
          replace H := Option.bind_eq_some_iff.mp H
          obtain ⟨t117, A50, H⟩ := H
          replace H : (spec_l1Nodes.l0 k1 (wrap64 (x3_1 + t117)) (wrap64 (x4_1 + 1)) a0_0 a0_1 l0_2) = some r := H
          have A5 := Aside0.mk A50
          clear A50
          have H' := Aside0.mk H
          clear H
          have hcz6_0 : wr.cell? ⟨gb115, 0, none⟩ = some (.int .i64 a0_0) := (blk_cell BK115.out 0).trans rfl
          have hcz6_1 : wr.cell? ⟨gb115, 1, none⟩ = some (.int .i64 a0_1) := (blk_cell BK115.out 1).trans rfl
          have hcz6_2 : wr.cell? ⟨gb115, 2, none⟩ = some (.slice A0_2 l0_2.length c0_2) := (blk_cell BK115.out 2).trans rfl
          have hfz6_0 := blk_frozen BK115.out 0
          have hfz6_1 := blk_frozen BK115.out 1
          have hfz6_2 := blk_frozen BK115.out 2
          have p116 : 0 ≤ (x4_1 : Int) := of_decide_eq_true (by first | (with_reducible assumption) | assumption)
          have q116 : x4_1 < (l0_2.length : Int) := of_decide_eq_true (by first | (with_reducible assumption) | assumption)
          obtain ⟨ad116, A116_2, c116_2, e116, hx116_0, hx116_1, hx116_2, hl116_2, hi116_2⟩ := at_T141 HR0_2.out x4_1 p116 q116
          cases e116
          replace hx116_0 := (HB.out.cell (World.block_lt_of_cell? w _ hx116_0)).trans hx116_0
          replace hx116_1 := (HB.out.cell (World.block_lt_of_cell? w _ hx116_1)).trans hx116_1
          replace hx116_2 := (HB.out.cell (World.block_lt_of_cell? w _ hx116_2)).trans hx116_2
          have HR116_2 := Aside0.mk hi116_2
          have HC116_2 := Aside0.mk hl116_2
          clear hi116_2 hl116_2
          replace p116 := eq_true p116
          replace q116 := eq_true q116
          go_wp2_with (first | ((with_reducible refine gate_callee (f := 145) rfl ?_); refine goesL_ (some 18) rfl rfl Try.func145 (by kernel_rfl) rfl #[.agg #[.int .i64 ((rd_T141 l0_2 x4_1).f0), .int .i64 ((rd_T141 l0_2 x4_1).f1), .slice A116_2 ((rd_T141 l0_2 x4_1).f2).length c116_2]] rfl (by (try simp only [List.map_toArray, List.map_cons, List.map_nil]); first | done | rfl | (simp only [List.length_drop, List.length_take]; rfl)) ?_; (with_reducible refine (ih k1 (by have := HK1.out; omega) ((rd_T141 l0_2 x4_1).f0) ((rd_T141 l0_2 x4_1).f1) _ _ ((rd_T141 l0_2 x4_1).f2) t117 _ ?side1 ?side2 A5.out).mono ?_); (case side1 => repeat (first | exact (Kd.C_below HR116_2.out HB.out) | (with_reducible refine Kd.C_alloc ?_ _) | (with_reducible refine Kd.C_drewN ?_ _) | (with_reducible refine Kd.C_drew ?_))); (case side2 => exact HC116_2.out); rintro e w7 ⟨rfl, hb⟩; refine ⟨_, rfl, ?_⟩; have n0_ := Aside0.mk (blk_below (g := gb115) (o := .cells #[.int .i64 a0_0, .int .i64 a0_1, .slice (some ad116) l0_2.length c0_2] 141 (0, 0)) (by (with_reducible repeat (first | refine blk_drewN ?_ _ | refine blk_drew ?_ | refine blk_alloc ?_ _)); exact BK115.out) hb); have n1_ := Aside0.mk (below_step (by repeat (first | (with_reducible first | exact HB.out | apply below_alloc | apply pw_below_drewN | apply below_drew1 | refine below_set ?_ GE115.out) | exact HB.out)) hb); clear BK115; clear HB; have BK115 := n0_; have HB := n1_; clear n0_ n1_; (try clear hb); (try clear hb2); (try clear hk); (try clear hi)))
          go_roundg k1
          case measure => have := HK1.out; omega
          case rel => exact ⟨(wrap64 (x3_1 + t117)), (wrap64 (x4_1 + 1)), (by first | rfl | (simp; done) | (simp [*]; done)), (by first | rfl | (simp; done) | (simp [*]; done)), H', ⟨by have := HK1.out; omega⟩, ⟨by (with_reducible repeat (first | refine blk_drewN ?_ _ | refine blk_drew ?_ | refine blk_alloc ?_ _)); exact BK115.out⟩, ⟨by repeat (first | (with_reducible first | exact HB.out | apply below_alloc | apply pw_below_drewN | apply below_drew1 | refine below_set ?_ GE115.out) | exact HB.out)⟩⟩
        · rw [if_neg c4] at H
          exact absurd H (by simp)
      · rw [if_neg c3] at H
        have c3b0 : decide (x4_1 < (l0_2.length : Int)) = false := decide_eq_false c3
        clear c3
        obtain rfl := Option.some.inj H
        have hcz8_0 : wr.cell? ⟨gb115, 0, none⟩ = some (.int .i64 a0_0) := (blk_cell BK115.out 0).trans rfl
        have hcz8_1 : wr.cell? ⟨gb115, 1, none⟩ = some (.int .i64 a0_1) := (blk_cell BK115.out 1).trans rfl
        have hcz8_2 : wr.cell? ⟨gb115, 2, none⟩ = some (.slice A0_2 l0_2.length c0_2) := (blk_cell BK115.out 2).trans rfl
        have hfz8_0 := blk_frozen BK115.out 0
        have hfz8_1 := blk_frozen BK115.out 1
        have hfz8_2 := blk_frozen BK115.out 2
        go_wp2
        go_ret
        exact ⟨by first | rfl | (simp [errW_none, errW_some] <;> rfl) | (simp [*, errW_none, errW_some] <;> rfl), by repeat (first | (with_reducible first | exact HB.out | apply below_alloc | apply pw_below_drewN | apply below_drew1 | refine below_set ?_ GE115.out) | exact HB.out)⟩
def spec_TaskOk.f (k : Nat) (a0_0 : Int) (a0_1 : Int) (l0_2 : List (S141)) : Option (Bool) := (spec_l1Fit.f k a0_0 a0_1 l0_2).bind fun t119 => (if t119 = true then ((spec_l1Nodes.f k a0_0 a0_1 l0_2).bind fun t120 => (some (decide (t120 ≤ 15)))) else (some false))
set_option maxHeartbeats 8000000 in
set_option maxRecDepth 100000 in
theorem spec_TaskOk.calls (k : Nat) (a0_0 : Int) (a0_1 : Int) (A0_2 : Option Addr) (c0_2 : Nat) (l0_2 : List (S141)) (r : Bool) (w : World) (hr0_2 : Kd.C k141 w A0_2 l0_2.length l0_2) (hc0_2 : l0_2.length ≤ c0_2) (h : spec_TaskOk.f k a0_0 a0_1 l0_2 = some r) :
    Calls Try.prog 107 #[.agg #[.int .i64 a0_0, .int .i64 a0_1, .slice A0_2 l0_2.length c0_2]] w fun e w' => e = .returned (.bool r) ∧ Below w.heap.size w w' := by
  have hu141 := Try.underlying141
  have HR0_2 := Aside0.mk hr0_2
  have HC0_2 := Aside0.mk hc0_2
  clear hr0_2 hc0_2
  have HB := Aside0.mk (Below.refl w.heap.size w)
  have H : ((spec_l1Fit.f k a0_0 a0_1 l0_2).bind fun t119 => (if t119 = true then ((spec_l1Nodes.f k a0_0 a0_1 l0_2).bind fun t120 => (some (decide (t120 ≤ 15)))) else (some false))) = some r := h
  clear h
  replace H := Option.bind_eq_some_iff.mp H
  obtain ⟨t119, A20, H⟩ := H
  replace H : (if t119 = true then ((spec_l1Nodes.f k a0_0 a0_1 l0_2).bind fun t120 => (some (decide (t120 ≤ 15)))) else (some false)) = some r := H
  have A2 := Aside0.mk A20
  clear A20
  by_cases c3 : t119 = true
  · subst c3
    have H1 : ((spec_l1Nodes.f k a0_0 a0_1 l0_2).bind fun t120 => (some (decide (t120 ≤ 15)))) = some r := by rw [if_pos rfl] at H; exact H
    clear H
    have H := H1
    clear H1
    replace H := Option.bind_eq_some_iff.mp H
    obtain ⟨t120, A40, H⟩ := H
    replace H : (some (decide (t120 ≤ 15))) = some r := H
    have A4 := Aside0.mk A40
    clear A40
    obtain rfl := Option.some.inj H
    go_enter Try.func107, Try.ntmps107
    go_wp2_with (first | ((with_reducible refine gate_dst (N := 1) rfl ?_); refine box_event ?hg (N := 1) ?hd (cs := #[.int .i64 a0_0, .int .i64 a0_1, .slice A0_2 l0_2.length c0_2]) (t := 141) ?hr ?_; (case hd => rfl); (case hg => rfl); (case hr => first | (go_simp; done) | (go_simp; rfl)); intro gb118 hg w5 hbox hb; have n0_ := Aside0.mk (below_step (by repeat (first | (with_reducible first | exact HB.out | apply below_alloc | apply pw_below_drewN | apply below_drew1) | exact HB.out)) hb); have n1_ := Aside0.mk (hbox); have n2_ := Aside0.mk ((by rw [hg]; exact (below_size (by repeat (first | (with_reducible first | exact HB.out | apply below_alloc | apply pw_below_drewN | apply below_drew1) | exact HB.out))) : w.heap.size ≤ gb118)); have n3_ := Aside0.mk ((by rw [hg]; exact (below_size (by repeat (first | (with_reducible first | exact HB.out | apply below_alloc | apply pw_below_drewN | apply below_drew1) | exact HB.out))) : w.heap.size ≤ gb118)); clear HB; have HB := n0_; have BK118 := n1_; have GW118 := n2_; have GE118 := n3_; clear n0_ n1_ n2_ n3_; clear hb hbox hg; have hcz6_0 : w5.cell? ⟨gb118, 0, none⟩ = some (.int .i64 a0_0) := (blk_cell BK118.out 0).trans rfl; have hcz6_1 : w5.cell? ⟨gb118, 1, none⟩ = some (.int .i64 a0_1) := (blk_cell BK118.out 1).trans rfl; have hcz6_2 : w5.cell? ⟨gb118, 2, none⟩ = some (.slice A0_2 l0_2.length c0_2) := (blk_cell BK118.out 2).trans rfl; have hfz6_0 := blk_frozen BK118.out 0; have hfz6_1 := blk_frozen BK118.out 1; have hfz6_2 := blk_frozen BK118.out 2) | ((with_reducible refine gate_callee (f := 144) rfl ?_); refine goesL_ (some 4) rfl rfl Try.func144 (by kernel_rfl) rfl #[.agg #[.int .i64 a0_0, .int .i64 a0_1, .slice A0_2 l0_2.length c0_2]] rfl (by (try simp only [List.map_toArray, List.map_cons, List.map_nil]); first | done | rfl | (simp only [List.length_drop, List.length_take]; rfl)) ?_; (with_reducible refine (spec_l1Fit.calls k a0_0 a0_1 _ _ l0_2 true _ ?side1 ?side2 A2.out).mono ?_); (case side1 => repeat (first | exact (Kd.C_below HR0_2.out HB.out) | (with_reducible refine Kd.C_alloc ?_ _) | (with_reducible refine Kd.C_drewN ?_ _) | (with_reducible refine Kd.C_drew ?_))); (case side2 => exact HC0_2.out); rintro e w7 ⟨rfl, hb⟩; refine ⟨_, rfl, ?_⟩; have n0_ := Aside0.mk (blk_below (g := gb118) (o := .cells #[.int .i64 a0_0, .int .i64 a0_1, .slice A0_2 l0_2.length c0_2] 141 (0, 0)) (by (with_reducible repeat (first | refine blk_drewN ?_ _ | refine blk_drew ?_ | refine blk_alloc ?_ _)); exact BK118.out) hb); have n1_ := Aside0.mk (below_step (by repeat (first | (with_reducible first | exact HB.out | apply below_alloc | apply pw_below_drewN | apply below_drew1 | refine below_set ?_ GE118.out) | exact HB.out)) hb); clear BK118; clear HB; have BK118 := n0_; have HB := n1_; clear n0_ n1_; (try clear hb); (try clear hb2); (try clear hk); (try clear hi); have hcz8_0 : w7.cell? ⟨gb118, 0, none⟩ = some (.int .i64 a0_0) := (blk_cell BK118.out 0).trans rfl; have hcz8_1 : w7.cell? ⟨gb118, 1, none⟩ = some (.int .i64 a0_1) := (blk_cell BK118.out 1).trans rfl; have hcz8_2 : w7.cell? ⟨gb118, 2, none⟩ = some (.slice A0_2 l0_2.length c0_2) := (blk_cell BK118.out 2).trans rfl; have hfz8_0 := blk_frozen BK118.out 0; have hfz8_1 := blk_frozen BK118.out 1; have hfz8_2 := blk_frozen BK118.out 2) | (go_at_call 145; (with_reducible refine (spec_l1Nodes.calls k a0_0 a0_1 _ _ l0_2 t120 _ ?side1 ?side2 A4.out).mono ?_); (case side1 => repeat (first | exact (Kd.C_below HR0_2.out HB.out) | (with_reducible refine Kd.C_alloc ?_ _) | (with_reducible refine Kd.C_drewN ?_ _) | (with_reducible refine Kd.C_drew ?_))); (case side2 => exact HC0_2.out); rintro e w9 ⟨rfl, hb⟩; have n0_ := Aside0.mk (blk_below (g := gb118) (o := .cells #[.int .i64 a0_0, .int .i64 a0_1, .slice A0_2 l0_2.length c0_2] 141 (0, 0)) (by (with_reducible repeat (first | refine blk_drewN ?_ _ | refine blk_drew ?_ | refine blk_alloc ?_ _)); exact BK118.out) hb); have n1_ := Aside0.mk (below_step (by repeat (first | (with_reducible first | exact HB.out | apply below_alloc | apply pw_below_drewN | apply below_drew1 | refine below_set ?_ GE118.out) | exact HB.out)) hb); clear BK118; clear HB; have BK118 := n0_; have HB := n1_; clear n0_ n1_; (try clear hb); (try clear hb2); (try clear hk); (try clear hi)))
    go_ret
    exact ⟨by first | rfl | (simp [errW_none, errW_some] <;> rfl) | (simp [*, errW_none, errW_some] <;> rfl), by repeat (first | (with_reducible first | exact HB.out | apply below_alloc | apply pw_below_drewN | apply below_drew1 | refine below_set ?_ GE118.out) | exact HB.out)⟩
  · replace c3 := Bool.eq_false_iff.mpr c3
    subst c3
    have H1 : (some false) = some r := by rw [if_neg (show ¬ (false = true) by decide)] at H; exact H
    clear H
    have H := H1
    clear H1
    obtain rfl := Option.some.inj H
    go_enter Try.func107, Try.ntmps107
    go_wp2_with (first | ((with_reducible refine gate_dst (N := 1) rfl ?_); refine box_event ?hg (N := 1) ?hd (cs := #[.int .i64 a0_0, .int .i64 a0_1, .slice A0_2 l0_2.length c0_2]) (t := 141) ?hr ?_; (case hd => rfl); (case hg => rfl); (case hr => first | (go_simp; done) | (go_simp; rfl)); intro gb118 hg w10 hbox hb; have n0_ := Aside0.mk (below_step (by repeat (first | (with_reducible first | exact HB.out | apply below_alloc | apply pw_below_drewN | apply below_drew1) | exact HB.out)) hb); have n1_ := Aside0.mk (hbox); have n2_ := Aside0.mk ((by rw [hg]; exact (below_size (by repeat (first | (with_reducible first | exact HB.out | apply below_alloc | apply pw_below_drewN | apply below_drew1) | exact HB.out))) : w.heap.size ≤ gb118)); have n3_ := Aside0.mk ((by rw [hg]; exact (below_size (by repeat (first | (with_reducible first | exact HB.out | apply below_alloc | apply pw_below_drewN | apply below_drew1) | exact HB.out))) : w.heap.size ≤ gb118)); clear HB; have HB := n0_; have BK118 := n1_; have GW118 := n2_; have GE118 := n3_; clear n0_ n1_ n2_ n3_; clear hb hbox hg; have hcz11_0 : w10.cell? ⟨gb118, 0, none⟩ = some (.int .i64 a0_0) := (blk_cell BK118.out 0).trans rfl; have hcz11_1 : w10.cell? ⟨gb118, 1, none⟩ = some (.int .i64 a0_1) := (blk_cell BK118.out 1).trans rfl; have hcz11_2 : w10.cell? ⟨gb118, 2, none⟩ = some (.slice A0_2 l0_2.length c0_2) := (blk_cell BK118.out 2).trans rfl; have hfz11_0 := blk_frozen BK118.out 0; have hfz11_1 := blk_frozen BK118.out 1; have hfz11_2 := blk_frozen BK118.out 2) | ((with_reducible refine gate_callee (f := 144) rfl ?_); refine goesL_ (some 4) rfl rfl Try.func144 (by kernel_rfl) rfl #[.agg #[.int .i64 a0_0, .int .i64 a0_1, .slice A0_2 l0_2.length c0_2]] rfl (by (try simp only [List.map_toArray, List.map_cons, List.map_nil]); first | done | rfl | (simp only [List.length_drop, List.length_take]; rfl)) ?_; (with_reducible refine (spec_l1Fit.calls k a0_0 a0_1 _ _ l0_2 false _ ?side1 ?side2 A2.out).mono ?_); (case side1 => repeat (first | exact (Kd.C_below HR0_2.out HB.out) | (with_reducible refine Kd.C_alloc ?_ _) | (with_reducible refine Kd.C_drewN ?_ _) | (with_reducible refine Kd.C_drew ?_))); (case side2 => exact HC0_2.out); rintro e w12 ⟨rfl, hb⟩; refine ⟨_, rfl, ?_⟩; have n0_ := Aside0.mk (blk_below (g := gb118) (o := .cells #[.int .i64 a0_0, .int .i64 a0_1, .slice A0_2 l0_2.length c0_2] 141 (0, 0)) (by (with_reducible repeat (first | refine blk_drewN ?_ _ | refine blk_drew ?_ | refine blk_alloc ?_ _)); exact BK118.out) hb); have n1_ := Aside0.mk (below_step (by repeat (first | (with_reducible first | exact HB.out | apply below_alloc | apply pw_below_drewN | apply below_drew1 | refine below_set ?_ GE118.out) | exact HB.out)) hb); clear BK118; clear HB; have BK118 := n0_; have HB := n1_; clear n0_ n1_; (try clear hb); (try clear hb2); (try clear hk); (try clear hi)))
    go_ret
    exact ⟨by first | rfl | (simp [errW_none, errW_some] <;> rfl) | (simp [*, errW_none, errW_some] <;> rfl), by repeat (first | (with_reducible first | exact HB.out | apply below_alloc | apply pw_below_drewN | apply below_drew1 | refine below_set ?_ GE118.out) | exact HB.out)⟩
mutual
def spec_SheetOk.j0 : Nat → Bool → List Bool → List (S141) → Option (Bool)
  | 0, _, _, _ => none
  | k + 1, x16, x122000, x122001 => if x16 = true then (some false) else (spec_SheetOk.l0 k 0 x122000 x122001)
def spec_SheetOk.l0 : Nat → Int → List Bool → List (S141) → Option (Bool)
  | 0, _, _, _ => none
  | k + 1, x3, x122000, x122001 => if x3 < (x122000.length : Int) then (if 0 ≤ x3 then (if x3 < (x122001.length : Int) then ((spec_TaskOk.f k ((rd_T141 x122001 x3).f0) ((rd_T141 x122001 x3).f1) ((rd_T141 x122001 x3).f2)).bind fun t123 => (if t123 = true then (if rdOf false x122000 x3 = true then (spec_SheetOk.l0 k (wrap64 (x3 + 1)) x122000 x122001) else (if ((rd_T141 x122001 x3).f0) = 0 then (if ((rd_T141 x122001 x3).f1) = 0 then (spec_SheetOk.l0 k (wrap64 (x3 + 1)) x122000 x122001) else (some false)) else (some false))) else (some false))) else (none)) else (none)) else (some true)
end
def spec_SheetOk.f (k : Nat) (l0_0 : List Bool) (l0_1 : List (S141)) : Option (Bool) := if (l0_0.length : Int) = (l0_1.length : Int) then (spec_SheetOk.j0 k (decide ((l0_0.length : Int) > 10)) l0_0 l0_1) else (spec_SheetOk.j0 k true l0_0 l0_1)
set_option maxHeartbeats 8000000 in
set_option maxRecDepth 100000 in
theorem spec_SheetOk.calls (k : Nat) (A0_0 : Option Addr) (c0_0 : Nat) (l0_0 : List Bool) (A0_1 : Option Addr) (c0_1 : Nat) (l0_1 : List (S141)) (r : Bool) (w : World) (hr0_0 : Kd.C Kd.bool w A0_0 l0_0.length l0_0) (hc0_0 : l0_0.length ≤ c0_0) (hr0_1 : Kd.C k141 w A0_1 l0_1.length l0_1) (hc0_1 : l0_1.length ≤ c0_1) (h : spec_SheetOk.f k l0_0 l0_1 = some r) :
    Calls Try.prog 56 #[.agg #[.slice A0_0 l0_0.length c0_0, .slice A0_1 l0_1.length c0_1]] w fun e w' => e = .returned (.bool r) ∧ Below w.heap.size w w' := by
  have hu30 := Try.underlying30
  have hu141 := Try.underlying141
  have HR0_0 := Aside0.mk hr0_0
  have HC0_0 := Aside0.mk hc0_0
  clear hr0_0 hc0_0
  have HR0_1 := Aside0.mk hr0_1
  have HC0_1 := Aside0.mk hc0_1
  clear hr0_1 hc0_1
  have HB := Aside0.mk (Below.refl w.heap.size w)
  have H : (if (l0_0.length : Int) = (l0_1.length : Int) then (spec_SheetOk.j0 k (decide ((l0_0.length : Int) > 10)) l0_0 l0_1) else (spec_SheetOk.j0 k true l0_0 l0_1)) = some r := h
  clear h
  have HC2 := Aside0.mk H
  clear H
  go_enter Try.func56, Try.ntmps56
  go_upto_region 1 with (first | ((with_reducible refine gate_dst (N := 1) rfl ?_); (try (refine gate_guard (by rfl) ?_; dsimp only)); refine box_event ?hg (N := 1) ?hd (cs := #[.slice A0_0 l0_0.length c0_0, .slice A0_1 l0_1.length c0_1]) (t := 30) ?hr ?_; (case hd => rfl); (case hg => rfl); (case hr => first | (go_simp; done) | (go_simp; rfl)); intro gb121 hg w3 hbox hb; have n0_ := Aside0.mk (below_step (by repeat (first | (with_reducible first | exact HB.out | apply below_alloc | apply pw_below_drewN | apply below_drew1) | exact HB.out)) hb); have n1_ := Aside0.mk (hbox); have n2_ := Aside0.mk ((by rw [hg]; exact (below_size (by repeat (first | (with_reducible first | exact HB.out | apply below_alloc | apply pw_below_drewN | apply below_drew1) | exact HB.out))) : w.heap.size ≤ gb121)); have n3_ := Aside0.mk ((by rw [hg]; exact (below_size (by repeat (first | (with_reducible first | exact HB.out | apply below_alloc | apply pw_below_drewN | apply below_drew1) | exact HB.out))) : w.heap.size ≤ gb121)); clear HB; have HB := n0_; have BK121 := n1_; have GW121 := n2_; have GE121 := n3_; clear n0_ n1_ n2_ n3_; clear hb hbox hg))
  (try simp only [Act.put, List.setIfInBounds_toArray, List.set_cons_zero, List.set_cons_succ])
  go_cut [16] (fun v16 wc => ∃ (kq : Nat) (x16_1 : Bool), v16 = .bool x16_1 ∧ Aside0 (spec_SheetOk.j0 kq x16_1 l0_0 l0_1 = some r) ∧ Aside0 (kq ≤ k) ∧ Aside0 (wc.heap[gb121]? = some (.cells #[(.slice A0_0 l0_0.length c0_0), (.slice A0_1 l0_1.length c0_1)] 30 (0, 0))) ∧ Aside0 (Below w.heap.size w wc))
  case first =>
    have H := HC2.out
    clear HC2
    by_cases c4 : (l0_0.length : Int) = (l0_1.length : Int)
    · rw [if_pos c4] at H
      have c4b0 : ((l0_0.length : Int) == (l0_1.length : Int)) = true := beq_iff_eq.mpr c4
      have c4b1 : ((l0_0.length : Int) != (l0_1.length : Int)) = false := bne_eq_false_iff_eq.mpr c4
      have c4b2 : (l0_0.length == l0_1.length) = true := by first | simpa using c4 | (simp at c4 ⊢; omega)
      clear c4
      (first | rw [c4b0] | (simp only [i64_w, i32_w]; rw [c4b0]) | skip)
      have H' := Aside0.mk H
      clear H
      have hcz5_0 : w3.cell? ⟨gb121, 0, none⟩ = some (.slice A0_0 l0_0.length c0_0) := (blk_cell BK121.out 0).trans rfl
      have hcz5_1 : w3.cell? ⟨gb121, 1, none⟩ = some (.slice A0_1 l0_1.length c0_1) := (blk_cell BK121.out 1).trans rfl
      have hfz5_0 := blk_frozen BK121.out 0
      have hfz5_1 := blk_frozen BK121.out 1
      go_wp2
      go_meet
      case rel => exact ⟨_, (decide ((l0_0.length : Int) > 10)), (by first | rfl | (simp; done) | (simp [*]; done)), H', ⟨by first | omega | exact Nat.le_refl _⟩, ⟨by (with_reducible repeat (first | refine blk_drewN ?_ _ | refine blk_drew ?_ | refine blk_alloc ?_ _)); exact BK121.out⟩, ⟨by repeat (first | (with_reducible first | exact HB.out | apply below_alloc | apply pw_below_drewN | apply below_drew1 | refine below_set ?_ GE121.out) | exact HB.out)⟩⟩
    · rw [if_neg c4] at H
      have c4b0 : ((l0_0.length : Int) == (l0_1.length : Int)) = false := beq_eq_false_iff_ne.mpr c4
      have c4b1 : ((l0_0.length : Int) != (l0_1.length : Int)) = true := bne_iff_ne.mpr c4
      have c4b2 : (l0_0.length == l0_1.length) = false := by first | simpa using c4 | (simp at c4 ⊢; omega)
      (first | rw [c4b0] | (simp only [i64_w, i32_w]; rw [c4b0]) | skip)
      have H' := Aside0.mk H
      clear H
      have hcz6_0 : w3.cell? ⟨gb121, 0, none⟩ = some (.slice A0_0 l0_0.length c0_0) := (blk_cell BK121.out 0).trans rfl
      have hcz6_1 : w3.cell? ⟨gb121, 1, none⟩ = some (.slice A0_1 l0_1.length c0_1) := (blk_cell BK121.out 1).trans rfl
      have hfz6_0 := blk_frozen BK121.out 0
      have hfz6_1 := blk_frozen BK121.out 1
      go_wp2
      go_meet
      case rel => exact ⟨_, (true), (by first | rfl | (simp; done) | (simp [*]; done)), H', ⟨by first | omega | exact Nat.le_refl _⟩, ⟨by (with_reducible repeat (first | refine blk_drewN ?_ _ | refine blk_drew ?_ | refine blk_alloc ?_ _)); exact BK121.out⟩, ⟨by repeat (first | (with_reducible first | exact HB.out | apply below_alloc | apply pw_below_drewN | apply below_drew1 | refine below_set ?_ GE121.out) | exact HB.out)⟩⟩
  case rest =>
    clear HC2
    try clear p2
    try clear c4
    try clear c4b0
    try clear c4b1
    try clear c4b2
    try clear c5
    try clear hcz5_0
    try clear hcz5_1
    try clear hcz6_0
    try clear hcz6_1
    try clear hfz5_0
    try clear hfz5_1
    try clear hfz6_0
    try clear hfz6_1
    obtain ⟨kq, x16_1, rfl, HA, HJ1, BK121, HB⟩ := hcut
    cases kq with
    | zero => exact absurd HA.out (by simp [spec_SheetOk.j0])
    | succ kj1 =>
      have H := HA.out
      clear HA
      simp only [spec_SheetOk.j0] at H
      by_cases c7 : x16_1 = true
      · subst c7
        have H1 : (some false) = some r := by rw [if_pos rfl] at H; exact H
        clear H
        have H := H1
        clear H1
        obtain rfl := Option.some.inj H
        go_wp2
        go_ret
        exact ⟨by first | rfl | (simp [errW_none, errW_some] <;> rfl) | (simp [*, errW_none, errW_some] <;> rfl), by repeat (first | (with_reducible first | exact HB.out | apply below_alloc | apply pw_below_drewN | apply below_drew1 | refine below_set ?_ GE121.out) | exact HB.out)⟩
      · replace c7 := Bool.eq_false_iff.mpr c7
        subst c7
        have H1 : (spec_SheetOk.l0 kj1 0 l0_0 l0_1) = some r := by rw [if_neg (show ¬ (false = true) by decide)] at H; exact H
        clear H
        have H := H1
        clear H1
        have H' := Aside0.mk H
        clear H
        go_wp2
        go_loopg [3] kj1 (fun kq v3 w' => ∃ (x3_2 : Int), v3 = .int .i64 x3_2 ∧ Aside0 (spec_SheetOk.l0 kq x3_2 l0_0 l0_1 = some r) ∧ Aside0 (kq ≤ kj1) ∧ Aside0 (w'.heap[gb121]? = some (.cells #[(.slice A0_0 l0_0.length c0_0), (.slice A0_1 l0_1.length c0_1)] 30 (0, 0))) ∧ Aside0 (Below w.heap.size w w'))
        case atStart => exact ⟨(0), (by first | rfl | (simp; done) | (simp [*]; done)), H', ⟨Nat.le_refl _⟩, ⟨by (with_reducible repeat (first | refine blk_drewN ?_ _ | refine blk_drew ?_ | refine blk_alloc ?_ _)); exact BK121.out⟩, ⟨by repeat (first | (with_reducible first | exact HB.out | apply below_alloc | apply pw_below_drewN | apply below_drew1 | refine below_set ?_ GE121.out) | exact HB.out)⟩⟩
        case round =>
          clear H'
          try clear p2
          try clear c4
          try clear c4b0
          try clear c4b1
          try clear c4b2
          try clear c5
          try clear c7
          try clear hcz5_0
          try clear hcz5_1
          try clear hcz6_0
          try clear hcz6_1
          try clear hfz5_0
          try clear hfz5_1
          try clear hfz6_0
          try clear hfz6_1
          try clear p2
          obtain ⟨x3_2, rfl, HA, HK2, BK121, HB⟩ := hrel
          cases gk with
          | zero => exact absurd HA.out (by simp [spec_SheetOk.l0])
          | succ k2 =>
            have H := HA.out
            clear HA
            simp only [spec_SheetOk.l0] at H
            by_cases c8 : x3_2 < (l0_0.length : Int)
            · rw [if_pos c8] at H
              have c8b0 : decide (x3_2 < (l0_0.length : Int)) = true := decide_eq_true c8
              clear c8
              by_cases c9 : 0 ≤ x3_2
              · rw [if_pos c9] at H
                have c9b0 : decide (0 ≤ x3_2) = true := decide_eq_true c9
                clear c9
                by_cases c10 : x3_2 < (l0_1.length : Int)
                · rw [if_pos c10] at H
                  have c10b0 : decide (x3_2 < (l0_1.length : Int)) = true := decide_eq_true c10
                  clear c10
                  replace H := Option.bind_eq_some_iff.mp H
                  obtain ⟨t123, A110, H⟩ := H
                  replace H : (if t123 = true then (if rdOf false l0_0 x3_2 = true then (spec_SheetOk.l0 k2 (wrap64 (x3_2 + 1)) l0_0 l0_1) else (if ((rd_T141 l0_1 x3_2).f0) = 0 then (if ((rd_T141 l0_1 x3_2).f1) = 0 then (spec_SheetOk.l0 k2 (wrap64 (x3_2 + 1)) l0_0 l0_1) else (some false)) else (some false))) else (some false)) = some r := H
                  have A11 := Aside0.mk A110
                  clear A110
                  by_cases c12 : t123 = true
                  · subst c12
                    have H1 : (if rdOf false l0_0 x3_2 = true then (spec_SheetOk.l0 k2 (wrap64 (x3_2 + 1)) l0_0 l0_1) else (if ((rd_T141 l0_1 x3_2).f0) = 0 then (if ((rd_T141 l0_1 x3_2).f1) = 0 then (spec_SheetOk.l0 k2 (wrap64 (x3_2 + 1)) l0_0 l0_1) else (some false)) else (some false))) = some r := by rw [if_pos rfl] at H; exact H
                    clear H
                    have H := H1
                    clear H1
                    obtain ⟨bq13, hbq13⟩ : ∃ b_ : Bool, b_ = (rdOf false l0_0 x3_2) := ⟨_, rfl⟩
                    replace H : (if bq13 = true then (spec_SheetOk.l0 k2 (wrap64 (x3_2 + 1)) l0_0 l0_1) else (if ((rd_T141 l0_1 x3_2).f0) = 0 then (if ((rd_T141 l0_1 x3_2).f1) = 0 then (spec_SheetOk.l0 k2 (wrap64 (x3_2 + 1)) l0_0 l0_1) else (some false)) else (some false))) = some r := by rw [← hbq13] at H; exact H
                    have Nbq13 := Aside0.mk hbq13
                    clear hbq13
                    by_cases c14 : bq13 = true
                    · subst c14
                      have H1 : (spec_SheetOk.l0 k2 (wrap64 (x3_2 + 1)) l0_0 l0_1) = some r := by rw [if_pos rfl] at H; exact H
                      clear H
                      have H := H1
                      clear H1
                      have H' := Aside0.mk H
                      clear H
                      have hcz15_0 : wr.cell? ⟨gb121, 0, none⟩ = some (.slice A0_0 l0_0.length c0_0) := (blk_cell BK121.out 0).trans rfl
                      have hcz15_1 : wr.cell? ⟨gb121, 1, none⟩ = some (.slice A0_1 l0_1.length c0_1) := (blk_cell BK121.out 1).trans rfl
                      have hfz15_0 := blk_frozen BK121.out 0
                      have hfz15_1 := blk_frozen BK121.out 1
                      have p122 : 0 ≤ (x3_2 : Int) := of_decide_eq_true (by first | (with_reducible assumption) | assumption)
                      have q122 : x3_2 < (l0_1.length : Int) := of_decide_eq_true (by first | (with_reducible assumption) | assumption)
                      obtain ⟨ad122, A122_2, c122_2, e122, hx122_0, hx122_1, hx122_2, hl122_2, hi122_2⟩ := at_T141 HR0_1.out x3_2 p122 q122
                      cases e122
                      replace hx122_0 := (HB.out.cell (World.block_lt_of_cell? w _ hx122_0)).trans hx122_0
                      replace hx122_1 := (HB.out.cell (World.block_lt_of_cell? w _ hx122_1)).trans hx122_1
                      replace hx122_2 := (HB.out.cell (World.block_lt_of_cell? w _ hx122_2)).trans hx122_2
                      have HR122_2 := Aside0.mk hi122_2
                      have HC122_2 := Aside0.mk hl122_2
                      clear hi122_2 hl122_2
                      replace p122 := eq_true p122
                      replace q122 := eq_true q122
                      go_wp2_with (first | ((with_reducible refine gate_callee (f := 107) rfl ?_); refine goesL_ (some 29) rfl rfl Try.func107 (by kernel_rfl) rfl #[.agg #[.int .i64 ((rd_T141 l0_1 x3_2).f0), .int .i64 ((rd_T141 l0_1 x3_2).f1), .slice A122_2 ((rd_T141 l0_1 x3_2).f2).length c122_2]] rfl (by (try simp only [List.map_toArray, List.map_cons, List.map_nil]); first | done | rfl | (simp only [List.length_drop, List.length_take]; rfl)) ?_; (with_reducible refine (spec_TaskOk.calls k2 ((rd_T141 l0_1 x3_2).f0) ((rd_T141 l0_1 x3_2).f1) _ _ ((rd_T141 l0_1 x3_2).f2) true _ ?side1 ?side2 A11.out).mono ?_); (case side1 => repeat (first | exact (Kd.C_below HR122_2.out HB.out) | (with_reducible refine Kd.C_alloc ?_ _) | (with_reducible refine Kd.C_drewN ?_ _) | (with_reducible refine Kd.C_drew ?_))); (case side2 => exact HC122_2.out); rintro e w16 ⟨rfl, hb⟩; refine ⟨_, rfl, ?_⟩; have n0_ := Aside0.mk (blk_below (g := gb121) (o := .cells #[.slice A0_0 l0_0.length c0_0, .slice (some ad122) l0_1.length c0_1] 30 (0, 0)) (by (with_reducible repeat (first | refine blk_drewN ?_ _ | refine blk_drew ?_ | refine blk_alloc ?_ _)); exact BK121.out) hb); have n1_ := Aside0.mk (below_step (by repeat (first | (with_reducible first | exact HB.out | apply below_alloc | apply pw_below_drewN | apply below_drew1 | refine below_set ?_ GE121.out) | exact HB.out)) hb); clear BK121; clear HB; have BK121 := n0_; have HB := n1_; clear n0_ n1_; (try clear hb); (try clear hb2); (try clear hk); (try clear hi); have hcz17_0 : w16.cell? ⟨gb121, 0, none⟩ = some (.slice A0_0 l0_0.length c0_0) := (blk_cell BK121.out 0).trans rfl; have hcz17_1 : w16.cell? ⟨gb121, 1, none⟩ = some (.slice (some ad122) l0_1.length c0_1) := (blk_cell BK121.out 1).trans rfl; have hfz17_0 := blk_frozen BK121.out 0; have hfz17_1 := blk_frozen BK121.out 1; have p124 : 0 ≤ (x3_2 : Int) := of_decide_eq_true (by first | (with_reducible assumption) | assumption); have q124 : x3_2 < (l0_0.length : Int) := of_decide_eq_true (by first | (with_reducible assumption) | assumption); obtain ⟨ad124, e124, hx124_0⟩ := Kd.at_bool HR0_0.out x3_2 p124 q124; (try rw [← Nbq13.out] at hx124_0); cases e124; replace hx124_0 := (HB.out.cell (World.block_lt_of_cell? w _ hx124_0)).trans hx124_0; replace p124 := eq_true p124; replace q124 := eq_true q124))
                      go_roundg k2
                      case measure => have := HJ1.out; have := HK2.out; omega
                      case rel => exact ⟨(wrap64 (x3_2 + 1)), (by first | rfl | (simp; done) | (simp [*]; done)), H', ⟨by have := HJ1.out; have := HK2.out; omega⟩, ⟨by (with_reducible repeat (first | refine blk_drewN ?_ _ | refine blk_drew ?_ | refine blk_alloc ?_ _)); exact BK121.out⟩, ⟨by repeat (first | (with_reducible first | exact HB.out | apply below_alloc | apply pw_below_drewN | apply below_drew1 | refine below_set ?_ GE121.out) | exact HB.out)⟩⟩
                    · replace c14 := Bool.eq_false_iff.mpr c14
                      subst c14
                      have H1 : (if ((rd_T141 l0_1 x3_2).f0) = 0 then (if ((rd_T141 l0_1 x3_2).f1) = 0 then (spec_SheetOk.l0 k2 (wrap64 (x3_2 + 1)) l0_0 l0_1) else (some false)) else (some false)) = some r := by rw [if_neg (show ¬ (false = true) by decide)] at H; exact H
                      clear H
                      have H := H1
                      clear H1
                      by_cases c18 : ((rd_T141 l0_1 x3_2).f0) = 0
                      · rw [if_pos c18] at H
                        have c18b0 : (((rd_T141 l0_1 x3_2).f0) == 0) = true := beq_iff_eq.mpr c18
                        have c18b1 : (((rd_T141 l0_1 x3_2).f0) != 0) = false := bne_eq_false_iff_eq.mpr c18
                        clear c18
                        by_cases c19 : ((rd_T141 l0_1 x3_2).f1) = 0
                        · rw [if_pos c19] at H
                          have c19b0 : (((rd_T141 l0_1 x3_2).f1) == 0) = true := beq_iff_eq.mpr c19
                          have c19b1 : (((rd_T141 l0_1 x3_2).f1) != 0) = false := bne_eq_false_iff_eq.mpr c19
                          clear c19
                          have H' := Aside0.mk H
                          clear H
                          have hcz20_0 : wr.cell? ⟨gb121, 0, none⟩ = some (.slice A0_0 l0_0.length c0_0) := (blk_cell BK121.out 0).trans rfl
                          have hcz20_1 : wr.cell? ⟨gb121, 1, none⟩ = some (.slice A0_1 l0_1.length c0_1) := (blk_cell BK121.out 1).trans rfl
                          have hfz20_0 := blk_frozen BK121.out 0
                          have hfz20_1 := blk_frozen BK121.out 1
                          have p122 : 0 ≤ (x3_2 : Int) := of_decide_eq_true (by first | (with_reducible assumption) | assumption)
                          have q122 : x3_2 < (l0_1.length : Int) := of_decide_eq_true (by first | (with_reducible assumption) | assumption)
                          obtain ⟨ad122, A122_2, c122_2, e122, hx122_0, hx122_1, hx122_2, hl122_2, hi122_2⟩ := at_T141 HR0_1.out x3_2 p122 q122
                          cases e122
                          replace hx122_0 := (HB.out.cell (World.block_lt_of_cell? w _ hx122_0)).trans hx122_0
                          replace hx122_1 := (HB.out.cell (World.block_lt_of_cell? w _ hx122_1)).trans hx122_1
                          replace hx122_2 := (HB.out.cell (World.block_lt_of_cell? w _ hx122_2)).trans hx122_2
                          have HR122_2 := Aside0.mk hi122_2
                          have HC122_2 := Aside0.mk hl122_2
                          clear hi122_2 hl122_2
                          replace p122 := eq_true p122
                          replace q122 := eq_true q122
                          go_wp2_with (first | ((with_reducible refine gate_callee (f := 107) rfl ?_); refine goesL_ (some 29) rfl rfl Try.func107 (by kernel_rfl) rfl #[.agg #[.int .i64 ((rd_T141 l0_1 x3_2).f0), .int .i64 ((rd_T141 l0_1 x3_2).f1), .slice A122_2 ((rd_T141 l0_1 x3_2).f2).length c122_2]] rfl (by (try simp only [List.map_toArray, List.map_cons, List.map_nil]); first | done | rfl | (simp only [List.length_drop, List.length_take]; rfl)) ?_; (with_reducible refine (spec_TaskOk.calls k2 ((rd_T141 l0_1 x3_2).f0) ((rd_T141 l0_1 x3_2).f1) _ _ ((rd_T141 l0_1 x3_2).f2) true _ ?side1 ?side2 A11.out).mono ?_); (case side1 => repeat (first | exact (Kd.C_below HR122_2.out HB.out) | (with_reducible refine Kd.C_alloc ?_ _) | (with_reducible refine Kd.C_drewN ?_ _) | (with_reducible refine Kd.C_drew ?_))); (case side2 => exact HC122_2.out); rintro e w21 ⟨rfl, hb⟩; refine ⟨_, rfl, ?_⟩; have n0_ := Aside0.mk (blk_below (g := gb121) (o := .cells #[.slice A0_0 l0_0.length c0_0, .slice (some ad122) l0_1.length c0_1] 30 (0, 0)) (by (with_reducible repeat (first | refine blk_drewN ?_ _ | refine blk_drew ?_ | refine blk_alloc ?_ _)); exact BK121.out) hb); have n1_ := Aside0.mk (below_step (by repeat (first | (with_reducible first | exact HB.out | apply below_alloc | apply pw_below_drewN | apply below_drew1 | refine below_set ?_ GE121.out) | exact HB.out)) hb); clear BK121; clear HB; have BK121 := n0_; have HB := n1_; clear n0_ n1_; (try clear hb); (try clear hb2); (try clear hk); (try clear hi); have hcz22_0 : w21.cell? ⟨gb121, 0, none⟩ = some (.slice A0_0 l0_0.length c0_0) := (blk_cell BK121.out 0).trans rfl; have hcz22_1 : w21.cell? ⟨gb121, 1, none⟩ = some (.slice (some ad122) l0_1.length c0_1) := (blk_cell BK121.out 1).trans rfl; have hfz22_0 := blk_frozen BK121.out 0; have hfz22_1 := blk_frozen BK121.out 1; have p124 : 0 ≤ (x3_2 : Int) := of_decide_eq_true (by first | (with_reducible assumption) | assumption); have q124 : x3_2 < (l0_0.length : Int) := of_decide_eq_true (by first | (with_reducible assumption) | assumption); obtain ⟨ad124, e124, hx124_0⟩ := Kd.at_bool HR0_0.out x3_2 p124 q124; (try rw [← Nbq13.out] at hx124_0); cases e124; replace hx124_0 := (HB.out.cell (World.block_lt_of_cell? w _ hx124_0)).trans hx124_0; replace p124 := eq_true p124; replace q124 := eq_true q124; have p125 : 0 ≤ (x3_2 : Int) := of_decide_eq_true (by first | (with_reducible assumption) | assumption); have q125 : x3_2 < (l0_1.length : Int) := of_decide_eq_true (by first | (with_reducible assumption) | assumption); obtain ⟨ad125, A125_2, c125_2, e125, hx125_0, hx125_1, hx125_2, hl125_2, hi125_2⟩ := at_T141 HR0_1.out x3_2 p125 q125; obtain rfl : ad122 = ad125 := (by injection e125); replace hx125_0 := (HB.out.cell (World.block_lt_of_cell? w _ hx125_0)).trans hx125_0; replace hx125_1 := (HB.out.cell (World.block_lt_of_cell? w _ hx125_1)).trans hx125_1; replace hx125_2 := (HB.out.cell (World.block_lt_of_cell? w _ hx125_2)).trans hx125_2; have HR125_2 := Aside0.mk hi125_2; have HC125_2 := Aside0.mk hl125_2; clear hi125_2 hl125_2; replace p125 := eq_true p125; replace q125 := eq_true q125; have p126 : 0 ≤ (x3_2 : Int) := of_decide_eq_true (by first | (with_reducible assumption) | assumption); have q126 : x3_2 < (l0_1.length : Int) := of_decide_eq_true (by first | (with_reducible assumption) | assumption); obtain ⟨ad126, A126_2, c126_2, e126, hx126_0, hx126_1, hx126_2, hl126_2, hi126_2⟩ := at_T141 HR0_1.out x3_2 p126 q126; obtain rfl : ad122 = ad126 := (by injection e126); replace hx126_0 := (HB.out.cell (World.block_lt_of_cell? w _ hx126_0)).trans hx126_0; replace hx126_1 := (HB.out.cell (World.block_lt_of_cell? w _ hx126_1)).trans hx126_1; replace hx126_2 := (HB.out.cell (World.block_lt_of_cell? w _ hx126_2)).trans hx126_2; have HR126_2 := Aside0.mk hi126_2; have HC126_2 := Aside0.mk hl126_2; clear hi126_2 hl126_2; replace p126 := eq_true p126; replace q126 := eq_true q126; have ea_ := Option.some.inj (hx125_2.symm.trans hx126_2); injection ea_ with ea_ en_ ec_; subst ea_; subst ec_; clear en_))
                          go_roundg k2
                          case measure => have := HJ1.out; have := HK2.out; omega
                          case rel => exact ⟨(wrap64 (x3_2 + 1)), (by first | rfl | (simp; done) | (simp [*]; done)), H', ⟨by have := HJ1.out; have := HK2.out; omega⟩, ⟨by (with_reducible repeat (first | refine blk_drewN ?_ _ | refine blk_drew ?_ | refine blk_alloc ?_ _)); exact BK121.out⟩, ⟨by repeat (first | (with_reducible first | exact HB.out | apply below_alloc | apply pw_below_drewN | apply below_drew1 | refine below_set ?_ GE121.out) | exact HB.out)⟩⟩
                        · rw [if_neg c19] at H
                          have c19b0 : (((rd_T141 l0_1 x3_2).f1) == 0) = false := beq_eq_false_iff_ne.mpr c19
                          have c19b1 : (((rd_T141 l0_1 x3_2).f1) != 0) = true := bne_iff_ne.mpr c19
                          obtain rfl := Option.some.inj H
                          have hcz23_0 : wr.cell? ⟨gb121, 0, none⟩ = some (.slice A0_0 l0_0.length c0_0) := (blk_cell BK121.out 0).trans rfl
                          have hcz23_1 : wr.cell? ⟨gb121, 1, none⟩ = some (.slice A0_1 l0_1.length c0_1) := (blk_cell BK121.out 1).trans rfl
                          have hfz23_0 := blk_frozen BK121.out 0
                          have hfz23_1 := blk_frozen BK121.out 1
                          have p122 : 0 ≤ (x3_2 : Int) := of_decide_eq_true (by first | (with_reducible assumption) | assumption)
                          have q122 : x3_2 < (l0_1.length : Int) := of_decide_eq_true (by first | (with_reducible assumption) | assumption)
                          obtain ⟨ad122, A122_2, c122_2, e122, hx122_0, hx122_1, hx122_2, hl122_2, hi122_2⟩ := at_T141 HR0_1.out x3_2 p122 q122
                          cases e122
                          replace hx122_0 := (HB.out.cell (World.block_lt_of_cell? w _ hx122_0)).trans hx122_0
                          replace hx122_1 := (HB.out.cell (World.block_lt_of_cell? w _ hx122_1)).trans hx122_1
                          replace hx122_2 := (HB.out.cell (World.block_lt_of_cell? w _ hx122_2)).trans hx122_2
                          have HR122_2 := Aside0.mk hi122_2
                          have HC122_2 := Aside0.mk hl122_2
                          clear hi122_2 hl122_2
                          replace p122 := eq_true p122
                          replace q122 := eq_true q122
                          go_wp2_with (first | ((with_reducible refine gate_callee (f := 107) rfl ?_); refine goesL_ (some 29) rfl rfl Try.func107 (by kernel_rfl) rfl #[.agg #[.int .i64 ((rd_T141 l0_1 x3_2).f0), .int .i64 ((rd_T141 l0_1 x3_2).f1), .slice A122_2 ((rd_T141 l0_1 x3_2).f2).length c122_2]] rfl (by (try simp only [List.map_toArray, List.map_cons, List.map_nil]); first | done | rfl | (simp only [List.length_drop, List.length_take]; rfl)) ?_; (with_reducible refine (spec_TaskOk.calls k2 ((rd_T141 l0_1 x3_2).f0) ((rd_T141 l0_1 x3_2).f1) _ _ ((rd_T141 l0_1 x3_2).f2) true _ ?side1 ?side2 A11.out).mono ?_); (case side1 => repeat (first | exact (Kd.C_below HR122_2.out HB.out) | (with_reducible refine Kd.C_alloc ?_ _) | (with_reducible refine Kd.C_drewN ?_ _) | (with_reducible refine Kd.C_drew ?_))); (case side2 => exact HC122_2.out); rintro e w24 ⟨rfl, hb⟩; refine ⟨_, rfl, ?_⟩; have n0_ := Aside0.mk (blk_below (g := gb121) (o := .cells #[.slice A0_0 l0_0.length c0_0, .slice (some ad122) l0_1.length c0_1] 30 (0, 0)) (by (with_reducible repeat (first | refine blk_drewN ?_ _ | refine blk_drew ?_ | refine blk_alloc ?_ _)); exact BK121.out) hb); have n1_ := Aside0.mk (below_step (by repeat (first | (with_reducible first | exact HB.out | apply below_alloc | apply pw_below_drewN | apply below_drew1 | refine below_set ?_ GE121.out) | exact HB.out)) hb); clear BK121; clear HB; have BK121 := n0_; have HB := n1_; clear n0_ n1_; (try clear hb); (try clear hb2); (try clear hk); (try clear hi); have hcz25_0 : w24.cell? ⟨gb121, 0, none⟩ = some (.slice A0_0 l0_0.length c0_0) := (blk_cell BK121.out 0).trans rfl; have hcz25_1 : w24.cell? ⟨gb121, 1, none⟩ = some (.slice (some ad122) l0_1.length c0_1) := (blk_cell BK121.out 1).trans rfl; have hfz25_0 := blk_frozen BK121.out 0; have hfz25_1 := blk_frozen BK121.out 1; have p124 : 0 ≤ (x3_2 : Int) := of_decide_eq_true (by first | (with_reducible assumption) | assumption); have q124 : x3_2 < (l0_0.length : Int) := of_decide_eq_true (by first | (with_reducible assumption) | assumption); obtain ⟨ad124, e124, hx124_0⟩ := Kd.at_bool HR0_0.out x3_2 p124 q124; (try rw [← Nbq13.out] at hx124_0); cases e124; replace hx124_0 := (HB.out.cell (World.block_lt_of_cell? w _ hx124_0)).trans hx124_0; replace p124 := eq_true p124; replace q124 := eq_true q124; have p125 : 0 ≤ (x3_2 : Int) := of_decide_eq_true (by first | (with_reducible assumption) | assumption); have q125 : x3_2 < (l0_1.length : Int) := of_decide_eq_true (by first | (with_reducible assumption) | assumption); obtain ⟨ad125, A125_2, c125_2, e125, hx125_0, hx125_1, hx125_2, hl125_2, hi125_2⟩ := at_T141 HR0_1.out x3_2 p125 q125; obtain rfl : ad122 = ad125 := (by injection e125); replace hx125_0 := (HB.out.cell (World.block_lt_of_cell? w _ hx125_0)).trans hx125_0; replace hx125_1 := (HB.out.cell (World.block_lt_of_cell? w _ hx125_1)).trans hx125_1; replace hx125_2 := (HB.out.cell (World.block_lt_of_cell? w _ hx125_2)).trans hx125_2; have HR125_2 := Aside0.mk hi125_2; have HC125_2 := Aside0.mk hl125_2; clear hi125_2 hl125_2; replace p125 := eq_true p125; replace q125 := eq_true q125; have p126 : 0 ≤ (x3_2 : Int) := of_decide_eq_true (by first | (with_reducible assumption) | assumption); have q126 : x3_2 < (l0_1.length : Int) := of_decide_eq_true (by first | (with_reducible assumption) | assumption); obtain ⟨ad126, A126_2, c126_2, e126, hx126_0, hx126_1, hx126_2, hl126_2, hi126_2⟩ := at_T141 HR0_1.out x3_2 p126 q126; obtain rfl : ad122 = ad126 := (by injection e126); replace hx126_0 := (HB.out.cell (World.block_lt_of_cell? w _ hx126_0)).trans hx126_0; replace hx126_1 := (HB.out.cell (World.block_lt_of_cell? w _ hx126_1)).trans hx126_1; replace hx126_2 := (HB.out.cell (World.block_lt_of_cell? w _ hx126_2)).trans hx126_2; have HR126_2 := Aside0.mk hi126_2; have HC126_2 := Aside0.mk hl126_2; clear hi126_2 hl126_2; replace p126 := eq_true p126; replace q126 := eq_true q126; have ea_ := Option.some.inj (hx125_2.symm.trans hx126_2); injection ea_ with ea_ en_ ec_; subst ea_; subst ec_; clear en_))
                          go_ret
                          exact ⟨by first | rfl | (simp [errW_none, errW_some] <;> rfl) | (simp [*, errW_none, errW_some] <;> rfl), by repeat (first | (with_reducible first | exact HB.out | apply below_alloc | apply pw_below_drewN | apply below_drew1 | refine below_set ?_ GE121.out) | exact HB.out)⟩
                      · rw [if_neg c18] at H
                        have c18b0 : (((rd_T141 l0_1 x3_2).f0) == 0) = false := beq_eq_false_iff_ne.mpr c18
                        have c18b1 : (((rd_T141 l0_1 x3_2).f0) != 0) = true := bne_iff_ne.mpr c18
                        obtain rfl := Option.some.inj H
                        have hcz26_0 : wr.cell? ⟨gb121, 0, none⟩ = some (.slice A0_0 l0_0.length c0_0) := (blk_cell BK121.out 0).trans rfl
                        have hcz26_1 : wr.cell? ⟨gb121, 1, none⟩ = some (.slice A0_1 l0_1.length c0_1) := (blk_cell BK121.out 1).trans rfl
                        have hfz26_0 := blk_frozen BK121.out 0
                        have hfz26_1 := blk_frozen BK121.out 1
                        have p122 : 0 ≤ (x3_2 : Int) := of_decide_eq_true (by first | (with_reducible assumption) | assumption)
                        have q122 : x3_2 < (l0_1.length : Int) := of_decide_eq_true (by first | (with_reducible assumption) | assumption)
                        obtain ⟨ad122, A122_2, c122_2, e122, hx122_0, hx122_1, hx122_2, hl122_2, hi122_2⟩ := at_T141 HR0_1.out x3_2 p122 q122
                        cases e122
                        replace hx122_0 := (HB.out.cell (World.block_lt_of_cell? w _ hx122_0)).trans hx122_0
                        replace hx122_1 := (HB.out.cell (World.block_lt_of_cell? w _ hx122_1)).trans hx122_1
                        replace hx122_2 := (HB.out.cell (World.block_lt_of_cell? w _ hx122_2)).trans hx122_2
                        have HR122_2 := Aside0.mk hi122_2
                        have HC122_2 := Aside0.mk hl122_2
                        clear hi122_2 hl122_2
                        replace p122 := eq_true p122
                        replace q122 := eq_true q122
                        go_wp2_with (first | ((with_reducible refine gate_callee (f := 107) rfl ?_); refine goesL_ (some 29) rfl rfl Try.func107 (by kernel_rfl) rfl #[.agg #[.int .i64 ((rd_T141 l0_1 x3_2).f0), .int .i64 ((rd_T141 l0_1 x3_2).f1), .slice A122_2 ((rd_T141 l0_1 x3_2).f2).length c122_2]] rfl (by (try simp only [List.map_toArray, List.map_cons, List.map_nil]); first | done | rfl | (simp only [List.length_drop, List.length_take]; rfl)) ?_; (with_reducible refine (spec_TaskOk.calls k2 ((rd_T141 l0_1 x3_2).f0) ((rd_T141 l0_1 x3_2).f1) _ _ ((rd_T141 l0_1 x3_2).f2) true _ ?side1 ?side2 A11.out).mono ?_); (case side1 => repeat (first | exact (Kd.C_below HR122_2.out HB.out) | (with_reducible refine Kd.C_alloc ?_ _) | (with_reducible refine Kd.C_drewN ?_ _) | (with_reducible refine Kd.C_drew ?_))); (case side2 => exact HC122_2.out); rintro e w27 ⟨rfl, hb⟩; refine ⟨_, rfl, ?_⟩; have n0_ := Aside0.mk (blk_below (g := gb121) (o := .cells #[.slice A0_0 l0_0.length c0_0, .slice (some ad122) l0_1.length c0_1] 30 (0, 0)) (by (with_reducible repeat (first | refine blk_drewN ?_ _ | refine blk_drew ?_ | refine blk_alloc ?_ _)); exact BK121.out) hb); have n1_ := Aside0.mk (below_step (by repeat (first | (with_reducible first | exact HB.out | apply below_alloc | apply pw_below_drewN | apply below_drew1 | refine below_set ?_ GE121.out) | exact HB.out)) hb); clear BK121; clear HB; have BK121 := n0_; have HB := n1_; clear n0_ n1_; (try clear hb); (try clear hb2); (try clear hk); (try clear hi); have hcz28_0 : w27.cell? ⟨gb121, 0, none⟩ = some (.slice A0_0 l0_0.length c0_0) := (blk_cell BK121.out 0).trans rfl; have hcz28_1 : w27.cell? ⟨gb121, 1, none⟩ = some (.slice (some ad122) l0_1.length c0_1) := (blk_cell BK121.out 1).trans rfl; have hfz28_0 := blk_frozen BK121.out 0; have hfz28_1 := blk_frozen BK121.out 1; have p124 : 0 ≤ (x3_2 : Int) := of_decide_eq_true (by first | (with_reducible assumption) | assumption); have q124 : x3_2 < (l0_0.length : Int) := of_decide_eq_true (by first | (with_reducible assumption) | assumption); obtain ⟨ad124, e124, hx124_0⟩ := Kd.at_bool HR0_0.out x3_2 p124 q124; (try rw [← Nbq13.out] at hx124_0); cases e124; replace hx124_0 := (HB.out.cell (World.block_lt_of_cell? w _ hx124_0)).trans hx124_0; replace p124 := eq_true p124; replace q124 := eq_true q124; have p125 : 0 ≤ (x3_2 : Int) := of_decide_eq_true (by first | (with_reducible assumption) | assumption); have q125 : x3_2 < (l0_1.length : Int) := of_decide_eq_true (by first | (with_reducible assumption) | assumption); obtain ⟨ad125, A125_2, c125_2, e125, hx125_0, hx125_1, hx125_2, hl125_2, hi125_2⟩ := at_T141 HR0_1.out x3_2 p125 q125; obtain rfl : ad122 = ad125 := (by injection e125); replace hx125_0 := (HB.out.cell (World.block_lt_of_cell? w _ hx125_0)).trans hx125_0; replace hx125_1 := (HB.out.cell (World.block_lt_of_cell? w _ hx125_1)).trans hx125_1; replace hx125_2 := (HB.out.cell (World.block_lt_of_cell? w _ hx125_2)).trans hx125_2; have HR125_2 := Aside0.mk hi125_2; have HC125_2 := Aside0.mk hl125_2; clear hi125_2 hl125_2; replace p125 := eq_true p125; replace q125 := eq_true q125))
                        go_ret
                        exact ⟨by first | rfl | (simp [errW_none, errW_some] <;> rfl) | (simp [*, errW_none, errW_some] <;> rfl), by repeat (first | (with_reducible first | exact HB.out | apply below_alloc | apply pw_below_drewN | apply below_drew1 | refine below_set ?_ GE121.out) | exact HB.out)⟩
                  · replace c12 := Bool.eq_false_iff.mpr c12
                    subst c12
                    have H1 : (some false) = some r := by rw [if_neg (show ¬ (false = true) by decide)] at H; exact H
                    clear H
                    have H := H1
                    clear H1
                    obtain rfl := Option.some.inj H
                    have hcz29_0 : wr.cell? ⟨gb121, 0, none⟩ = some (.slice A0_0 l0_0.length c0_0) := (blk_cell BK121.out 0).trans rfl
                    have hcz29_1 : wr.cell? ⟨gb121, 1, none⟩ = some (.slice A0_1 l0_1.length c0_1) := (blk_cell BK121.out 1).trans rfl
                    have hfz29_0 := blk_frozen BK121.out 0
                    have hfz29_1 := blk_frozen BK121.out 1
                    have p122 : 0 ≤ (x3_2 : Int) := of_decide_eq_true (by first | (with_reducible assumption) | assumption)
                    have q122 : x3_2 < (l0_1.length : Int) := of_decide_eq_true (by first | (with_reducible assumption) | assumption)
                    obtain ⟨ad122, A122_2, c122_2, e122, hx122_0, hx122_1, hx122_2, hl122_2, hi122_2⟩ := at_T141 HR0_1.out x3_2 p122 q122
                    cases e122
                    replace hx122_0 := (HB.out.cell (World.block_lt_of_cell? w _ hx122_0)).trans hx122_0
                    replace hx122_1 := (HB.out.cell (World.block_lt_of_cell? w _ hx122_1)).trans hx122_1
                    replace hx122_2 := (HB.out.cell (World.block_lt_of_cell? w _ hx122_2)).trans hx122_2
                    have HR122_2 := Aside0.mk hi122_2
                    have HC122_2 := Aside0.mk hl122_2
                    clear hi122_2 hl122_2
                    replace p122 := eq_true p122
                    replace q122 := eq_true q122
                    go_wp2_with (first | ((with_reducible refine gate_callee (f := 107) rfl ?_); refine goesL_ (some 29) rfl rfl Try.func107 (by kernel_rfl) rfl #[.agg #[.int .i64 ((rd_T141 l0_1 x3_2).f0), .int .i64 ((rd_T141 l0_1 x3_2).f1), .slice A122_2 ((rd_T141 l0_1 x3_2).f2).length c122_2]] rfl (by (try simp only [List.map_toArray, List.map_cons, List.map_nil]); first | done | rfl | (simp only [List.length_drop, List.length_take]; rfl)) ?_; (with_reducible refine (spec_TaskOk.calls k2 ((rd_T141 l0_1 x3_2).f0) ((rd_T141 l0_1 x3_2).f1) _ _ ((rd_T141 l0_1 x3_2).f2) false _ ?side1 ?side2 A11.out).mono ?_); (case side1 => repeat (first | exact (Kd.C_below HR122_2.out HB.out) | (with_reducible refine Kd.C_alloc ?_ _) | (with_reducible refine Kd.C_drewN ?_ _) | (with_reducible refine Kd.C_drew ?_))); (case side2 => exact HC122_2.out); rintro e w30 ⟨rfl, hb⟩; refine ⟨_, rfl, ?_⟩; have n0_ := Aside0.mk (blk_below (g := gb121) (o := .cells #[.slice A0_0 l0_0.length c0_0, .slice (some ad122) l0_1.length c0_1] 30 (0, 0)) (by (with_reducible repeat (first | refine blk_drewN ?_ _ | refine blk_drew ?_ | refine blk_alloc ?_ _)); exact BK121.out) hb); have n1_ := Aside0.mk (below_step (by repeat (first | (with_reducible first | exact HB.out | apply below_alloc | apply pw_below_drewN | apply below_drew1 | refine below_set ?_ GE121.out) | exact HB.out)) hb); clear BK121; clear HB; have BK121 := n0_; have HB := n1_; clear n0_ n1_; (try clear hb); (try clear hb2); (try clear hk); (try clear hi)))
                    go_ret
                    exact ⟨by first | rfl | (simp [errW_none, errW_some] <;> rfl) | (simp [*, errW_none, errW_some] <;> rfl), by repeat (first | (with_reducible first | exact HB.out | apply below_alloc | apply pw_below_drewN | apply below_drew1 | refine below_set ?_ GE121.out) | exact HB.out)⟩
                · rw [if_neg c10] at H
                  exact absurd H (by simp)
              · rw [if_neg c9] at H
                exact absurd H (by simp)
            · rw [if_neg c8] at H
              have c8b0 : decide (x3_2 < (l0_0.length : Int)) = false := decide_eq_false c8
              clear c8
              obtain rfl := Option.some.inj H
              have hcz31_0 : wr.cell? ⟨gb121, 0, none⟩ = some (.slice A0_0 l0_0.length c0_0) := (blk_cell BK121.out 0).trans rfl
              have hcz31_1 : wr.cell? ⟨gb121, 1, none⟩ = some (.slice A0_1 l0_1.length c0_1) := (blk_cell BK121.out 1).trans rfl
              have hfz31_0 := blk_frozen BK121.out 0
              have hfz31_1 := blk_frozen BK121.out 1
              go_wp2
              go_ret
              exact ⟨by first | rfl | (simp [errW_none, errW_some] <;> rfl) | (simp [*, errW_none, errW_some] <;> rfl), by repeat (first | (with_reducible first | exact HB.out | apply below_alloc | apply pw_below_drewN | apply below_drew1 | refine below_set ?_ GE121.out) | exact HB.out)⟩
end Go.Proofs.Ythfemojaabejiaa.G
end
section
namespace Go.Proofs.Ythfemojaabejiaa.G
open Go.RowKit Go.Proofs.YthfemojaabejiaaW.PrintWords Go.Proofs.YthfemojaabejiaaW.PrintLast Go.Proofs.YthfemojaabejiaaW.PrintMore
set_option linter.unusedVariables false
set_option linter.unusedSimpArgs false
set_option maxHeartbeats 8000000 in
set_option maxRecDepth 100000 in
theorem l2may_w : ∀ (t : Tk) (A : Option Addr) (c : Nat) (g : Nat) (bs : List Bool) (w0 w : World) (_ : fitT t = true) (_ : bs.length = 10) (_ : Kd.C k141 w0 A t.f2.length t.f2) (_ : t.f2.length ≤ c) (_ : w0.heap.size ≤ g) (_ : Below w0.heap.size w0 w) (_ : w.heap[g]? = some (.cells (arr10 bs) 4 (0, 0))),
    Calls Try.prog 146 #[.agg #[.int .i64 t.f0, .int .i64 t.f1, .slice A t.f2.length c], .slice (some ⟨g, 0, none⟩) 10 10] w fun e w' => e = .returned (.tuple #[]) ∧ w'.heap[g]? = some (.cells (arr10 (mayT t bs)) 4 (0, 0)) ∧ Below w0.heap.size w0 w' ∧ ∀ (j : Nat) (o : Obj), j ≠ g → w.heap[j]? = some o → w'.heap[j]? = some o := by
  refine tk_ind fun t ih A c g bs w0 w hf hb hr hc hg hB hbs => ?_
  have hu1 := Try.underlying141
  have hu2 := Try.underlying22
  have hu3 := Try.underlying28
  rw [fitT_eq, Bool.and_eq_true] at hf
  rw [mayT_eq]
  obtain ⟨k, n, ps⟩ := t
  simp only at ih hf hr hc ⊢
  have HI := Aside0.mk ih
  have HF := Aside0.mk hf
  have HLB := Aside0.mk hb
  have HR := Aside0.mk hr
  have HC := Aside0.mk hc
  have HG := Aside0.mk hg
  have HB := Aside0.mk (hB.alloc hB.size (.cells #[.int .i64 k, .int .i64 n, .slice A ps.length c] 141))
  have HS := Aside0.mk (blk_alloc hbs (.cells #[.int .i64 k, .int .i64 n, .slice A ps.length c] 141))
  have HX := Aside0.mk (heap_alloc_new w (.cells #[.int .i64 k, .int .i64 n, .slice A ps.length c] 141))
  have HWG := Aside0.mk (show w.heap.size ≠ g from fun e => by have := blk_lt hbs; omega)
  have hml := mark1_len (k := k) (n := n) hb
  obtain ⟨bs1, hbs1⟩ : ∃ x, x = mark1 k n bs := ⟨_, rfl⟩
  rw [← hbs1] at hml ⊢
  have HM1 := Aside0.mk hbs1
  have HML := Aside0.mk hml
  have HK : Aside0 (∀ (j : Nat) (o : Obj), j ≠ g → w.heap[j]? = some o → (w.alloc (.cells #[.int .i64 k, .int .i64 n, .slice A ps.length c] 141)).heap[j]? = some o) := ⟨fun j o _ h => blk_alloc h _⟩
  clear ih hf hb hr hc hg hB hbs hml hbs1
  by_cases h1 : k = 1
  · subst h1
    have hn : 0 ≤ n ∧ n < 10 := by
      have h2 := HF.out.1
      simp only [shapeB] at h2
      simp at h2
      exact h2.1
    have HN := Aside0.mk hn
    have hp : (0 ≤ n) = True := eq_true hn.1
    have hq : (n < 10) = True := eq_true hn.2
    have hnl : n.toNat < bs.length := by have := HLB.out; omega
    have hx : (w.alloc (.cells #[.int .i64 1, .int .i64 n, .slice A ps.length c] 141)).cell? ⟨g, n.toNat, none⟩ = some (.bool (bs[n.toNat]'hnl)) := (blk_cell HS.out n.toNat).trans (arr10_at _)
    have hfz : (w.alloc (.cells #[.int .i64 1, .int .i64 n, .slice A ps.length c] 141)).frozen? ⟨g, n.toNat, none⟩ = false := blk_frozen HS.out n.toNat
    have h3 := blk_set HS.out n.toNat (.bool true)
    rw [arr10_set] at h3
    have hm : mark1 1 n bs = bs.set n.toNat true := by unfold mark1; rw [if_pos rfl]
    rw [← hm, ← HM1.out] at h3
    have HS1 := Aside0.mk h3
    have HB1 : Aside0 _ := ⟨HB.out.setCell (p := ⟨g, n.toNat, none⟩) HG.out (.bool true)⟩
    have HX1 := Aside0.mk (blk_far (p := ⟨g, n.toNat, none⟩) HX.out HWG.out (.bool true))
    have HK1 : Aside0 (∀ (j : Nat) (o : Obj), j ≠ g → w.heap[j]? = some o → ((w.alloc (.cells #[.int .i64 1, .int .i64 n, .slice A ps.length c] 141)).setCell ⟨g, n.toNat, none⟩ (.bool true)).heap[j]? = some o) := ⟨fun j o hj h => (Below.heap_setCell _ _ _ _ hj).trans (HK.out j o hj h)⟩
    clear h3 hm
    go_enter Try.func146, Try.ntmps146
    go_wp2
    go_loopg [4] 0 (fun kq v4 w' => v4 = .int .i64 0 ∧ Aside0 (kq = 0) ∧ Aside0 (w'.heap[g]? = some (.cells (arr10 bs1) 4 (0, 0))) ∧ Aside0 (Below w0.heap.size w0 w') ∧ Aside0 (w'.heap[w.heap.size]? = some (.cells #[.int .i64 1, .int .i64 n, .slice A ps.length c] 141 (0, 0))) ∧ Aside0 (∀ (j : Nat) (o : Obj), j ≠ g → w.heap[j]? = some o → w'.heap[j]? = some o))
    case atStart => exact ⟨rfl, ⟨rfl⟩, HS1, HB1, HX1, HK1⟩
    case round =>
      obtain ⟨rfl, HQ, HS1, HB1, HX1, HK1⟩ := hrel
      have hx0 : wr.cell? ⟨w.heap.size, 0, none⟩ = some (.int .i64 1) := (blk_cell HX1.out 0).trans rfl
      have hk5 : ((1 : Int) == 5) = false := rfl
      have hk5' : decide ((1 : Int) = 5) = false := by decide
      go_wp2
      go_loopg [5] ps.length (fun kq v5 w' => ∃ i : Nat, v5 = .int .i64 (i : Int) ∧ Aside0 (i + kq = ps.length) ∧ Aside0 (w'.heap[g]? = some (.cells (arr10 (mayL (ps.take i) bs1)) 4 (0, 0))) ∧ Aside0 (Below w0.heap.size w0 w') ∧ Aside0 (w'.heap[w.heap.size]? = some (.cells #[.int .i64 1, .int .i64 n, .slice A ps.length c] 141 (0, 0))) ∧ Aside0 (∀ (j : Nat) (o : Obj), j ≠ g → w.heap[j]? = some o → w'.heap[j]? = some o))
      case atStart => exact ⟨0, rfl, ⟨by omega⟩, ⟨by simpa [mayL] using HS1.out⟩, HB1, HX1, HK1⟩
      case round =>
        obtain ⟨i, rfl, HIK, HSr, HBr, HXr, HKr⟩ := hrel
        have hx2 : wr.cell? ⟨w.heap.size, 2, none⟩ = some (.slice A ps.length c) := (blk_cell HXr.out 2).trans rfl
        cases gk with
        | zero =>
          have hi : i = ps.length := by have := HIK.out; omega
          subst hi
          have hb : decide ((ps.length : Int) < (ps.length : Int)) = false := decide_eq_false (by omega)
          go_wp2
          go_end0
          refine ⟨rfl, ?_, HBr.out, HKr.out⟩
          have h3 := HSr.out
          rw [List.take_length] at h3
          exact h3
        | succ gk =>
          have hlt : i < ps.length := by have := HIK.out; omega
          have HLT := Aside0.mk hlt
          have hb : decide ((i : Int) < (ps.length : Int)) = true := decide_eq_true (by omega)
          obtain ⟨ad, A2, c2, e, hy0, hy1, hy2, hl2, hC2⟩ := at_T141 HR.out (i : Int) (by omega) (by omega)
          cases e
          have hlen := HR.out.2.1
          have hmax : (i : Int) + 1 ≤ 9223372036854775807 := by omega
          rw [rd_tk ps i hlt] at hy0 hy1 hy2 hl2 hC2
          have HIT := Aside0.mk (mayL_take ps bs1 i hlt)
          have HFP := Aside0.mk (fitL_mem HF.out.2 _ (List.getElem_mem hlt))
          have HIHP := Aside0.mk (HI.out _ (List.getElem_mem hlt))
          generalize ps[i] = p at hy0 hy1 hy2 hl2 hC2 HIT HFP HIHP
          have hc0 : wr.cell? (ad.add (i * 3)) = some (.int .i64 p.f0) := by
            have h1 := (HBr.out.cell (World.block_lt_of_cell? w0 _ hy0)).trans hy0
            simpa only [Int.toNat_natCast] using h1
          have hc1 : wr.cell? ⟨(ad.add (i * 3)).block, (ad.add (i * 3)).off + 1, none⟩ = some (.int .i64 p.f1) := by
            have h1 := (HBr.out.cell (World.block_lt_of_cell? w0 _ hy1)).trans hy1
            simpa only [Int.toNat_natCast] using h1
          have hc2 : wr.cell? ⟨(ad.add (i * 3)).block, (ad.add (i * 3)).off + 2, none⟩ = some (.slice A2 p.f2.length c2) := by
            have h1 := (HBr.out.cell (World.block_lt_of_cell? w0 _ hy2)).trans hy2
            simpa only [Int.toNat_natCast] using h1
          clear hy0 hy1 hy2
          have p0 : (0 ≤ (i : Int)) = True := eq_true (by omega)
          have q0 : ((i : Int) < (ps.length : Int)) = True := eq_true (by omega)
          have hml2 : (mayL (ps.take i) bs1).length = 10 := by
            rw [mayL_foldl]
            have key : ∀ (qs : List Tk) (b : List Bool), b.length = 10 → (qs.foldl (fun b p => mayT p b) b).length = 10 := by
              intro qs
              induction qs with
              | nil => intro b h; exact h
              | cons q qs ihq => intro b h; exact ihq _ (mayT_len q b h)
            exact key _ _ HML.out
          have CK := Aside0.mk (HIHP.out A2 c2 g (mayL (ps.take i) bs1) w0 wr HFP.out hml2 hC2 hl2 HG.out HBr.out HSr.out)
          clear hl2 hC2 hml2
          go_wp2_with fail
          with_reducible refine CK.out.mono ?_
          rintro e w2 ⟨rfl, h3, h4, h5⟩
          have HS2 := Aside0.mk h3
          have HB2 := Aside0.mk h4
          have HX2 := Aside0.mk (h5 _ _ HWG.out HXr.out)
          have HK2 : Aside0 (∀ (j : Nat) (o : Obj), j ≠ g → w.heap[j]? = some o → w2.heap[j]? = some o) := ⟨fun j o hj h => h5 j o hj (HKr.out j o hj h)⟩
          clear h3 h4 h5 CK hc0 hc1 hc2 hx2
          go_wp2
          go_roundg gk
          case measure => omega
          case rel => exact ⟨i + 1, by go_num, ⟨by have := HIK.out; omega⟩, ⟨by rw [HIT.out]; exact HS2.out⟩, HB2, HX2, HK2⟩
  by_cases h5 : k = 5
  · subst h5
    go_enter Try.func146, Try.ntmps146
    go_wp2
    go_loopg [4] 10 (fun kq v4 w' => ∃ i : Nat, v4 = .int .i64 (i : Int) ∧ Aside0 (i + kq = 10) ∧ Aside0 (w'.heap[g]? = some (.cells (arr10 (List.replicate i true ++ bs.drop i)) 4 (0, 0))) ∧ Aside0 (Below w0.heap.size w0 w') ∧ Aside0 (w'.heap[w.heap.size]? = some (.cells #[.int .i64 5, .int .i64 n, .slice A ps.length c] 141 (0, 0))) ∧ Aside0 (∀ (j : Nat) (o : Obj), j ≠ g → w.heap[j]? = some o → w'.heap[j]? = some o))
    case atStart => exact ⟨0, rfl, ⟨by omega⟩, ⟨by simpa using HS.out⟩, HB, HX, HK⟩
    case round =>
      obtain ⟨i, rfl, HIK, HSr, HBr, HX1, HK1⟩ := hrel
      have hx0 : wr.cell? ⟨w.heap.size, 0, none⟩ = some (.int .i64 5) := (blk_cell HX1.out 0).trans rfl
      cases gk with
      | zero =>
        have hi : i = 10 := by have := HIK.out; omega
        subst hi
        have h3 := HSr.out
        have hd : bs.drop 10 = [] := List.drop_of_length_le (by rw [HLB.out]; exact Nat.le_refl _)
        have hm : mark1 5 n bs = List.replicate 10 true := by unfold mark1; rw [if_neg (by decide), if_pos rfl]
        rw [hd, List.append_nil, ← hm, ← HM1.out] at h3
        have HS1 := Aside0.mk h3
        have HB1 := HBr
        clear h3 hd hm
        go_wp2
        go_loopg [5] ps.length (fun kq v5 w' => ∃ i : Nat, v5 = .int .i64 (i : Int) ∧ Aside0 (i + kq = ps.length) ∧ Aside0 (w'.heap[g]? = some (.cells (arr10 (mayL (ps.take i) bs1)) 4 (0, 0))) ∧ Aside0 (Below w0.heap.size w0 w') ∧ Aside0 (w'.heap[w.heap.size]? = some (.cells #[.int .i64 5, .int .i64 n, .slice A ps.length c] 141 (0, 0))) ∧ Aside0 (∀ (j : Nat) (o : Obj), j ≠ g → w.heap[j]? = some o → w'.heap[j]? = some o))
        case atStart => exact ⟨0, rfl, ⟨by omega⟩, ⟨by simpa [mayL] using HS1.out⟩, HB1, HX1, HK1⟩
        case round =>
          obtain ⟨i, rfl, HIK, HSr, HBr, HXr, HKr⟩ := hrel
          have hx2 : wr.cell? ⟨w.heap.size, 2, none⟩ = some (.slice A ps.length c) := (blk_cell HXr.out 2).trans rfl
          cases gk with
          | zero =>
            have hi : i = ps.length := by have := HIK.out; omega
            subst hi
            have hb : decide ((ps.length : Int) < (ps.length : Int)) = false := decide_eq_false (by omega)
            go_wp2
            go_end0
            refine ⟨rfl, ?_, HBr.out, HKr.out⟩
            have h3 := HSr.out
            rw [List.take_length] at h3
            exact h3
          | succ gk =>
            have hlt : i < ps.length := by have := HIK.out; omega
            have HLT := Aside0.mk hlt
            have hb : decide ((i : Int) < (ps.length : Int)) = true := decide_eq_true (by omega)
            obtain ⟨ad, A2, c2, e, hy0, hy1, hy2, hl2, hC2⟩ := at_T141 HR.out (i : Int) (by omega) (by omega)
            cases e
            have hlen := HR.out.2.1
            have hmax : (i : Int) + 1 ≤ 9223372036854775807 := by omega
            rw [rd_tk ps i hlt] at hy0 hy1 hy2 hl2 hC2
            have HIT := Aside0.mk (mayL_take ps bs1 i hlt)
            have HFP := Aside0.mk (fitL_mem HF.out.2 _ (List.getElem_mem hlt))
            have HIHP := Aside0.mk (HI.out _ (List.getElem_mem hlt))
            generalize ps[i] = p at hy0 hy1 hy2 hl2 hC2 HIT HFP HIHP
            have hc0 : wr.cell? (ad.add (i * 3)) = some (.int .i64 p.f0) := by
              have h1 := (HBr.out.cell (World.block_lt_of_cell? w0 _ hy0)).trans hy0
              simpa only [Int.toNat_natCast] using h1
            have hc1 : wr.cell? ⟨(ad.add (i * 3)).block, (ad.add (i * 3)).off + 1, none⟩ = some (.int .i64 p.f1) := by
              have h1 := (HBr.out.cell (World.block_lt_of_cell? w0 _ hy1)).trans hy1
              simpa only [Int.toNat_natCast] using h1
            have hc2 : wr.cell? ⟨(ad.add (i * 3)).block, (ad.add (i * 3)).off + 2, none⟩ = some (.slice A2 p.f2.length c2) := by
              have h1 := (HBr.out.cell (World.block_lt_of_cell? w0 _ hy2)).trans hy2
              simpa only [Int.toNat_natCast] using h1
            clear hy0 hy1 hy2
            have p0 : (0 ≤ (i : Int)) = True := eq_true (by omega)
            have q0 : ((i : Int) < (ps.length : Int)) = True := eq_true (by omega)
            have hml2 : (mayL (ps.take i) bs1).length = 10 := by
              rw [mayL_foldl]
              have key : ∀ (qs : List Tk) (b : List Bool), b.length = 10 → (qs.foldl (fun b p => mayT p b) b).length = 10 := by
                intro qs
                induction qs with
                | nil => intro b h; exact h
                | cons q qs ihq => intro b h; exact ihq _ (mayT_len q b h)
              exact key _ _ HML.out
            have CK := Aside0.mk (HIHP.out A2 c2 g (mayL (ps.take i) bs1) w0 wr HFP.out hml2 hC2 hl2 HG.out HBr.out HSr.out)
            clear hl2 hC2 hml2
            go_wp2_with fail
            with_reducible refine CK.out.mono ?_
            rintro e w2 ⟨rfl, h3, h4, h5⟩
            have HS2 := Aside0.mk h3
            have HB2 := Aside0.mk h4
            have HX2 := Aside0.mk (h5 _ _ HWG.out HXr.out)
            have HK2 : Aside0 (∀ (j : Nat) (o : Obj), j ≠ g → w.heap[j]? = some o → w2.heap[j]? = some o) := ⟨fun j o hj h => h5 j o hj (HKr.out j o hj h)⟩
            clear h3 h4 h5 CK hc0 hc1 hc2 hx2
            go_wp2
            go_roundg gk
            case measure => omega
            case rel => exact ⟨i + 1, by go_num, ⟨by have := HIK.out; omega⟩, ⟨by rw [HIT.out]; exact HS2.out⟩, HB2, HX2, HK2⟩
      | succ gk =>
        have hlt : i < 10 := by have := HIK.out; omega
        have HLT := Aside0.mk hlt
        have hb' : decide ((i : Int) < 10) = true := decide_eq_true (by omega)
        have hll : (List.replicate i true ++ bs.drop i).length = 10 := by rw [List.length_append, List.length_replicate, List.length_drop, HLB.out]; omega
        have hx : wr.cell? ⟨g, i, none⟩ = some (.bool ((List.replicate i true ++ bs.drop i)[i]'(by rw [hll]; exact hlt))) := (blk_cell HSr.out i).trans (arr10_at _)
        have hfz : wr.frozen? ⟨g, i, none⟩ = false := blk_frozen HSr.out i
        have hp : (0 ≤ (i : Int)) = True := eq_true (by omega)
        have hq : ((i : Int) < 10) = True := eq_true (by omega)
        go_wp2
        go_roundg gk
        case measure => omega
        case rel =>
          refine ⟨i + 1, by go_num, ⟨by have := HIK.out; omega⟩, ⟨?_⟩, ⟨HBr.out.setCell HG.out _⟩, ⟨blk_far HX1.out HWG.out _⟩, ⟨fun j o hj h => (Below.heap_setCell _ _ _ _ hj).trans (HK1.out j o hj h)⟩⟩
          have h3 := blk_set HSr.out i (.bool true)
          rw [arr10_set, fill_step bs HLB.out i HLT.out] at h3
          exact h3
  · have hk1 : decide (k = 1) = false := decide_eq_false h1
    have hk1' : (k == 1) = false := by simp [h1]
    have HS1 : Aside0 ((w.alloc (.cells #[.int .i64 k, .int .i64 n, .slice A ps.length c] 141)).heap[g]? = some (.cells (arr10 bs1) 4 (0, 0))) := ⟨by rw [HM1.out]; unfold mark1; rw [if_neg h1, if_neg h5]; exact HS.out⟩
    have HB1 := HB
    have HX1 := HX
    have HK1 := HK
    have H5 := Aside0.mk h5
    clear h1 h5
    go_enter Try.func146, Try.ntmps146
    go_wp2
    go_loopg [4] 0 (fun kq v4 w' => v4 = .int .i64 0 ∧ Aside0 (kq = 0) ∧ Aside0 (w'.heap[g]? = some (.cells (arr10 bs1) 4 (0, 0))) ∧ Aside0 (Below w0.heap.size w0 w') ∧ Aside0 (w'.heap[w.heap.size]? = some (.cells #[.int .i64 k, .int .i64 n, .slice A ps.length c] 141 (0, 0))) ∧ Aside0 (∀ (j : Nat) (o : Obj), j ≠ g → w.heap[j]? = some o → w'.heap[j]? = some o))
    case atStart => exact ⟨rfl, ⟨rfl⟩, HS1, HB1, HX1, HK1⟩
    case round =>
      obtain ⟨rfl, HQ, HS1, HB1, HX1, HK1⟩ := hrel
      have hx0 : wr.cell? ⟨w.heap.size, 0, none⟩ = some (.int .i64 k) := (blk_cell HX1.out 0).trans rfl
      have hk5 : ((k : Int) == 5) = false := by simp [H5.out]
      have hk5' : decide ((k : Int) = 5) = false := decide_eq_false H5.out
      go_wp2
      go_loopg [5] ps.length (fun kq v5 w' => ∃ i : Nat, v5 = .int .i64 (i : Int) ∧ Aside0 (i + kq = ps.length) ∧ Aside0 (w'.heap[g]? = some (.cells (arr10 (mayL (ps.take i) bs1)) 4 (0, 0))) ∧ Aside0 (Below w0.heap.size w0 w') ∧ Aside0 (w'.heap[w.heap.size]? = some (.cells #[.int .i64 k, .int .i64 n, .slice A ps.length c] 141 (0, 0))) ∧ Aside0 (∀ (j : Nat) (o : Obj), j ≠ g → w.heap[j]? = some o → w'.heap[j]? = some o))
      case atStart => exact ⟨0, rfl, ⟨by omega⟩, ⟨by simpa [mayL] using HS1.out⟩, HB1, HX1, HK1⟩
      case round =>
        obtain ⟨i, rfl, HIK, HSr, HBr, HXr, HKr⟩ := hrel
        have hx2 : wr.cell? ⟨w.heap.size, 2, none⟩ = some (.slice A ps.length c) := (blk_cell HXr.out 2).trans rfl
        cases gk with
        | zero =>
          have hi : i = ps.length := by have := HIK.out; omega
          subst hi
          have hb : decide ((ps.length : Int) < (ps.length : Int)) = false := decide_eq_false (by omega)
          go_wp2
          go_end0
          refine ⟨rfl, ?_, HBr.out, HKr.out⟩
          have h3 := HSr.out
          rw [List.take_length] at h3
          exact h3
        | succ gk =>
          have hlt : i < ps.length := by have := HIK.out; omega
          have HLT := Aside0.mk hlt
          have hb : decide ((i : Int) < (ps.length : Int)) = true := decide_eq_true (by omega)
          obtain ⟨ad, A2, c2, e, hy0, hy1, hy2, hl2, hC2⟩ := at_T141 HR.out (i : Int) (by omega) (by omega)
          cases e
          have hlen := HR.out.2.1
          have hmax : (i : Int) + 1 ≤ 9223372036854775807 := by omega
          rw [rd_tk ps i hlt] at hy0 hy1 hy2 hl2 hC2
          have HIT := Aside0.mk (mayL_take ps bs1 i hlt)
          have HFP := Aside0.mk (fitL_mem HF.out.2 _ (List.getElem_mem hlt))
          have HIHP := Aside0.mk (HI.out _ (List.getElem_mem hlt))
          generalize ps[i] = p at hy0 hy1 hy2 hl2 hC2 HIT HFP HIHP
          have hc0 : wr.cell? (ad.add (i * 3)) = some (.int .i64 p.f0) := by
            have h1 := (HBr.out.cell (World.block_lt_of_cell? w0 _ hy0)).trans hy0
            simpa only [Int.toNat_natCast] using h1
          have hc1 : wr.cell? ⟨(ad.add (i * 3)).block, (ad.add (i * 3)).off + 1, none⟩ = some (.int .i64 p.f1) := by
            have h1 := (HBr.out.cell (World.block_lt_of_cell? w0 _ hy1)).trans hy1
            simpa only [Int.toNat_natCast] using h1
          have hc2 : wr.cell? ⟨(ad.add (i * 3)).block, (ad.add (i * 3)).off + 2, none⟩ = some (.slice A2 p.f2.length c2) := by
            have h1 := (HBr.out.cell (World.block_lt_of_cell? w0 _ hy2)).trans hy2
            simpa only [Int.toNat_natCast] using h1
          clear hy0 hy1 hy2
          have p0 : (0 ≤ (i : Int)) = True := eq_true (by omega)
          have q0 : ((i : Int) < (ps.length : Int)) = True := eq_true (by omega)
          have hml2 : (mayL (ps.take i) bs1).length = 10 := by
            rw [mayL_foldl]
            have key : ∀ (qs : List Tk) (b : List Bool), b.length = 10 → (qs.foldl (fun b p => mayT p b) b).length = 10 := by
              intro qs
              induction qs with
              | nil => intro b h; exact h
              | cons q qs ihq => intro b h; exact ihq _ (mayT_len q b h)
            exact key _ _ HML.out
          have CK := Aside0.mk (HIHP.out A2 c2 g (mayL (ps.take i) bs1) w0 wr HFP.out hml2 hC2 hl2 HG.out HBr.out HSr.out)
          clear hl2 hC2 hml2
          go_wp2_with fail
          with_reducible refine CK.out.mono ?_
          rintro e w2 ⟨rfl, h3, h4, h5⟩
          have HS2 := Aside0.mk h3
          have HB2 := Aside0.mk h4
          have HX2 := Aside0.mk (h5 _ _ HWG.out HXr.out)
          have HK2 : Aside0 (∀ (j : Nat) (o : Obj), j ≠ g → w.heap[j]? = some o → w2.heap[j]? = some o) := ⟨fun j o hj h => h5 j o hj (HKr.out j o hj h)⟩
          clear h3 h4 h5 CK hc0 hc1 hc2 hx2
          go_wp2
          go_roundg gk
          case measure => omega
          case rel => exact ⟨i + 1, by go_num, ⟨by have := HIK.out; omega⟩, ⟨by rw [HIT.out]; exact HS2.out⟩, HB2, HX2, HK2⟩
end Go.Proofs.Ythfemojaabejiaa.G
end
section
namespace Go.Proofs.Ythfemojaabejiaa.G
open Go.RowKit Go.Proofs.YthfemojaabejiaaW.PrintWords
set_option linter.unusedVariables false
set_option linter.unusedSimpArgs false
theorem idxTo_mem (bs : List Bool) (n : Nat) (j : Int) : j ∈ idxTo bs n ↔ ∃ i : Nat, i < n ∧ j = (i : Int) ∧ bs.getD i false = true := by
  induction n with
  | zero => simp [idxTo]
  | succ n ih =>
    rw [idxTo]
    split
    · rename_i h
      rw [List.mem_append, ih, List.mem_singleton]
      constructor
      · rintro (⟨i, a, b, c⟩ | rfl)
        · exact ⟨i, by omega, b, c⟩
        · exact ⟨n, by omega, rfl, h⟩
      · rintro ⟨i, a, b, c⟩
        by_cases e : i = n
        · exact .inr (by rw [b, e])
        · exact .inl ⟨i, by omega, b, c⟩
    · rename_i h
      rw [ih]
      constructor
      · rintro ⟨i, a, b, c⟩; exact ⟨i, by omega, b, c⟩
      · rintro ⟨i, a, b, c⟩
        by_cases e : i = n
        · rw [e] at c; exact absurd c h
        · exact ⟨i, by omega, b, c⟩
def mayK (t : Tk) : List Int := if okT t = true then idxTo (mayT t (List.replicate 10 false)) 10 else []
theorem mayK_len (t : Tk) : (mayK t).length ≤ 10 := by
  unfold mayK
  split
  · exact idxTo_len _ _
  · simp
theorem mayK_rng (t : Tk) (j : Int) (h : j ∈ mayK t) : 0 ≤ j ∧ j ≤ 9 := by
  unfold mayK at h
  split at h
  · obtain ⟨i, a, b, _⟩ := (idxTo_mem _ _ _).1 h
    omega
  · cases h
end Go.Proofs.Ythfemojaabejiaa.G
end
section
namespace Go.Proofs.Ythfemojaabejiaa.G
open Go.RowKit Go.Proofs.YthfemojaabejiaaW.PrintWords Go.Proofs.YthfemojaabejiaaW.PrintLast Go.Proofs.YthfemojaabejiaaW.PrintMore
set_option linter.unusedVariables false
set_option linter.unusedSimpArgs false
def spec_TaskMay.f (k : Nat) (a0_0 : Int) (a0_1 : Int) (l0_2 : List Tk) : Option (List Int) := (spec_TaskOk.f k a0_0 a0_1 l0_2).bind fun b => if b = true then (if fitT ⟨a0_0, a0_1, l0_2⟩ = true then some (idxTo (mayT ⟨a0_0, a0_1, l0_2⟩ (List.replicate 10 false)) 10) else none) else some []
theorem infoBool : (Try.prog.info? 4).map (fun i => (i.zero, i.size, i.bytes)) = some (some (.bool false), 1, 1) := by kernel_rfl
theorem make10 (w : World) : (Instr.makeSlice 22 (.int .i64 10) (.int .i64 10)).run Try.prog w = .ok (.slice (some ⟨w.heap.size, 0, none⟩) 10 10) (w.alloc (.cells #[.bool false, .bool false, .bool false, .bool false, .bool false, .bool false, .bool false, .bool false, .bool false, .bool false] 4)) := by
  have h := infoBool
  cases hi : Try.prog.info? 4 with
  | none => rw [hi] at h; cases h
  | some i =>
    rw [hi] at h
    simp only [Option.map_some, Option.some.injEq, Prod.mk.injEq] at h
    obtain ⟨hz, hs, hb⟩ := h
    have h1 := run_make w 22 4 i (.bool false) Try.underlying22 hi hz .i64 .i64 10 10 (by omega) (by omega) (by rw [hb]; decide) (by omega)
    rw [hs] at h1
    rw [show madeCells (Value.bool false).cells (Int.toNat 10 * 1) = #[.bool false, .bool false, .bool false, .bool false, .bool false, .bool false, .bool false, .bool false, .bool false, .bool false] from by kernel_rfl] at h1
    exact h1
set_option maxHeartbeats 8000000 in
set_option maxRecDepth 100000 in
theorem spec_TaskMay.calls (k : Nat) (a0_0 : Int) (a0_1 : Int) (A0_2 : Option Addr) (c0_2 : Nat) (l0_2 : List S141) (r : List Int) (w : World) (hr0_2 : Kd.C k141 w A0_2 l0_2.length l0_2) (hc0_2 : l0_2.length ≤ c0_2) (h : spec_TaskMay.f k a0_0 a0_1 l0_2 = some r) :
    Calls Try.prog 108 #[.agg #[.int .i64 a0_0, .int .i64 a0_1, .slice A0_2 l0_2.length c0_2]] w fun e w' => ∃ v0_ : Value, e = .returned v0_ ∧ Kd.R (Kd.int .i64) 3 w' w.heap.size (fun _ => True) v0_ r ∧ Below w.heap.size w w' := by
  have hu1 := Try.underlying141
  have hu2 := Try.underlying22
  have hu3 := Try.underlying34
  have hmk := make10
  unfold spec_TaskMay.f at h
  obtain ⟨b, hb, h⟩ := Option.bind_eq_some_iff.mp h
  have hbx := heap_alloc_new w (.cells #[.int .i64 a0_0, .int .i64 a0_1, .slice A0_2 l0_2.length c0_2] 141)
  have BX := Aside0.mk hbx
  have HR := Aside0.mk hr0_2
  have HC := Aside0.mk hc0_2
  have HOK := Aside0.mk hb
  have HA := Aside0.mk ((Below.refl w.heap.size w).alloc (Nat.le_refl _) (.cells #[.int .i64 a0_0, .int .i64 a0_1, .slice A0_2 l0_2.length c0_2] 141))
  clear hbx hr0_2 hc0_2 hb
  have H := Aside0.mk h
  clear h
  go_enter Try.func108, Try.ntmps108
  go_wp2_with (first | ((with_reducible refine gate_dst (N := 6) rfl ?_); refine Kd.R_lit (Kd.int .i64) (w0 := w) w.heap.size 3 ?hg (N := 6) ?hd (xs := ([] : List Int)) (inner := []) (ok := fun _ => True) (okp := fun _ => True) ?hr ?hp (fun _ hk => hk) trivial HA.out HA.out.size (by simp) ?_; (case hd => rfl); (case hg => rfl); (case hr => first | (go_simp; done) | (go_simp; rfl)); (case hp => exact (Reps.none _ _)); intro v1 w1 ho hb hg hnew; have HO := Aside0.mk ho; have HB := Aside0.mk hb; have BX1 := Aside0.mk ((hg.block _ (blk_lt BX.out) (by simp)).trans BX.out); clear ho hb hg hnew BX HA; have hx0 : w1.cell? ⟨w.heap.size, 0, none⟩ = some (.int .i64 a0_0) := (blk_cell BX1.out 0).trans rfl; have hx1 : w1.cell? ⟨w.heap.size, 1, none⟩ = some (.int .i64 a0_1) := (blk_cell BX1.out 1).trans rfl; have hx2 : w1.cell? ⟨w.heap.size, 2, none⟩ = some (.slice A0_2 l0_2.length c0_2) := (blk_cell BX1.out 2).trans rfl))
  have CK := Aside0.mk (spec_TaskOk.calls k a0_0 a0_1 A0_2 c0_2 l0_2 b w1 (Kd.C_below HR.out HB.out) HC.out HOK.out)
  clear HOK
  with_reducible refine CK.out.mono ?_
  rintro e w2 ⟨rfl, hb1⟩
  have HB2 := Aside0.mk (HB.out.trans (hb1.mono HB.out.size))
  have BX2 := Aside0.mk ((hb1.block _ (blk_lt BX1.out)).trans BX1.out)
  have HO2 := Aside0.mk (Kd.R_below HO.out hb1)
  clear CK hb1 hx0 hx1 hx2 BX1 HO HB
  have hx0 : w2.cell? ⟨w.heap.size, 0, none⟩ = some (.int .i64 a0_0) := (blk_cell BX2.out 0).trans rfl
  have hx1 : w2.cell? ⟨w.heap.size, 1, none⟩ = some (.int .i64 a0_1) := (blk_cell BX2.out 1).trans rfl
  have hx2 : w2.cell? ⟨w.heap.size, 2, none⟩ = some (.slice A0_2 l0_2.length c0_2) := (blk_cell BX2.out 2).trans rfl
  cases b with
  | false =>
    have h := H.out
    simp only [Bool.false_eq_true, if_false] at h
    obtain rfl := Option.some.inj h
    clear h H
    go_wp2
    go_ret
    exact ⟨_, rfl, HO2.out, HB2.out⟩
  | true =>
    have h := H.out
    simp only [if_true] at h
    clear H
    split at h
    · rename_i hf
      have hr := Option.some.inj h
      have hml := mayT_len ⟨a0_0, a0_1, l0_2⟩ (List.replicate 10 false) (by simp)
      have HF := Aside0.mk hf
      obtain ⟨g, hg⟩ : ∃ g, g = w2.heap.size := ⟨_, rfl⟩
      have HG := Aside0.mk hg
      have hal : (w2.alloc (.cells #[.bool false, .bool false, .bool false, .bool false, .bool false, .bool false, .bool false, .bool false, .bool false, .bool false] 4)).heap[w2.heap.size]? = some (.cells (arr10 (List.replicate 10 false)) 4 (0, 0)) := heap_alloc_new w2 _
      have BXa := Aside0.mk (blk_alloc BX2.out (.cells #[.bool false, .bool false, .bool false, .bool false, .bool false, .bool false, .bool false, .bool false, .bool false, .bool false] 4))
      have HBa := Aside0.mk (HB2.out.alloc HB2.out.size (.cells #[.bool false, .bool false, .bool false, .bool false, .bool false, .bool false, .bool false, .bool false, .bool false, .bool false] 4))
      have CK := Aside0.mk (l2may_w ⟨a0_0, a0_1, l0_2⟩ A0_2 c0_2 w2.heap.size (List.replicate 10 false) w (w2.alloc (.cells #[.bool false, .bool false, .bool false, .bool false, .bool false, .bool false, .bool false, .bool false, .bool false, .bool false] 4)) hf (by simp) HR.out HC.out HB2.out.size HBa.out hal)
      have HOa : Aside0 (Kd.R (Kd.int .i64) 3 (w2.alloc (.cells #[.bool false, .bool false, .bool false, .bool false, .bool false, .bool false, .bool false, .bool false, .bool false, .bool false] 4)) w.heap.size (fun j => j ≠ w2.heap.size) v1 []) := ⟨Kd.R_alloc (Kd.R_mono (Kd.R_bound HO2.out) (fun j hj => by have := hj.2.2.1; omega)) _⟩
      have HWS := Aside0.mk HB2.out.size
      have hxa0 : (w2.alloc (.cells #[.bool false, .bool false, .bool false, .bool false, .bool false, .bool false, .bool false, .bool false, .bool false, .bool false] 4)).cell? ⟨w.heap.size, 0, none⟩ = some (.int .i64 a0_0) := (blk_cell BXa.out 0).trans rfl
      have hxa1 : (w2.alloc (.cells #[.bool false, .bool false, .bool false, .bool false, .bool false, .bool false, .bool false, .bool false, .bool false, .bool false] 4)).cell? ⟨w.heap.size, 1, none⟩ = some (.int .i64 a0_1) := (blk_cell BXa.out 1).trans rfl
      have hxa2 : (w2.alloc (.cells #[.bool false, .bool false, .bool false, .bool false, .bool false, .bool false, .bool false, .bool false, .bool false, .bool false] 4)).cell? ⟨w.heap.size, 2, none⟩ = some (.slice A0_2 l0_2.length c0_2) := (blk_cell BXa.out 2).trans rfl
      generalize mayT ⟨a0_0, a0_1, l0_2⟩ (List.replicate 10 false) = bs at hr hml CK
      subst hr
      have HML := Aside0.mk hml
      clear h hf hml hal hx0 hx1 hx2 HO2 BX2 BXa hg HG
      go_wp2_with fail
      with_reducible refine CK.out.mono ?_
      rintro e w3 ⟨rfl, h3, h4, h5⟩
      have HS := Aside0.mk h3
      have HB3 := Aside0.mk h4
      have HO3 : Aside0 (Kd.R (Kd.int .i64) 3 w3 w.heap.size (fun j => j ≠ w2.heap.size) v1 []) := ⟨Kd.R_mono (Kd.R_move (Kd.R_bound HOa.out) (fun j hj => by
        obtain ⟨q1, q2, q3, q4⟩ := hj
        have hq : ∃ o, (w2.alloc (.cells #[.bool false, .bool false, .bool false, .bool false, .bool false, .bool false, .bool false, .bool false, .bool false, .bool false] 4)).heap[j]? = some o := ⟨_, Array.getElem?_eq_getElem q3⟩
        obtain ⟨o, ho⟩ := hq
        rw [ho]
        exact h5 j o q1 ho)) (fun j hj => hj.1)⟩
      clear CK h3 h4 h5 hxa0 hxa1 hxa2 HBa HOa
      obtain ⟨g, hg⟩ : ∃ g, g = w2.heap.size := ⟨_, rfl⟩
      rw [← hg] at HS HO3
      have HGW : Aside0 (w.heap.size ≤ g) := ⟨by rw [hg]; exact HWS.out⟩
      have HG := Aside0.mk hg
      clear hg HWS
      go_wp2
      go_loopg [3, 5] 10 (fun kq v3 v5 w' => ∃ i : Nat, v5 = .int .i64 (i : Int) ∧ Aside0 (i + kq = 10) ∧ Aside0 (Kd.R (Kd.int .i64) 3 w' w.heap.size (fun j => j ≠ g) v3 (idxTo bs i)) ∧ Aside0 (Below w.heap.size w w') ∧ Aside0 (w'.heap[g]? = some (.cells (arr10 bs) 4 (0, 0))))
      case atStart => exact ⟨0, by simp, ⟨by omega⟩, HO3, HB3, HS⟩
      case round =>
        obtain ⟨i, rfl, HI, HO, HB4, HS4⟩ := hrel
        cases gk with
        | zero =>
          have hi : i = 10 := by have := HI.out; omega
          subst hi
          go_wp2
          go_ret
          exact ⟨_, rfl, Kd.R_mono HO.out (fun _ _ => trivial), HB4.out⟩
        | succ gk =>
          have hlt : i < 10 := by have := HI.out; omega
          have HLT := Aside0.mk hlt
          have HOL := Aside0.mk (idxTo_len bs i)
          have hb' : decide ((i : Int) < 10) = true := decide_eq_true (by omega)
          have hp : (0 ≤ (i : Int)) = True := eq_true (by omega)
          have hq : ((i : Int) < 10) = True := eq_true (by omega)
          have hlb : i < bs.length := by rw [HML.out]; exact hlt
          have hx : wr.cell? ⟨g, i, none⟩ = some (.bool (bs.getD i false)) := (blk_cell HS4.out i).trans (by rw [arr10_at hlb, List.getD_eq_getElem?_getD, List.getElem?_eq_getElem hlb, Option.getD_some])
          have hx' : wr.cell? ⟨w2.heap.size, i, none⟩ = some (.bool (bs.getD i false)) := by rw [← HG.out]; exact hx
          cases hbi : bs.getD i false with
          | true =>
            rw [hbi] at hx hx'
            have HN : Aside0 (idxTo bs (i + 1) = idxTo bs i ++ [(i : Int)]) := ⟨by rw [idxTo, if_pos hbi]⟩
            clear hbi hlb
            generalize idxTo bs i = out at HO HOL HN
            obtain ⟨Ao, co, eo⟩ := Kd.R_slice HO.out
            subst eo
            go_wp2_with (first | (at_builtin; refine Kd.R_append (Kd.int .i64) (w0 := w) w.heap.size rfl (.tmp 25) (.tmp 27) 34 3 (.int .i64 0) 8 rfl Try.underlying34 infoInt rfl (by decide) (by omega) (.slice Ao out.length co) out (i : Int) [.int .i64 (i : Int)] (fun j => j ≠ g) (fun _ => False) rfl rfl ?aP (fun _ hk => hk.elim) ?aF ?aO ?aB ?aS ?aL ?_; (case aP => rfl); (case aB => exact HB4.out); (case aF => exact (fun j hj e => by have := blk_lt HS4.out; omega)); (case aO => exact HO.out); (case aS => exact HB4.out.size); (case aL => have := HOL.out; have := HLT.out; omega); intro v2 w4 ho hb hg hat; have HO2 := Aside0.mk ho; have HB5 := Aside0.mk hb; have HS5 := Aside0.mk ((hg.block g (blk_lt HS4.out) (fun e => HO.out.1 g e.symm rfl)).trans HS4.out); clear ho hb hg hat))
            go_roundg gk
            case measure => omega
            case rel => exact ⟨i + 1, by go_num, ⟨by have := HI.out; omega⟩, ⟨by rw [HN.out]; exact HO2.out⟩, HB5, HS5⟩
          | false =>
            rw [hbi] at hx hx'
            have HN : Aside0 (idxTo bs (i + 1) = idxTo bs i) := ⟨by rw [idxTo, if_neg (by rw [hbi]; decide)]⟩
            clear hbi hlb
            go_wp2
            go_roundg gk
            case measure => omega
            case rel => exact ⟨i + 1, by go_num, ⟨by have := HI.out; omega⟩, ⟨by rw [HN.out]; exact HO.out⟩, HB4, HS4⟩
    · cases h
end Go.Proofs.Ythfemojaabejiaa.G
end
section
namespace Go.Proofs.Ythfemojaabejiaa.G
open Go.RowKit Go.Proofs.YthfemojaabejiaaW.PrintWords
set_option linter.unusedVariables false
set_option linter.unusedSimpArgs false
theorem isKey_ev (a : Int) : impl_isKey.f a = some (decide (0 ≤ a ∧ a < 10)) := by
  unfold impl_isKey.f
  by_cases h : a ≥ 0
  · rw [if_pos h]; simp only [ge_iff_le] at h; simp [h]
  · rw [if_neg h]; simp only [ge_iff_le] at h; simp [h]
theorem isValue_ev (a : Int) : impl_isValue.f a = some (decide (0 ≤ a ∧ a ≤ 96)) := by
  unfold impl_isValue.f
  by_cases h : a ≥ 0
  · rw [if_pos h]; simp only [ge_iff_le] at h; simp [h]
  · rw [if_neg h]; simp only [ge_iff_le] at h; simp [h]
theorem ite_prop (P : Prop) [Decidable P] (c : Bool) : (if P then some c else some false) = some (decide P && c) := by by_cases h : P <;> simp [h]
theorem fits_now (k : Nat) (a b : Int) (l : List Tk) : impl_Task_fits.f (k + 1) a b l = some (shapeB a b l.length) := by
  unfold impl_Task_fits.f
  have e0 : ∀ m : Nat, ((l.length : Int) == (m : Int)) = decide (l.length = m) := fun m => by rw [Bool.eq_iff_iff]; simp only [beq_iff_eq, decide_eq_true_eq]; omega
  have e1 : ((l.length : Int) == 0) = decide (l.length = 0) := e0 0
  have e2 : ((l.length : Int) == 1) = decide (l.length = 1) := e0 1
  have e3 : ((l.length : Int) == 2) = decide (l.length = 2) := e0 2
  have e4 : ((l.length : Int) == 3) = decide (l.length = 3) := e0 3
  simp only [impl_Task_fits.j0, isKey_ev, isValue_ev, Option.bind_some, e1, e2, e3, e4, ite_prop, Bool.decide_eq_true]
  clear e0 e1 e2 e3 e4
  unfold shapeB
  by_cases h0 : a = 0
  · simp only [h0, if_true]
  by_cases h1 : a = 1
  · simp only [h0, h1, if_true, if_false, show ¬ ((1 : Int) = 0) by decide]
  by_cases h2 : a = 2
  · simp only [h2, if_true, if_false, show ¬ ((2 : Int) = 0) by decide, show ¬ ((2 : Int) = 1) by decide, show ((2 : Int) == 2) = true by decide]
  by_cases h3 : a = 3
  · simp only [h3, if_true, if_false, show ¬ ((3 : Int) = 0) by decide, show ¬ ((3 : Int) = 1) by decide, show ¬ ((3 : Int) = 2) by decide, show ((3 : Int) == 3) = true by decide]
  have h3b : (a == 3) = false := beq_eq_false_iff_ne.mpr h3
  by_cases h4 : a = 4
  · simp only [h4, if_true, if_false, show ¬ ((4 : Int) = 0) by decide, show ¬ ((4 : Int) = 1) by decide, show ¬ ((4 : Int) = 2) by decide, show ¬ ((4 : Int) = 3) by decide, show ((4 : Int) == 3) = false by decide, Bool.false_eq_true, decide_true, Bool.true_and]
  by_cases h5 : a = 5
  · simp only [h5, if_true, if_false, show ¬ ((5 : Int) = 0) by decide, show ¬ ((5 : Int) = 1) by decide, show ¬ ((5 : Int) = 2) by decide, show ¬ ((5 : Int) = 3) by decide, show ¬ ((5 : Int) = 4) by decide, show ((5 : Int) == 3) = false by decide, Bool.false_eq_true, decide_true, Bool.true_and]
  simp only [h0, h1, h2, h3, h4, h5, h3b, if_false, Bool.false_eq_true, decide_false, Bool.false_and]
theorem fits_ev (a b : Int) (l : List Tk) : Ev (fun k => impl_Task_fits.f k a b l) (shapeB a b l.length) := ⟨1, fun k hk => by
  obtain ⟨m, rfl⟩ : ∃ m, k = m + 1 := ⟨k - 1, by omega⟩
  exact fits_now m a b l⟩
end Go.Proofs.Ythfemojaabejiaa.G
end
section
namespace Go.Proofs.Ythfemojaabejiaa.G
open Go.RowKit Go.Proofs.YthfemojaabejiaaW.PrintWords
set_option linter.unusedVariables false
set_option linter.unusedSimpArgs false
theorem Ev.eq {α : Type} {g : Nat → Option α} {r r' : α} (h : Ev g r) (e : r = r') : Ev g r' := e ▸ h
theorem Ev.of_eq {α : Type} {o : Option α} {r : α} (h : o = some r) : Ev (fun _ => o) r := ⟨0, fun _ _ => h⟩
def CountsTo (t : Tk) (room r : Int) : Prop := ((fitT t = true ∧ (nodT t : Int) ≤ room) → r = nodT t) ∧ (¬ (fitT t = true ∧ (nodT t : Int) ≤ room) → room < r) ∧ 1 ≤ r ∧ r ≤ 16 + 16 * room
theorem countTo_loop (ps : List Tk) (hlen : ps.length ≤ 3) (room : Int) (h0 : 0 ≤ room) (h1 : room ≤ 15)
    (ih : ∀ p ∈ ps, ∀ rm : Int, 0 ≤ rm → rm ≤ 15 → ∃ r, Ev (fun k => impl_Task_countTo.f k p.f0 p.f1 p.f2 rm) r ∧ CountsTo p rm r) :
    ∀ (d i : Nat) (n : Int), d = ps.length - i → i ≤ ps.length → 1 ≤ n → n ≤ 16 + 16 * room →
      ∃ r, Ev (fun k => impl_Task_countTo.l0 k room n ps (ps.length : Int) (i : Int)) r ∧ ((fitL (ps.drop i) = true ∧ n + (nodL (ps.drop i) : Int) ≤ room) → r = n + nodL (ps.drop i)) ∧ (¬ (fitL (ps.drop i) = true ∧ n + (nodL (ps.drop i) : Int) ≤ room) → room < r) ∧ 1 ≤ r ∧ r ≤ 16 + 16 * room := by
  intro d
  induction d with
  | zero =>
    intro i n hd hi hn hn2
    have e : i = ps.length := by omega
    subst e
    refine ⟨n, Ev.step (fun k => by rw [impl_Task_countTo.l0]) ?_, ?_⟩
    · simp only [if_neg (show ¬ ((ps.length : Int) < (ps.length : Int)) by omega)]
      exact Ev.now n
    · simp only [List.drop_length, fitL, nodL]
      refine ⟨fun _ => by simp, fun h => ?_, hn, hn2⟩
      simp at h
      omega
  | succ d ihd =>
    intro i n hd hi hn hn2
    have hlt : i < ps.length := by omega
    have hrd := rd_tk ps i hlt
    have hdr := drop_tk ps i hlt
    have hmem : ps[i] ∈ ps := List.getElem_mem hlt
    by_cases hg : n > room
    · refine ⟨16, Ev.step (fun k => by rw [impl_Task_countTo.l0]) ?_, fun h => ?_, fun _ => by omega, by omega, by omega⟩
      · simp only [if_pos (show (i : Int) < (ps.length : Int) by omega), if_pos (show (0 : Int) ≤ (i : Int) by omega), if_pos hg]
        exact Ev.now 16
      · exfalso
        have := h.2
        omega
    · obtain ⟨c, hc, hc1, hc2, hc3, hc4⟩ := ih ps[i] hmem (room - n) (by omega) (by omega)
      obtain ⟨r, hr, hr1, hr2, hr3, hr4⟩ := ihd (i + 1) (n + c) (by omega) (by omega) (by omega) (by omega)
      refine ⟨r, Ev.step (fun k => by rw [impl_Task_countTo.l0]) ?_, ?_, ?_, hr3, hr4⟩
      · simp only [if_pos (show (i : Int) < (ps.length : Int) by omega), if_pos (show (0 : Int) ≤ (i : Int) by omega), if_neg hg, hrd]
        rw [wrap_id (room - n) (by omega) (by omega), wrap_nat i (by omega)]
        refine Ev.bind hc ?_
        simp only [wrap_id (n + c) (by omega) (by omega)]
        exact hr
      · rw [hdr]
        simp only [fitL, nodL, Bool.and_eq_true]
        rintro ⟨⟨f1, f2⟩, h3⟩
        have e := hc1 ⟨f1, by omega⟩
        rw [hr1 ⟨f2, by omega⟩]
        omega
      · rw [hdr]
        simp only [fitL, nodL, Bool.and_eq_true]
        intro hno
        by_cases hp : fitT ps[i] = true ∧ (nodT ps[i] : Int) ≤ room - n
        · have e := hc1 hp
          exact hr2 (fun h => hno ⟨⟨hp.1, h.1⟩, by have := h.2; omega⟩)
        · have := hc2 hp
          exact hr2 (fun h => by have := h.2; omega)
theorem countTo_ev : ∀ t : Tk, ∀ room : Int, 0 ≤ room → room ≤ 15 → ∃ r, Ev (fun k => impl_Task_countTo.f k t.f0 t.f1 t.f2 room) r ∧ CountsTo t room r := by
  refine tk_ind fun t ih room h0 h1 => ?_
  by_cases hr : room < 1
  · refine ⟨16, Ev.step (fun k => by rw [impl_Task_countTo.f]) ?_, ?_, ?_, by omega, by omega⟩
    · simp only [if_pos hr]
      refine Ev.step (fun k => by rw [impl_Task_countTo.j0]) ?_
      simp only [if_true]
      exact Ev.now 16
    · rintro ⟨_, h⟩
      have := nodT_pos t
      omega
    · intro _
      omega
  · have hshape := fits_ev t.f0 t.f1 t.f2
    by_cases hf : shapeB t.f0 t.f1 t.f2.length = true
    · obtain ⟨r, hr1, hr2, hr3, hr4, hr5⟩ := countTo_loop t.f2 (shapeB_len hf) room h0 h1 ih t.f2.length 0 1 (by omega) (by omega) (by omega) (by omega)
      refine ⟨r, Ev.step (fun k => by rw [impl_Task_countTo.f]) ?_, ?_, ?_, hr4, hr5⟩
      · simp only [if_neg hr]
        refine Ev.bind hshape ?_
        simp only [hf, Bool.not_true]
        refine Ev.step (fun k => by rw [impl_Task_countTo.j0]) ?_
        simp only [Bool.false_eq_true, if_false]
        exact hr1
      · rw [fitT_eq, nodT_eq, hf]
        simp only [List.drop_zero, Bool.true_and] at hr2 ⊢
        rintro ⟨a, b⟩
        rw [hr2 ⟨a, by omega⟩]
        omega
      · rw [fitT_eq, nodT_eq, hf]
        simp only [List.drop_zero, Bool.true_and] at hr3 ⊢
        intro h
        exact hr3 (fun ⟨a, b⟩ => h ⟨a, by omega⟩)
    · refine ⟨16, Ev.step (fun k => by rw [impl_Task_countTo.f]) ?_, ?_, ?_, by omega, by omega⟩
      · simp only [if_neg hr]
        refine Ev.bind hshape ?_
        simp only [Bool.not_eq_true] at hf
        simp only [hf, Bool.not_false]
        refine Ev.step (fun k => by rw [impl_Task_countTo.j0]) ?_
        simp only [if_true]
        exact Ev.now 16
      · rw [fitT_eq]
        intro h
        simp [hf] at h
      · intro _
        omega
theorem count_loop (ps : List Tk) (hlen : ps.length ≤ 3) :
    ∀ (d i : Nat) (n : Int), d = ps.length - i → i ≤ ps.length → 1 ≤ n → n ≤ 300 →
      ∃ r, Ev (fun k => impl_Task_count.l0 k n ps (ps.length : Int) (i : Int)) r ∧ ((fitL (ps.drop i) = true ∧ n + (nodL (ps.drop i) : Int) ≤ 15) → r = n + nodL (ps.drop i)) ∧ (¬ (fitL (ps.drop i) = true ∧ n + (nodL (ps.drop i) : Int) ≤ 15) → 15 < r) := by
  intro d
  induction d with
  | zero =>
    intro i n hd hi hn hn2
    have e : i = ps.length := by omega
    subst e
    refine ⟨n, Ev.step (fun k => by rw [impl_Task_count.l0]) ?_, ?_⟩
    · simp only [if_neg (show ¬ ((ps.length : Int) < (ps.length : Int)) by omega)]
      exact Ev.now n
    · simp only [List.drop_length, fitL, nodL]
      refine ⟨fun _ => by simp, fun h => ?_⟩
      simp at h
      omega
  | succ d ihd =>
    intro i n hd hi hn hn2
    have hlt : i < ps.length := by omega
    have hrd := rd_tk ps i hlt
    have hdr := drop_tk ps i hlt
    by_cases hg : n > 15
    · refine ⟨n, Ev.step (fun k => by rw [impl_Task_count.l0]) ?_, fun h => ?_, fun _ => by omega⟩
      · simp only [if_pos (show (i : Int) < (ps.length : Int) by omega), if_pos (show (0 : Int) ≤ (i : Int) by omega), if_pos hg]
        exact Ev.now n
      · exfalso
        have := h.2
        omega
    · obtain ⟨c, hc, hc1, hc2, hc3, hc4⟩ := countTo_ev ps[i] (15 - n) (by omega) (by omega)
      obtain ⟨r, hr, hr1, hr2⟩ := ihd (i + 1) (n + c) (by omega) (by omega) (by omega) (by omega)
      refine ⟨r, Ev.step (fun k => by rw [impl_Task_count.l0]) ?_, ?_, ?_⟩
      · simp only [if_pos (show (i : Int) < (ps.length : Int) by omega), if_pos (show (0 : Int) ≤ (i : Int) by omega), if_neg hg, hrd]
        rw [wrap_id (15 - n) (by omega) (by omega), wrap_nat i (by omega)]
        refine Ev.bind hc ?_
        simp only [wrap_id (n + c) (by omega) (by omega)]
        exact hr
      · rw [hdr]
        simp only [fitL, nodL, Bool.and_eq_true]
        rintro ⟨⟨f1, f2⟩, h3⟩
        have e := hc1 ⟨f1, by omega⟩
        rw [hr1 ⟨f2, by omega⟩]
        omega
      · rw [hdr]
        simp only [fitL, nodL, Bool.and_eq_true]
        intro hno
        by_cases hp : fitT ps[i] = true ∧ (nodT ps[i] : Int) ≤ 15 - n
        · have e := hc1 hp
          exact hr2 (fun h => hno ⟨⟨hp.1, h.1⟩, by have := h.2; omega⟩)
        · have := hc2 hp
          exact hr2 (fun h => by have := h.2; omega)
theorem count_ev (t : Tk) : ∃ r, Ev (fun k => impl_Task_count.f k t.f0 t.f1 t.f2) r ∧ (okT t = true → r = nodT t) ∧ (okT t = false → 15 < r) := by
  have hshape := fits_ev t.f0 t.f1 t.f2
  by_cases hf : shapeB t.f0 t.f1 t.f2.length = true
  · obtain ⟨r, hr1, hr2, hr3⟩ := count_loop t.f2 (shapeB_len hf) t.f2.length 0 1 (by omega) (by omega) (by omega) (by omega)
    refine ⟨r, ?_, ?_, ?_⟩
    · unfold impl_Task_count.f
      refine Ev.bind hshape ?_
      simp only [hf, if_true]
      exact hr1
    · intro h
      have h1 := okT_fit h
      have h2 := okT_nod h
      rw [fitT_eq, Bool.and_eq_true] at h1
      rw [nodT_eq] at h2 ⊢
      simp only [List.drop_zero] at hr2
      rw [hr2 ⟨h1.2, by omega⟩]
      omega
    · intro h
      simp only [List.drop_zero] at hr3
      refine hr3 (fun ⟨a, b⟩ => ?_)
      rw [okT, fitT_eq, nodT_eq, hf, a] at h
      simp at h
      omega
  · refine ⟨16, ?_, ?_, fun _ => by omega⟩
    · unfold impl_Task_count.f
      refine Ev.bind hshape ?_
      simp only [hf, Bool.false_eq_true, if_false]
      exact Ev.now 16
    · intro h
      have h1 := okT_fit h
      rw [fitT_eq, Bool.and_eq_true] at h1
      exact absurd h1.1 hf
theorem implOk_ev (t : Tk) : Ev (fun k => impl_TaskOk.f k t.f0 t.f1 t.f2) (okT t) := by
  obtain ⟨r, hr, h1, h2⟩ := count_ev t
  unfold impl_TaskOk.f
  refine Ev.bind hr ?_
  refine Ev.of_eq ?_
  cases h : okT t with
  | true => have := h1 h; have := okT_nod h; simp; omega
  | false => have := h2 h; simp; omega
theorem l1Shape_now (k : Nat) (a : Int) : spec_l1Shape.f (k + 1) a = some (if a = 0 then (0, 96, true) else if a = 1 then (0, 9, true) else if a = 2 then (2, 0, true) else if a = 3 then (2, 0, true) else if a = 4 then (3, 0, true) else if a = 5 then (1, 9, true) else (0, 0, false)) := by
  unfold spec_l1Shape.f
  simp only [spec_l1Shape.j0]
  repeat' split
  all_goals simp_all
theorem l1Shape_ev (a : Int) : Ev (fun k => spec_l1Shape.f k a) (if a = 0 then (0, 96, true) else if a = 1 then (0, 9, true) else if a = 2 then (2, 0, true) else if a = 3 then (2, 0, true) else if a = 4 then (3, 0, true) else if a = 5 then (1, 9, true) else (0, 0, false)) := ⟨1, fun k hk => by
  obtain ⟨m, rfl⟩ : ∃ m, k = m + 1 := ⟨k - 1, by omega⟩
  exact l1Shape_now m a⟩
theorem l6In_ev (a b c : Int) : spec_l6In.f a b c = some (decide (b ≤ a ∧ a ≤ c)) := by
  unfold spec_l6In.f
  by_cases h : a ≥ b
  · rw [if_pos h]; simp only [ge_iff_le] at h; simp [h]
  · rw [if_neg h]; simp only [ge_iff_le] at h; simp [h]
theorem l1Fit_loop (a b : Int) (ps : List Tk) (hlen : ps.length ≤ 3) (ih : ∀ p ∈ ps, Ev (fun k => spec_l1Fit.f k p.f0 p.f1 p.f2) (fitT p)) :
    ∀ (d i : Nat), d = ps.length - i → i ≤ ps.length → Ev (fun k => spec_l1Fit.l0 k (i : Int) a b ps) (fitL (ps.drop i)) := by
  intro d
  induction d with
  | zero =>
    intro i hd hi
    have e : i = ps.length := by omega
    subst e
    refine Ev.step (fun k => by rw [spec_l1Fit.l0]) ?_
    simp only [if_neg (show ¬ ((ps.length : Int) < (ps.length : Int)) by omega), List.drop_length, fitL]
    exact Ev.now true
  | succ d ihd =>
    intro i hd hi
    have hlt : i < ps.length := by omega
    have hrd := rd_tk ps i hlt
    have hmem : ps[i] ∈ ps := List.getElem_mem hlt
    rw [drop_tk ps i hlt]
    refine Ev.step (fun k => by rw [spec_l1Fit.l0]) ?_
    simp only [if_pos (show (i : Int) < (ps.length : Int) by omega), if_pos (show (0 : Int) ≤ (i : Int) by omega), hrd]
    refine Ev.bind (ih _ hmem) ?_
    simp only [fitL]
    cases h : fitT ps[i] with
    | true =>
      simp only [if_true, Bool.true_and, wrap_nat i (by omega)]
      exact ihd (i + 1) (by omega) (by omega)
    | false =>
      simp only [Bool.false_eq_true, if_false, Bool.false_and]
      exact Ev.now false
theorem l1Fit_ev : ∀ t : Tk, Ev (fun k => spec_l1Fit.f k t.f0 t.f1 t.f2) (fitT t) := by
  refine tk_ind fun t ih => ?_
  refine Ev.step (fun k => by rw [spec_l1Fit.f]) ?_
  refine Ev.bind (l1Shape_ev t.f0) ?_
  rw [fitT_eq]
  have bad : Ev (fun k => spec_l1Fit.j0 k true t.f0 t.f1 t.f2) false := by
    refine Ev.step (fun k => by rw [spec_l1Fit.j0]) ?_
    simp only [if_true]
    exact Ev.now false
  have good : t.f2.length ≤ 3 → ∀ c : Bool, Ev (fun k => spec_l1Fit.j0 k (!c) t.f0 t.f1 t.f2) (c && fitL t.f2) := by
    intro hl c
    refine Ev.step (fun k => by rw [spec_l1Fit.j0]) ?_
    cases c with
    | false =>
      simp only [Bool.not_false, if_true, Bool.false_and]
      exact Ev.now false
    | true =>
      simp only [Bool.not_true, Bool.false_eq_true, if_false, Bool.true_and]
      exact l1Fit_loop t.f0 t.f1 t.f2 hl ih t.f2.length 0 (by omega) (by omega)
  have e0 : ∀ m : Nat, ((t.f2.length : Int) = (m : Int)) = (t.f2.length = m) := fun m => by rw [eq_iff_iff]; omega
  have e1 : ((t.f2.length : Int) = 0) = (t.f2.length = 0) := e0 0
  have e2 : ((t.f2.length : Int) = 1) = (t.f2.length = 1) := e0 1
  have e3 : ((t.f2.length : Int) = 2) = (t.f2.length = 2) := e0 2
  have e4 : ((t.f2.length : Int) = 3) = (t.f2.length = 3) := e0 3
  simp only [l6In_ev, Option.bind_some]
  unfold shapeB
  by_cases h0 : t.f0 = 0
  · simp only [h0, if_true, e1] at good bad ⊢
    by_cases hl : t.f2.length = 0
    · simp only [hl, if_true, decide_true, Bool.and_true] at good ⊢
      exact good (by omega) _
    · simp only [hl, if_false, decide_false, Bool.and_false, Bool.false_and]
      exact bad
  by_cases h1 : t.f0 = 1
  · have e9 : ∀ x : Int, (0 ≤ x ∧ x < 10) = (0 ≤ x ∧ x ≤ 9) := fun x => by rw [eq_iff_iff]; omega
    simp only [h1, if_true, e1, e9, show ¬ ((1 : Int) = 0) by decide, if_false] at good bad ⊢
    by_cases hl : t.f2.length = 0
    · simp only [hl, if_true, decide_true, Bool.and_true] at good ⊢
      exact good (by omega) _
    · simp only [hl, if_false, decide_false, Bool.and_false, Bool.false_and]
      exact bad
  by_cases h2 : t.f0 = 2
  · have e9 : ∀ x : Int, (x = 0) = (0 ≤ x ∧ x ≤ 0) := fun x => by rw [eq_iff_iff]; omega
    simp only [h2, if_true, e3, e9 t.f1, show ¬ ((2 : Int) = 0) by decide, show ¬ ((2 : Int) = 1) by decide, if_false] at good bad ⊢
    by_cases hl : t.f2.length = 2
    · simp only [hl, if_true, decide_true, Bool.and_true] at good ⊢
      exact good (by omega) _
    · simp only [hl, if_false, decide_false, Bool.and_false, Bool.false_and]
      exact bad
  by_cases h3 : t.f0 = 3
  · have e9 : ∀ x : Int, (x = 0) = (0 ≤ x ∧ x ≤ 0) := fun x => by rw [eq_iff_iff]; omega
    simp only [h3, if_true, e3, e9 t.f1, show ¬ ((3 : Int) = 0) by decide, show ¬ ((3 : Int) = 1) by decide, show ¬ ((3 : Int) = 2) by decide, if_false] at good bad ⊢
    by_cases hl : t.f2.length = 2
    · simp only [hl, if_true, decide_true, Bool.and_true] at good ⊢
      exact good (by omega) _
    · simp only [hl, if_false, decide_false, Bool.and_false, Bool.false_and]
      exact bad
  by_cases h4 : t.f0 = 4
  · have e9 : ∀ x : Int, (x = 0) = (0 ≤ x ∧ x ≤ 0) := fun x => by rw [eq_iff_iff]; omega
    simp only [h4, if_true, e4, e9 t.f1, show ¬ ((4 : Int) = 0) by decide, show ¬ ((4 : Int) = 1) by decide, show ¬ ((4 : Int) = 2) by decide, show ¬ ((4 : Int) = 3) by decide, if_false] at good bad ⊢
    by_cases hl : t.f2.length = 3
    · simp only [hl, if_true, decide_true, Bool.and_true] at good ⊢
      exact good (by omega) _
    · simp only [hl, if_false, decide_false, Bool.and_false, Bool.false_and]
      exact bad
  by_cases h5 : t.f0 = 5
  · have e9 : ∀ x : Int, (0 ≤ x ∧ x < 10) = (0 ≤ x ∧ x ≤ 9) := fun x => by rw [eq_iff_iff]; omega
    simp only [h5, if_true, e2, e9 t.f1, show ¬ ((5 : Int) = 0) by decide, show ¬ ((5 : Int) = 1) by decide, show ¬ ((5 : Int) = 2) by decide, show ¬ ((5 : Int) = 3) by decide, show ¬ ((5 : Int) = 4) by decide, if_false] at good bad ⊢
    by_cases hl : t.f2.length = 1
    · simp only [hl, if_true, decide_true, Bool.and_true] at good ⊢
      exact good (by omega) _
    · simp only [hl, if_false, decide_false, Bool.and_false, Bool.false_and]
      exact bad
  · simp only [h0, h1, h2, h3, h4, h5, if_false, Bool.false_eq_true, Bool.false_and]
    exact bad
theorem l1Nodes_loop (a b : Int) (ps : List Tk) (hlen : ps.length ≤ 4000000000) (ih : ∀ p ∈ ps, (nodT p : Int) ≤ 4000000000 → Ev (fun k => spec_l1Nodes.f k p.f0 p.f1 p.f2) (nodT p : Int)) :
    ∀ (d i : Nat) (n : Int), d = ps.length - i → i ≤ ps.length → 0 ≤ n → n + (nodL (ps.drop i) : Int) ≤ 4000000000 → Ev (fun k => spec_l1Nodes.l0 k n (i : Int) a b ps) (n + nodL (ps.drop i)) := by
  intro d
  induction d with
  | zero =>
    intro i n hd hi hn hb
    have e : i = ps.length := by omega
    subst e
    refine Ev.step (fun k => by rw [spec_l1Nodes.l0]) ?_
    simp only [if_neg (show ¬ ((ps.length : Int) < (ps.length : Int)) by omega), List.drop_length, nodL]
    exact Ev.eq (Ev.now n) (by omega)
  | succ d ihd =>
    intro i n hd hi hn hb
    have hlt : i < ps.length := by omega
    have hrd := rd_tk ps i hlt
    have hmem : ps[i] ∈ ps := List.getElem_mem hlt
    rw [drop_tk ps i hlt] at hb ⊢
    simp only [nodL] at hb ⊢
    refine Ev.step (fun k => by rw [spec_l1Nodes.l0]) ?_
    simp only [if_pos (show (i : Int) < (ps.length : Int) by omega), if_pos (show (0 : Int) ≤ (i : Int) by omega), hrd]
    refine Ev.bind (ih _ hmem (by omega)) ?_
    simp only [wrap_nat i (by omega), wrap_id (n + (nodT ps[i] : Int)) (by omega) (by omega)]
    exact Ev.eq (ihd (i + 1) (n + nodT ps[i]) (by omega) (by omega) (by omega) (by omega)) (by omega)
theorem l1Nodes_ev : ∀ t : Tk, (nodT t : Int) ≤ 4000000000 → Ev (fun k => spec_l1Nodes.f k t.f0 t.f1 t.f2) (nodT t : Int) := by
  refine tk_ind fun t ih hb => ?_
  rw [nodT_eq] at hb ⊢
  have := nodL_len t.f2
  refine Ev.step (fun k => by rw [spec_l1Nodes.f]) ?_
  exact Ev.eq (l1Nodes_loop t.f0 t.f1 t.f2 (by omega) ih t.f2.length 0 1 (by omega) (by omega) (by omega) (by rw [List.drop_zero]; omega)) (by rw [List.drop_zero]; omega)
theorem specOk_ev (t : Tk) (hb : (nodT t : Int) ≤ 4000000000) : Ev (fun k => spec_TaskOk.f k t.f0 t.f1 t.f2) (okT t) := by
  unfold spec_TaskOk.f
  refine Ev.bind (l1Fit_ev t) ?_
  unfold okT
  cases h : fitT t with
  | false =>
    simp only [Bool.false_eq_true, if_false, Bool.false_and]
    exact Ev.now false
  | true =>
    simp only [if_true, Bool.true_and]
    refine Ev.bind (l1Nodes_ev t hb) ?_
    refine Ev.of_eq ?_
    congr 1
    rw [Bool.eq_iff_iff]
    simp only [decide_eq_true_eq]
    omega
end Go.Proofs.Ythfemojaabejiaa.G
end
section
namespace Go.Proofs.Ythfemojaabejiaa.G
open Go.RowKit Go.Proofs.YthfemojaabejiaaW.PrintWords
set_option linter.unusedVariables false
set_option linter.unusedSimpArgs false
theorem implMay_ev (t : Tk) : Ev (fun k => impl_TaskMay.f k t.f0 t.f1 t.f2) (mayK t) := by
  have h := implOk_ev t
  unfold impl_TaskMay.f
  refine Ev.bind h ?_
  cases ht : okT t with
  | false =>
    simp only [Bool.false_eq_true, if_false]
    exact Ev.eq (Ev.now _) (by simp [mayK, ht])
  | true =>
    have hf := okT_fit ht
    have e : (⟨t.f0, t.f1, t.f2⟩ : Tk) = t := by cases t; rfl
    simp only [if_true, e, hf]
    exact Ev.eq (Ev.now _) (by simp [mayK, ht])
theorem specMay_ev (t : Tk) (hb : (nodT t : Int) ≤ 4000000000) : Ev (fun k => spec_TaskMay.f k t.f0 t.f1 t.f2) (mayK t) := by
  have h := specOk_ev t hb
  unfold spec_TaskMay.f
  refine Ev.bind h ?_
  cases ht : okT t with
  | false =>
    simp only [Bool.false_eq_true, if_false]
    exact Ev.eq (Ev.now _) (by simp [mayK, ht])
  | true =>
    have hf := okT_fit ht
    have e : (⟨t.f0, t.f1, t.f2⟩ : Tk) = t := by cases t; rfl
    simp only [if_true, e, hf]
    exact Ev.eq (Ev.now _) (by simp [mayK, ht])
end Go.Proofs.Ythfemojaabejiaa.G
end
section
namespace Go.Proofs.Ythfemojaabejiaa.G
open Go.RowKit Go.Proofs.YthfemojaabejiaaW.PrintWords
set_option linter.unusedVariables false
set_option linter.unusedSimpArgs false
def rowsOk : List Bool → List Tk → Bool
  | m :: ms, t :: ts => (okT t && (m || ((t.f0 == 0) && (t.f1 == 0)))) && rowsOk ms ts
  | _, _ => true
def sheetOk (made : List Bool) (tasks : List Tk) : Bool := (decide (made.length = tasks.length) && decide (made.length ≤ 10)) && rowsOk made tasks
theorem rd_bool (l : List Bool) (i : Nat) (h : i < l.length) : rdOf false l (i : Int) = l[i] := by
  simp only [rdOf, Int.toNat_natCast, List.getD_eq_getElem?_getD, List.getElem?_eq_getElem h, Option.getD_some]
theorem sheetOk_len {made : List Bool} {tasks : List Tk} (h : sheetOk made tasks = true) : made.length = tasks.length ∧ made.length ≤ 10 := by
  simp only [sheetOk, Bool.and_eq_true, decide_eq_true_eq] at h
  exact h.1
theorem implSheet_loop (made : List Bool) (tasks : List Tk) (he : made.length = tasks.length) (hl : made.length ≤ 10) :
    ∀ (d i : Nat), d = tasks.length - i → i ≤ tasks.length → Ev (fun k => impl_SheetOk.l0 k tasks (tasks.length : Int) (i : Int) made tasks) (rowsOk (made.drop i) (tasks.drop i)) := by
  intro d
  induction d with
  | zero =>
    intro i hd hi
    have e : i = tasks.length := by omega
    subst e
    refine Ev.step (fun k => by rw [impl_SheetOk.l0]) ?_
    simp only [if_neg (show ¬ ((tasks.length : Int) < (tasks.length : Int)) by omega), List.drop_length]
    exact Ev.eq (Ev.now true) (by unfold rowsOk; split <;> simp_all)
  | succ d ihd =>
    intro i hd hi
    have hlt : i < tasks.length := by omega
    have hlm : i < made.length := by omega
    rw [drop_tk made i hlm, drop_tk tasks i hlt, rowsOk]
    refine Ev.step (fun k => by rw [impl_SheetOk.l0]) ?_
    simp only [if_pos (show (i : Int) < (tasks.length : Int) by omega), if_pos (show (0 : Int) ≤ (i : Int) by omega), if_pos (show (i : Int) < (made.length : Int) by omega), rd_tk tasks i hlt, rd_bool made i hlm]
    refine Ev.bind (implOk_ev _) ?_
    have hn := ihd (i + 1) (by omega) (by omega)
    cases h : okT tasks[i] with
    | false =>
      simp only [Bool.false_eq_true, if_false, Bool.false_and]
      exact Ev.now false
    | true =>
      cases hm : made[i] with
      | true =>
        simp only [if_true, Bool.true_and, Bool.true_or, wrap_nat i (by omega)]
        exact hn
      | false =>
        simp only [if_true, Bool.true_and, Bool.false_or, Bool.false_eq_true, if_false, wrap_nat i (by omega)]
        by_cases h0 : tasks[i].f0 = 0
        · by_cases h1 : tasks[i].f1 = 0
          · simp only [h0, h1, if_true, beq_self_eq_true, Bool.true_and]
            exact hn
          · simp only [h0, h1, if_true, if_false, beq_self_eq_true, beq_eq_false_iff_ne.mpr h1, Bool.true_and, Bool.and_false, Bool.false_and]
            exact Ev.now false
        · simp only [h0, if_false, beq_eq_false_iff_ne.mpr h0, Bool.false_and]
          exact Ev.now false
theorem implSheet_ev (made : List Bool) (tasks : List Tk) : Ev (fun k => impl_SheetOk.f k made tasks) (sheetOk made tasks) := by
  unfold impl_SheetOk.f
  by_cases he : made.length = tasks.length
  · simp only [if_pos (show (made.length : Int) = (tasks.length : Int) by omega)]
    refine Ev.step (fun k => by rw [impl_SheetOk.j0]) ?_
    by_cases hl : made.length ≤ 10
    · simp only [decide_eq_false (show ¬ ((made.length : Int) > 10) by omega), Bool.false_eq_true, if_false]
      refine Ev.eq (implSheet_loop made tasks he hl tasks.length 0 (by omega) (by omega)) ?_
      rw [List.drop_zero, List.drop_zero, sheetOk, decide_eq_true he, decide_eq_true hl]
      simp
    · simp only [decide_eq_true (show ((made.length : Int) > 10) by omega), if_true]
      exact Ev.eq (Ev.now false) (by rw [sheetOk, decide_eq_false hl]; simp)
  · simp only [if_neg (show ¬ ((made.length : Int) = (tasks.length : Int)) by omega)]
    refine Ev.step (fun k => by rw [impl_SheetOk.j0]) ?_
    simp only [if_true]
    exact Ev.eq (Ev.now false) (by rw [sheetOk, decide_eq_false he]; simp)
theorem specSheet_loop (made : List Bool) (tasks : List Tk) (he : made.length = tasks.length) (hl : made.length ≤ 10) (hb : ∀ t ∈ tasks, (nodT t : Int) ≤ 4000000000) :
    ∀ (d i : Nat), d = made.length - i → i ≤ made.length → Ev (fun k => spec_SheetOk.l0 k (i : Int) made tasks) (rowsOk (made.drop i) (tasks.drop i)) := by
  intro d
  induction d with
  | zero =>
    intro i hd hi
    have e : i = made.length := by omega
    subst e
    refine Ev.step (fun k => by rw [spec_SheetOk.l0]) ?_
    simp only [if_neg (show ¬ ((made.length : Int) < (made.length : Int)) by omega), List.drop_length]
    exact Ev.eq (Ev.now true) (by unfold rowsOk; rfl)
  | succ d ihd =>
    intro i hd hi
    have hlt : i < tasks.length := by omega
    have hlm : i < made.length := by omega
    rw [drop_tk made i hlm, drop_tk tasks i hlt, rowsOk]
    refine Ev.step (fun k => by rw [spec_SheetOk.l0]) ?_
    simp only [if_pos (show (i : Int) < (tasks.length : Int) by omega), if_pos (show (0 : Int) ≤ (i : Int) by omega), if_pos (show (i : Int) < (made.length : Int) by omega), rd_tk tasks i hlt, rd_bool made i hlm]
    refine Ev.bind (specOk_ev _ (hb _ (List.getElem_mem hlt))) ?_
    have hn := ihd (i + 1) (by omega) (by omega)
    cases h : okT tasks[i] with
    | false =>
      simp only [Bool.false_eq_true, if_false, Bool.false_and]
      exact Ev.now false
    | true =>
      cases hm : made[i] with
      | true =>
        simp only [if_true, Bool.true_and, Bool.true_or, wrap_nat i (by omega)]
        exact hn
      | false =>
        simp only [if_true, Bool.true_and, Bool.false_or, Bool.false_eq_true, if_false, wrap_nat i (by omega)]
        by_cases h0 : tasks[i].f0 = 0
        · by_cases h1 : tasks[i].f1 = 0
          · simp only [h0, h1, if_true, beq_self_eq_true, Bool.true_and]
            exact hn
          · simp only [h0, h1, if_true, if_false, beq_self_eq_true, beq_eq_false_iff_ne.mpr h1, Bool.true_and, Bool.and_false, Bool.false_and]
            exact Ev.now false
        · simp only [h0, if_false, beq_eq_false_iff_ne.mpr h0, Bool.false_and]
          exact Ev.now false
theorem specSheet_ev (made : List Bool) (tasks : List Tk) (hb : ∀ t ∈ tasks, (nodT t : Int) ≤ 4000000000) : Ev (fun k => spec_SheetOk.f k made tasks) (sheetOk made tasks) := by
  unfold spec_SheetOk.f
  by_cases he : made.length = tasks.length
  · simp only [if_pos (show (made.length : Int) = (tasks.length : Int) by omega)]
    refine Ev.step (fun k => by rw [spec_SheetOk.j0]) ?_
    by_cases hl : made.length ≤ 10
    · simp only [decide_eq_false (show ¬ ((made.length : Int) > 10) by omega), Bool.false_eq_true, if_false]
      refine Ev.eq (specSheet_loop made tasks he hl hb made.length 0 (by omega) (by omega)) ?_
      rw [List.drop_zero, List.drop_zero, sheetOk, decide_eq_true he, decide_eq_true hl]
      simp
    · simp only [decide_eq_true (show ((made.length : Int) > 10) by omega), if_true]
      exact Ev.eq (Ev.now false) (by rw [sheetOk, decide_eq_false hl]; simp)
  · simp only [if_neg (show ¬ ((made.length : Int) = (tasks.length : Int)) by omega)]
    refine Ev.step (fun k => by rw [spec_SheetOk.j0]) ?_
    simp only [if_true]
    exact Ev.eq (Ev.now false) (by rw [sheetOk, decide_eq_false he]; simp)
end Go.Proofs.Ythfemojaabejiaa.G
end
section
namespace Go.Proofs.Ythfemojaabejiaa.G
open Go.RowKit Go.Proofs.YthfemojaabejiaaW.PrintWords
set_option linter.unusedVariables false
set_option linter.unusedSimpArgs false
def mayI (made : List Bool) (t : Tk) : List Int := (mayK t).filter fun j => made.getD j.toNat false
def mayN (made : List Bool) (tasks : List Tk) (k : Nat) : List Nat := (mayI made (tasks.getD k ⟨0, 0, []⟩)).map Int.toNat
theorem castL_toNat : ∀ l : List Int, (∀ x ∈ l, 0 ≤ x) → castL (l.map Int.toNat) = l
  | [], _ => rfl
  | x :: l, h => by
    have h1 := castL_toNat l (fun y hy => h y (List.mem_cons_of_mem _ hy))
    have h2 := h x List.mem_cons_self
    show ((x.toNat : Nat) : Int) :: castL (l.map Int.toNat) = x :: l
    rw [h1, Int.toNat_of_nonneg h2]
theorem mayI_pos (made : List Bool) (t : Tk) : ∀ x ∈ mayI made t, 0 ≤ x := fun x hx => (mayK_rng t x (List.mem_filter.1 hx).1).1
theorem mayN_cast (made : List Bool) (tasks : List Tk) (k : Nat) : castL (mayN made tasks k) = mayI made (tasks.getD k ⟨0, 0, []⟩) := castL_toNat _ (mayI_pos _ _)
theorem mayN_mem {made : List Bool} {tasks : List Tk} {k j : Nat} (h : j ∈ mayN made tasks k) : j < made.length ∧ made.getD j false = true := by
  unfold mayN at h
  obtain ⟨x, hx, e⟩ := List.mem_map.1 h
  subst e
  have h2 : made.getD x.toNat false = true := (List.mem_filter.1 hx).2
  refine ⟨?_, h2⟩
  rcases Nat.lt_or_ge x.toNat made.length with h3 | h3
  · exact h3
  · rw [List.getD_eq_getElem?_getD, List.getElem?_eq_none h3] at h2; cases h2
theorem mayN_len (made : List Bool) (tasks : List Tk) (k : Nat) : (mayN made tasks k).length ≤ 10 := by
  unfold mayN mayI
  rw [List.length_map]
  exact Nat.le_trans (List.length_filter_le _ _) (mayK_len _)
theorem makes_int (made : List Bool) (tasks : List Tk) (x : Int) (h : 0 ≤ x) : impl_Sheet_makes.f made tasks x = some (made.getD x.toNat false) := by
  have := makes_nat made tasks x.toNat
  rwa [Int.toNat_of_nonneg h] at this
theorem rd_get (l : List Int) (i : Nat) (h : i < l.length) : rd l (i : Int) = l[i] := by
  simp only [rd, Int.toNat_natCast, List.getD_eq_getElem?_getD, List.getElem?_eq_getElem h, Option.getD_some]
theorem implShMay_loop (made : List Bool) (tasks : List Tk) (l : List Int) (hl : l.length ≤ 1000) (hp : ∀ x ∈ l, 0 ≤ x) :
    ∀ (d i : Nat) (acc : List Int), d = l.length - i → i ≤ l.length → acc.length ≤ i → Ev (fun k => impl_Sheet_may.l0 k acc l (l.length : Int) (i : Int) made tasks) (acc ++ (l.drop i).filter fun j => made.getD j.toNat false) := by
  intro d
  induction d with
  | zero =>
    intro i acc hd hi ha
    have e : i = l.length := by omega
    subst e
    refine Ev.step (fun k => by rw [impl_Sheet_may.l0]) ?_
    simp only [if_neg (show ¬ ((l.length : Int) < (l.length : Int)) by omega), List.drop_length, List.filter_nil, List.append_nil]
    exact Ev.now _
  | succ d ihd =>
    intro i acc hd hi ha
    have hlt : i < l.length := by omega
    rw [List.drop_eq_getElem_cons hlt, List.filter_cons]
    refine Ev.step (fun k => by rw [impl_Sheet_may.l0]) ?_
    simp only [if_pos (show (i : Int) < (l.length : Int) by omega), if_pos (show (0 : Int) ≤ (i : Int) by omega), rd_get l i hlt, makes_int made tasks l[i] (hp _ (List.getElem_mem hlt)), Option.bind_some, wrap_nat i (by omega)]
    cases hm : made.getD l[i].toNat false with
    | true =>
      simp only [if_true, if_pos (show acc.length < 17592186044416 by omega)]
      refine Ev.eq (ihd (i + 1) (acc ++ [l[i]]) (by omega) (by omega) (by rw [List.length_append, List.length_singleton]; omega)) ?_
      simp
    | false =>
      simp only [Bool.false_eq_true, if_false]
      exact ihd (i + 1) acc (by omega) (by omega) (by omega)
theorem rd_tkD (ts : List Tk) (k : Nat) (h : k < ts.length) : rd_T141 ts (k : Int) = ts.getD k ⟨0, 0, []⟩ := by
  rw [rd_tk ts k h, List.getD_eq_getElem?_getD, List.getElem?_eq_getElem h, Option.getD_some]
theorem implShMay_ev (made : List Bool) (tasks : List Tk) (k : Nat) (hk : k < tasks.length) : Ev (fun r => impl_Sheet_may.f r made tasks (k : Int)) (castL (mayN made tasks k)) := by
  unfold impl_Sheet_may.f
  simp only [if_pos (show (0 : Int) ≤ (k : Int) by omega), if_pos (show (k : Int) < (tasks.length : Int) by omega), rd_tkD tasks k hk]
  refine Ev.bind (implMay_ev _) ?_
  rw [mayN_cast]
  refine Ev.eq (implShMay_loop made tasks (mayK (tasks.getD k ⟨0, 0, []⟩)) (Nat.le_trans (mayK_len _) (by omega)) (fun x hx => (mayK_rng _ x hx).1) (mayK (tasks.getD k ⟨0, 0, []⟩)).length 0 [] (by omega) (by omega) (by simp)) ?_
  rw [List.drop_zero, List.nil_append]
  rfl
theorem implKeys_loop (n : Nat) (hn : n ≤ 1000) : ∀ (d i : Nat), d = n - i → i ≤ n → Ev (fun k => impl_Sheet_keys.l0 k (castL (List.range i)) (n : Int) (i : Int)) (castL (List.range n)) := by
  intro d
  induction d with
  | zero =>
    intro i hd hi
    have e : i = n := by omega
    subst e
    refine Ev.step (fun k => by rw [impl_Sheet_keys.l0]) ?_
    simp only [if_neg (show ¬ ((i : Int) < (i : Int)) by omega)]
    exact Ev.now _
  | succ d ihd =>
    intro i hd hi
    refine Ev.step (fun k => by rw [impl_Sheet_keys.l0]) ?_
    simp only [if_pos (show (i : Int) < (n : Int) by omega), if_pos (show (castL (List.range i)).length < 17592186044416 by rw [castL_len, List.length_range]; omega), wrap_nat i (by omega)]
    refine Ev.eq (r := castL (List.range n)) ?_ rfl
    have := ihd (i + 1) (by omega) (by omega)
    rw [List.range_succ, castL_snoc] at this
    exact this
theorem implKeys_ev (made : List Bool) (tasks : List Tk) (hn : made.length ≤ 1000) : Ev (fun k => impl_Sheet_keys.f k made tasks) (castL (List.range made.length)) := by
  unfold impl_Sheet_keys.f
  exact implKeys_loop made.length hn made.length 0 (by omega) (by omega)
end Go.Proofs.Ythfemojaabejiaa.G
end
section
namespace Go.Proofs.Ythfemojaabejiaa.G
open Go.RowKit Go.Proofs.YthfemojaabejiaaW.PrintWords
set_option linter.unusedVariables false
set_option linter.unusedSimpArgs false
def madeB (made : List Bool) (k : Nat) : Bool := made.getD k false
open Classical in
noncomputable def reachB (made : List Bool) (tasks : List Tk) (L : List Nat) (k : Nat) : Bool := decide (Topo.Reach (madeB made) (mayN made tasks) L k)
open Classical in
theorem reachB_iff {made : List Bool} {tasks : List Tk} {L : List Nat} {k : Nat} : reachB made tasks L k = true ↔ Topo.Reach (madeB made) (mayN made tasks) L k := by
  unfold reachB
  exact decide_eq_true_iff
def safeB (made : List Bool) (tasks : List Tk) : Bool := sheetOk made tasks && (Topo.topo made.length (madeB made) (mayN made tasks) (Topo.needed made.length (madeB made)).length []).isSome
noncomputable def orderL (made : List Bool) (tasks : List Tk) (L : List Nat) : Option (List Nat) := Topo.topo made.length (reachB made tasks L) (mayN made tasks) (Topo.needed made.length (reachB made tasks L)).length []
theorem madeB_lt {made : List Bool} {k : Nat} (h : madeB made k = true) : k < made.length := by
  rcases Nat.lt_or_ge k made.length with h1 | h1
  · exact h1
  · unfold madeB at h; rw [List.getD_eq_getElem?_getD, List.getElem?_eq_none h1] at h; cases h
theorem reach_made {made : Nat → Bool} {may : Nat → List Nat} {L : List Nat} {k : Nat} (h : Topo.Reach made may L k) : made k = true := by
  cases h with
  | base _ hm => exact hm
  | step _ _ hm => exact hm
theorem ext_need {made : List Bool} {tasks : List Tk} {L ext : List Nat} (h : Topo.Walked (fun k => made.getD k false) (mayN made tasks) L [] ext) : (fun k => ext.contains k) = reachB made tasks L := by
  funext k
  rw [Bool.eq_iff_iff, List.contains_iff_mem, reachB_iff]
  exact h.iff k
theorem ext_len {made : List Bool} {tasks : List Tk} {L ext : List Nat} (h : Topo.Walked (fun k => made.getD k false) (mayN made tasks) L [] ext) : ext.length = (Topo.needed made.length (reachB made tasks L)).length := by
  have e := ext_need h
  have hlt : ∀ k ∈ ext, k < made.length := fun k hk => madeB_lt (h.sound k hk).1
  refine Nat.le_antisymm (Topo.sub_len _ _ h.nodup fun x hx => Topo.needed_mem.2 ⟨hlt x hx, ?_⟩) (Topo.sub_len _ _ (Topo.needed_nodup _ _) fun x hx => ?_)
  · rw [← e]; exact List.contains_iff_mem.2 hx
  · have h2 := (Topo.needed_mem.1 hx).2
    rw [← e] at h2
    exact List.contains_iff_mem.1 h2
theorem ext_topo {made : List Bool} {tasks : List Tk} {L ext : List Nat} (h : Topo.Walked (fun k => made.getD k false) (mayN made tasks) L [] ext) : Topo.topo made.length (fun k => ext.contains k) (mayN made tasks) ext.length [] = orderL made tasks L := by
  rw [ext_need h, ext_len h]
  rfl
theorem reach_all (made : List Bool) (tasks : List Tk) : reachB made tasks (List.range made.length) = madeB made := by
  funext k
  rw [Bool.eq_iff_iff, reachB_iff]
  exact ⟨fun h => reach_made h, fun h => .base (List.mem_range.2 (madeB_lt h)) h⟩
theorem order_all (made : List Bool) (tasks : List Tk) : orderL made tasks (List.range made.length) = Topo.topo made.length (madeB made) (mayN made tasks) (Topo.needed made.length (madeB made)).length [] := by
  unfold orderL
  rw [reach_all]
theorem may_ok {made : List Bool} {tasks : List Tk} (h : sheetOk made tasks = true) : ∀ k, k < made.length → ∃ kr, impl_Sheet_may.f kr made tasks (k : Int) = some (castL (mayN made tasks k)) := fun k hk => by
  obtain ⟨n, hn⟩ := implShMay_ev made tasks k (by have := sheetOk_len h; omega)
  exact ⟨n, hn n (Nat.le_refl _)⟩
theorem topoP_ret {w W : World} {r : Option (List Nat)} {e : Ending} (h : TopoP w r e W) : ∃ v, e = .returned (.tuple #[v, .bool r.isSome]) ∧ Below w.heap.size w W ∧ Kd.R (Kd.int .i64) 3 W w.heap.size (fun _ => True) v (castL (r.getD [])) := by
  obtain ⟨h1, h2⟩ := h
  cases r with
  | none => exact ⟨_, h2, h1, Kd.R_nil _ _ _ _ _⟩
  | some l => obtain ⟨v, h3, h4⟩ := h2; exact ⟨v, h3, h1, h4⟩
end Go.Proofs.Ythfemojaabejiaa.G
end
section
namespace Go.Proofs.Ythfemojaabejiaa.G
open Go.RowKit Go.Proofs.YthfemojaabejiaaW.PrintWords Go.Proofs.YthfemojaabejiaaW.PrintLast Go.Proofs.YthfemojaabejiaaW.PrintMore
set_option linter.unusedVariables false
set_option linter.unusedSimpArgs false
def impl_SheetSafe.f (l0_0 : List Bool) (l0_1 : List (S141)) : Option Bool := some (safeB l0_0 l0_1)
set_option maxHeartbeats 8000000 in
set_option maxRecDepth 100000 in
theorem impl_SheetSafe.calls (A0_0 : Option Addr) (c0_0 : Nat) (l0_0 : List Bool) (A0_1 : Option Addr) (c0_1 : Nat) (l0_1 : List (S141)) (r : Bool) (w : World) (hr0_0 : Kd.C Kd.bool w A0_0 l0_0.length l0_0) (hc0_0 : l0_0.length ≤ c0_0) (hr0_1 : Kd.C k141 w A0_1 l0_1.length l0_1) (hc0_1 : l0_1.length ≤ c0_1) (h : impl_SheetSafe.f l0_0 l0_1 = some r) :
    Calls Try.prog 17 #[.agg #[.slice A0_0 l0_0.length c0_0, .slice A0_1 l0_1.length c0_1]] w fun e w' => e = .returned (.bool r) ∧ Below w.heap.size w w' := by
  have hu0 := Try.underlying30
  have hr := Option.some.inj h
  clear h
  obtain ⟨k1, hk1⟩ := implSheet_ev l0_0 l0_1
  have hk1 := hk1 k1 (Nat.le_refl _)
  have HB0 := Aside0.mk ((Below.refl w.heap.size w).alloc (Nat.le_refl _) (.cells #[.slice A0_0 l0_0.length c0_0, .slice A0_1 l0_1.length c0_1] 30 (0, 0)))
  have BX0 := Aside0.mk (blk_new w (.cells #[.slice A0_0 l0_0.length c0_0, .slice A0_1 l0_1.length c0_1] 30 (0, 0)))
  have HR0 := Aside0.mk hr0_0
  have HC0 := Aside0.mk hc0_0
  have HR1 := Aside0.mk hr0_1
  have HC1 := Aside0.mk hc0_1
  have hs0 : (w.alloc (.cells #[.slice A0_0 l0_0.length c0_0, .slice A0_1 l0_1.length c0_1] 30 (0, 0))).cell? ⟨w.heap.size, 0, none⟩ = some (.slice A0_0 l0_0.length c0_0) := (blk_cell BX0.out 0).trans rfl
  have hs1 : (w.alloc (.cells #[.slice A0_0 l0_0.length c0_0, .slice A0_1 l0_1.length c0_1] 30 (0, 0))).cell? ⟨w.heap.size, 1, none⟩ = some (.slice A0_1 l0_1.length c0_1) := (blk_cell BX0.out 1).trans rfl
  clear hr0_0 hc0_0 hr0_1 hc0_1
  cases hok : sheetOk l0_0 l0_1 with
  | false =>
    rw [hok] at hk1
    have CK := Aside0.mk (impl_SheetOk.calls k1 A0_0 c0_0 l0_0 A0_1 c0_1 l0_1 false _ (Kd.C_below HR0.out HB0.out) HC0.out (Kd.C_below HR1.out HB0.out) HC1.out hk1)
    have HRR : Aside0 (false = r) := ⟨by rw [← hr, safeB, hok]; rfl⟩
    clear hk1 hr hok
    go_enter Try.func17, Try.ntmps17
    go_wp2_with (go_at_call 60; (with_reducible refine CK.out.mono ?_); rintro e w1 ⟨rfl, hb1⟩; have HB1 := Aside0.mk (HB0.out.trans (hb1.mono HB0.out.size)); clear hb1 CK)
    go_ret
    exact ⟨by rw [← HRR.out]; rfl, HB1.out⟩
  | true =>
    rw [hok] at hk1
    have CK := Aside0.mk (impl_SheetOk.calls k1 A0_0 c0_0 l0_0 A0_1 c0_1 l0_1 true _ (Kd.C_below HR0.out HB0.out) HC0.out (Kd.C_below HR1.out HB0.out) HC1.out hk1)
    have hlen := sheetOk_len hok
    have HMAY := Aside0.mk (may_ok hok)
    have HLE := Aside0.mk hlen
    obtain ⟨k2, hk2⟩ := implKeys_ev l0_0 l0_1 (by omega)
    have HK2 := Aside0.mk (hk2 k2 (Nat.le_refl _))
    have HRR : Aside0 ((orderL l0_0 l0_1 (List.range l0_0.length)).isSome = r) := ⟨by rw [order_all, ← hr, safeB, hok]; rfl⟩
    clear hk1 hr hok hlen hk2
    go_enter Try.func17, Try.ntmps17
    go_wp2_with (go_at_call 60; (with_reducible refine CK.out.mono ?_); rintro e w1 ⟨rfl, hb1⟩; have HB1 := Aside0.mk (HB0.out.trans (hb1.mono HB0.out.size)); have BX1 := Aside0.mk (blk_below BX0.out hb1); clear hb1 CK hs0 hs1)
    clear BX0 HB0
    refine start_ (n := 13) (S := fun w' => w'.cell? ⟨w.heap.size, 0, none⟩ = some (.slice A0_0 l0_0.length c0_0) ∧ w'.cell? ⟨w.heap.size, 1, none⟩ = some (.slice A0_1 l0_1.length c0_1)) (ds := []) #[false, false, false, false, false, false, false, false, false, false, false, false, false] (by kernel_rfl) rfl rfl ⟨(blk_cell (blk_drew BX1.out) 0).trans rfl, (blk_cell (blk_drew BX1.out) 1).trans rfl⟩ (fun hHeld => ?_)
    have HB2 := Aside0.mk (below_drew1 HB1.out)
    have BX2 := Aside0.mk (blk_drew BX1.out)
    generalize w1.drew = w2 at HB2 BX2 hHeld ⊢
    clear HB1 BX1
    refine take_ (i := 0) (N := (some 9)) (v := ?_) (a' := ?_) #[true, false, false, false, false, false, false, false, false, false, false, false, false] rfl rfl (by kernel_rfl) (fun _ _ _ h => h) (Or.inl ⟨by rfl, ?_⟩) hHeld ?_ ?_
    rotate_left
    · rintro w' ⟨s0, s1⟩
      go_simp
      with_reducible rfl
    rotate_left
    · simp only [Act.put, List.setIfInBounds_toArray, List.set_cons_zero, List.set_cons_succ, i64_w, i32_w]
      rfl
    refine take_ (i := 1) (N := (some 10)) (v := ?_) (a' := ?_) #[true, true, false, false, false, false, false, false, false, false, false, false, false] rfl rfl (by kernel_rfl) (fun _ _ _ h => h) (Or.inl ⟨by rfl, ?_⟩) hHeld ?_ ?_
    rotate_left
    · rintro w' ⟨s0, s1⟩
      go_simp
      with_reducible rfl
    rotate_left
    · simp only [Act.put, List.setIfInBounds_toArray, List.set_cons_zero, List.set_cons_succ, i64_w, i32_w]
      rfl
    refine take_ (i := 2) (N := (some 11)) (v := ?_) (a' := ?_) #[true, true, true, false, false, false, false, false, false, false, false, false, false] rfl rfl (by kernel_rfl) (fun _ _ _ h => h) (Or.inl ⟨by rfl, ?_⟩) hHeld ?_ ?_
    rotate_left
    · rintro w' ⟨s0, s1⟩
      go_simp
      with_reducible rfl
    rotate_left
    · simp only [Act.put, List.setIfInBounds_toArray, List.set_cons_zero, List.set_cons_succ, i64_w, i32_w]
      rfl
    refine take_ (i := 4) (N := (some 13)) (v := ?_) (a' := ?_) #[true, true, true, false, true, false, false, false, false, false, false, false, false] rfl rfl (by kernel_rfl) (fun _ _ _ h => h) (Or.inl ⟨by rfl, ?_⟩) hHeld ?_ ?_
    rotate_left
    · rintro w' ⟨s0, s1⟩
      go_simp
      with_reducible rfl
    rotate_left
    · simp only [Act.put, List.setIfInBounds_toArray, List.set_cons_zero, List.set_cons_succ, i64_w, i32_w]
      rfl
    refine pure_ (i := 5) (N := (some 14)) (v := ?_) (a' := ?_) #[true, true, true, false, true, true, false, false, false, false, false, false, false] rfl rfl (by kernel_rfl) (fun _ _ _ h => h) (Or.inl ⟨by rfl, ?_⟩) ?_ ?_
    rotate_left
    · intro w'
      go_simp
      with_reducible rfl
    rotate_left
    · simp only [Act.put, List.setIfInBounds_toArray, List.set_cons_zero, List.set_cons_succ, i64_w, i32_w]
      rfl
    refine one_ (i := 3) (N := (some 12)) #[true, true, true, true, true, true, false, false, false, false, false, false, false] rfl rfl (by kernel_rfl) (by decide) (fun K hK => ?_)
    refine goes_ Try.func63 (by kernel_rfl) rfl #[.agg #[.slice A0_0 l0_0.length c0_0, .slice A0_1 l0_1.length c0_1]] (by rfl) rfl rfl (by (try simp only [List.map_toArray, List.map_cons, List.map_nil]); first | done | rfl) ?_
    refine (impl_Sheet_keys.calls k2 A0_0 c0_0 l0_0 A0_1 c0_1 l0_1 _ _ (Kd.C_below HR0.out HB2.out) HC0.out (Kd.C_below HR1.out HB2.out) HC1.out HK2.out).mono ?_
    rintro e w3 ⟨vk, rfl, hvk, hb3⟩
    refine ⟨_, rfl, ?_⟩
    obtain ⟨Ak, ck, rfl, _, hCk⟩ := Kd.R_reads hvk
    rw [castL_len] at hCk ⊢
    have HB3 := Aside0.mk (HB2.out.trans (hb3.mono HB2.out.size))
    have BX3 := Aside0.mk (blk_below BX2.out hb3)
    have HCK := Aside0.mk hCk
    clear hb3 hvk hCk hHeld HB2 BX2
    refine hK.out _ _ ⟨(blk_cell BX3.out 0).trans rfl, (blk_cell BX3.out 1).trans rfl⟩ (fun hHeld => ?_)
    clear hK K
    refine norm_ (a' := ?_) ?_ ?_
    rotate_left
    · show Act.put _ (some 12) _ = _
      simp only [Act.put, List.setIfInBounds_toArray, List.set_cons_zero, List.set_cons_succ, i64_w, i32_w]
      rfl
    refine one_ (i := 6) (N := (some 15)) #[true, true, true, true, true, true, true, false, false, false, false, false, false] rfl rfl (by kernel_rfl) (by decide) (fun K hK => ?_)
    refine goes_ Try.func62 (by kernel_rfl) rfl #[.agg #[.slice A0_0 l0_0.length c0_0, .slice A0_1 l0_1.length c0_1], .slice Ak (List.range l0_0.length).length ck, .func (.func 64) #[.agg #[.slice A0_0 l0_0.length c0_0, .slice A0_1 l0_1.length c0_1]] #[]] (by rfl) rfl rfl (by (try simp only [List.map_toArray, List.map_cons, List.map_nil]); first | done | rfl) ?_
    refine (reached_w (mayN l0_0 l0_1) (Kd.C_below HR0.out HB3.out) HC0.out (Kd.C_below HR1.out HB3.out) HC1.out (by have := HLE.out; omega) (fun k hk _ => HMAY.out k hk) (List.range l0_0.length) Ak ck HCK.out).mono ?_
    rintro e w4 ⟨M, ext, rfl, hW, hm4, hb4, _⟩
    refine ⟨_, rfl, ?_⟩
    have HB4 := Aside0.mk (HB3.out.trans (hb4.mono HB3.out.size))
    have BX4 := Aside0.mk (blk_below BX3.out hb4)
    have HM4 := Aside0.mk hm4
    have HW := Aside0.mk hW
    clear hb4 hm4 hW hHeld HB3 BX3 HCK
    refine hK.out _ _ ⟨(blk_cell BX4.out 0).trans rfl, (blk_cell BX4.out 1).trans rfl⟩ (fun hHeld => ?_)
    clear hK K
    refine norm_ (a' := ?_) ?_ ?_
    rotate_left
    · show Act.put _ (some 15) _ = _
      simp only [Act.put, List.setIfInBounds_toArray, List.set_cons_zero, List.set_cons_succ, i64_w, i32_w]
      rfl
    refine one_ (i := 7) (N := (some 16)) #[true, true, true, true, true, true, true, true, false, false, false, false, false] rfl rfl (by kernel_rfl) (by decide) (fun K hK => ?_)
    refine goes_ Try.func61 (by kernel_rfl) rfl #[.agg #[.slice A0_0 l0_0.length c0_0, .slice A0_1 l0_1.length c0_1], .map (some M)] (by rfl) rfl rfl (by (try simp only [List.map_toArray, List.map_cons, List.map_nil]); first | done | rfl) ?_
    have HEL : Aside0 (ext.length ≤ 100000 ∧ ∀ k ∈ ext, k < l0_0.length) := ⟨by
      have hlt : ∀ k ∈ ext, k < l0_0.length := fun k hk => madeB_lt (HW.out.sound k hk).1
      have := Topo.sub_len ext (List.range l0_0.length) HW.out.nodup (fun x hx => List.mem_range.2 (hlt x hx))
      rw [List.length_range] at this
      exact ⟨by have := HLE.out; omega, hlt⟩⟩
    refine (topo_w (mayN l0_0 l0_1) ext (Kd.C_below HR0.out HB4.out) HC0.out (Kd.C_below HR1.out HB4.out) HC1.out (by have := HLE.out; omega) HEL.out.1 (fun k hk _ => HMAY.out k hk) HM4.out).mono ?_
    intro e w5 hT
    rw [ext_topo HW.out] at hT
    obtain ⟨v5, rfl, hb5, _⟩ := topoP_ret hT
    refine ⟨_, rfl, ?_⟩
    have HB5 := Aside0.mk (HB4.out.trans (hb5.mono HB4.out.size))
    have BX5 := Aside0.mk (blk_below BX4.out hb5)
    rw [HRR.out]
    clear hb5 hT hHeld HB4 BX4 HM4 HW HEL
    refine hK.out _ _ ⟨(blk_cell BX5.out 0).trans rfl, (blk_cell BX5.out 1).trans rfl⟩ (fun hHeld => ?_)
    clear hK K
    refine norm_ (a' := ?_) ?_ ?_
    rotate_left
    · show Act.put _ (some 16) _ = _
      simp only [Act.put, List.setIfInBounds_toArray, List.set_cons_zero, List.set_cons_succ, i64_w, i32_w]
      rfl
    refine pure_ (i := 8) (N := (some 8)) (v := ?_) (a' := ?_) #[true, true, true, true, true, true, true, true, true, false, false, false, false] rfl rfl (by kernel_rfl) (fun _ _ _ h => h) (Or.inl ⟨by rfl, ?_⟩) ?_ ?_
    rotate_left
    · intro w'
      go_simp
      with_reducible rfl
    rotate_left
    · simp only [Act.put, List.setIfInBounds_toArray, List.set_cons_zero, List.set_cons_succ, i64_w, i32_w]
      rfl
    refine pure_ (i := 9) (N := (some 17)) (v := ?_) (a' := ?_) #[true, true, true, true, true, true, true, true, true, true, false, false, false] rfl rfl (by kernel_rfl) (fun _ _ _ h => h) (Or.inl ⟨by rfl, ?_⟩) ?_ ?_
    rotate_left
    · intro w'
      go_simp
      with_reducible rfl
    rotate_left
    · simp only [Act.put, List.setIfInBounds_toArray, List.set_cons_zero, List.set_cons_succ, i64_w, i32_w]
      rfl
    refine pure_ (i := 10) (N := (some 18)) (v := ?_) (a' := ?_) #[true, true, true, true, true, true, true, true, true, true, true, false, false] rfl rfl (by kernel_rfl) (fun _ _ _ h => h) (Or.inl ⟨by rfl, ?_⟩) ?_ ?_
    rotate_left
    · intro w'
      go_simp
      with_reducible rfl
    rotate_left
    · simp only [Act.put, List.setIfInBounds_toArray, List.set_cons_zero, List.set_cons_succ, i64_w, i32_w]
      rfl
    refine pure_ (i := 11) (N := (some 3)) (v := ?_) (a' := ?_) #[true, true, true, true, true, true, true, true, true, true, true, true, false] rfl rfl (by kernel_rfl) (fun _ _ _ h => h) (Or.inl ⟨by rfl, ?_⟩) ?_ ?_
    rotate_left
    · intro w'
      go_simp
      with_reducible rfl
    rotate_left
    · simp only [Act.put, List.setIfInBounds_toArray, List.set_cons_zero, List.set_cons_succ, i64_w, i32_w]
      rfl
    refine pure_ (i := 12) (N := (some 4)) (v := ?_) (a' := ?_) #[true, true, true, true, true, true, true, true, true, true, true, true, true] rfl rfl (by kernel_rfl) (fun _ _ _ h => h) (Or.inl ⟨by rfl, ?_⟩) ?_ ?_
    rotate_left
    · intro w'
      go_simp
      with_reducible rfl
    rotate_left
    · simp only [Act.put, List.setIfInBounds_toArray, List.set_cons_zero, List.set_cons_succ, i64_w, i32_w]
      rfl
    refine done_ (by kernel_rfl) ?_
    clear hHeld
    go_wp2
    go_ret
    exact ⟨rfl, HB5.out⟩
end Go.Proofs.Ythfemojaabejiaa.G
end
