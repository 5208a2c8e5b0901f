-- Written by pack.py (ours): the claim's texts, cut down to what its theorem reaches.
import Derived.Laws.EntriesVeiled
import Derived.Test.YthfemojaabejiaaKFnExactOrderTopo5
section
namespace Go.Proofs.Ythfemojaabejiaa.G
open Go.RowKit Go.Proofs.YthfemojaabejiaaW.PrintWords Go.Proofs.YthfemojaabejiaaW.PrintLast Go.Proofs.YthfemojaabejiaaW.PrintMore
set_option linter.unusedVariables false
set_option linter.unusedSimpArgs false
theorem blk_new' {w : World} {o : Obj} {n : Nat} (h : n = w.heap.size) : (w.alloc o).heap[n]? = some o := by subst h; exact blk_new w o
theorem reach_start (w : World) (A0 : Option Addr) (c0 n0 : Nat) (A1 : Option Addr) (c1 n1 : Nat) :
    ReachAt w w.heap.size (w.heap.size + 3) (w.heap.size + 4) (w.heap.size + 1) (w.heap.size + 2) A0 c0 n0 A1 c1 n1 []
      (((((w.alloc (.cells #[.slice A0 n0 c0, .slice A1 n1 c1] 30 (0, 0))).alloc (.cells #[.func (.func 64) #[.agg #[.slice A0 n0 c0, .slice A1 n1 c1]] #[]] 84 (0, 0))).alloc (.map #[] 0)).alloc (.cells #[.map (some (w.heap.size + 2))] 81 (0, 0))).alloc
        (.cells #[.func (.func 114) #[] #[.pointer (some ⟨w.heap.size, 0, none⟩), .pointer (some ⟨w.heap.size + 3, 0, none⟩), .pointer (some ⟨w.heap.size + 4, 0, none⟩), .pointer (some ⟨w.heap.size + 1, 0, none⟩)]] 145 (0, 0))) where
  below := (((((Below.refl w.heap.size w).alloc (Nat.le_refl _) _).alloc (by simp) _).alloc (by simp; omega) _).alloc (by simp; omega) _).alloc (by simp; omega) _
  hs := qa (qa (qa (qa (blk_new w _) _) _) _) _
  hn := qa (qa (qa (blk_new' (by simp)) _) _) _
  ho := qa (blk_new' (by simp)) _
  hw := blk_new' (by simp)
  hm := by
    have h := BSet.made ((w.alloc (.cells #[.slice A0 n0 c0, .slice A1 n1 c1] 30 (0, 0))).alloc (.cells #[.func (.func 64) #[.agg #[.slice A0 n0 c0, .slice A1 n1 c1]] #[]] 84 (0, 0))) Try.prog 3 4
    have e : ((w.alloc (.cells #[.slice A0 n0 c0, .slice A1 n1 c1] 30 (0, 0))).alloc (.cells #[.func (.func 64) #[.agg #[.slice A0 n0 c0, .slice A1 n1 c1]] #[]] 84 (0, 0))).heap.size = w.heap.size + 2 := by simp
    rw [e] at h
    have h2 : BSet _ Try.prog 3 4 (w.heap.size + 2) (castL []) := h
    exact (h2.kept (World.grownBy_alloc _ _ none) (by simp)).kept (World.grownBy_alloc _ _ none) (by simp)
  base := by omega
def ReachedP (w : World) (made : List Bool) (may : Nat → List Nat) (L : List Nat) (e : Ending) (w' : World) : Prop :=
  ∃ (M : Nat) (ext : List Nat), e = .returned (.map (some M)) ∧ Topo.Walked (fun k => made.getD k false) may L [] ext ∧ BSet w' Try.prog 3 4 M (castL ext) ∧ Below w.heap.size w w' ∧ w.heap.size ≤ M
set_option maxHeartbeats 8000000 in
set_option maxRecDepth 100000 in
theorem reached_w {w : World} {A0 : Option Addr} {c0 : Nat} {made : List Bool} {A1 : Option Addr} {c1 : Nat} {tasks : List Tk} (may : Nat → List Nat)
    (hr0 : Kd.C Kd.bool w A0 made.length made) (hc0 : made.length ≤ c0) (hr1 : Kd.C k141 w A1 tasks.length tasks) (hc1 : tasks.length ≤ c1) (hml : made.length ≤ 100000)
    (hmay : ∀ k, k < made.length → made.getD k false = true → ∃ kr, impl_Sheet_may.f kr made tasks (k : Int) = some (castL (may k))) (L : List Nat) (A : Option Addr) (c : Nat) (hrL : Kd.C (Kd.int .i64) w A L.length (castL L)) :
    Calls Try.prog 62 #[.agg #[.slice A0 made.length c0, .slice A1 tasks.length c1], .slice A L.length c, .func (.func 64) #[.agg #[.slice A0 made.length c0, .slice A1 tasks.length c1]] #[]] w (ReachedP w made may L) := by
  have HS := qM (reach_start w A0 c0 made.length A1 c1 tasks.length)
  have CK := qM (reach_w (w0 := w) may hr0 hc0 hr1 hc1 (by omega) hmay (made.length + 1) L [] _ A c (by simp) List.nodup_nil (fun k hk => by cases hk) HS.out (qB hrL (HS.out.below)))
  have hmf : ∀ (fn : Fn) (first cap : Array Value) (W : World), (Instr.makeFunc fn first cap).run Try.prog W = .ok (.func fn first cap) W := fun _ _ _ _ => rfl
  have hmm := @run_makeMap Try.prog
  have hu0 := Try.underlying30
  clear hr0 hc0 hr1 hc1 hml hmay hrL HS
  go_enter Try.func62, Try.ntmps62
  go_wp2_with (go_at_call 114; (with_reducible refine CK.out.mono ?_); rintro e w1 ⟨rfl, ext, hW, hR, hK⟩; have HR1 := qM hR; have HW1 := qM hW; have ho0 : w1.cell? ⟨w.heap.size + 1 + 1 + 1, 0, none⟩ = some (.map (some (w.heap.size + 2))) := (qC hR.ho 0).trans rfl; clear hR hW hK CK)
  go_ret
  exact ⟨_, ext, rfl, HW1.out, by have := HR1.out.hm; simpa using this, HR1.out.below, by omega⟩
end Go.Proofs.Ythfemojaabejiaa.G
end
section
namespace Go.Proofs.Ythfemojaabejiaa.G
open Go.RowKit Go.Proofs.YthfemojaabejiaaW.PrintWords Go.Proofs.YthfemojaabejiaaW.PrintLast Go.Proofs.YthfemojaabejiaaW.PrintMore
attribute [local go_sem] max2_int min2_int max_two min_two max_three min_three max_four min_four
set_option linter.unusedVariables false
set_option linter.unusedSimpArgs false
def slices_Index_int.l0 : Nat → List Int → Int → Int → Int → Option (Int)
  | 0, _, _, _, _ => none
  | k + 1, x0, x1, x7, x8 => if x8 < x7 then (if 0 ≤ x8 then (if x8 < (x0.length : Int) then (if x1 = (rd x0 x8) then (some x8) else (slices_Index_int.l0 k x0 x1 x7 (wrap64 (x8 + 1)))) else (none)) else (none)) else (some (-1))
def slices_Index_int.f (k : Nat) (l0 : List Int) (a1 : Int) : Option (Int) := slices_Index_int.l0 k l0 a1 (l0.length : Int) 0
set_option maxHeartbeats 8000000 in
set_option maxRecDepth 100000 in
theorem slices_Index_int.calls (k : Nat) (A0 : Option Addr) (c0 : Nat) (l0 : List Int) (a1 : Int) (r : Int) (w : World) (hr0 : Kd.C (Kd.int .i64) w A0 l0.length l0) (hc0 : l0.length ≤ c0) (h : slices_Index_int.f k l0 a1 = some r) :
    Calls Try.prog 139 #[.slice A0 l0.length c0, .int .i64 a1] w fun e w' => e = .returned (.int .i64 r) ∧ Drawn0 w w' := by
  have HR0 := qM hr0
  have HC0 := qM hc0
  clear hr0 hc0
  have H : (slices_Index_int.l0 k l0 a1 (l0.length : Int) 0) = some r := h
  clear h
  have H' := qM H
  clear H
  go_enter Try.func139, Try.ntmps139
  go_wp2
  go_loopg [8] k (fun kq v8 w' => ∃ (x8_1 : Int), v8 = .int .i64 x8_1 ∧ Aside0 (slices_Index_int.l0 kq l0 a1 (l0.length : Int) x8_1 = some r) ∧ Aside0 (kq ≤ k) ∧ Drawn0 w w')
  case atStart => exact ⟨(0), (by first | rfl | (simp; done) | (simp [*]; done)), H', ⟨Nat.le_refl _⟩, by repeat (first | exact Drawn0.refl _ | apply Drawn0.step)⟩
  case round =>
    clear H'
    try clear c1
    try clear p2
    obtain ⟨x8_1, rfl, HA, HK1, ⟨m1, rfl⟩⟩ := hrel
    cases gk with
    | zero => exact absurd HA.out (by simp [slices_Index_int.l0])
    | succ k1 =>
      have H := HA.out
      clear HA
      simp only [slices_Index_int.l0] at H
      by_cases c3 : x8_1 < (l0.length : Int)
      rotate_left
      · rw [if_neg c3] at H
        have c3b0 : decide (x8_1 < (l0.length : Int)) = false := decide_eq_false c3
        clear c3
        obtain rfl := Option.some.inj H
        go_wp2
        go_ret
        exact ⟨by first | rfl | (simp; done) | (simp [*]; done), by repeat (first | exact Drawn0.refl _ | apply Drawn0.step)⟩
      rw [if_pos c3] at H
      have c3b0 : decide (x8_1 < (l0.length : Int)) = true := decide_eq_true c3
      clear c3
      by_cases c4 : 0 ≤ x8_1
      rotate_left
      · rw [if_neg c4] at H
        exact absurd H (by simp)
      rw [if_pos c4] at H
      have c4b0 : decide (0 ≤ x8_1) = true := decide_eq_true c4
      clear c4
      by_cases c5 : x8_1 < (l0.length : Int)
      rotate_left
      · rw [if_neg c5] at H
        exact absurd H (by simp)
      rw [if_pos c5] at H
      have c5b0 : decide (x8_1 < (l0.length : Int)) = true := decide_eq_true c5
      clear c5
      by_cases c6 : a1 = (rd l0 x8_1)
      · rw [if_pos c6] at H
        have c6b0 : (a1 == (rd l0 x8_1)) = true := beq_iff_eq.mpr c6
        have c6b1 : (a1 != (rd l0 x8_1)) = false := bne_eq_false_iff_eq.mpr c6
        clear c6
        obtain rfl := Option.some.inj H
        have p224 : 0 ≤ (x8_1 : Int) := qO (by first | (with_reducible assumption) | assumption)
        have q224 : x8_1 < (l0.length : Int) := qO (by first | (with_reducible assumption) | assumption)
        obtain ⟨ad224, e224, hx224_0⟩ := Kd.at_int HR0.out x8_1 p224 q224
        cases e224
        replace p224 := eq_true p224
        replace q224 := eq_true q224
        go_wp2
        go_ret
        exact ⟨by first | rfl | (simp; done) | (simp [*]; done), by repeat (first | exact Drawn0.refl _ | apply Drawn0.step)⟩
      rw [if_neg c6] at H
      have c6b0 : (a1 == (rd l0 x8_1)) = false := beq_eq_false_iff_ne.mpr c6
      have c6b1 : (a1 != (rd l0 x8_1)) = true := bne_iff_ne.mpr c6
      have H' := qM H
      clear H
      have p224 : 0 ≤ (x8_1 : Int) := qO (by first | (with_reducible assumption) | assumption)
      have q224 : x8_1 < (l0.length : Int) := qO (by first | (with_reducible assumption) | assumption)
      obtain ⟨ad224, e224, hx224_0⟩ := Kd.at_int HR0.out x8_1 p224 q224
      cases e224
      replace p224 := eq_true p224
      replace q224 := eq_true q224
      go_wp2
      go_roundg k1
      case measure => have := HK1.out; omega
      case rel => exact ⟨(wrap64 (x8_1 + 1)), (by first | rfl | (simp; done) | (simp [*]; done)), H', ⟨by have := HK1.out; omega⟩, by repeat (first | exact Drawn0.refl _ | apply Drawn0.step)⟩
def slices_Contains_int.f (k : Nat) (l0 : List Int) (a1 : Int) : Option (Bool) := (slices_Index_int.f k l0 a1).bind fun t225 => (some (decide (t225 ≥ 0)))
set_option maxHeartbeats 8000000 in
set_option maxRecDepth 100000 in
theorem slices_Contains_int.calls (k : Nat) (A0 : Option Addr) (c0 : Nat) (l0 : List Int) (a1 : Int) (r : Bool) (w : World) (hr0 : Kd.C (Kd.int .i64) w A0 l0.length l0) (hc0 : l0.length ≤ c0) (h : slices_Contains_int.f k l0 a1 = some r) :
    Calls Try.prog 111 #[.slice A0 l0.length c0, .int .i64 a1] w fun e w' => e = .returned (.bool r) ∧ Drawn0 w w' := by
  have HR0 := qM hr0
  have HC0 := qM hc0
  clear hr0 hc0
  have H : ((slices_Index_int.f k l0 a1).bind fun t225 => (some (decide (t225 ≥ 0)))) = some r := h
  clear h
  replace H := Option.bind_eq_some_iff.mp H
  obtain ⟨t225, A30, H⟩ := H
  replace H : (some (decide (t225 ≥ 0))) = some r := H
  have A3 := qM A30
  clear A30
  obtain rfl := Option.some.inj H
  go_enter Try.func111, Try.ntmps111
  go_wp2_with (first | ((with_reducible refine gate_callee (f := 139) rfl ?_); refine goesL_ (some 7) rfl rfl Try.func139 (by kernel_rfl) rfl #[.slice A0 l0.length c0, .int .i64 a1] rfl (by (try simp only [List.map_toArray, List.map_cons, List.map_nil]); first | done | rfl | (simp only [List.length_drop, List.length_take]; rfl)) ?_; (with_reducible refine (slices_Index_int.calls k _ _ l0 a1 t225 _ ?side1 ?side2 A3.out).mono ?_); (case side1 => repeat (first | exact HR0.out | (with_reducible refine qc ?_ _) | (with_reducible refine qe ?_ _) | (with_reducible refine qf ?_))); (case side2 => exact HC0.out); rintro e w' ⟨rfl, ⟨nd, rfl⟩⟩; refine ⟨_, rfl, ?_⟩))
  go_ret
  exact ⟨by first | rfl | (simp; done) | (simp [*]; done), by repeat (first | exact Drawn0.refl _ | apply Drawn0.step)⟩
end Go.Proofs.Ythfemojaabejiaa.G
end
section
namespace Go.Proofs.Ythfemojaabejiaa.G
open Go.RowKit Go.Proofs.YthfemojaabejiaaW.PrintWords Go.Proofs.YthfemojaabejiaaW.PrintLast Go.Proofs.YthfemojaabejiaaW.PrintMore
set_option linter.unusedVariables false
set_option linter.unusedSimpArgs false
theorem index_f (l : List Int) (n : Int) (hl : l.length ≤ 9223372036854775807) : ∃ k, slices_Contains_int.f k l n = some (l.contains n) := by
  have rdI : ∀ (i : Nat) (h : i < l.length), rd l (i : Int) = l[i] := fun i h => by
    simp only [rd, Int.toNat_natCast, List.getD_eq_getElem?_getD, List.getElem?_eq_getElem h, Option.getD_some]
  have loop : ∀ (d i : Nat), d = l.length - i → i ≤ l.length → ∃ r : Int, slices_Index_int.l0 (d + 1) l n (l.length : Int) (i : Int) = some r ∧ decide (r ≥ 0) = (l.drop i).contains n := by
    intro d
    induction d with
    | zero =>
      intro i hd hi
      refine ⟨-1, ?_, ?_⟩
      · rw [slices_Index_int.l0, if_neg (by omega)]
      · rw [List.drop_of_length_le (by omega)]; rfl
    | succ d ih =>
      intro i hd hi
      have hlt : i < l.length := by omega
      rw [slices_Index_int.l0, if_pos (by omega), if_pos (by omega), if_pos (by omega), rdI i hlt, List.drop_eq_getElem_cons hlt]
      by_cases hc : n = l[i]
      · refine ⟨(i : Int), by rw [if_pos hc], ?_⟩
        rw [List.contains_cons, ← hc]
        simp
      · obtain ⟨r, h1, h2⟩ := ih (i + 1) (by omega) (by omega)
        refine ⟨r, ?_, ?_⟩
        · rw [if_neg hc, show wrap64 ((i : Int) + 1) = ((i + 1 : Nat) : Int) from by unfold wrap64; omega]
          exact h1
        · rw [h2, List.contains_cons, beq_eq_false_iff_ne.2 hc, Bool.false_or]
  obtain ⟨r, h1, h2⟩ := loop l.length 0 (by omega) (by omega)
  refine ⟨l.length + 1, ?_⟩
  unfold slices_Contains_int.f slices_Index_int.f
  rw [show ((0 : Nat) : Int) = 0 from rfl] at h1
  rw [h1, Option.bind_some, h2, List.drop_zero]
end Go.Proofs.Ythfemojaabejiaa.G
end
section
namespace Go.Proofs.Ythfemojaabejiaa.G
open Go.RowKit Go.Proofs.YthfemojaabejiaaW.PrintWords Go.Proofs.YthfemojaabejiaaW.PrintLast Go.Proofs.YthfemojaabejiaaW.PrintMore
set_option linter.unusedVariables false
set_option linter.unusedSimpArgs false
theorem wpList_bset_len {P : Program} {ops : Array Oper} {Q : Exit → Act → World → Prop} {rest : List Oper} {w : World} {o : Oper} {a : Act} (hg : o.guard = none) (m : Operand) (t : TypeId) (hop : o.op = Op.call { callee := Callee.builtin Builtin.len, args := #[m], argTypes := #[t] })
    {k e : TypeId} {b : Nat} {S : List Int} (h : BSet w P k e b S) (ht : P.underlying t = some (.map k e)) (hm : a.eval m = .map (some b)) (hK : wpList P ops Q rest (a.put o.dst (.int .i64 (S.length : Int))) w) : wpList P ops Q (o :: rest) a w := by
  refine wpList_plain hg fun K' hK' => ?_
  unfold Oper.wp
  simp [execOp, hop, resolve, invoke, builtin, hm, h.len ht o.type, Result.andThen]
  exact hK' _ _ hK
theorem contains_dec (l : List Int) (x : Int) : l.contains x = decide (x ∈ l) := by simp
set_option maxHeartbeats 8000000 in
set_option maxRecDepth 100000 in
theorem topo1_calls {Bo : Nat} {Ao : Option Addr} {co : Nat} {OL : List Int} (x : Int) (W : World) (hb : W.heap[Bo]? = some (.cells #[.slice Ao OL.length co] 34 (0, 0))) (hr : Kd.C (Kd.int .i64) W Ao OL.length OL) (hc : OL.length ≤ co) (hl : OL.length ≤ 1000000) :
    Calls Try.prog 113 #[.int .i64 x, .pointer (some ⟨Bo, 0, none⟩)] W fun e W' => e = .returned (.bool (!decide (x ∈ OL))) ∧ Below W.heap.size W W' := by
  obtain ⟨kc, hk⟩ := index_f OL x (by omega)
  rw [contains_dec] at hk
  have CK := qM (slices_Contains_int.calls kc Ao co OL x (decide (x ∈ OL)) W hr hc hk)
  have hq : W.cell? ⟨Bo, 0, none⟩ = some (.slice Ao OL.length co) := (qC hb 0).trans rfl
  clear hb hr hc hl hk
  go_enter Try.func113, Try.ntmps113
  go_wp2_with (go_at_call 111; refine CK.out.mono ?_; rintro e w1 ⟨rfl, ⟨m, rfl⟩⟩)
  go_ret
  exact ⟨rfl, qN (Below.refl _ _) m⟩
structure TopoAt (w0 : World) (Bs Bo : Nat) (A0 : Option Addr) (c0 n0 : Nat) (A1 : Option Addr) (c1 n1 : Nat) (out : List Nat) (W : World) : Prop where
  below : Below w0.heap.size w0 W
  hs : W.heap[Bs]? = some (.cells #[.slice A0 n0 c0, .slice A1 n1 c1] 30 (0, 0))
  ho : ∃ Ao co, W.heap[Bo]? = some (.cells #[.slice Ao (castL out).length co] 34 (0, 0)) ∧ Kd.R (Kd.int .i64) 3 W w0.heap.size (fun k => k ≠ Bs ∧ k ≠ Bo) (.slice Ao (castL out).length co) (castL out)
  bs : w0.heap.size ≤ Bs
  bo : w0.heap.size ≤ Bo
  ne : Bs ≠ Bo
theorem TopoAt.on {w0 W W' : World} {Bs Bo : Nat} {A0 : Option Addr} {c0 n0 : Nat} {A1 : Option Addr} {c1 n1 : Nat} {out : List Nat} (h : TopoAt w0 Bs Bo A0 c0 n0 A1 c1 n1 out W) (hb : Below W.heap.size W W') : TopoAt w0 Bs Bo A0 c0 n0 A1 c1 n1 out W' := by
  obtain ⟨Ao, co, h1, h2⟩ := h.ho
  exact ⟨h.below.trans (hb.mono h.below.size), blk_below h.hs hb, ⟨Ao, co, blk_below h1 hb, Kd.R_below h2 hb⟩, h.bs, h.bo, h.ne⟩
def TopoP (w0 : World) (r : Option (List Nat)) (e : Ending) (W : World) : Prop :=
  Below w0.heap.size w0 W ∧ match r with
    | none => e = .returned (.tuple #[.slice none 0 0, .bool false])
    | some l => ∃ v, e = .returned (.tuple #[v, .bool true]) ∧ Kd.R (Kd.int .i64) 3 W w0.heap.size (fun _ => True) v (castL l)
theorem contains_cast (l : List Nat) (x : Nat) : (castL l).contains (x : Int) = l.contains x := by
  rw [Bool.eq_iff_iff, List.contains_iff_mem, List.contains_iff_mem, castL_mem]
theorem any_cast (l out : List Nat) : ((castL l).any fun x => !decide (x ∈ castL out)) = !(l.all fun j => out.contains j) := by
  induction l with
  | nil => rfl
  | cons y l ih =>
    show (!decide ((y : Int) ∈ castL out) || (castL l).any fun x => !decide (x ∈ castL out)) = _
    rw [ih, ← contains_dec, contains_cast, List.all_cons]
    cases out.contains y <;> simp
theorem pick_at {n : Nat} {need : Nat → Bool} {may : Nat → List Nat} {out : List Nat} {i : Nat} (hi : i < n) (h : ∀ j, j < i → Topo.free need may out j = false) (hf : Topo.free need may out i = true) : Topo.pick n need may out = some i := by
  unfold Topo.pick
  rw [List.find?_eq_some_iff_getElem]
  refine ⟨hf, i, by rw [List.length_range]; exact hi, by simp, fun j hj => ?_⟩
  simp [h j hj]
theorem pick_no {n : Nat} {need : Nat → Bool} {may : Nat → List Nat} {out : List Nat} (h : ∀ j, j < n → Topo.free need may out j = false) : Topo.pick n need may out = none := by
  unfold Topo.pick
  rw [List.find?_eq_none]
  intro x hx
  rw [List.mem_range] at hx
  simp [h x hx]
theorem topo_tells {w0 w2 : World} {Bs Bo : Nat} {A0 : Option Addr} {c0 n0 : Nat} {A1 : Option Addr} {c1 n1 : Nat} {out : List Nat} (h : TopoAt w0 Bs Bo A0 c0 n0 A1 c1 n1 out w2) (hl : (castL out).length ≤ 1000000) (l : List Int) : Tells 113 #[.pointer (some ⟨Bo, 0, none⟩)] (Value.int .i64) (fun x => !decide (x ∈ castL out)) w2 l := by
  intro x _ W hW
  obtain ⟨Ao, co, hbo, hro⟩ := h.ho
  have h1 := Kd.R_reads' hro
  exact topo1_calls x W (blk_below hbo hW) (qB h1.2.2 hW) h1.2.1 hl
set_option maxHeartbeats 16000000 in
set_option maxRecDepth 100000 in
theorem topo_w {w : World} {M : Nat} {A0 : Option Addr} {c0 : Nat} {made : List Bool} {A1 : Option Addr} {c1 : Nat} {tasks : List Tk} (may : Nat → List Nat) (NL : List Nat)
    (hr0 : Kd.C Kd.bool w A0 made.length made) (hc0 : made.length ≤ c0) (hr1 : Kd.C k141 w A1 tasks.length tasks) (hc1 : tasks.length ≤ c1) (hml : made.length ≤ 100000) (hnl : NL.length ≤ 100000)
    (hmay : ∀ k, k < made.length → k ∈ NL → ∃ kr, impl_Sheet_may.f kr made tasks (k : Int) = some (castL (may k))) (hset : BSet w Try.prog 3 4 M (castL NL)) :
    Calls Try.prog 61 #[.agg #[.slice A0 made.length c0, .slice A1 tasks.length c1], .map (some M)] w (TopoP w (Topo.topo made.length (fun k => NL.contains k) may NL.length [])) := by
  have HR0 := qM hr0
  have HC0 := qM hc0
  have HR1 := qM hr1
  have HC1 := qM hc1
  have HML := qM hml
  have HNL := qM hnl
  have HMAY := qM hmay
  have HSET := qM hset
  have hu0 := Try.underlying30
  have HT0 : Aside0 (TopoAt w w.heap.size (w.heap.size + 1) A0 c0 made.length A1 c1 tasks.length [] ((w.alloc (.cells #[.slice A0 made.length c0, .slice A1 tasks.length c1] 30 (0, 0))).alloc (.cells #[.slice none 0 0] 34 (0, 0)))) := ⟨{
    below := ((Below.refl w.heap.size w).alloc (Nat.le_refl _) _).alloc (by simp) _
    hs := qa (blk_new w _) _
    ho := ⟨none, 0, by have := blk_new (w.alloc (.cells #[.slice A0 made.length c0, .slice A1 tasks.length c1] 30 (0, 0))) (.cells #[.slice none 0 0] 34 (0, 0)); simpa [castL] using this, Kd.R_nil _ _ _ _ _⟩
    bs := Nat.le_refl _
    bo := by omega
    ne := by omega }⟩
  clear hr0 hc0 hr1 hc1 hml hnl hmay hset
  go_enter Try.func61, Try.ntmps61
  go_wp2
  go_step3
  go_wp2
  go_step3
  go_wp2
  have hmf : ∀ (fn : Fn) (first cap : Array Value) (W : World), (Instr.makeFunc fn first cap).run Try.prog W = .ok (.func fn first cap) W := fun _ _ _ _ => rfl
  go_loopg [7] NL.length (fun kq v7 w' => ∃ out : List Nat, Aside0 (out.length + kq = NL.length) ∧ Aside0 (Topo.topo made.length (fun k => NL.contains k) may NL.length [] = Topo.topo made.length (fun k => NL.contains k) may kq out) ∧ Aside0 (TopoAt w w.heap.size (w.heap.size + 1) A0 c0 made.length A1 c1 tasks.length out w'))
  case atStart => exact ⟨[], ⟨by simp⟩, ⟨rfl⟩, HT0⟩
  case round =>
    clear HT0
    obtain ⟨out, HOL, HTE, HTA⟩ := hrel
    have HOLB : Aside0 ((castL out).length ≤ 1000000) := ⟨by rw [castL_len]; have := HOL.out; have := HNL.out; omega⟩
    obtain ⟨Ao, co, hbo, hro⟩ := HTA.out.ho
    have HRO := qM hro
    have HBO := qM hbo
    have hq0 : wr.cell? ⟨w.heap.size + 1, 0, none⟩ = some (.slice Ao (castL out).length co) := (qC hbo 0).trans rfl
    have hs0 : wr.cell? ⟨w.heap.size, 0, none⟩ = some (.slice A0 made.length c0) := (qC HTA.out.hs 0).trans rfl
    have hs1 : wr.cell? ⟨w.heap.size, 1, none⟩ = some (.slice A1 tasks.length c1) := (qC HTA.out.hs 1).trans rfl
    have HSET1 := qM (HSET.out.move (HTA.out.below.block M HSET.out.lt))
    clear hbo hro
    cases gk with
    | zero =>
      have hlen : decide ((castL out).length < (castL NL).length) = false := decide_eq_false (by rw [castL_len, castL_len]; have := HOL.out; omega)
      go_wp2_with (at_len; refine wpList_bset_len rfl _ 81 rfl HSET1.out Try.underlying81 rfl ?_)
      try rw [Exit.noGoto_ret]
      go_ret2
      refine ⟨HTA.out.below, ?_⟩
      rw [HTE.out]
      exact ⟨_, rfl, Kd.R_mono HRO.out (fun _ _ => trivial)⟩
    | succ g =>
      have hlen : decide ((castL out).length < (castL NL).length) = true := decide_eq_true (by rw [castL_len, castL_len]; have := HOL.out; omega)
      go_wp2_with (at_len; refine wpList_bset_len rfl _ 81 rfl HSET1.out Try.underlying81 rfl ?_)
      clear hlen hq0 hs0 hs1
      obtain ⟨wo, rfl⟩ : ∃ wo : World, wo = wr := ⟨_, rfl⟩
      go_loopg [16] made.length (fun kq v16 w' => ∃ i : Nat, v16 = .int .i64 (i : Int) ∧ Aside0 (i + kq = made.length) ∧ Aside0 (∀ j, j < i → Topo.free (fun k => NL.contains k) may out j = false) ∧ Aside0 (TopoAt w w.heap.size (w.heap.size + 1) A0 c0 made.length A1 c1 tasks.length out w'))
      case atStart => exact ⟨0, by simp, ⟨by omega⟩, ⟨fun j h => by omega⟩, HTA⟩
      case round =>
        clear HTA HRO HBO HSET1
        obtain ⟨i, rfl, HIK, HFR, HTA⟩ := hrel
        obtain ⟨Ao, co, hbo, hro⟩ := HTA.out.ho
        have HRO := qM hro
        have HBO := qM hbo
        have hq0 : wr.cell? ⟨w.heap.size + 1, 0, none⟩ = some (.slice Ao (castL out).length co) := (qC hbo 0).trans rfl
        have hs0 : wr.cell? ⟨w.heap.size, 0, none⟩ = some (.slice A0 made.length c0) := (qC HTA.out.hs 0).trans rfl
        have hs1 : wr.cell? ⟨w.heap.size, 1, none⟩ = some (.slice A1 tasks.length c1) := (qC HTA.out.hs 1).trans rfl
        have HSET1 := qM (HSET.out.move (HTA.out.below.block M HSET.out.lt))
        clear hbo hro
        cases gk with
        | zero =>
          have hi : i = made.length := by have := HIK.out; omega
          have hge : made.length ≤ i := by omega
          have hge2 : ¬ (i < made.length) := by omega
          have HIE := qM hi
          clear hi
          go_wp2
          try rw [Exit.noGoto_ret]
          go_ret2
          refine ⟨HTA.out.below, ?_⟩
          rw [HTE.out]
          unfold Topo.topo
          rw [pick_no (fun j hj => HFR.out j (by rw [HIE.out]; exact hj))]
          rfl
        | succ gi =>
          have hlt : i < made.length := by have := HIK.out; omega
          have HLT := qM hlt
          have hmax : (i : Int) + 1 ≤ 9223372036854775807 := by have := HML.out; omega
          have HWF : Aside0 ((Lit.int .i64 (i : Int)).wf = true) := ⟨WalkArith.wf_i64 (by omega)⟩
          have hlk := HSET1.out.look Try.underlying81 Try.underlying3 Try.underlying4 (zeroBool _) HWF.out
          have HNF : Topo.free (fun k => NL.contains k) may out i = false → Aside0 (∀ j, j < i + 1 → Topo.free (fun k => NL.contains k) may out j = false) := fun h => ⟨fun j hj => by
            rcases Nat.lt_or_ge j i with h1 | h1
            · exact HFR.out j h1
            · have : j = i := by omega
              rw [this]; exact h⟩
          by_cases hn : i ∈ NL
          · rw [decide_eq_true ((castL_mem _ _).2 hn)] at hlk
            obtain ⟨kc, hkc⟩ := index_f (castL out) (i : Int) (by have := HOLB.out; omega)
            rw [contains_cast] at hkc
            by_cases ho : out.contains i = true
            · rw [ho] at hkc
              have HKC := qM hkc
              have HFF := HNF (by simp only [Topo.free]; rw [ho]; simp)
              clear hkc ho hn HNF
              go_wp2_with (go_at_call 111; refine (slices_Contains_int.calls kc Ao co (castL out) (i : Int) _ _ (Kd.R_reads' HRO.out).2.2 (Kd.R_reads' HRO.out).2.1 HKC.out).mono ?_; rintro e w1 ⟨rfl, ⟨m, rfl⟩⟩; have TA1 := qM (HTA.out.on (qN (Below.refl _ _) m)); clear hq0 hs0 hs1; have hs0 : (wr.drewN m).cell? ⟨w.heap.size, 0, none⟩ = some (.slice A0 made.length c0) := (qC TA1.out.hs 0).trans rfl; have hs1 : (wr.drewN m).cell? ⟨w.heap.size, 1, none⟩ = some (.slice A1 tasks.length c1) := (qC TA1.out.hs 1).trans rfl; generalize wr.drewN m = w1 at TA1 hs0 hs1 ⊢; clear hlk)
              go_roundg gi
              case measure => omega
              case rel => exact ⟨i + 1, by go_num, ⟨by have := HIK.out; omega⟩, HFF, TA1⟩
            · have ho' : out.contains i = false := by simpa using ho
              rw [ho'] at hkc
              have HKC := qM hkc
              obtain ⟨kr, hkr⟩ := HMAY.out i HLT.out hn
              have HKR := qM hkr
              have HEN : Aside0 (∀ (args : Array Value) (W : World), (callFunc 113 args).run Try.prog W = .ok (.enter 113 args) W) := ⟨enters_fn Try.func113 (by kernel_rfl) rfl⟩
              by_cases hf : ((may i).all fun j => out.contains j) = true
              · have HFA := qM hf
                have HPK := qM (pick_at (n := made.length) HLT.out HFR.out (by simp only [Topo.free]; rw [ho', hf, List.contains_iff_mem.2 hn]; rfl))
                clear hkc ho ho' hkr hf hn HNF
                go_wp2_with (first | (go_at_call 111; refine (slices_Contains_int.calls kc Ao co (castL out) (i : Int) _ _ (Kd.R_reads' HRO.out).2.2 (Kd.R_reads' HRO.out).2.1 HKC.out).mono ?_; rintro e w1 ⟨rfl, ⟨m, rfl⟩⟩; have TA1 := qM (HTA.out.on (qN (Below.refl _ _) m)); clear hq0 hs0 hs1; have hs0 : (wr.drewN m).cell? ⟨w.heap.size, 0, none⟩ = some (.slice A0 made.length c0) := (qC TA1.out.hs 0).trans rfl; have hs1 : (wr.drewN m).cell? ⟨w.heap.size, 1, none⟩ = some (.slice A1 tasks.length c1) := (qC TA1.out.hs 1).trans rfl; generalize wr.drewN m = w1 at TA1 hs0 hs1 ⊢; clear hlk) | (go_at_call 64; refine (impl_Sheet_may.calls kr A0 c0 made A1 c1 tasks (i : Int) _ _ (qB HR0.out TA1.out.below) HC0.out (qB HR1.out TA1.out.below) HC1.out HKR.out).mono ?_; rintro e w2 ⟨vm, rfl, hvm, hb2⟩; have TA2 := qM (TA1.out.on hb2); obtain ⟨Am, cm, rfl, _, hCm⟩ := Kd.R_reads hvm; have HCM := qM hCm; clear hvm hb2 hCm hs0 hs1) | (go_at_call 112; refine (containsFunc_int 113 #[.pointer (some ⟨w.heap.size + 1, 0, none⟩)] (fun x => !decide (x ∈ castL out)) Am cm (castL (may i)) _ HCM.out HEN.out (topo_tells TA2.out HOLB.out _)).mono ?_; rintro e w3 ⟨rfl, hb3⟩; rw [any_cast, HFA.out]; have TA3 := qM (TA2.out.on hb3); clear hb3; obtain ⟨A3, c3, hbo3, hro3⟩ := TA3.out.ho; have HBO3 := qM hbo3; have HRO3 := qM hro3; have hq3 : w3.cell? ⟨w.heap.size + 1, 0, none⟩ = some (.slice A3 (castL out).length c3) := (qC hbo3 0).trans rfl; clear hbo3 hro3) | (at_builtin; refine Kd.R_append (Kd.int .i64) (w0 := w) w.heap.size rfl (.tmp 34) (.tmp 36) 34 3 (.int .i64 0) 8 rfl Try.underlying34 infoInt rfl (by decide) (by omega) (.slice A3 (castL out).length c3) (castL out) (i : Int) [.int .i64 (i : Int)] (fun k => k ≠ w.heap.size ∧ k ≠ w.heap.size + 1) (fun _ => False) rfl rfl ?aP (fun _ hk => hk.elim) ?aF ?aO ?aB ?aS ?aL ?_; (case aP => rfl); (case aB => exact TA3.out.below); (case aF => exact (fun k hk => by have h1 := TA3.out.below.size; have h2 := blk_lt HBO3.out; omega)); (case aO => exact HRO3.out); (case aS => exact TA3.out.below.size); (case aL => have := HOLB.out; omega); intro v4 w4 ho hb hg hat; obtain ⟨A4, c4, e4⟩ := Kd.R_slice ho; subst e4; have hbo4 := blk_grown HBO3.out hg (Kd.R_away HRO3.out (fun k hk e => hk.2 e)); have hs4 := blk_grown TA3.out.hs hg (Kd.R_away HRO3.out (fun k hk e => hk.1 e)); have HBO4 := qM hbo4; have HS4 := qM hs4; have HRO4 := qM ho; have HB4 := qM hb; clear hq3; have hq4 : w4.cell? ⟨w.heap.size + 1, 0, none⟩ = some (.slice A3 (castL out).length c3) := (qC hbo4 0).trans rfl; have hf4 := qF hbo4 0; clear ho hb hg hat hbo4 hs4))
                go_roundg g
                case measure => omega
                case rel =>
                  refine ⟨out ++ [i], ⟨by rw [List.length_append, List.length_singleton]; have := HOL.out; omega⟩, ⟨?_⟩, ⟨?_⟩⟩
                  · rw [HTE.out]
                    conv => lhs; unfold Topo.topo
                    rw [HPK.out]
                  · exact ⟨HB4.out.setCell (p := ⟨w.heap.size + 1, 0, none⟩) (by simp) _, blk_far (p := ⟨w.heap.size + 1, 0, none⟩) HS4.out (by simp) _, ⟨A4, c4, by have h5 := blk_put HBO4.out 0 (.slice A4 ((castL out).length + 1) c4) rfl; rw [castL_snoc, List.length_append, List.length_singleton]; exact h5, by rw [castL_snoc]; exact Kd.R_far (p := ⟨w.heap.size + 1, 0, none⟩) HRO4.out (fun k hk => hk.2) _⟩, Nat.le_refl _, by omega, by omega⟩
              · have hf' : ((may i).all fun j => out.contains j) = false := by simpa using hf
                have HFA := qM hf'
                have HFF := HNF (by simp only [Topo.free]; rw [hf', Bool.and_false])
                clear hkc ho ho' hkr hf hf' hn HNF
                go_wp2_with (first | (go_at_call 111; refine (slices_Contains_int.calls kc Ao co (castL out) (i : Int) _ _ (Kd.R_reads' HRO.out).2.2 (Kd.R_reads' HRO.out).2.1 HKC.out).mono ?_; rintro e w1 ⟨rfl, ⟨m, rfl⟩⟩; have TA1 := qM (HTA.out.on (qN (Below.refl _ _) m)); clear hq0 hs0 hs1; have hs0 : (wr.drewN m).cell? ⟨w.heap.size, 0, none⟩ = some (.slice A0 made.length c0) := (qC TA1.out.hs 0).trans rfl; have hs1 : (wr.drewN m).cell? ⟨w.heap.size, 1, none⟩ = some (.slice A1 tasks.length c1) := (qC TA1.out.hs 1).trans rfl; generalize wr.drewN m = w1 at TA1 hs0 hs1 ⊢; clear hlk) | (go_at_call 64; refine (impl_Sheet_may.calls kr A0 c0 made A1 c1 tasks (i : Int) _ _ (qB HR0.out TA1.out.below) HC0.out (qB HR1.out TA1.out.below) HC1.out HKR.out).mono ?_; rintro e w2 ⟨vm, rfl, hvm, hb2⟩; have TA2 := qM (TA1.out.on hb2); obtain ⟨Am, cm, rfl, _, hCm⟩ := Kd.R_reads hvm; have HCM := qM hCm; clear hvm hb2 hCm hs0 hs1) | (go_at_call 112; refine (containsFunc_int 113 #[.pointer (some ⟨w.heap.size + 1, 0, none⟩)] (fun x => !decide (x ∈ castL out)) Am cm (castL (may i)) _ HCM.out HEN.out (topo_tells TA2.out HOLB.out _)).mono ?_; rintro e w3 ⟨rfl, hb3⟩; rw [any_cast, HFA.out]; have TA3 := qM (TA2.out.on hb3); clear hb3))
                go_roundg gi
                case measure => omega
                case rel => exact ⟨i + 1, by go_num, ⟨by have := HIK.out; omega⟩, HFF, TA3⟩
          · rw [decide_eq_false (fun h => hn ((castL_mem _ _).1 h))] at hlk
            have HFF := HNF (by simp only [Topo.free]; rw [show NL.contains i = false by simpa using hn]; simp)
            clear hn HNF
            go_wp2
            go_roundg gi
            case measure => omega
            case rel => exact ⟨i + 1, by go_num, ⟨by have := HIK.out; omega⟩, HFF, HTA⟩
end Go.Proofs.Ythfemojaabejiaa.G
end
section
namespace Go.Proofs.Ythfemojaabejiaa.G
open Go.RowKit Go.Proofs.YthfemojaabejiaaW.PrintWords
set_option linter.unusedVariables false
set_option linter.unusedSimpArgs false
theorem isKey_ev (a : Int) : impl_isKey.f a = some (decide (0 ≤ a ∧ a < 10)) := by
  unfold impl_isKey.f
  by_cases h : a ≥ 0
  · rw [if_pos h]; simp only [ge_iff_le] at h; simp [h]
  · rw [if_neg h]; simp only [ge_iff_le] at h; simp [h]
theorem isValue_ev (a : Int) : impl_isValue.f a = some (decide (0 ≤ a ∧ a ≤ 96)) := by
  unfold impl_isValue.f
  by_cases h : a ≥ 0
  · rw [if_pos h]; simp only [ge_iff_le] at h; simp [h]
  · rw [if_neg h]; simp only [ge_iff_le] at h; simp [h]
theorem ite_prop (P : Prop) [Decidable P] (c : Bool) : (if P then some c else some false) = some (decide P && c) := by by_cases h : P <;> simp [h]
theorem fits_now (k : Nat) (a b : Int) (l : List Tk) : impl_Task_fits.f (k + 1) a b l = some (shapeB a b l.length) := by
  unfold impl_Task_fits.f
  have e0 : ∀ m : Nat, ((l.length : Int) == (m : Int)) = decide (l.length = m) := fun m => by rw [Bool.eq_iff_iff]; simp only [beq_iff_eq, decide_eq_true_eq]; omega
  have e1 : ((l.length : Int) == 0) = decide (l.length = 0) := e0 0
  have e2 : ((l.length : Int) == 1) = decide (l.length = 1) := e0 1
  have e3 : ((l.length : Int) == 2) = decide (l.length = 2) := e0 2
  have e4 : ((l.length : Int) == 3) = decide (l.length = 3) := e0 3
  simp only [impl_Task_fits.j0, isKey_ev, isValue_ev, Option.bind_some, e1, e2, e3, e4, ite_prop, Bool.decide_eq_true]
  clear e0 e1 e2 e3 e4
  unfold shapeB
  by_cases h0 : a = 0
  · simp only [h0, if_true]
  by_cases h1 : a = 1
  · simp only [h0, h1, if_true, if_false, show ¬ ((1 : Int) = 0) by decide]
  by_cases h2 : a = 2
  · simp only [h2, if_true, if_false, show ¬ ((2 : Int) = 0) by decide, show ¬ ((2 : Int) = 1) by decide, show ((2 : Int) == 2) = true by decide]
  by_cases h3 : a = 3
  · simp only [h3, if_true, if_false, show ¬ ((3 : Int) = 0) by decide, show ¬ ((3 : Int) = 1) by decide, show ¬ ((3 : Int) = 2) by decide, show ((3 : Int) == 3) = true by decide]
  have h3b : (a == 3) = false := beq_eq_false_iff_ne.mpr h3
  by_cases h4 : a = 4
  · simp only [h4, if_true, if_false, show ¬ ((4 : Int) = 0) by decide, show ¬ ((4 : Int) = 1) by decide, show ¬ ((4 : Int) = 2) by decide, show ¬ ((4 : Int) = 3) by decide, show ((4 : Int) == 3) = false by decide, Bool.false_eq_true, decide_true, Bool.true_and]
  by_cases h5 : a = 5
  · simp only [h5, if_true, if_false, show ¬ ((5 : Int) = 0) by decide, show ¬ ((5 : Int) = 1) by decide, show ¬ ((5 : Int) = 2) by decide, show ¬ ((5 : Int) = 3) by decide, show ¬ ((5 : Int) = 4) by decide, show ((5 : Int) == 3) = false by decide, Bool.false_eq_true, decide_true, Bool.true_and]
  simp only [h0, h1, h2, h3, h4, h5, h3b, if_false, Bool.false_eq_true, decide_false, Bool.false_and]
theorem fits_ev (a b : Int) (l : List Tk) : Ev (fun k => impl_Task_fits.f k a b l) (shapeB a b l.length) := ⟨1, fun k hk => by
  obtain ⟨m, rfl⟩ : ∃ m, k = m + 1 := ⟨k - 1, by omega⟩
  exact fits_now m a b l⟩
end Go.Proofs.Ythfemojaabejiaa.G
end
section
namespace Go.Proofs.Ythfemojaabejiaa.G
open Go.RowKit Go.Proofs.YthfemojaabejiaaW.PrintWords
set_option linter.unusedVariables false
set_option linter.unusedSimpArgs false
theorem Ev.eq {α : Type} {g : Nat → Option α} {r r' : α} (h : Ev g r) (e : r = r') : Ev g r' := e ▸ h
theorem Ev.of_eq {α : Type} {o : Option α} {r : α} (h : o = some r) : Ev (fun _ => o) r := ⟨0, fun _ _ => h⟩
def CountsTo (t : Tk) (room r : Int) : Prop := ((fitT t = true ∧ (nodT t : Int) ≤ room) → r = nodT t) ∧ (¬ (fitT t = true ∧ (nodT t : Int) ≤ room) → room < r) ∧ 1 ≤ r ∧ r ≤ 16 + 16 * room
theorem countTo_loop (ps : List Tk) (hlen : ps.length ≤ 3) (room : Int) (h0 : 0 ≤ room) (h1 : room ≤ 15)
    (ih : ∀ p ∈ ps, ∀ rm : Int, 0 ≤ rm → rm ≤ 15 → ∃ r, Ev (fun k => impl_Task_countTo.f k p.f0 p.f1 p.f2 rm) r ∧ CountsTo p rm r) :
    ∀ (d i : Nat) (n : Int), d = ps.length - i → i ≤ ps.length → 1 ≤ n → n ≤ 16 + 16 * room →
      ∃ r, Ev (fun k => impl_Task_countTo.l0 k room n ps (ps.length : Int) (i : Int)) r ∧ ((fitL (ps.drop i) = true ∧ n + (nodL (ps.drop i) : Int) ≤ room) → r = n + nodL (ps.drop i)) ∧ (¬ (fitL (ps.drop i) = true ∧ n + (nodL (ps.drop i) : Int) ≤ room) → room < r) ∧ 1 ≤ r ∧ r ≤ 16 + 16 * room := by
  intro d
  induction d with
  | zero =>
    intro i n hd hi hn hn2
    have e : i = ps.length := by omega
    subst e
    refine ⟨n, Ev.step (fun k => by rw [impl_Task_countTo.l0]) ?_, ?_⟩
    · simp only [if_neg (show ¬ ((ps.length : Int) < (ps.length : Int)) by omega)]
      exact Ev.now n
    · simp only [List.drop_length, fitL, nodL]
      refine ⟨fun _ => by simp, fun h => ?_, hn, hn2⟩
      simp at h
      omega
  | succ d ihd =>
    intro i n hd hi hn hn2
    have hlt : i < ps.length := by omega
    have hrd := rd_tk ps i hlt
    have hdr := drop_tk ps i hlt
    have hmem : ps[i] ∈ ps := List.getElem_mem hlt
    by_cases hg : n > room
    · refine ⟨16, Ev.step (fun k => by rw [impl_Task_countTo.l0]) ?_, fun h => ?_, fun _ => by omega, by omega, by omega⟩
      · simp only [if_pos (show (i : Int) < (ps.length : Int) by omega), if_pos (show (0 : Int) ≤ (i : Int) by omega), if_pos hg]
        exact Ev.now 16
      · exfalso
        have := h.2
        omega
    · obtain ⟨c, hc, hc1, hc2, hc3, hc4⟩ := ih ps[i] hmem (room - n) (by omega) (by omega)
      obtain ⟨r, hr, hr1, hr2, hr3, hr4⟩ := ihd (i + 1) (n + c) (by omega) (by omega) (by omega) (by omega)
      refine ⟨r, Ev.step (fun k => by rw [impl_Task_countTo.l0]) ?_, ?_, ?_, hr3, hr4⟩
      · simp only [if_pos (show (i : Int) < (ps.length : Int) by omega), if_pos (show (0 : Int) ≤ (i : Int) by omega), if_neg hg, hrd]
        rw [wrap_id (room - n) (by omega) (by omega), wrap_nat i (by omega)]
        refine Ev.bind hc ?_
        simp only [wrap_id (n + c) (by omega) (by omega)]
        exact hr
      · rw [hdr]
        simp only [fitL, nodL, Bool.and_eq_true]
        rintro ⟨⟨f1, f2⟩, h3⟩
        have e := hc1 ⟨f1, by omega⟩
        rw [hr1 ⟨f2, by omega⟩]
        omega
      · rw [hdr]
        simp only [fitL, nodL, Bool.and_eq_true]
        intro hno
        by_cases hp : fitT ps[i] = true ∧ (nodT ps[i] : Int) ≤ room - n
        · have e := hc1 hp
          exact hr2 (fun h => hno ⟨⟨hp.1, h.1⟩, by have := h.2; omega⟩)
        · have := hc2 hp
          exact hr2 (fun h => by have := h.2; omega)
theorem countTo_ev : ∀ t : Tk, ∀ room : Int, 0 ≤ room → room ≤ 15 → ∃ r, Ev (fun k => impl_Task_countTo.f k t.f0 t.f1 t.f2 room) r ∧ CountsTo t room r := by
  refine tk_ind fun t ih room h0 h1 => ?_
  by_cases hr : room < 1
  · refine ⟨16, Ev.step (fun k => by rw [impl_Task_countTo.f]) ?_, ?_, ?_, by omega, by omega⟩
    · simp only [if_pos hr]
      refine Ev.step (fun k => by rw [impl_Task_countTo.j0]) ?_
      simp only [if_true]
      exact Ev.now 16
    · rintro ⟨_, h⟩
      have := nodT_pos t
      omega
    · intro _
      omega
  · have hshape := fits_ev t.f0 t.f1 t.f2
    by_cases hf : shapeB t.f0 t.f1 t.f2.length = true
    · obtain ⟨r, hr1, hr2, hr3, hr4, hr5⟩ := countTo_loop t.f2 (shapeB_len hf) room h0 h1 ih t.f2.length 0 1 (by omega) (by omega) (by omega) (by omega)
      refine ⟨r, Ev.step (fun k => by rw [impl_Task_countTo.f]) ?_, ?_, ?_, hr4, hr5⟩
      · simp only [if_neg hr]
        refine Ev.bind hshape ?_
        simp only [hf, Bool.not_true]
        refine Ev.step (fun k => by rw [impl_Task_countTo.j0]) ?_
        simp only [Bool.false_eq_true, if_false]
        exact hr1
      · rw [fitT_eq, nodT_eq, hf]
        simp only [List.drop_zero, Bool.true_and] at hr2 ⊢
        rintro ⟨a, b⟩
        rw [hr2 ⟨a, by omega⟩]
        omega
      · rw [fitT_eq, nodT_eq, hf]
        simp only [List.drop_zero, Bool.true_and] at hr3 ⊢
        intro h
        exact hr3 (fun ⟨a, b⟩ => h ⟨a, by omega⟩)
    · refine ⟨16, Ev.step (fun k => by rw [impl_Task_countTo.f]) ?_, ?_, ?_, by omega, by omega⟩
      · simp only [if_neg hr]
        refine Ev.bind hshape ?_
        simp only [Bool.not_eq_true] at hf
        simp only [hf, Bool.not_false]
        refine Ev.step (fun k => by rw [impl_Task_countTo.j0]) ?_
        simp only [if_true]
        exact Ev.now 16
      · rw [fitT_eq]
        intro h
        simp [hf] at h
      · intro _
        omega
theorem count_loop (ps : List Tk) (hlen : ps.length ≤ 3) :
    ∀ (d i : Nat) (n : Int), d = ps.length - i → i ≤ ps.length → 1 ≤ n → n ≤ 300 →
      ∃ r, Ev (fun k => impl_Task_count.l0 k n ps (ps.length : Int) (i : Int)) r ∧ ((fitL (ps.drop i) = true ∧ n + (nodL (ps.drop i) : Int) ≤ 15) → r = n + nodL (ps.drop i)) ∧ (¬ (fitL (ps.drop i) = true ∧ n + (nodL (ps.drop i) : Int) ≤ 15) → 15 < r) := by
  intro d
  induction d with
  | zero =>
    intro i n hd hi hn hn2
    have e : i = ps.length := by omega
    subst e
    refine ⟨n, Ev.step (fun k => by rw [impl_Task_count.l0]) ?_, ?_⟩
    · simp only [if_neg (show ¬ ((ps.length : Int) < (ps.length : Int)) by omega)]
      exact Ev.now n
    · simp only [List.drop_length, fitL, nodL]
      refine ⟨fun _ => by simp, fun h => ?_⟩
      simp at h
      omega
  | succ d ihd =>
    intro i n hd hi hn hn2
    have hlt : i < ps.length := by omega
    have hrd := rd_tk ps i hlt
    have hdr := drop_tk ps i hlt
    by_cases hg : n > 15
    · refine ⟨n, Ev.step (fun k => by rw [impl_Task_count.l0]) ?_, fun h => ?_, fun _ => by omega⟩
      · simp only [if_pos (show (i : Int) < (ps.length : Int) by omega), if_pos (show (0 : Int) ≤ (i : Int) by omega), if_pos hg]
        exact Ev.now n
      · exfalso
        have := h.2
        omega
    · obtain ⟨c, hc, hc1, hc2, hc3, hc4⟩ := countTo_ev ps[i] (15 - n) (by omega) (by omega)
      obtain ⟨r, hr, hr1, hr2⟩ := ihd (i + 1) (n + c) (by omega) (by omega) (by omega) (by omega)
      refine ⟨r, Ev.step (fun k => by rw [impl_Task_count.l0]) ?_, ?_, ?_⟩
      · simp only [if_pos (show (i : Int) < (ps.length : Int) by omega), if_pos (show (0 : Int) ≤ (i : Int) by omega), if_neg hg, hrd]
        rw [wrap_id (15 - n) (by omega) (by omega), wrap_nat i (by omega)]
        refine Ev.bind hc ?_
        simp only [wrap_id (n + c) (by omega) (by omega)]
        exact hr
      · rw [hdr]
        simp only [fitL, nodL, Bool.and_eq_true]
        rintro ⟨⟨f1, f2⟩, h3⟩
        have e := hc1 ⟨f1, by omega⟩
        rw [hr1 ⟨f2, by omega⟩]
        omega
      · rw [hdr]
        simp only [fitL, nodL, Bool.and_eq_true]
        intro hno
        by_cases hp : fitT ps[i] = true ∧ (nodT ps[i] : Int) ≤ 15 - n
        · have e := hc1 hp
          exact hr2 (fun h => hno ⟨⟨hp.1, h.1⟩, by have := h.2; omega⟩)
        · have := hc2 hp
          exact hr2 (fun h => by have := h.2; omega)
theorem count_ev (t : Tk) : ∃ r, Ev (fun k => impl_Task_count.f k t.f0 t.f1 t.f2) r ∧ (okT t = true → r = nodT t) ∧ (okT t = false → 15 < r) := by
  have hshape := fits_ev t.f0 t.f1 t.f2
  by_cases hf : shapeB t.f0 t.f1 t.f2.length = true
  · obtain ⟨r, hr1, hr2, hr3⟩ := count_loop t.f2 (shapeB_len hf) t.f2.length 0 1 (by omega) (by omega) (by omega) (by omega)
    refine ⟨r, ?_, ?_, ?_⟩
    · unfold impl_Task_count.f
      refine Ev.bind hshape ?_
      simp only [hf, if_true]
      exact hr1
    · intro h
      have h1 := okT_fit h
      have h2 := okT_nod h
      rw [fitT_eq, Bool.and_eq_true] at h1
      rw [nodT_eq] at h2 ⊢
      simp only [List.drop_zero] at hr2
      rw [hr2 ⟨h1.2, by omega⟩]
      omega
    · intro h
      simp only [List.drop_zero] at hr3
      refine hr3 (fun ⟨a, b⟩ => ?_)
      rw [okT, fitT_eq, nodT_eq, hf, a] at h
      simp at h
      omega
  · refine ⟨16, ?_, ?_, fun _ => by omega⟩
    · unfold impl_Task_count.f
      refine Ev.bind hshape ?_
      simp only [hf, Bool.false_eq_true, if_false]
      exact Ev.now 16
    · intro h
      have h1 := okT_fit h
      rw [fitT_eq, Bool.and_eq_true] at h1
      exact absurd h1.1 hf
theorem implOk_ev (t : Tk) : Ev (fun k => impl_TaskOk.f k t.f0 t.f1 t.f2) (okT t) := by
  obtain ⟨r, hr, h1, h2⟩ := count_ev t
  unfold impl_TaskOk.f
  refine Ev.bind hr ?_
  refine Ev.of_eq ?_
  cases h : okT t with
  | true => have := h1 h; have := okT_nod h; simp; omega
  | false => have := h2 h; simp; omega
theorem l1Shape_now (k : Nat) (a : Int) : spec_l1Shape.f (k + 1) a = some (if a = 0 then (0, 96, true) else if a = 1 then (0, 9, true) else if a = 2 then (2, 0, true) else if a = 3 then (2, 0, true) else if a = 4 then (3, 0, true) else if a = 5 then (1, 9, true) else (0, 0, false)) := by
  unfold spec_l1Shape.f
  simp only [spec_l1Shape.j0]
  repeat' split
  all_goals simp_all
theorem l1Shape_ev (a : Int) : Ev (fun k => spec_l1Shape.f k a) (if a = 0 then (0, 96, true) else if a = 1 then (0, 9, true) else if a = 2 then (2, 0, true) else if a = 3 then (2, 0, true) else if a = 4 then (3, 0, true) else if a = 5 then (1, 9, true) else (0, 0, false)) := ⟨1, fun k hk => by
  obtain ⟨m, rfl⟩ : ∃ m, k = m + 1 := ⟨k - 1, by omega⟩
  exact l1Shape_now m a⟩
theorem l6In_ev (a b c : Int) : spec_l6In.f a b c = some (decide (b ≤ a ∧ a ≤ c)) := by
  unfold spec_l6In.f
  by_cases h : a ≥ b
  · rw [if_pos h]; simp only [ge_iff_le] at h; simp [h]
  · rw [if_neg h]; simp only [ge_iff_le] at h; simp [h]
theorem l1Fit_loop (a b : Int) (ps : List Tk) (hlen : ps.length ≤ 3) (ih : ∀ p ∈ ps, Ev (fun k => spec_l1Fit.f k p.f0 p.f1 p.f2) (fitT p)) :
    ∀ (d i : Nat), d = ps.length - i → i ≤ ps.length → Ev (fun k => spec_l1Fit.l0 k (i : Int) a b ps) (fitL (ps.drop i)) := by
  intro d
  induction d with
  | zero =>
    intro i hd hi
    have e : i = ps.length := by omega
    subst e
    refine Ev.step (fun k => by rw [spec_l1Fit.l0]) ?_
    simp only [if_neg (show ¬ ((ps.length : Int) < (ps.length : Int)) by omega), List.drop_length, fitL]
    exact Ev.now true
  | succ d ihd =>
    intro i hd hi
    have hlt : i < ps.length := by omega
    have hrd := rd_tk ps i hlt
    have hmem : ps[i] ∈ ps := List.getElem_mem hlt
    rw [drop_tk ps i hlt]
    refine Ev.step (fun k => by rw [spec_l1Fit.l0]) ?_
    simp only [if_pos (show (i : Int) < (ps.length : Int) by omega), if_pos (show (0 : Int) ≤ (i : Int) by omega), hrd]
    refine Ev.bind (ih _ hmem) ?_
    simp only [fitL]
    cases h : fitT ps[i] with
    | true =>
      simp only [if_true, Bool.true_and, wrap_nat i (by omega)]
      exact ihd (i + 1) (by omega) (by omega)
    | false =>
      simp only [Bool.false_eq_true, if_false, Bool.false_and]
      exact Ev.now false
theorem l1Fit_ev : ∀ t : Tk, Ev (fun k => spec_l1Fit.f k t.f0 t.f1 t.f2) (fitT t) := by
  refine tk_ind fun t ih => ?_
  refine Ev.step (fun k => by rw [spec_l1Fit.f]) ?_
  refine Ev.bind (l1Shape_ev t.f0) ?_
  rw [fitT_eq]
  have bad : Ev (fun k => spec_l1Fit.j0 k true t.f0 t.f1 t.f2) false := by
    refine Ev.step (fun k => by rw [spec_l1Fit.j0]) ?_
    simp only [if_true]
    exact Ev.now false
  have good : t.f2.length ≤ 3 → ∀ c : Bool, Ev (fun k => spec_l1Fit.j0 k (!c) t.f0 t.f1 t.f2) (c && fitL t.f2) := by
    intro hl c
    refine Ev.step (fun k => by rw [spec_l1Fit.j0]) ?_
    cases c with
    | false =>
      simp only [Bool.not_false, if_true, Bool.false_and]
      exact Ev.now false
    | true =>
      simp only [Bool.not_true, Bool.false_eq_true, if_false, Bool.true_and]
      exact l1Fit_loop t.f0 t.f1 t.f2 hl ih t.f2.length 0 (by omega) (by omega)
  have e0 : ∀ m : Nat, ((t.f2.length : Int) = (m : Int)) = (t.f2.length = m) := fun m => by rw [eq_iff_iff]; omega
  have e1 : ((t.f2.length : Int) = 0) = (t.f2.length = 0) := e0 0
  have e2 : ((t.f2.length : Int) = 1) = (t.f2.length = 1) := e0 1
  have e3 : ((t.f2.length : Int) = 2) = (t.f2.length = 2) := e0 2
  have e4 : ((t.f2.length : Int) = 3) = (t.f2.length = 3) := e0 3
  simp only [l6In_ev, Option.bind_some]
  unfold shapeB
  by_cases h0 : t.f0 = 0
  · simp only [h0, if_true, e1] at good bad ⊢
    by_cases hl : t.f2.length = 0
    · simp only [hl, if_true, decide_true, Bool.and_true] at good ⊢
      exact good (by omega) _
    · simp only [hl, if_false, decide_false, Bool.and_false, Bool.false_and]
      exact bad
  by_cases h1 : t.f0 = 1
  · have e9 : ∀ x : Int, (0 ≤ x ∧ x < 10) = (0 ≤ x ∧ x ≤ 9) := fun x => by rw [eq_iff_iff]; omega
    simp only [h1, if_true, e1, e9, show ¬ ((1 : Int) = 0) by decide, if_false] at good bad ⊢
    by_cases hl : t.f2.length = 0
    · simp only [hl, if_true, decide_true, Bool.and_true] at good ⊢
      exact good (by omega) _
    · simp only [hl, if_false, decide_false, Bool.and_false, Bool.false_and]
      exact bad
  by_cases h2 : t.f0 = 2
  · have e9 : ∀ x : Int, (x = 0) = (0 ≤ x ∧ x ≤ 0) := fun x => by rw [eq_iff_iff]; omega
    simp only [h2, if_true, e3, e9 t.f1, show ¬ ((2 : Int) = 0) by decide, show ¬ ((2 : Int) = 1) by decide, if_false] at good bad ⊢
    by_cases hl : t.f2.length = 2
    · simp only [hl, if_true, decide_true, Bool.and_true] at good ⊢
      exact good (by omega) _
    · simp only [hl, if_false, decide_false, Bool.and_false, Bool.false_and]
      exact bad
  by_cases h3 : t.f0 = 3
  · have e9 : ∀ x : Int, (x = 0) = (0 ≤ x ∧ x ≤ 0) := fun x => by rw [eq_iff_iff]; omega
    simp only [h3, if_true, e3, e9 t.f1, show ¬ ((3 : Int) = 0) by decide, show ¬ ((3 : Int) = 1) by decide, show ¬ ((3 : Int) = 2) by decide, if_false] at good bad ⊢
    by_cases hl : t.f2.length = 2
    · simp only [hl, if_true, decide_true, Bool.and_true] at good ⊢
      exact good (by omega) _
    · simp only [hl, if_false, decide_false, Bool.and_false, Bool.false_and]
      exact bad
  by_cases h4 : t.f0 = 4
  · have e9 : ∀ x : Int, (x = 0) = (0 ≤ x ∧ x ≤ 0) := fun x => by rw [eq_iff_iff]; omega
    simp only [h4, if_true, e4, e9 t.f1, show ¬ ((4 : Int) = 0) by decide, show ¬ ((4 : Int) = 1) by decide, show ¬ ((4 : Int) = 2) by decide, show ¬ ((4 : Int) = 3) by decide, if_false] at good bad ⊢
    by_cases hl : t.f2.length = 3
    · simp only [hl, if_true, decide_true, Bool.and_true] at good ⊢
      exact good (by omega) _
    · simp only [hl, if_false, decide_false, Bool.and_false, Bool.false_and]
      exact bad
  by_cases h5 : t.f0 = 5
  · have e9 : ∀ x : Int, (0 ≤ x ∧ x < 10) = (0 ≤ x ∧ x ≤ 9) := fun x => by rw [eq_iff_iff]; omega
    simp only [h5, if_true, e2, e9 t.f1, show ¬ ((5 : Int) = 0) by decide, show ¬ ((5 : Int) = 1) by decide, show ¬ ((5 : Int) = 2) by decide, show ¬ ((5 : Int) = 3) by decide, show ¬ ((5 : Int) = 4) by decide, if_false] at good bad ⊢
    by_cases hl : t.f2.length = 1
    · simp only [hl, if_true, decide_true, Bool.and_true] at good ⊢
      exact good (by omega) _
    · simp only [hl, if_false, decide_false, Bool.and_false, Bool.false_and]
      exact bad
  · simp only [h0, h1, h2, h3, h4, h5, if_false, Bool.false_eq_true, Bool.false_and]
    exact bad
theorem l1Nodes_loop (a b : Int) (ps : List Tk) (hlen : ps.length ≤ 4000000000) (ih : ∀ p ∈ ps, (nodT p : Int) ≤ 4000000000 → Ev (fun k => spec_l1Nodes.f k p.f0 p.f1 p.f2) (nodT p : Int)) :
    ∀ (d i : Nat) (n : Int), d = ps.length - i → i ≤ ps.length → 0 ≤ n → n + (nodL (ps.drop i) : Int) ≤ 4000000000 → Ev (fun k => spec_l1Nodes.l0 k n (i : Int) a b ps) (n + nodL (ps.drop i)) := by
  intro d
  induction d with
  | zero =>
    intro i n hd hi hn hb
    have e : i = ps.length := by omega
    subst e
    refine Ev.step (fun k => by rw [spec_l1Nodes.l0]) ?_
    simp only [if_neg (show ¬ ((ps.length : Int) < (ps.length : Int)) by omega), List.drop_length, nodL]
    exact Ev.eq (Ev.now n) (by omega)
  | succ d ihd =>
    intro i n hd hi hn hb
    have hlt : i < ps.length := by omega
    have hrd := rd_tk ps i hlt
    have hmem : ps[i] ∈ ps := List.getElem_mem hlt
    rw [drop_tk ps i hlt] at hb ⊢
    simp only [nodL] at hb ⊢
    refine Ev.step (fun k => by rw [spec_l1Nodes.l0]) ?_
    simp only [if_pos (show (i : Int) < (ps.length : Int) by omega), if_pos (show (0 : Int) ≤ (i : Int) by omega), hrd]
    refine Ev.bind (ih _ hmem (by omega)) ?_
    simp only [wrap_nat i (by omega), wrap_id (n + (nodT ps[i] : Int)) (by omega) (by omega)]
    exact Ev.eq (ihd (i + 1) (n + nodT ps[i]) (by omega) (by omega) (by omega) (by omega)) (by omega)
theorem l1Nodes_ev : ∀ t : Tk, (nodT t : Int) ≤ 4000000000 → Ev (fun k => spec_l1Nodes.f k t.f0 t.f1 t.f2) (nodT t : Int) := by
  refine tk_ind fun t ih hb => ?_
  rw [nodT_eq] at hb ⊢
  have := nodL_len t.f2
  refine Ev.step (fun k => by rw [spec_l1Nodes.f]) ?_
  exact Ev.eq (l1Nodes_loop t.f0 t.f1 t.f2 (by omega) ih t.f2.length 0 1 (by omega) (by omega) (by omega) (by rw [List.drop_zero]; omega)) (by rw [List.drop_zero]; omega)
theorem specOk_ev (t : Tk) (hb : (nodT t : Int) ≤ 4000000000) : Ev (fun k => spec_TaskOk.f k t.f0 t.f1 t.f2) (okT t) := by
  unfold spec_TaskOk.f
  refine Ev.bind (l1Fit_ev t) ?_
  unfold okT
  cases h : fitT t with
  | false =>
    simp only [Bool.false_eq_true, if_false, Bool.false_and]
    exact Ev.now false
  | true =>
    simp only [if_true, Bool.true_and]
    refine Ev.bind (l1Nodes_ev t hb) ?_
    refine Ev.of_eq ?_
    congr 1
    rw [Bool.eq_iff_iff]
    simp only [decide_eq_true_eq]
    omega
end Go.Proofs.Ythfemojaabejiaa.G
end
section
namespace Go.Proofs.Ythfemojaabejiaa.G
open Go.RowKit Go.Proofs.YthfemojaabejiaaW.PrintWords
set_option linter.unusedVariables false
set_option linter.unusedSimpArgs false
theorem implMay_ev (t : Tk) : Ev (fun k => impl_TaskMay.f k t.f0 t.f1 t.f2) (mayK t) := by
  have h := implOk_ev t
  unfold impl_TaskMay.f
  refine Ev.bind h ?_
  cases ht : okT t with
  | false =>
    simp only [Bool.false_eq_true, if_false]
    exact Ev.eq (Ev.now _) (by simp [mayK, ht])
  | true =>
    have hf := okT_fit ht
    have e : (⟨t.f0, t.f1, t.f2⟩ : Tk) = t := by cases t; rfl
    simp only [if_true, e, hf]
    exact Ev.eq (Ev.now _) (by simp [mayK, ht])
theorem specMay_ev (t : Tk) (hb : (nodT t : Int) ≤ 4000000000) : Ev (fun k => spec_TaskMay.f k t.f0 t.f1 t.f2) (mayK t) := by
  have h := specOk_ev t hb
  unfold spec_TaskMay.f
  refine Ev.bind h ?_
  cases ht : okT t with
  | false =>
    simp only [Bool.false_eq_true, if_false]
    exact Ev.eq (Ev.now _) (by simp [mayK, ht])
  | true =>
    have hf := okT_fit ht
    have e : (⟨t.f0, t.f1, t.f2⟩ : Tk) = t := by cases t; rfl
    simp only [if_true, e, hf]
    exact Ev.eq (Ev.now _) (by simp [mayK, ht])
end Go.Proofs.Ythfemojaabejiaa.G
end
section
namespace Go.Proofs.Ythfemojaabejiaa.G
open Go.RowKit Go.Proofs.YthfemojaabejiaaW.PrintWords
set_option linter.unusedVariables false
set_option linter.unusedSimpArgs false
def rowsOk : List Bool → List Tk → Bool
  | m :: ms, t :: ts => (okT t && (m || ((t.f0 == 0) && (t.f1 == 0)))) && rowsOk ms ts
  | _, _ => true
def sheetOk (made : List Bool) (tasks : List Tk) : Bool := (decide (made.length = tasks.length) && decide (made.length ≤ 10)) && rowsOk made tasks
theorem rd_bool (l : List Bool) (i : Nat) (h : i < l.length) : rdOf false l (i : Int) = l[i] := by
  simp only [rdOf, Int.toNat_natCast, List.getD_eq_getElem?_getD, List.getElem?_eq_getElem h, Option.getD_some]
theorem sheetOk_len {made : List Bool} {tasks : List Tk} (h : sheetOk made tasks = true) : made.length = tasks.length ∧ made.length ≤ 10 := by
  simp only [sheetOk, Bool.and_eq_true, decide_eq_true_eq] at h
  exact h.1
theorem implSheet_loop (made : List Bool) (tasks : List Tk) (he : made.length = tasks.length) (hl : made.length ≤ 10) :
    ∀ (d i : Nat), d = tasks.length - i → i ≤ tasks.length → Ev (fun k => impl_SheetOk.l0 k tasks (tasks.length : Int) (i : Int) made tasks) (rowsOk (made.drop i) (tasks.drop i)) := by
  intro d
  induction d with
  | zero =>
    intro i hd hi
    have e : i = tasks.length := by omega
    subst e
    refine Ev.step (fun k => by rw [impl_SheetOk.l0]) ?_
    simp only [if_neg (show ¬ ((tasks.length : Int) < (tasks.length : Int)) by omega), List.drop_length]
    exact Ev.eq (Ev.now true) (by unfold rowsOk; split <;> simp_all)
  | succ d ihd =>
    intro i hd hi
    have hlt : i < tasks.length := by omega
    have hlm : i < made.length := by omega
    rw [drop_tk made i hlm, drop_tk tasks i hlt, rowsOk]
    refine Ev.step (fun k => by rw [impl_SheetOk.l0]) ?_
    simp only [if_pos (show (i : Int) < (tasks.length : Int) by omega), if_pos (show (0 : Int) ≤ (i : Int) by omega), if_pos (show (i : Int) < (made.length : Int) by omega), rd_tk tasks i hlt, rd_bool made i hlm]
    refine Ev.bind (implOk_ev _) ?_
    have hn := ihd (i + 1) (by omega) (by omega)
    cases h : okT tasks[i] with
    | false =>
      simp only [Bool.false_eq_true, if_false, Bool.false_and]
      exact Ev.now false
    | true =>
      cases hm : made[i] with
      | true =>
        simp only [if_true, Bool.true_and, Bool.true_or, wrap_nat i (by omega)]
        exact hn
      | false =>
        simp only [if_true, Bool.true_and, Bool.false_or, Bool.false_eq_true, if_false, wrap_nat i (by omega)]
        by_cases h0 : tasks[i].f0 = 0
        · by_cases h1 : tasks[i].f1 = 0
          · simp only [h0, h1, if_true, beq_self_eq_true, Bool.true_and]
            exact hn
          · simp only [h0, h1, if_true, if_false, beq_self_eq_true, beq_eq_false_iff_ne.mpr h1, Bool.true_and, Bool.and_false, Bool.false_and]
            exact Ev.now false
        · simp only [h0, if_false, beq_eq_false_iff_ne.mpr h0, Bool.false_and]
          exact Ev.now false
theorem implSheet_ev (made : List Bool) (tasks : List Tk) : Ev (fun k => impl_SheetOk.f k made tasks) (sheetOk made tasks) := by
  unfold impl_SheetOk.f
  by_cases he : made.length = tasks.length
  · simp only [if_pos (show (made.length : Int) = (tasks.length : Int) by omega)]
    refine Ev.step (fun k => by rw [impl_SheetOk.j0]) ?_
    by_cases hl : made.length ≤ 10
    · simp only [decide_eq_false (show ¬ ((made.length : Int) > 10) by omega), Bool.false_eq_true, if_false]
      refine Ev.eq (implSheet_loop made tasks he hl tasks.length 0 (by omega) (by omega)) ?_
      rw [List.drop_zero, List.drop_zero, sheetOk, decide_eq_true he, decide_eq_true hl]
      simp
    · simp only [decide_eq_true (show ((made.length : Int) > 10) by omega), if_true]
      exact Ev.eq (Ev.now false) (by rw [sheetOk, decide_eq_false hl]; simp)
  · simp only [if_neg (show ¬ ((made.length : Int) = (tasks.length : Int)) by omega)]
    refine Ev.step (fun k => by rw [impl_SheetOk.j0]) ?_
    simp only [if_true]
    exact Ev.eq (Ev.now false) (by rw [sheetOk, decide_eq_false he]; simp)
theorem specSheet_loop (made : List Bool) (tasks : List Tk) (he : made.length = tasks.length) (hl : made.length ≤ 10) (hb : ∀ t ∈ tasks, (nodT t : Int) ≤ 4000000000) :
    ∀ (d i : Nat), d = made.length - i → i ≤ made.length → Ev (fun k => spec_SheetOk.l0 k (i : Int) made tasks) (rowsOk (made.drop i) (tasks.drop i)) := by
  intro d
  induction d with
  | zero =>
    intro i hd hi
    have e : i = made.length := by omega
    subst e
    refine Ev.step (fun k => by rw [spec_SheetOk.l0]) ?_
    simp only [if_neg (show ¬ ((made.length : Int) < (made.length : Int)) by omega), List.drop_length]
    exact Ev.eq (Ev.now true) (by unfold rowsOk; rfl)
  | succ d ihd =>
    intro i hd hi
    have hlt : i < tasks.length := by omega
    have hlm : i < made.length := by omega
    rw [drop_tk made i hlm, drop_tk tasks i hlt, rowsOk]
    refine Ev.step (fun k => by rw [spec_SheetOk.l0]) ?_
    simp only [if_pos (show (i : Int) < (tasks.length : Int) by omega), if_pos (show (0 : Int) ≤ (i : Int) by omega), if_pos (show (i : Int) < (made.length : Int) by omega), rd_tk tasks i hlt, rd_bool made i hlm]
    refine Ev.bind (specOk_ev _ (hb _ (List.getElem_mem hlt))) ?_
    have hn := ihd (i + 1) (by omega) (by omega)
    cases h : okT tasks[i] with
    | false =>
      simp only [Bool.false_eq_true, if_false, Bool.false_and]
      exact Ev.now false
    | true =>
      cases hm : made[i] with
      | true =>
        simp only [if_true, Bool.true_and, Bool.true_or, wrap_nat i (by omega)]
        exact hn
      | false =>
        simp only [if_true, Bool.true_and, Bool.false_or, Bool.false_eq_true, if_false, wrap_nat i (by omega)]
        by_cases h0 : tasks[i].f0 = 0
        · by_cases h1 : tasks[i].f1 = 0
          · simp only [h0, h1, if_true, beq_self_eq_true, Bool.true_and]
            exact hn
          · simp only [h0, h1, if_true, if_false, beq_self_eq_true, beq_eq_false_iff_ne.mpr h1, Bool.true_and, Bool.and_false, Bool.false_and]
            exact Ev.now false
        · simp only [h0, if_false, beq_eq_false_iff_ne.mpr h0, Bool.false_and]
          exact Ev.now false
theorem specSheet_ev (made : List Bool) (tasks : List Tk) (hb : ∀ t ∈ tasks, (nodT t : Int) ≤ 4000000000) : Ev (fun k => spec_SheetOk.f k made tasks) (sheetOk made tasks) := by
  unfold spec_SheetOk.f
  by_cases he : made.length = tasks.length
  · simp only [if_pos (show (made.length : Int) = (tasks.length : Int) by omega)]
    refine Ev.step (fun k => by rw [spec_SheetOk.j0]) ?_
    by_cases hl : made.length ≤ 10
    · simp only [decide_eq_false (show ¬ ((made.length : Int) > 10) by omega), Bool.false_eq_true, if_false]
      refine Ev.eq (specSheet_loop made tasks he hl hb made.length 0 (by omega) (by omega)) ?_
      rw [List.drop_zero, List.drop_zero, sheetOk, decide_eq_true he, decide_eq_true hl]
      simp
    · simp only [decide_eq_true (show ((made.length : Int) > 10) by omega), if_true]
      exact Ev.eq (Ev.now false) (by rw [sheetOk, decide_eq_false hl]; simp)
  · simp only [if_neg (show ¬ ((made.length : Int) = (tasks.length : Int)) by omega)]
    refine Ev.step (fun k => by rw [spec_SheetOk.j0]) ?_
    simp only [if_true]
    exact Ev.eq (Ev.now false) (by rw [sheetOk, decide_eq_false he]; simp)
end Go.Proofs.Ythfemojaabejiaa.G
end
section
namespace Go.Proofs.Ythfemojaabejiaa.G
open Go.RowKit Go.Proofs.YthfemojaabejiaaW.PrintWords
set_option linter.unusedVariables false
set_option linter.unusedSimpArgs false
def mayI (made : List Bool) (t : Tk) : List Int := (mayK t).filter fun j => made.getD j.toNat false
def mayN (made : List Bool) (tasks : List Tk) (k : Nat) : List Nat := (mayI made (tasks.getD k ⟨0, 0, []⟩)).map Int.toNat
theorem castL_toNat : ∀ l : List Int, (∀ x ∈ l, 0 ≤ x) → castL (l.map Int.toNat) = l
  | [], _ => rfl
  | x :: l, h => by
    have h1 := castL_toNat l (fun y hy => h y (List.mem_cons_of_mem _ hy))
    have h2 := h x List.mem_cons_self
    show ((x.toNat : Nat) : Int) :: castL (l.map Int.toNat) = x :: l
    rw [h1, Int.toNat_of_nonneg h2]
theorem mayI_pos (made : List Bool) (t : Tk) : ∀ x ∈ mayI made t, 0 ≤ x := fun x hx => (mayK_rng t x (List.mem_filter.1 hx).1).1
theorem mayN_cast (made : List Bool) (tasks : List Tk) (k : Nat) : castL (mayN made tasks k) = mayI made (tasks.getD k ⟨0, 0, []⟩) := castL_toNat _ (mayI_pos _ _)
theorem mayN_mem {made : List Bool} {tasks : List Tk} {k j : Nat} (h : j ∈ mayN made tasks k) : j < made.length ∧ made.getD j false = true := by
  unfold mayN at h
  obtain ⟨x, hx, e⟩ := List.mem_map.1 h
  subst e
  have h2 : made.getD x.toNat false = true := (List.mem_filter.1 hx).2
  refine ⟨?_, h2⟩
  rcases Nat.lt_or_ge x.toNat made.length with h3 | h3
  · exact h3
  · rw [List.getD_eq_getElem?_getD, List.getElem?_eq_none h3] at h2; cases h2
theorem mayN_len (made : List Bool) (tasks : List Tk) (k : Nat) : (mayN made tasks k).length ≤ 10 := by
  unfold mayN mayI
  rw [List.length_map]
  exact Nat.le_trans (List.length_filter_le _ _) (mayK_len _)
theorem makes_int (made : List Bool) (tasks : List Tk) (x : Int) (h : 0 ≤ x) : impl_Sheet_makes.f made tasks x = some (made.getD x.toNat false) := by
  have := makes_nat made tasks x.toNat
  rwa [Int.toNat_of_nonneg h] at this
theorem rd_get (l : List Int) (i : Nat) (h : i < l.length) : rd l (i : Int) = l[i] := by
  simp only [rd, Int.toNat_natCast, List.getD_eq_getElem?_getD, List.getElem?_eq_getElem h, Option.getD_some]
theorem implShMay_loop (made : List Bool) (tasks : List Tk) (l : List Int) (hl : l.length ≤ 1000) (hp : ∀ x ∈ l, 0 ≤ x) :
    ∀ (d i : Nat) (acc : List Int), d = l.length - i → i ≤ l.length → acc.length ≤ i → Ev (fun k => impl_Sheet_may.l0 k acc l (l.length : Int) (i : Int) made tasks) (acc ++ (l.drop i).filter fun j => made.getD j.toNat false) := by
  intro d
  induction d with
  | zero =>
    intro i acc hd hi ha
    have e : i = l.length := by omega
    subst e
    refine Ev.step (fun k => by rw [impl_Sheet_may.l0]) ?_
    simp only [if_neg (show ¬ ((l.length : Int) < (l.length : Int)) by omega), List.drop_length, List.filter_nil, List.append_nil]
    exact Ev.now _
  | succ d ihd =>
    intro i acc hd hi ha
    have hlt : i < l.length := by omega
    rw [List.drop_eq_getElem_cons hlt, List.filter_cons]
    refine Ev.step (fun k => by rw [impl_Sheet_may.l0]) ?_
    simp only [if_pos (show (i : Int) < (l.length : Int) by omega), if_pos (show (0 : Int) ≤ (i : Int) by omega), rd_get l i hlt, makes_int made tasks l[i] (hp _ (List.getElem_mem hlt)), Option.bind_some, wrap_nat i (by omega)]
    cases hm : made.getD l[i].toNat false with
    | true =>
      simp only [if_true, if_pos (show acc.length < 17592186044416 by omega)]
      refine Ev.eq (ihd (i + 1) (acc ++ [l[i]]) (by omega) (by omega) (by rw [List.length_append, List.length_singleton]; omega)) ?_
      simp
    | false =>
      simp only [Bool.false_eq_true, if_false]
      exact ihd (i + 1) acc (by omega) (by omega) (by omega)
theorem rd_tkD (ts : List Tk) (k : Nat) (h : k < ts.length) : rd_T141 ts (k : Int) = ts.getD k ⟨0, 0, []⟩ := by
  rw [rd_tk ts k h, List.getD_eq_getElem?_getD, List.getElem?_eq_getElem h, Option.getD_some]
theorem implShMay_ev (made : List Bool) (tasks : List Tk) (k : Nat) (hk : k < tasks.length) : Ev (fun r => impl_Sheet_may.f r made tasks (k : Int)) (castL (mayN made tasks k)) := by
  unfold impl_Sheet_may.f
  simp only [if_pos (show (0 : Int) ≤ (k : Int) by omega), if_pos (show (k : Int) < (tasks.length : Int) by omega), rd_tkD tasks k hk]
  refine Ev.bind (implMay_ev _) ?_
  rw [mayN_cast]
  refine Ev.eq (implShMay_loop made tasks (mayK (tasks.getD k ⟨0, 0, []⟩)) (Nat.le_trans (mayK_len _) (by omega)) (fun x hx => (mayK_rng _ x hx).1) (mayK (tasks.getD k ⟨0, 0, []⟩)).length 0 [] (by omega) (by omega) (by simp)) ?_
  rw [List.drop_zero, List.nil_append]
  rfl
theorem implKeys_loop (n : Nat) (hn : n ≤ 1000) : ∀ (d i : Nat), d = n - i → i ≤ n → Ev (fun k => impl_Sheet_keys.l0 k (castL (List.range i)) (n : Int) (i : Int)) (castL (List.range n)) := by
  intro d
  induction d with
  | zero =>
    intro i hd hi
    have e : i = n := by omega
    subst e
    refine Ev.step (fun k => by rw [impl_Sheet_keys.l0]) ?_
    simp only [if_neg (show ¬ ((i : Int) < (i : Int)) by omega)]
    exact Ev.now _
  | succ d ihd =>
    intro i hd hi
    refine Ev.step (fun k => by rw [impl_Sheet_keys.l0]) ?_
    simp only [if_pos (show (i : Int) < (n : Int) by omega), if_pos (show (castL (List.range i)).length < 17592186044416 by rw [castL_len, List.length_range]; omega), wrap_nat i (by omega)]
    refine Ev.eq (r := castL (List.range n)) ?_ rfl
    have := ihd (i + 1) (by omega) (by omega)
    rw [List.range_succ, castL_snoc] at this
    exact this
theorem implKeys_ev (made : List Bool) (tasks : List Tk) (hn : made.length ≤ 1000) : Ev (fun k => impl_Sheet_keys.f k made tasks) (castL (List.range made.length)) := by
  unfold impl_Sheet_keys.f
  exact implKeys_loop made.length hn made.length 0 (by omega) (by omega)
end Go.Proofs.Ythfemojaabejiaa.G
end
section
namespace Go.Proofs.Ythfemojaabejiaa.G
open Go.RowKit Go.Proofs.YthfemojaabejiaaW.PrintWords
set_option linter.unusedVariables false
set_option linter.unusedSimpArgs false
def madeB (made : List Bool) (k : Nat) : Bool := made.getD k false
open Classical in
noncomputable def reachB (made : List Bool) (tasks : List Tk) (L : List Nat) (k : Nat) : Bool := decide (Topo.Reach (madeB made) (mayN made tasks) L k)
open Classical in
theorem reachB_iff {made : List Bool} {tasks : List Tk} {L : List Nat} {k : Nat} : reachB made tasks L k = true ↔ Topo.Reach (madeB made) (mayN made tasks) L k := by
  unfold reachB
  exact decide_eq_true_iff
def safeB (made : List Bool) (tasks : List Tk) : Bool := sheetOk made tasks && (Topo.topo made.length (madeB made) (mayN made tasks) (Topo.needed made.length (madeB made)).length []).isSome
noncomputable def orderL (made : List Bool) (tasks : List Tk) (L : List Nat) : Option (List Nat) := Topo.topo made.length (reachB made tasks L) (mayN made tasks) (Topo.needed made.length (reachB made tasks L)).length []
theorem madeB_lt {made : List Bool} {k : Nat} (h : madeB made k = true) : k < made.length := by
  rcases Nat.lt_or_ge k made.length with h1 | h1
  · exact h1
  · unfold madeB at h; rw [List.getD_eq_getElem?_getD, List.getElem?_eq_none h1] at h; cases h
theorem reach_made {made : Nat → Bool} {may : Nat → List Nat} {L : List Nat} {k : Nat} (h : Topo.Reach made may L k) : made k = true := by
  cases h with
  | base _ hm => exact hm
  | step _ _ hm => exact hm
theorem ext_need {made : List Bool} {tasks : List Tk} {L ext : List Nat} (h : Topo.Walked (fun k => made.getD k false) (mayN made tasks) L [] ext) : (fun k => ext.contains k) = reachB made tasks L := by
  funext k
  rw [Bool.eq_iff_iff, List.contains_iff_mem, reachB_iff]
  exact h.iff k
theorem ext_len {made : List Bool} {tasks : List Tk} {L ext : List Nat} (h : Topo.Walked (fun k => made.getD k false) (mayN made tasks) L [] ext) : ext.length = (Topo.needed made.length (reachB made tasks L)).length := by
  have e := ext_need h
  have hlt : ∀ k ∈ ext, k < made.length := fun k hk => madeB_lt (h.sound k hk).1
  refine Nat.le_antisymm (Topo.sub_len _ _ h.nodup fun x hx => Topo.needed_mem.2 ⟨hlt x hx, ?_⟩) (Topo.sub_len _ _ (Topo.needed_nodup _ _) fun x hx => ?_)
  · rw [← e]; exact List.contains_iff_mem.2 hx
  · have h2 := (Topo.needed_mem.1 hx).2
    rw [← e] at h2
    exact List.contains_iff_mem.1 h2
theorem ext_topo {made : List Bool} {tasks : List Tk} {L ext : List Nat} (h : Topo.Walked (fun k => made.getD k false) (mayN made tasks) L [] ext) : Topo.topo made.length (fun k => ext.contains k) (mayN made tasks) ext.length [] = orderL made tasks L := by
  rw [ext_need h, ext_len h]
  rfl
theorem reach_all (made : List Bool) (tasks : List Tk) : reachB made tasks (List.range made.length) = madeB made := by
  funext k
  rw [Bool.eq_iff_iff, reachB_iff]
  exact ⟨fun h => reach_made h, fun h => .base (List.mem_range.2 (madeB_lt h)) h⟩
theorem order_all (made : List Bool) (tasks : List Tk) : orderL made tasks (List.range made.length) = Topo.topo made.length (madeB made) (mayN made tasks) (Topo.needed made.length (madeB made)).length [] := by
  unfold orderL
  rw [reach_all]
theorem may_ok {made : List Bool} {tasks : List Tk} (h : sheetOk made tasks = true) : ∀ k, k < made.length → ∃ kr, impl_Sheet_may.f kr made tasks (k : Int) = some (castL (mayN made tasks k)) := fun k hk => by
  obtain ⟨n, hn⟩ := implShMay_ev made tasks k (by have := sheetOk_len h; omega)
  exact ⟨n, hn n (Nat.le_refl _)⟩
theorem topoP_ret {w W : World} {r : Option (List Nat)} {e : Ending} (h : TopoP w r e W) : ∃ v, e = .returned (.tuple #[v, .bool r.isSome]) ∧ Below w.heap.size w W ∧ Kd.R (Kd.int .i64) 3 W w.heap.size (fun _ => True) v (castL (r.getD [])) := by
  obtain ⟨h1, h2⟩ := h
  cases r with
  | none => exact ⟨_, h2, h1, Kd.R_nil _ _ _ _ _⟩
  | some l => obtain ⟨v, h3, h4⟩ := h2; exact ⟨v, h3, h1, h4⟩
end Go.Proofs.Ythfemojaabejiaa.G
end
section
namespace Go.Proofs.Ythfemojaabejiaa.G
open Go.RowKit Go.Proofs.YthfemojaabejiaaW.PrintWords Go.Proofs.YthfemojaabejiaaW.PrintLast Go.Proofs.YthfemojaabejiaaW.PrintMore
set_option linter.unusedVariables false
set_option linter.unusedSimpArgs false
def impl_SheetSafe.f (l0_0 : List Bool) (l0_1 : List (S141)) : Option Bool := some (safeB l0_0 l0_1)
set_option maxHeartbeats 8000000 in
set_option maxRecDepth 100000 in
theorem impl_SheetSafe.calls (A0_0 : Option Addr) (c0_0 : Nat) (l0_0 : List Bool) (A0_1 : Option Addr) (c0_1 : Nat) (l0_1 : List (S141)) (r : Bool) (w : World) (hr0_0 : Kd.C Kd.bool w A0_0 l0_0.length l0_0) (hc0_0 : l0_0.length ≤ c0_0) (hr0_1 : Kd.C k141 w A0_1 l0_1.length l0_1) (hc0_1 : l0_1.length ≤ c0_1) (h : impl_SheetSafe.f l0_0 l0_1 = some r) :
    Calls Try.prog 17 #[.agg #[.slice A0_0 l0_0.length c0_0, .slice A0_1 l0_1.length c0_1]] w fun e w' => e = .returned (.bool r) ∧ Below w.heap.size w w' := by
  have hu0 := Try.underlying30
  have hr := Option.some.inj h
  clear h
  obtain ⟨k1, hk1⟩ := implSheet_ev l0_0 l0_1
  have hk1 := hk1 k1 (Nat.le_refl _)
  have HB0 := qM ((Below.refl w.heap.size w).alloc (Nat.le_refl _) (.cells #[.slice A0_0 l0_0.length c0_0, .slice A0_1 l0_1.length c0_1] 30 (0, 0)))
  have BX0 := qM (blk_new w (.cells #[.slice A0_0 l0_0.length c0_0, .slice A0_1 l0_1.length c0_1] 30 (0, 0)))
  have HR0 := qM hr0_0
  have HC0 := qM hc0_0
  have HR1 := qM hr0_1
  have HC1 := qM hc0_1
  have hs0 : (w.alloc (.cells #[.slice A0_0 l0_0.length c0_0, .slice A0_1 l0_1.length c0_1] 30 (0, 0))).cell? ⟨w.heap.size, 0, none⟩ = some (.slice A0_0 l0_0.length c0_0) := (qC BX0.out 0).trans rfl
  have hs1 : (w.alloc (.cells #[.slice A0_0 l0_0.length c0_0, .slice A0_1 l0_1.length c0_1] 30 (0, 0))).cell? ⟨w.heap.size, 1, none⟩ = some (.slice A0_1 l0_1.length c0_1) := (qC BX0.out 1).trans rfl
  clear hr0_0 hc0_0 hr0_1 hc0_1
  cases hok : sheetOk l0_0 l0_1 with
  | false =>
    rw [hok] at hk1
    have CK := qM (impl_SheetOk.calls k1 A0_0 c0_0 l0_0 A0_1 c0_1 l0_1 false _ (qB HR0.out HB0.out) HC0.out (qB HR1.out HB0.out) HC1.out hk1)
    have HRR : Aside0 (false = r) := ⟨by rw [← hr, safeB, hok]; rfl⟩
    clear hk1 hr hok
    go_enter Try.func17, Try.ntmps17
    go_wp2_with (go_at_call 60; (with_reducible refine CK.out.mono ?_); rintro e w1 ⟨rfl, hb1⟩; have HB1 := qM (HB0.out.trans (hb1.mono HB0.out.size)); clear hb1 CK)
    go_ret
    exact ⟨by rw [← HRR.out]; rfl, HB1.out⟩
  | true =>
    rw [hok] at hk1
    have CK := qM (impl_SheetOk.calls k1 A0_0 c0_0 l0_0 A0_1 c0_1 l0_1 true _ (qB HR0.out HB0.out) HC0.out (qB HR1.out HB0.out) HC1.out hk1)
    have hlen := sheetOk_len hok
    have HMAY := qM (may_ok hok)
    have HLE := qM hlen
    obtain ⟨k2, hk2⟩ := implKeys_ev l0_0 l0_1 (by omega)
    have HK2 := qM (hk2 k2 (Nat.le_refl _))
    have HRR : Aside0 ((orderL l0_0 l0_1 (List.range l0_0.length)).isSome = r) := ⟨by rw [order_all, ← hr, safeB, hok]; rfl⟩
    clear hk1 hr hok hlen hk2
    go_enter Try.func17, Try.ntmps17
    go_wp2_with (go_at_call 60; (with_reducible refine CK.out.mono ?_); rintro e w1 ⟨rfl, hb1⟩; have HB1 := qM (HB0.out.trans (hb1.mono HB0.out.size)); have BX1 := qM (blk_below BX0.out hb1); clear hb1 CK hs0 hs1)
    clear BX0 HB0
    refine start_ (n := 13) (S := fun w' => w'.cell? ⟨w.heap.size, 0, none⟩ = some (.slice A0_0 l0_0.length c0_0) ∧ w'.cell? ⟨w.heap.size, 1, none⟩ = some (.slice A0_1 l0_1.length c0_1)) (ds := []) #[false, false, false, false, false, false, false, false, false, false, false, false, false] (by kernel_rfl) rfl rfl ⟨(qC (qd BX1.out) 0).trans rfl, (qC (qd BX1.out) 1).trans rfl⟩ (fun hHeld => ?_)
    have HB2 := qM (qD HB1.out)
    have BX2 := qM (qd BX1.out)
    generalize w1.drew = w2 at HB2 BX2 hHeld ⊢
    clear HB1 BX1
    refine take_ (i := 0) (N := (some 9)) (v := ?_) (a' := ?_) #[true, false, false, false, false, false, false, false, false, false, false, false, false] rfl rfl (by kernel_rfl) (fun _ _ _ h => h) (Or.inl ⟨by rfl, ?_⟩) hHeld ?_ ?_
    rotate_left
    · rintro w' ⟨s0, s1⟩
      go_simp
      with_reducible rfl
    rotate_left
    · simp only [Act.put, List.setIfInBounds_toArray, List.set_cons_zero, List.set_cons_succ, i64_w, i32_w]
      rfl
    refine take_ (i := 1) (N := (some 10)) (v := ?_) (a' := ?_) #[true, true, false, false, false, false, false, false, false, false, false, false, false] rfl rfl (by kernel_rfl) (fun _ _ _ h => h) (Or.inl ⟨by rfl, ?_⟩) hHeld ?_ ?_
    rotate_left
    · rintro w' ⟨s0, s1⟩
      go_simp
      with_reducible rfl
    rotate_left
    · simp only [Act.put, List.setIfInBounds_toArray, List.set_cons_zero, List.set_cons_succ, i64_w, i32_w]
      rfl
    refine take_ (i := 2) (N := (some 11)) (v := ?_) (a' := ?_) #[true, true, true, false, false, false, false, false, false, false, false, false, false] rfl rfl (by kernel_rfl) (fun _ _ _ h => h) (Or.inl ⟨by rfl, ?_⟩) hHeld ?_ ?_
    rotate_left
    · rintro w' ⟨s0, s1⟩
      go_simp
      with_reducible rfl
    rotate_left
    · simp only [Act.put, List.setIfInBounds_toArray, List.set_cons_zero, List.set_cons_succ, i64_w, i32_w]
      rfl
    refine take_ (i := 4) (N := (some 13)) (v := ?_) (a' := ?_) #[true, true, true, false, true, false, false, false, false, false, false, false, false] rfl rfl (by kernel_rfl) (fun _ _ _ h => h) (Or.inl ⟨by rfl, ?_⟩) hHeld ?_ ?_
    rotate_left
    · rintro w' ⟨s0, s1⟩
      go_simp
      with_reducible rfl
    rotate_left
    · simp only [Act.put, List.setIfInBounds_toArray, List.set_cons_zero, List.set_cons_succ, i64_w, i32_w]
      rfl
    refine pure_ (i := 5) (N := (some 14)) (v := ?_) (a' := ?_) #[true, true, true, false, true, true, false, false, false, false, false, false, false] rfl rfl (by kernel_rfl) (fun _ _ _ h => h) (Or.inl ⟨by rfl, ?_⟩) ?_ ?_
    rotate_left
    · intro w'
      go_simp
      with_reducible rfl
    rotate_left
    · simp only [Act.put, List.setIfInBounds_toArray, List.set_cons_zero, List.set_cons_succ, i64_w, i32_w]
      rfl
    refine one_ (i := 3) (N := (some 12)) #[true, true, true, true, true, true, false, false, false, false, false, false, false] rfl rfl (by kernel_rfl) (by decide) (fun K hK => ?_)
    refine goes_ Try.func63 (by kernel_rfl) rfl #[.agg #[.slice A0_0 l0_0.length c0_0, .slice A0_1 l0_1.length c0_1]] (by rfl) rfl rfl (by (try simp only [List.map_toArray, List.map_cons, List.map_nil]); first | done | rfl) ?_
    refine (impl_Sheet_keys.calls k2 A0_0 c0_0 l0_0 A0_1 c0_1 l0_1 _ _ (qB HR0.out HB2.out) HC0.out (qB HR1.out HB2.out) HC1.out HK2.out).mono ?_
    rintro e w3 ⟨vk, rfl, hvk, hb3⟩
    refine ⟨_, rfl, ?_⟩
    obtain ⟨Ak, ck, rfl, _, hCk⟩ := Kd.R_reads hvk
    rw [castL_len] at hCk ⊢
    have HB3 := qM (HB2.out.trans (hb3.mono HB2.out.size))
    have BX3 := qM (blk_below BX2.out hb3)
    have HCK := qM hCk
    clear hb3 hvk hCk hHeld HB2 BX2
    refine hK.out _ _ ⟨(qC BX3.out 0).trans rfl, (qC BX3.out 1).trans rfl⟩ (fun hHeld => ?_)
    clear hK K
    refine norm_ (a' := ?_) ?_ ?_
    rotate_left
    · show Act.put _ (some 12) _ = _
      simp only [Act.put, List.setIfInBounds_toArray, List.set_cons_zero, List.set_cons_succ, i64_w, i32_w]
      rfl
    refine one_ (i := 6) (N := (some 15)) #[true, true, true, true, true, true, true, false, false, false, false, false, false] rfl rfl (by kernel_rfl) (by decide) (fun K hK => ?_)
    refine goes_ Try.func62 (by kernel_rfl) rfl #[.agg #[.slice A0_0 l0_0.length c0_0, .slice A0_1 l0_1.length c0_1], .slice Ak (List.range l0_0.length).length ck, .func (.func 64) #[.agg #[.slice A0_0 l0_0.length c0_0, .slice A0_1 l0_1.length c0_1]] #[]] (by rfl) rfl rfl (by (try simp only [List.map_toArray, List.map_cons, List.map_nil]); first | done | rfl) ?_
    refine (reached_w (mayN l0_0 l0_1) (qB HR0.out HB3.out) HC0.out (qB HR1.out HB3.out) HC1.out (by have := HLE.out; omega) (fun k hk _ => HMAY.out k hk) (List.range l0_0.length) Ak ck HCK.out).mono ?_
    rintro e w4 ⟨M, ext, rfl, hW, hm4, hb4, _⟩
    refine ⟨_, rfl, ?_⟩
    have HB4 := qM (HB3.out.trans (hb4.mono HB3.out.size))
    have BX4 := qM (blk_below BX3.out hb4)
    have HM4 := qM hm4
    have HW := qM hW
    clear hb4 hm4 hW hHeld HB3 BX3 HCK
    refine hK.out _ _ ⟨(qC BX4.out 0).trans rfl, (qC BX4.out 1).trans rfl⟩ (fun hHeld => ?_)
    clear hK K
    refine norm_ (a' := ?_) ?_ ?_
    rotate_left
    · show Act.put _ (some 15) _ = _
      simp only [Act.put, List.setIfInBounds_toArray, List.set_cons_zero, List.set_cons_succ, i64_w, i32_w]
      rfl
    refine one_ (i := 7) (N := (some 16)) #[true, true, true, true, true, true, true, true, false, false, false, false, false] rfl rfl (by kernel_rfl) (by decide) (fun K hK => ?_)
    refine goes_ Try.func61 (by kernel_rfl) rfl #[.agg #[.slice A0_0 l0_0.length c0_0, .slice A0_1 l0_1.length c0_1], .map (some M)] (by rfl) rfl rfl (by (try simp only [List.map_toArray, List.map_cons, List.map_nil]); first | done | rfl) ?_
    have HEL : Aside0 (ext.length ≤ 100000 ∧ ∀ k ∈ ext, k < l0_0.length) := ⟨by
      have hlt : ∀ k ∈ ext, k < l0_0.length := fun k hk => madeB_lt (HW.out.sound k hk).1
      have := Topo.sub_len ext (List.range l0_0.length) HW.out.nodup (fun x hx => List.mem_range.2 (hlt x hx))
      rw [List.length_range] at this
      exact ⟨by have := HLE.out; omega, hlt⟩⟩
    refine (topo_w (mayN l0_0 l0_1) ext (qB HR0.out HB4.out) HC0.out (qB HR1.out HB4.out) HC1.out (by have := HLE.out; omega) HEL.out.1 (fun k hk _ => HMAY.out k hk) HM4.out).mono ?_
    intro e w5 hT
    rw [ext_topo HW.out] at hT
    obtain ⟨v5, rfl, hb5, _⟩ := topoP_ret hT
    refine ⟨_, rfl, ?_⟩
    have HB5 := qM (HB4.out.trans (hb5.mono HB4.out.size))
    have BX5 := qM (blk_below BX4.out hb5)
    rw [HRR.out]
    clear hb5 hT hHeld HB4 BX4 HM4 HW HEL
    refine hK.out _ _ ⟨(qC BX5.out 0).trans rfl, (qC BX5.out 1).trans rfl⟩ (fun hHeld => ?_)
    clear hK K
    refine norm_ (a' := ?_) ?_ ?_
    rotate_left
    · show Act.put _ (some 16) _ = _
      simp only [Act.put, List.setIfInBounds_toArray, List.set_cons_zero, List.set_cons_succ, i64_w, i32_w]
      rfl
    refine pure_ (i := 8) (N := (some 8)) (v := ?_) (a' := ?_) #[true, true, true, true, true, true, true, true, true, false, false, false, false] rfl rfl (by kernel_rfl) (fun _ _ _ h => h) (Or.inl ⟨by rfl, ?_⟩) ?_ ?_
    rotate_left
    · intro w'
      go_simp
      with_reducible rfl
    rotate_left
    · simp only [Act.put, List.setIfInBounds_toArray, List.set_cons_zero, List.set_cons_succ, i64_w, i32_w]
      rfl
    refine pure_ (i := 9) (N := (some 17)) (v := ?_) (a' := ?_) #[true, true, true, true, true, true, true, true, true, true, false, false, false] rfl rfl (by kernel_rfl) (fun _ _ _ h => h) (Or.inl ⟨by rfl, ?_⟩) ?_ ?_
    rotate_left
    · intro w'
      go_simp
      with_reducible rfl
    rotate_left
    · simp only [Act.put, List.setIfInBounds_toArray, List.set_cons_zero, List.set_cons_succ, i64_w, i32_w]
      rfl
    refine pure_ (i := 10) (N := (some 18)) (v := ?_) (a' := ?_) #[true, true, true, true, true, true, true, true, true, true, true, false, false] rfl rfl (by kernel_rfl) (fun _ _ _ h => h) (Or.inl ⟨by rfl, ?_⟩) ?_ ?_
    rotate_left
    · intro w'
      go_simp
      with_reducible rfl
    rotate_left
    · simp only [Act.put, List.setIfInBounds_toArray, List.set_cons_zero, List.set_cons_succ, i64_w, i32_w]
      rfl
    refine pure_ (i := 11) (N := (some 3)) (v := ?_) (a' := ?_) #[true, true, true, true, true, true, true, true, true, true, true, true, false] rfl rfl (by kernel_rfl) (fun _ _ _ h => h) (Or.inl ⟨by rfl, ?_⟩) ?_ ?_
    rotate_left
    · intro w'
      go_simp
      with_reducible rfl
    rotate_left
    · simp only [Act.put, List.setIfInBounds_toArray, List.set_cons_zero, List.set_cons_succ, i64_w, i32_w]
      rfl
    refine pure_ (i := 12) (N := (some 4)) (v := ?_) (a' := ?_) #[true, true, true, true, true, true, true, true, true, true, true, true, true] rfl rfl (by kernel_rfl) (fun _ _ _ h => h) (Or.inl ⟨by rfl, ?_⟩) ?_ ?_
    rotate_left
    · intro w'
      go_simp
      with_reducible rfl
    rotate_left
    · simp only [Act.put, List.setIfInBounds_toArray, List.set_cons_zero, List.set_cons_succ, i64_w, i32_w]
      rfl
    refine done_ (by kernel_rfl) ?_
    clear hHeld
    go_wp2
    go_ret
    exact ⟨rfl, HB5.out⟩
end Go.Proofs.Ythfemojaabejiaa.G
end
section
namespace Go.Proofs.Ythfemojaabejiaa.G
open Go.RowKit Go.Proofs.YthfemojaabejiaaW.PrintWords Go.Proofs.YthfemojaabejiaaW.PrintLast Go.Proofs.YthfemojaabejiaaW.PrintMore
attribute [local go_sem] max2_int min2_int max_two min_two max_three min_three max_four min_four
set_option linter.unusedVariables false
set_option linter.unusedSimpArgs false
def spec_l4Keys.l0 : Nat → List Int → Int → List Bool → List (S141) → Option (Bool)
  | 0, _, _, _, _ => none
  | k + 1, x1, x5, x267000, x267001 => if x5 < (x1.length : Int) then (if 0 ≤ x5 then ((spec_l6In.f (rd x1 x5) 0 (wrap64 ((x267000.length : Int) - 1))).bind fun t268 => (if t268 = true then (spec_l4Keys.l0 k x1 (wrap64 (x5 + 1)) x267000 x267001) else (some false))) else (none)) else ((spec_SheetOk.f k x267000 x267001).bind fun t269 => (some t269))
def spec_l4Keys.f (k : Nat) (l0_0 : List Bool) (l0_1 : List (S141)) (l1 : List Int) : Option (Bool) := spec_l4Keys.l0 k l1 0 l0_0 l0_1
set_option maxHeartbeats 8000000 in
set_option maxRecDepth 100000 in
theorem spec_l4Keys.calls (k : Nat) (A0_0 : Option Addr) (c0_0 : Nat) (l0_0 : List Bool) (A0_1 : Option Addr) (c0_1 : Nat) (l0_1 : List (S141)) (A1 : Option Addr) (c1 : Nat) (l1 : List Int) (r : Bool) (w : World) (hr0_0 : Kd.C Kd.bool w A0_0 l0_0.length l0_0) (hc0_0 : l0_0.length ≤ c0_0) (hr0_1 : Kd.C k141 w A0_1 l0_1.length l0_1) (hc0_1 : l0_1.length ≤ c0_1) (hr1 : Kd.C (Kd.int .i64) w A1 l1.length l1) (hc1 : l1.length ≤ c1) (h : spec_l4Keys.f k l0_0 l0_1 l1 = some r) :
    Calls Try.prog 67 #[.agg #[.slice A0_0 l0_0.length c0_0, .slice A0_1 l0_1.length c0_1], .slice A1 l1.length c1] w fun e w' => e = .returned (.bool r) ∧ Below w.heap.size w w' := by
  have hu30 := Try.underlying30
  have HR0_0 := qM hr0_0
  have HC0_0 := qM hc0_0
  clear hr0_0 hc0_0
  have HR0_1 := qM hr0_1
  have HC0_1 := qM hc0_1
  clear hr0_1 hc0_1
  have HR1 := qM hr1
  have HC1 := qM hc1
  clear hr1 hc1
  have HB := qM (Below.refl w.heap.size w)
  have H : (spec_l4Keys.l0 k l1 0 l0_0 l0_1) = some r := h
  clear h
  have H' := qM H
  clear H
  go_enter Try.func67, Try.ntmps67
  go_wp2_with (first | ((with_reducible refine gate_dst (N := 2) rfl ?_); refine box_event ?hg (N := 2) ?hd (cs := #[.slice A0_0 l0_0.length c0_0, .slice A0_1 l0_1.length c0_1]) (t := 30) ?hr ?_; (case hd => rfl); (case hg => rfl); (case hr => first | (go_simp; done) | (go_simp; rfl)); intro gb266 hg w3 hbox hb; have n0_ := qM (qs (by repeat (first | (with_reducible first | exact HB.out | apply qA | apply qN | apply qD) | exact HB.out)) hb); have n1_ := qM (hbox); have n2_ := qM ((by rw [hg]; exact (qz (by repeat (first | (with_reducible first | exact HB.out | apply qA | apply qN | apply qD) | exact HB.out))) : w.heap.size ≤ gb266)); have n3_ := qM ((by rw [hg]; exact (qz (by repeat (first | (with_reducible first | exact HB.out | apply qA | apply qN | apply qD) | exact HB.out))) : w.heap.size ≤ gb266)); clear HB; have HB := n0_; have BK266 := n1_; have GW266 := n2_; have GE266 := n3_; clear n0_ n1_ n2_ n3_; clear hb hbox hg))
  repeat (go_quiet (first | ((with_reducible refine gate_dst (N := 2) rfl ?_); refine box_event ?hg (N := 2) ?hd (cs := #[.slice A0_0 l0_0.length c0_0, .slice A0_1 l0_1.length c0_1]) (t := 30) ?hr ?_; (case hd => rfl); (case hg => rfl); (case hr => first | (go_simp; done) | (go_simp; rfl)); intro gb266 hg w3 hbox hb; have n0_ := qM (qs (by repeat (first | (with_reducible first | exact HB.out | apply qA | apply qN | apply qD) | exact HB.out)) hb); have n1_ := qM (hbox); have n2_ := qM ((by rw [hg]; exact (qz (by repeat (first | (with_reducible first | exact HB.out | apply qA | apply qN | apply qD) | exact HB.out))) : w.heap.size ≤ gb266)); have n3_ := qM ((by rw [hg]; exact (qz (by repeat (first | (with_reducible first | exact HB.out | apply qA | apply qN | apply qD) | exact HB.out))) : w.heap.size ≤ gb266)); clear HB; have HB := n0_; have BK266 := n1_; have GW266 := n2_; have GE266 := n3_; clear n0_ n1_ n2_ n3_; clear hb hbox hg)); try go_wp2_with (first | ((with_reducible refine gate_dst (N := 2) rfl ?_); refine box_event ?hg (N := 2) ?hd (cs := #[.slice A0_0 l0_0.length c0_0, .slice A0_1 l0_1.length c0_1]) (t := 30) ?hr ?_; (case hd => rfl); (case hg => rfl); (case hr => first | (go_simp; done) | (go_simp; rfl)); intro gb266 hg w3 hbox hb; have n0_ := qM (qs (by repeat (first | (with_reducible first | exact HB.out | apply qA | apply qN | apply qD) | exact HB.out)) hb); have n1_ := qM (hbox); have n2_ := qM ((by rw [hg]; exact (qz (by repeat (first | (with_reducible first | exact HB.out | apply qA | apply qN | apply qD) | exact HB.out))) : w.heap.size ≤ gb266)); have n3_ := qM ((by rw [hg]; exact (qz (by repeat (first | (with_reducible first | exact HB.out | apply qA | apply qN | apply qD) | exact HB.out))) : w.heap.size ≤ gb266)); clear HB; have HB := n0_; have BK266 := n1_; have GW266 := n2_; have GE266 := n3_; clear n0_ n1_ n2_ n3_; clear hb hbox hg)))
  go_loopg [5] k (fun kq v5 w' => ∃ (x5_1 : Int), v5 = .int .i64 x5_1 ∧ Aside0 (spec_l4Keys.l0 kq l1 x5_1 l0_0 l0_1 = some r) ∧ Aside0 (kq ≤ k) ∧ Aside0 (w'.heap[gb266]? = some (.cells #[(.slice A0_0 l0_0.length c0_0), (.slice A0_1 l0_1.length c0_1)] 30 (0, 0))) ∧ Aside0 (Below w.heap.size w w'))
  case atStart => exact ⟨(0), (by first | rfl | (simp; done) | (simp [*]; done)), H', ⟨Nat.le_refl _⟩, ⟨by (with_reducible repeat (first | refine qn ?_ _ | refine qd ?_ | refine qa ?_ _)); exact BK266.out⟩, ⟨by repeat (first | (with_reducible first | exact HB.out | apply qA | apply qN | apply qD | refine qS ?_ GE266.out) | exact HB.out)⟩⟩
  case round =>
    clear H'
    try clear c1
    try clear p2
    obtain ⟨x5_1, rfl, HA, HK1, BK266, HB⟩ := hrel
    cases gk with
    | zero => exact absurd HA.out (by simp [spec_l4Keys.l0])
    | succ k1 =>
      have H := HA.out
      clear HA
      simp only [spec_l4Keys.l0] at H
      by_cases c4 : x5_1 < (l1.length : Int)
      rotate_left
      · rw [if_neg c4] at H
        have c4b0 : decide (x5_1 < (l1.length : Int)) = false := decide_eq_false c4
        clear c4
        replace H := Option.bind_eq_some_iff.mp H
        obtain ⟨t269, A100, H⟩ := H
        replace H : (some t269) = some r := H
        have A10 := qM A100
        clear A100
        obtain rfl := Option.some.inj H
        have hcz11_0 : wr.cell? ⟨gb266, 0, none⟩ = some (.slice A0_0 l0_0.length c0_0) := (qC BK266.out 0).trans rfl
        have hcz11_1 : wr.cell? ⟨gb266, 1, none⟩ = some (.slice A0_1 l0_1.length c0_1) := (qC BK266.out 1).trans rfl
        have hfz11_0 := qF BK266.out 0
        have hfz11_1 := qF BK266.out 1
        go_wp2_with (first | (go_at_call 56; (with_reducible refine (spec_SheetOk.calls k1 _ _ l0_0 _ _ l0_1 t269 _ ?side1 ?side2 ?side3 ?side4 A10.out).mono ?_); (case side1 => repeat (first | exact (qB HR0_0.out HB.out) | (with_reducible refine qc ?_ _) | (with_reducible refine qe ?_ _) | (with_reducible refine qf ?_))); (case side2 => exact HC0_0.out); (case side3 => repeat (first | exact (qB HR0_1.out HB.out) | (with_reducible refine qc ?_ _) | (with_reducible refine qe ?_ _) | (with_reducible refine qf ?_))); (case side4 => exact HC0_1.out); rintro e w12 ⟨rfl, hb⟩; have n0_ := qM (blk_below (g := gb266) (o := .cells #[.slice A0_0 l0_0.length c0_0, .slice A0_1 l0_1.length c0_1] 30 (0, 0)) (by (with_reducible repeat (first | refine qn ?_ _ | refine qd ?_ | refine qa ?_ _)); exact BK266.out) hb); have n1_ := qM (qs (by repeat (first | (with_reducible first | exact HB.out | apply qA | apply qN | apply qD | refine qS ?_ GE266.out) | exact HB.out)) hb); clear BK266; clear HB; have BK266 := n0_; have HB := n1_; clear n0_ n1_; (try clear hb); (try clear hb2); (try clear hk); (try clear hi)))
        repeat (go_quiet (first | (go_at_call 56; (with_reducible refine (spec_SheetOk.calls k1 _ _ l0_0 _ _ l0_1 t269 _ ?side1 ?side2 ?side3 ?side4 A10.out).mono ?_); (case side1 => repeat (first | exact (qB HR0_0.out HB.out) | (with_reducible refine qc ?_ _) | (with_reducible refine qe ?_ _) | (with_reducible refine qf ?_))); (case side2 => exact HC0_0.out); (case side3 => repeat (first | exact (qB HR0_1.out HB.out) | (with_reducible refine qc ?_ _) | (with_reducible refine qe ?_ _) | (with_reducible refine qf ?_))); (case side4 => exact HC0_1.out); rintro e w12 ⟨rfl, hb⟩; have n0_ := qM (blk_below (g := gb266) (o := .cells #[.slice A0_0 l0_0.length c0_0, .slice A0_1 l0_1.length c0_1] 30 (0, 0)) (by (with_reducible repeat (first | refine qn ?_ _ | refine qd ?_ | refine qa ?_ _)); exact BK266.out) hb); have n1_ := qM (qs (by repeat (first | (with_reducible first | exact HB.out | apply qA | apply qN | apply qD | refine qS ?_ GE266.out) | exact HB.out)) hb); clear BK266; clear HB; have BK266 := n0_; have HB := n1_; clear n0_ n1_; (try clear hb); (try clear hb2); (try clear hk); (try clear hi))); try go_wp2_with (first | (go_at_call 56; (with_reducible refine (spec_SheetOk.calls k1 _ _ l0_0 _ _ l0_1 t269 _ ?side1 ?side2 ?side3 ?side4 A10.out).mono ?_); (case side1 => repeat (first | exact (qB HR0_0.out HB.out) | (with_reducible refine qc ?_ _) | (with_reducible refine qe ?_ _) | (with_reducible refine qf ?_))); (case side2 => exact HC0_0.out); (case side3 => repeat (first | exact (qB HR0_1.out HB.out) | (with_reducible refine qc ?_ _) | (with_reducible refine qe ?_ _) | (with_reducible refine qf ?_))); (case side4 => exact HC0_1.out); rintro e w12 ⟨rfl, hb⟩; have n0_ := qM (blk_below (g := gb266) (o := .cells #[.slice A0_0 l0_0.length c0_0, .slice A0_1 l0_1.length c0_1] 30 (0, 0)) (by (with_reducible repeat (first | refine qn ?_ _ | refine qd ?_ | refine qa ?_ _)); exact BK266.out) hb); have n1_ := qM (qs (by repeat (first | (with_reducible first | exact HB.out | apply qA | apply qN | apply qD | refine qS ?_ GE266.out) | exact HB.out)) hb); clear BK266; clear HB; have BK266 := n0_; have HB := n1_; clear n0_ n1_; (try clear hb); (try clear hb2); (try clear hk); (try clear hi))))
        go_ret
        exact ⟨by first | rfl | (simp [errW_none, errW_some] <;> rfl) | (simp [*, errW_none, errW_some] <;> rfl), by repeat (first | (with_reducible first | exact HB.out | apply qA | apply qN | apply qD | refine qS ?_ GE266.out) | exact HB.out)⟩
      rw [if_pos c4] at H
      have c4b0 : decide (x5_1 < (l1.length : Int)) = true := decide_eq_true c4
      clear c4
      by_cases c5 : 0 ≤ x5_1
      rotate_left
      · rw [if_neg c5] at H
        exact absurd H (by simp)
      rw [if_pos c5] at H
      have c5b0 : decide (0 ≤ x5_1) = true := decide_eq_true c5
      clear c5
      replace H := Option.bind_eq_some_iff.mp H
      obtain ⟨t268, A60, H⟩ := H
      replace H : (if t268 = true then (spec_l4Keys.l0 k1 l1 (wrap64 (x5_1 + 1)) l0_0 l0_1) else (some false)) = some r := H
      have A6 := qM A60
      clear A60
      by_cases c7 : t268 = true
      rotate_left
      · replace c7 := Bool.eq_false_iff.mpr c7
        subst c7
        have H1 : (some false) = some r := by rw [if_neg (show ¬ (false = true) by decide)] at H; exact H
        clear H
        have H := H1
        clear H1
        obtain rfl := Option.some.inj H
        have p267 : 0 ≤ (x5_1 : Int) := qO (by first | (with_reducible assumption) | assumption)
        have q267 : x5_1 < (l1.length : Int) := qO (by first | (with_reducible assumption) | assumption)
        obtain ⟨ad267, e267, hx267_0⟩ := Kd.at_int HR1.out x5_1 p267 q267
        cases e267
        replace hx267_0 := (HB.out.cell (qL w _ hx267_0)).trans hx267_0
        replace p267 := eq_true p267
        replace q267 := eq_true q267
        have hcz9_0 : wr.cell? ⟨gb266, 0, none⟩ = some (.slice A0_0 l0_0.length c0_0) := (qC BK266.out 0).trans rfl
        have hcz9_1 : wr.cell? ⟨gb266, 1, none⟩ = some (.slice A0_1 l0_1.length c0_1) := (qC BK266.out 1).trans rfl
        have hfz9_0 := qF BK266.out 0
        have hfz9_1 := qF BK266.out 1
        go_wp2_with (first | (go_at_call 82; (with_reducible refine (spec_l6In.calls (rd l1 x5_1) 0 (wrap64 ((l0_0.length : Int) - 1)) false _ A6.out).mono ?_); rintro e w' ⟨rfl, ⟨nd, rfl⟩⟩; (try first | exact ⟨rfl, _, World.drewN_drewN _ _ _⟩ | exact ⟨rfl, _, Eq.trans (World.drewN_drewN _ _ _) (congrArg (World.drewN _) (Nat.add_assoc _ _ _))⟩)))
        repeat (go_quiet (first | (go_at_call 82; (with_reducible refine (spec_l6In.calls (rd l1 x5_1) 0 (wrap64 ((l0_0.length : Int) - 1)) false _ A6.out).mono ?_); rintro e w' ⟨rfl, ⟨nd, rfl⟩⟩; (try first | exact ⟨rfl, _, World.drewN_drewN _ _ _⟩ | exact ⟨rfl, _, Eq.trans (World.drewN_drewN _ _ _) (congrArg (World.drewN _) (Nat.add_assoc _ _ _))⟩))); try go_wp2_with (first | (go_at_call 82; (with_reducible refine (spec_l6In.calls (rd l1 x5_1) 0 (wrap64 ((l0_0.length : Int) - 1)) false _ A6.out).mono ?_); rintro e w' ⟨rfl, ⟨nd, rfl⟩⟩; (try first | exact ⟨rfl, _, World.drewN_drewN _ _ _⟩ | exact ⟨rfl, _, Eq.trans (World.drewN_drewN _ _ _) (congrArg (World.drewN _) (Nat.add_assoc _ _ _))⟩))))
        go_ret
        exact ⟨by first | rfl | (simp [errW_none, errW_some] <;> rfl) | (simp [*, errW_none, errW_some] <;> rfl), by repeat (first | (with_reducible first | exact HB.out | apply qA | apply qN | apply qD | refine qS ?_ GE266.out) | exact HB.out)⟩
      subst c7
      have H1 : (spec_l4Keys.l0 k1 l1 (wrap64 (x5_1 + 1)) l0_0 l0_1) = some r := by rw [if_pos rfl] at H; exact H
      clear H
      have H := H1
      clear H1
      have H' := qM H
      clear H
      have p267 : 0 ≤ (x5_1 : Int) := qO (by first | (with_reducible assumption) | assumption)
      have q267 : x5_1 < (l1.length : Int) := qO (by first | (with_reducible assumption) | assumption)
      obtain ⟨ad267, e267, hx267_0⟩ := Kd.at_int HR1.out x5_1 p267 q267
      cases e267
      replace hx267_0 := (HB.out.cell (qL w _ hx267_0)).trans hx267_0
      replace p267 := eq_true p267
      replace q267 := eq_true q267
      have hcz8_0 : wr.cell? ⟨gb266, 0, none⟩ = some (.slice A0_0 l0_0.length c0_0) := (qC BK266.out 0).trans rfl
      have hcz8_1 : wr.cell? ⟨gb266, 1, none⟩ = some (.slice A0_1 l0_1.length c0_1) := (qC BK266.out 1).trans rfl
      have hfz8_0 := qF BK266.out 0
      have hfz8_1 := qF BK266.out 1
      go_wp2_with (first | (go_at_call 82; (with_reducible refine (spec_l6In.calls (rd l1 x5_1) 0 (wrap64 ((l0_0.length : Int) - 1)) true _ A6.out).mono ?_); rintro e w' ⟨rfl, ⟨nd, rfl⟩⟩; (try first | exact ⟨rfl, _, World.drewN_drewN _ _ _⟩ | exact ⟨rfl, _, Eq.trans (World.drewN_drewN _ _ _) (congrArg (World.drewN _) (Nat.add_assoc _ _ _))⟩)))
      repeat (go_quiet (first | (go_at_call 82; (with_reducible refine (spec_l6In.calls (rd l1 x5_1) 0 (wrap64 ((l0_0.length : Int) - 1)) true _ A6.out).mono ?_); rintro e w' ⟨rfl, ⟨nd, rfl⟩⟩; (try first | exact ⟨rfl, _, World.drewN_drewN _ _ _⟩ | exact ⟨rfl, _, Eq.trans (World.drewN_drewN _ _ _) (congrArg (World.drewN _) (Nat.add_assoc _ _ _))⟩))); try go_wp2_with (first | (go_at_call 82; (with_reducible refine (spec_l6In.calls (rd l1 x5_1) 0 (wrap64 ((l0_0.length : Int) - 1)) true _ A6.out).mono ?_); rintro e w' ⟨rfl, ⟨nd, rfl⟩⟩; (try first | exact ⟨rfl, _, World.drewN_drewN _ _ _⟩ | exact ⟨rfl, _, Eq.trans (World.drewN_drewN _ _ _) (congrArg (World.drewN _) (Nat.add_assoc _ _ _))⟩))))
      go_roundg k1
      case measure => have := HK1.out; omega
      case rel => exact ⟨(wrap64 (x5_1 + 1)), (by first | rfl | (simp; done) | (simp [*]; done)), H', ⟨by have := HK1.out; omega⟩, ⟨by (with_reducible repeat (first | refine qn ?_ _ | refine qd ?_ | refine qa ?_ _)); exact BK266.out⟩, ⟨by repeat (first | (with_reducible first | exact HB.out | apply qA | apply qN | apply qD | refine qS ?_ GE266.out) | exact HB.out)⟩⟩
def spec_l4Below.l0 : Nat → List Bool → List Int → Int → List Bool → List (S141) → Option (List Bool)
  | 0, _, _, _, _, _ => none
  | k + 1, x5, x6, x7, x271000, x271001 => if x7 < (x6.length : Int) then (if 0 ≤ x7 then (if 0 ≤ (rd x6 x7) then (if (rd x6 x7) < (x5.length : Int) then (if (rdOf false x5 (rd x6 x7) = true) then (spec_l4Below.l0 k x5 x6 (wrap64 (x7 + 1)) x271000 x271001) else (if (rd x6 x7) < (x271000.length : Int) then (if rdOf false x271000 (rd x6 x7) = true then ((spec_l3May.f k x271000 x271001 (rd x6 x7)).bind fun t284 => (if x6.length + t284.length < 17592186044416 then (spec_l4Below.l0 k (x5.set ((rd x6 x7) : Int).toNat true) (x6 ++ t284) (wrap64 (x7 + 1)) x271000 x271001) else (none))) else (spec_l4Below.l0 k x5 x6 (wrap64 (x7 + 1)) x271000 x271001)) else (none))) else (none)) else (none)) else (none)) else (some x5)
def spec_l4Below.f (k : Nat) (l0_0 : List Bool) (l0_1 : List (S141)) (l1 : List Int) : Option (List Bool) := if 0 ≤ (l0_0.length : Int) then (if ((l0_0.length : Int) : Int).toNat ≤ 281474976710656 then ((some (([] : List Int) : List Int)).bind fun y274 => (if y274.length + l1.length < 17592186044416 then (spec_l4Below.l0 k (List.replicate ((l0_0.length : Int) : Int).toNat false) (y274 ++ l1) 0 l0_0 l0_1) else (none))) else (none)) else (none)
set_option maxHeartbeats 8000000 in
set_option maxRecDepth 100000 in
theorem spec_l4Below.calls (k : Nat) (A0_0 : Option Addr) (c0_0 : Nat) (l0_0 : List Bool) (A0_1 : Option Addr) (c0_1 : Nat) (l0_1 : List (S141)) (A1 : Option Addr) (c1 : Nat) (l1 : List Int) (r : List Bool) (w : World) (hr0_0 : Kd.C Kd.bool w A0_0 l0_0.length l0_0) (hc0_0 : l0_0.length ≤ c0_0) (hr0_1 : Kd.C k141 w A0_1 l0_1.length l0_1) (hc0_1 : l0_1.length ≤ c0_1) (hr1 : Kd.C (Kd.int .i64) w A1 l1.length l1) (hc1 : l1.length ≤ c1) (h : spec_l4Below.f k l0_0 l0_1 l1 = some r) :
    Calls Try.prog 68 #[.agg #[.slice A0_0 l0_0.length c0_0, .slice A0_1 l0_1.length c0_1], .slice A1 l1.length c1] w fun e w' => ∃ v0_ : Value, e = .returned (v0_) ∧ Kd.R Kd.bool 4 w' w.heap.size (fun _ => True) v0_ r ∧ Below w.heap.size w w' := by
  have hu30 := Try.underlying30
  have HR0_0 := qM hr0_0
  have HC0_0 := qM hc0_0
  clear hr0_0 hc0_0
  have HR0_1 := qM hr0_1
  have HC0_1 := qM hc0_1
  clear hr0_1 hc0_1
  have HR1 := qM hr1
  have HC1 := qM hc1
  clear hr1 hc1
  have HB := qM (Below.refl w.heap.size w)
  have H : (if 0 ≤ (l0_0.length : Int) then (if ((l0_0.length : Int) : Int).toNat ≤ 281474976710656 then ((some (([] : List Int) : List Int)).bind fun y274 => (if y274.length + l1.length < 17592186044416 then (spec_l4Below.l0 k (List.replicate ((l0_0.length : Int) : Int).toNat false) (y274 ++ l1) 0 l0_0 l0_1) else (none))) else (none)) else (none)) = some r := h
  clear h
  by_cases c3 : 0 ≤ (l0_0.length : Int)
  rotate_left
  · rw [if_neg c3] at H
    exact absurd H (by simp)
  rw [if_pos c3] at H
  have c3b0 := eq_true c3
  have c3b1 : decide (0 ≤ (l0_0.length : Int)) = true := decide_eq_true c3
  clear c3
  by_cases c4 : ((l0_0.length : Int) : Int).toNat ≤ 281474976710656
  rotate_left
  · rw [if_neg c4] at H
    exact absurd H (by simp)
  rw [if_pos c4] at H
  have c4b0 := eq_true c4
  have c4b1 : decide (((l0_0.length : Int) : Int).toNat ≤ 281474976710656) = true := decide_eq_true c4
  clear c4
  obtain ⟨y271, hy271⟩ : ∃ y_ : List Bool, y_ = (List.replicate ((l0_0.length : Int) : Int).toNat false) := ⟨_, rfl⟩
  replace H : ((some (([] : List Int) : List Int)).bind fun y274 => (if y274.length + l1.length < 17592186044416 then (spec_l4Below.l0 k y271 (y274 ++ l1) 0 l0_0 l0_1) else (none))) = some r := by first | (rw [hy271]; with_reducible exact H) | (have H2_ := (Option.bind_some _ _).symm.trans H; rw [hy271]; with_reducible exact H2_) | (have H2_ := (Option.bind_some _ _).symm.trans H; with_reducible exact H2_) | with_reducible exact H | (rw [hy271]; exact H) | exact H
  have Ny271 := qM hy271
  clear hy271
  obtain ⟨y274, hy274⟩ : ∃ y_ : List Int, y_ = (([] : List Int)) := ⟨_, rfl⟩
  replace H : (if y274.length + l1.length < 17592186044416 then (spec_l4Below.l0 k y271 (y274 ++ l1) 0 l0_0 l0_1) else (none)) = some r := by first | (rw [hy274]; with_reducible exact H) | (have H2_ := (Option.bind_some _ _).symm.trans H; rw [hy274]; with_reducible exact H2_) | (have H2_ := (Option.bind_some _ _).symm.trans H; with_reducible exact H2_) | with_reducible exact H | (rw [hy274]; exact H) | exact H
  have Ny274 := qM hy274
  clear hy274
  by_cases c5 : y274.length + l1.length < 17592186044416
  rotate_left
  · rw [if_neg c5] at H
    exact absurd H (by simp)
  rw [if_pos c5] at H
  have LMc5 := qM c5
  clear c5
  obtain ⟨y277, hy277⟩ : ∃ y_ : List Int, y_ = (y274 ++ l1) := ⟨_, rfl⟩
  replace H : (spec_l4Below.l0 k y271 y277 0 l0_0 l0_1) = some r := by first | (rw [hy277]; with_reducible exact H) | (have H2_ := (Option.bind_some _ _).symm.trans H; rw [hy277]; with_reducible exact H2_) | (have H2_ := (Option.bind_some _ _).symm.trans H; with_reducible exact H2_) | with_reducible exact H | (rw [hy277]; exact H) | exact H
  have Ny277 := qM hy277
  clear hy277
  have H' := qM H
  clear H
  go_enter Try.func68, Try.ntmps68
  go_wp2_with (first | ((with_reducible refine gate_dst (N := 2) rfl ?_); refine box_event ?hg (N := 2) ?hd (cs := #[.slice A0_0 l0_0.length c0_0, .slice A0_1 l0_1.length c0_1]) (t := 30) ?hr ?_; (case hd => rfl); (case hg => rfl); (case hr => first | (go_simp; done) | (go_simp; rfl)); intro gb270 hg w6 hbox hb; have n0_ := qM (qs (by repeat (first | (with_reducible first | exact HB.out | apply qA | apply qN | apply qD) | exact HB.out)) hb); have n1_ := qM (hbox); have n2_ := qM ((by rw [hg]; exact (qz (by repeat (first | (with_reducible first | exact HB.out | apply qA | apply qN | apply qD) | exact HB.out))) : w.heap.size ≤ gb270)); have n3_ := qM ((by rw [hg]; exact (qz (by repeat (first | (with_reducible first | exact HB.out | apply qA | apply qN | apply qD) | exact HB.out))) : w.heap.size ≤ gb270)); clear HB; have HB := n0_; have BK270 := n1_; have GW270 := n2_; have GE270 := n3_; clear n0_ n1_ n2_ n3_; clear hb hbox hg; have hcz7_0 : w6.cell? ⟨gb270, 0, none⟩ = some (.slice A0_0 l0_0.length c0_0) := (qC BK270.out 0).trans rfl; have hcz7_1 : w6.cell? ⟨gb270, 1, none⟩ = some (.slice A0_1 l0_1.length c0_1) := (qC BK270.out 1).trans rfl; have hfz7_0 := qF BK270.out 0; have hfz7_1 := qF BK270.out 1) | ((with_reducible refine gate_dst (N := 12) rfl ?_); refine Kd.R_make Kd.bool _ 4 rfl (N := 12) rfl 22 _ _ rfl (l0_0.length : Int) rfl rfl Try.underlying22 (.bool false) 1 info4 rfl (by decide) (by omega) false (ok := fun _ => True) (okp := fun _ => True) rfl (fun _ hk => hk) trivial (qO (by first | (with_reducible assumption) | assumption)) (Nat.le_trans (Nat.mul_le_mul_right _ (qO (by first | (with_reducible assumption) | assumption) : (l0_0.length : Int).toNat ≤ 281474976710656)) (by omega)) (Below.refl _ _) (Nat.le_refl _) ?_; intro v272 w8 ho9 hb hg_ hnew_; clear hg_ hnew_; (first | rw [← Ny271.out] at ho9 | (simp only [Int.reduceToNat] at ho9; rw [← Ny271.out] at ho9)); have n0_ := qM (Kd.R_lower ho9 (qz (by repeat (first | (with_reducible first | exact HB.out | apply qA | apply qN | apply qD | refine qS ?_ GE270.out) | exact HB.out)))); have n1_ := qM (blk_below (g := gb270) (o := .cells #[.slice A0_0 l0_0.length c0_0, .slice A0_1 l0_1.length c0_1] 30 (0, 0)) (by (with_reducible repeat (first | refine qn ?_ _ | refine qd ?_ | refine qa ?_ _)); exact BK270.out) hb); have n2_ := qM (qs (by repeat (first | (with_reducible first | exact HB.out | apply qA | apply qN | apply qD | refine qS ?_ GE270.out) | exact HB.out)) hb); clear BK270; clear HB; have HO273 := n0_; have BK270 := n1_; have HB := n2_; clear n0_ n1_ n2_; clear hb ho9) | ((with_reducible refine gate_dst (N := 13) rfl ?_); refine Kd.R_lit (Kd.int .i64) _ 3 ?hg (N := 13) ?hd (xs := ([] : List Int)) (inner := []) (ok := fun _ => True) (okp := fun _ => True) ?hr ?hp (fun _ hk => hk) trivial (Below.refl _ _) (Nat.le_refl _) (by simp) ?_; (case hd => rfl); (case hg => rfl); (case hr => first | (go_simp; done) | (go_simp; rfl)); (case hp => exact (Reps.none _ _)); intro v275 w10 ho11 hb hg_ hnew_; clear hg_ hnew_; (first | rw [← Ny274.out] at ho11 | (simp only [Int.reduceToNat] at ho11; rw [← Ny274.out] at ho11)); have n0_ := qM (Kd.R_below (by (with_reducible repeat (first | apply Kd.R_alloc | apply Kd.R_drewN | apply Kd.R_drew)); exact HO273.out) hb); have n1_ := qM (Kd.R_lower ho11 (qz (by repeat (first | (with_reducible first | exact HB.out | apply qA | apply qN | apply qD | refine qS ?_ GE270.out) | exact HB.out)))); have n2_ := qM (blk_below (g := gb270) (o := .cells #[.slice A0_0 l0_0.length c0_0, .slice A0_1 l0_1.length c0_1] 30 (0, 0)) (by (with_reducible repeat (first | refine qn ?_ _ | refine qd ?_ | refine qa ?_ _)); exact BK270.out) hb); have n3_ := qM (qs (by repeat (first | (with_reducible first | exact HB.out | apply qA | apply qN | apply qD | refine qS ?_ GE270.out) | exact HB.out)) hb); clear HO273; clear BK270; clear HB; have HO273 := n0_; have HO276 := n1_; have BK270 := n2_; have HB := n3_; clear n0_ n1_ n2_ n3_; clear hb ho11) | ((with_reducible refine gate_builtin (b := .append) (xs := #[.tmp 13, .tmp 14]) rfl ?_); at_builtin; refine Kd.R_append_rows (Kd.int .i64) (w0 := w) w.heap.size rfl (.tmp 13) (.tmp 14) 34 3 (.int .i64 0) 8 rfl Try.underlying34 info3 rfl (by decide) (by omega) v275 y274 l1 _ _ _ (fun _ => True) (fun _ => False) rfl rfl ?aO ?aR (fun _ _ h => h) (fun _ h => h.elim) ?aF ?aB ?aS ?aL ?_; (case aR => repeat (first | exact (qB HR1.out HB.out) | (with_reducible refine qc ?_ _) | (with_reducible refine qe ?_ _) | (with_reducible refine qf ?_))); (case aB => exact (by repeat (first | (with_reducible first | exact HB.out | apply qA | apply qN | apply qD | refine qS ?_ GE270.out) | exact HB.out))); (case aF => exact (fun _ _ => trivial)); (case aO => exact (by (with_reducible repeat (first | apply Kd.R_alloc | apply Kd.R_drewN | apply Kd.R_drew)); exact HO276.out)); (case aS => exact (qz (by repeat (first | (with_reducible first | exact HB.out | apply qA | apply qN | apply qD | refine qS ?_ GE270.out) | exact HB.out)))); (case aL => have := LMc5.out; omega); intro v278 w12 ho hb hg hat; rw [← Ny277.out] at ho; have n0_ := qM (blk_grown (g := gb270) (o := .cells #[.slice A0_0 l0_0.length c0_0, .slice A0_1 l0_1.length c0_1] 30 (0, 0)) (by (with_reducible repeat (first | refine qn ?_ _ | refine qd ?_ | refine qa ?_ _)); exact BK270.out) hg (Kd.R_ne HO276.out BK270.out (by decide))); have n1_ := qM (Kd.R_over' (by (with_reducible repeat (first | apply Kd.R_alloc | apply Kd.R_drewN | apply Kd.R_drew)); exact HO273.out) (Kd.R_typed (by (with_reducible repeat (first | apply Kd.R_alloc | apply Kd.R_drewN | apply Kd.R_drew)); exact HO276.out)) (by decide) hg); have n2_ := qM (hb); have n3_ := qM (ho); clear BK270; clear HO273; clear HB; clear HO276; have BK270 := n0_; have HO273 := n1_; have HB := n2_; have HO279 := n3_; clear n0_ n1_ n2_ n3_; clear ho hb hg hat))
  go_loopg [6, 7] k (fun kq v6 v7 w' => ∃ (x5_1 : List Bool) (x6_1 : List Int) (x7_1 : Int), v7 = .int .i64 x7_1 ∧ Aside0 (spec_l4Below.l0 kq x5_1 x6_1 x7_1 l0_0 l0_1 = some r) ∧ Aside0 (kq ≤ k) ∧ Aside0 (Kd.R Kd.bool 4 w' w.heap.size (fun _ => True) v272 x5_1) ∧ Aside0 (Kd.R (Kd.int .i64) 3 w' w.heap.size (fun _ => True) v6 x6_1) ∧ Aside0 (w'.heap[gb270]? = some (.cells #[(.slice A0_0 l0_0.length c0_0), (.slice A0_1 l0_1.length c0_1)] 30 (0, 0))) ∧ Aside0 (Below w.heap.size w w'))
  case atStart => exact ⟨(y271), (y277), (0), (by first | rfl | (simp; done) | (simp [*]; done)), H', ⟨Nat.le_refl _⟩, ⟨by (with_reducible repeat (first | apply Kd.R_alloc | apply Kd.R_drewN | apply Kd.R_drew)); exact HO273.out⟩, ⟨by (with_reducible repeat (first | apply Kd.R_alloc | apply Kd.R_drewN | apply Kd.R_drew)); exact HO279.out⟩, ⟨by (with_reducible repeat (first | refine qn ?_ _ | refine qd ?_ | refine qa ?_ _)); exact BK270.out⟩, ⟨by repeat (first | (with_reducible first | exact HB.out | apply qA | apply qN | apply qD | refine qS ?_ GE270.out) | exact HB.out)⟩⟩
  case round =>
    clear H'
    try clear c1
    try clear p2
    try clear c3
    try clear c3b0
    try clear c3b1
    try clear c4
    try clear c4b0
    try clear c4b1
    try clear c5
    try clear c6
    try clear hcz7_0
    try clear hcz7_1
    try clear hfz7_0
    try clear hfz7_1
    obtain ⟨x5_1, x6_1, x7_1, rfl, HA, HK1, HO_5, HO_6, BK270, HB⟩ := hrel
    cases gk with
    | zero => exact absurd HA.out (by simp [spec_l4Below.l0])
    | succ k1 =>
      have H := HA.out
      clear HA
      simp only [spec_l4Below.l0] at H
      by_cases c13 : x7_1 < (x6_1.length : Int)
      rotate_left
      · rw [if_neg c13] at H
        have c13b0 : decide (x7_1 < (x6_1.length : Int)) = false := decide_eq_false c13
        clear c13
        obtain rfl := Option.some.inj H
        obtain ⟨Ao39, co39, eo39⟩ := Kd.R_slice HO_6.out
        subst eo39
        go_wp2
        go_ret
        exact ⟨_, by first | rfl | (simp [errW_none, errW_some] <;> rfl) | (simp [*, errW_none, errW_some] <;> rfl), by (with_reducible repeat (first | apply Kd.R_alloc | apply Kd.R_drewN | apply Kd.R_drew)); exact HO_5.out, by repeat (first | (with_reducible first | exact HB.out | apply qA | apply qN | apply qD | refine qS ?_ GE270.out) | exact HB.out)⟩
      rw [if_pos c13] at H
      have c13b0 : decide (x7_1 < (x6_1.length : Int)) = true := decide_eq_true c13
      clear c13
      by_cases c14 : 0 ≤ x7_1
      rotate_left
      · rw [if_neg c14] at H
        exact absurd H (by simp)
      rw [if_pos c14] at H
      have c14b0 : decide (0 ≤ x7_1) = true := decide_eq_true c14
      clear c14
      by_cases c15 : 0 ≤ (rd x6_1 x7_1)
      rotate_left
      · rw [if_neg c15] at H
        exact absurd H (by simp)
      rw [if_pos c15] at H
      have c15b0 : decide (0 ≤ (rd x6_1 x7_1)) = true := decide_eq_true c15
      clear c15
      by_cases c16 : (rd x6_1 x7_1) < (x5_1.length : Int)
      rotate_left
      · rw [if_neg c16] at H
        exact absurd H (by simp)
      rw [if_pos c16] at H
      have c16b0 : decide ((rd x6_1 x7_1) < (x5_1.length : Int)) = true := decide_eq_true c16
      clear c16
      obtain ⟨bq17, hbq17⟩ : ∃ b_ : Bool, b_ = (rdOf false x5_1 (rd x6_1 x7_1)) := ⟨_, rfl⟩
      replace H : (if (bq17 = true) then (spec_l4Below.l0 k1 x5_1 x6_1 (wrap64 (x7_1 + 1)) l0_0 l0_1) else (if (rd x6_1 x7_1) < (l0_0.length : Int) then (if rdOf false l0_0 (rd x6_1 x7_1) = true then ((spec_l3May.f k1 l0_0 l0_1 (rd x6_1 x7_1)).bind fun t284 => (if x6_1.length + t284.length < 17592186044416 then (spec_l4Below.l0 k1 (x5_1.set ((rd x6_1 x7_1) : Int).toNat true) (x6_1 ++ t284) (wrap64 (x7_1 + 1)) l0_0 l0_1) else (none))) else (spec_l4Below.l0 k1 x5_1 x6_1 (wrap64 (x7_1 + 1)) l0_0 l0_1)) else (none))) = some r := by rw [← hbq17] at H; exact H
      have Nbq17 := qM hbq17
      clear hbq17
      by_cases c18 : (bq17 = true)
      · subst c18
        have H1 : (spec_l4Below.l0 k1 x5_1 x6_1 (wrap64 (x7_1 + 1)) l0_0 l0_1) = some r := by rw [if_pos rfl] at H; exact H
        clear H
        have H := H1
        clear H1
        have H' := qM H
        clear H
        obtain ⟨Ao19, co19, eo19⟩ := Kd.R_slice HO_6.out
        subst eo19
        have p280 : 0 ≤ (x7_1 : Int) := qO (by first | (with_reducible assumption) | assumption)
        have q280 : x7_1 < (x6_1.length : Int) := qO (by first | (with_reducible assumption) | assumption)
        obtain ⟨ad280, e280, hx280_0⟩ := Kd.at_int (Kd.R_reads' HO_6.out).2.2 x7_1 p280 q280
        cases e280
        replace p280 := eq_true p280
        replace q280 := eq_true q280
        obtain ⟨Ao20, co20, eo20⟩ := Kd.R_slice HO_5.out
        subst eo20
        have p281 : 0 ≤ ((rd x6_1 x7_1) : Int) := qO (by first | (with_reducible assumption) | assumption)
        have q281 : (rd x6_1 x7_1) < (x5_1.length : Int) := qO (by first | (with_reducible assumption) | assumption)
        obtain ⟨ad281, e281, hx281_0⟩ := Kd.at_bool (Kd.R_reads' HO_5.out).2.2 (rd x6_1 x7_1) p281 q281
        (try rw [← Nbq17.out] at hx281_0)
        cases e281
        replace p281 := eq_true p281
        replace q281 := eq_true q281
        go_wp2
        go_roundg k1
        case measure => have := HK1.out; omega
        case rel => exact ⟨(x5_1), (x6_1), (wrap64 (x7_1 + 1)), (by first | rfl | (simp; done) | (simp [*]; done)), H', ⟨by have := HK1.out; omega⟩, ⟨by (with_reducible repeat (first | apply Kd.R_alloc | apply Kd.R_drewN | apply Kd.R_drew)); exact HO_5.out⟩, ⟨by (with_reducible repeat (first | apply Kd.R_alloc | apply Kd.R_drewN | apply Kd.R_drew)); exact HO_6.out⟩, ⟨by (with_reducible repeat (first | refine qn ?_ _ | refine qd ?_ | refine qa ?_ _)); exact BK270.out⟩, ⟨by repeat (first | (with_reducible first | exact HB.out | apply qA | apply qN | apply qD | refine qS ?_ GE270.out) | exact HB.out)⟩⟩
      replace c18 := Bool.eq_false_iff.mpr c18
      subst c18
      have H1 : (if (rd x6_1 x7_1) < (l0_0.length : Int) then (if rdOf false l0_0 (rd x6_1 x7_1) = true then ((spec_l3May.f k1 l0_0 l0_1 (rd x6_1 x7_1)).bind fun t284 => (if x6_1.length + t284.length < 17592186044416 then (spec_l4Below.l0 k1 (x5_1.set ((rd x6_1 x7_1) : Int).toNat true) (x6_1 ++ t284) (wrap64 (x7_1 + 1)) l0_0 l0_1) else (none))) else (spec_l4Below.l0 k1 x5_1 x6_1 (wrap64 (x7_1 + 1)) l0_0 l0_1)) else (none)) = some r := by rw [if_neg (show ¬ (false = true) by decide)] at H; exact H
      clear H
      have H := H1
      clear H1
      by_cases c21 : (rd x6_1 x7_1) < (l0_0.length : Int)
      rotate_left
      · rw [if_neg c21] at H
        exact absurd H (by simp)
      rw [if_pos c21] at H
      have c21b0 : decide ((rd x6_1 x7_1) < (l0_0.length : Int)) = true := decide_eq_true c21
      clear c21
      obtain ⟨bq22, hbq22⟩ : ∃ b_ : Bool, b_ = (rdOf false l0_0 (rd x6_1 x7_1)) := ⟨_, rfl⟩
      replace H : (if bq22 = true then ((spec_l3May.f k1 l0_0 l0_1 (rd x6_1 x7_1)).bind fun t284 => (if x6_1.length + t284.length < 17592186044416 then (spec_l4Below.l0 k1 (x5_1.set ((rd x6_1 x7_1) : Int).toNat true) (x6_1 ++ t284) (wrap64 (x7_1 + 1)) l0_0 l0_1) else (none))) else (spec_l4Below.l0 k1 x5_1 x6_1 (wrap64 (x7_1 + 1)) l0_0 l0_1)) = some r := by rw [← hbq22] at H; exact H
      have Nbq22 := qM hbq22
      clear hbq22
      by_cases c23 : bq22 = true
      rotate_left
      · replace c23 := Bool.eq_false_iff.mpr c23
        subst c23
        have H1 : (spec_l4Below.l0 k1 x5_1 x6_1 (wrap64 (x7_1 + 1)) l0_0 l0_1) = some r := by rw [if_neg (show ¬ (false = true) by decide)] at H; exact H
        clear H
        have H := H1
        clear H1
        have H' := qM H
        clear H
        obtain ⟨Ao36, co36, eo36⟩ := Kd.R_slice HO_6.out
        subst eo36
        have p280 : 0 ≤ (x7_1 : Int) := qO (by first | (with_reducible assumption) | assumption)
        have q280 : x7_1 < (x6_1.length : Int) := qO (by first | (with_reducible assumption) | assumption)
        obtain ⟨ad280, e280, hx280_0⟩ := Kd.at_int (Kd.R_reads' HO_6.out).2.2 x7_1 p280 q280
        cases e280
        replace p280 := eq_true p280
        replace q280 := eq_true q280
        obtain ⟨Ao37, co37, eo37⟩ := Kd.R_slice HO_5.out
        subst eo37
        have p281 : 0 ≤ ((rd x6_1 x7_1) : Int) := qO (by first | (with_reducible assumption) | assumption)
        have q281 : (rd x6_1 x7_1) < (x5_1.length : Int) := qO (by first | (with_reducible assumption) | assumption)
        obtain ⟨ad281, e281, hx281_0⟩ := Kd.at_bool (Kd.R_reads' HO_5.out).2.2 (rd x6_1 x7_1) p281 q281
        (try rw [← Nbq17.out] at hx281_0)
        (try rw [← Nbq22.out] at hx281_0)
        cases e281
        replace p281 := eq_true p281
        replace q281 := eq_true q281
        have hcz38_0 : wr.cell? ⟨gb270, 0, none⟩ = some (.slice A0_0 l0_0.length c0_0) := (qC BK270.out 0).trans rfl
        have hcz38_1 : wr.cell? ⟨gb270, 1, none⟩ = some (.slice A0_1 l0_1.length c0_1) := (qC BK270.out 1).trans rfl
        have hfz38_0 := qF BK270.out 0
        have hfz38_1 := qF BK270.out 1
        have p282 : 0 ≤ ((rd x6_1 x7_1) : Int) := qO (by first | (with_reducible assumption) | assumption)
        have q282 : (rd x6_1 x7_1) < (l0_0.length : Int) := qO (by first | (with_reducible assumption) | assumption)
        obtain ⟨ad282, e282, hx282_0⟩ := Kd.at_bool HR0_0.out (rd x6_1 x7_1) p282 q282
        (try rw [← Nbq17.out] at hx282_0)
        (try rw [← Nbq22.out] at hx282_0)
        cases e282
        replace hx282_0 := (HB.out.cell (qL w _ hx282_0)).trans hx282_0
        replace p282 := eq_true p282
        replace q282 := eq_true q282
        go_wp2
        go_roundg k1
        case measure => have := HK1.out; omega
        case rel => exact ⟨(x5_1), (x6_1), (wrap64 (x7_1 + 1)), (by first | rfl | (simp; done) | (simp [*]; done)), H', ⟨by have := HK1.out; omega⟩, ⟨by (with_reducible repeat (first | apply Kd.R_alloc | apply Kd.R_drewN | apply Kd.R_drew)); exact HO_5.out⟩, ⟨by (with_reducible repeat (first | apply Kd.R_alloc | apply Kd.R_drewN | apply Kd.R_drew)); exact HO_6.out⟩, ⟨by (with_reducible repeat (first | refine qn ?_ _ | refine qd ?_ | refine qa ?_ _)); exact BK270.out⟩, ⟨by repeat (first | (with_reducible first | exact HB.out | apply qA | apply qN | apply qD | refine qS ?_ GE270.out) | exact HB.out)⟩⟩
      subst c23
      have H1 : ((spec_l3May.f k1 l0_0 l0_1 (rd x6_1 x7_1)).bind fun t284 => (if x6_1.length + t284.length < 17592186044416 then (spec_l4Below.l0 k1 (x5_1.set ((rd x6_1 x7_1) : Int).toNat true) (x6_1 ++ t284) (wrap64 (x7_1 + 1)) l0_0 l0_1) else (none))) = some r := by rw [if_pos rfl] at H; exact H
      clear H
      have H := H1
      clear H1
      obtain ⟨y283, hy283⟩ : ∃ y_ : List Bool, y_ = (x5_1.set ((rd x6_1 x7_1) : Int).toNat true) := ⟨_, rfl⟩
      replace H : ((spec_l3May.f k1 l0_0 l0_1 (rd x6_1 x7_1)).bind fun t284 => (if x6_1.length + t284.length < 17592186044416 then (spec_l4Below.l0 k1 y283 (x6_1 ++ t284) (wrap64 (x7_1 + 1)) l0_0 l0_1) else (none))) = some r := by first | (rw [hy283]; with_reducible exact H) | (have H2_ := (Option.bind_some _ _).symm.trans H; rw [hy283]; with_reducible exact H2_) | (have H2_ := (Option.bind_some _ _).symm.trans H; with_reducible exact H2_) | with_reducible exact H | (rw [hy283]; exact H) | exact H
      have Ny283 := qM hy283
      clear hy283
      replace H := Option.bind_eq_some_iff.mp H
      obtain ⟨t284, A250, H⟩ := H
      replace H : (if x6_1.length + t284.length < 17592186044416 then (spec_l4Below.l0 k1 y283 (x6_1 ++ t284) (wrap64 (x7_1 + 1)) l0_0 l0_1) else (none)) = some r := H
      have A25 := qM A250
      clear A250
      by_cases c26 : x6_1.length + t284.length < 17592186044416
      rotate_left
      · rw [if_neg c26] at H
        exact absurd H (by simp)
      rw [if_pos c26] at H
      have LMc26 := qM c26
      clear c26
      obtain ⟨y287, hy287⟩ : ∃ y_ : List Int, y_ = (x6_1 ++ t284) := ⟨_, rfl⟩
      replace H : (spec_l4Below.l0 k1 y283 y287 (wrap64 (x7_1 + 1)) l0_0 l0_1) = some r := by first | (rw [hy287]; with_reducible exact H) | (have H2_ := (Option.bind_some _ _).symm.trans H; rw [hy287]; with_reducible exact H2_) | (have H2_ := (Option.bind_some _ _).symm.trans H; with_reducible exact H2_) | with_reducible exact H | (rw [hy287]; exact H) | exact H
      have Ny287 := qM hy287
      clear hy287
      have H' := qM H
      clear H
      obtain ⟨Ao27, co27, eo27⟩ := Kd.R_slice HO_6.out
      subst eo27
      have p280 : 0 ≤ (x7_1 : Int) := qO (by first | (with_reducible assumption) | assumption)
      have q280 : x7_1 < (x6_1.length : Int) := qO (by first | (with_reducible assumption) | assumption)
      obtain ⟨ad280, e280, hx280_0⟩ := Kd.at_int (Kd.R_reads' HO_6.out).2.2 x7_1 p280 q280
      cases e280
      replace p280 := eq_true p280
      replace q280 := eq_true q280
      obtain ⟨Ao28, co28, eo28⟩ := Kd.R_slice HO_5.out
      subst eo28
      have p281 : 0 ≤ ((rd x6_1 x7_1) : Int) := qO (by first | (with_reducible assumption) | assumption)
      have q281 : (rd x6_1 x7_1) < (x5_1.length : Int) := qO (by first | (with_reducible assumption) | assumption)
      obtain ⟨ad281, e281, hx281_0⟩ := Kd.at_bool (Kd.R_reads' HO_5.out).2.2 (rd x6_1 x7_1) p281 q281
      (try rw [← Nbq17.out] at hx281_0)
      (try rw [← Nbq22.out] at hx281_0)
      cases e281
      replace p281 := eq_true p281
      replace q281 := eq_true q281
      have hcz29_0 : wr.cell? ⟨gb270, 0, none⟩ = some (.slice A0_0 l0_0.length c0_0) := (qC BK270.out 0).trans rfl
      have hcz29_1 : wr.cell? ⟨gb270, 1, none⟩ = some (.slice A0_1 l0_1.length c0_1) := (qC BK270.out 1).trans rfl
      have hfz29_0 := qF BK270.out 0
      have hfz29_1 := qF BK270.out 1
      have p282 : 0 ≤ ((rd x6_1 x7_1) : Int) := qO (by first | (with_reducible assumption) | assumption)
      have q282 : (rd x6_1 x7_1) < (l0_0.length : Int) := qO (by first | (with_reducible assumption) | assumption)
      obtain ⟨ad282, e282, hx282_0⟩ := Kd.at_bool HR0_0.out (rd x6_1 x7_1) p282 q282
      (try rw [← Nbq17.out] at hx282_0)
      (try rw [← Nbq22.out] at hx282_0)
      cases e282
      replace hx282_0 := (HB.out.cell (qL w _ hx282_0)).trans hx282_0
      replace p282 := eq_true p282
      replace q282 := eq_true q282
      have p24 : 0 ≤ ((rd x6_1 x7_1) : Int) := qO (by first | (with_reducible assumption) | assumption)
      have q24 : ((rd x6_1 x7_1) : Int) < ((x5_1.length : Int) : Int) := qO (by first | (with_reducible assumption) | assumption)
      obtain ⟨go24, co24, eo24, gb24, gl24, cl24, HG24⟩ := Kd.R_form HO_5.out (by omega)
      (first | cases eo24 | (injection eo24 with ea_ en_ ec_; (first | subst ea_ | (injection ea_ with ea_; subst ea_)); subst ec_; clear en_))
      have GB24 := qM gb24
      have GG24 := qM HG24
      clear gb24 gl24 HG24
      (first | simp only [add_plain] at hx281_0 | skip)
      obtain ⟨hx24_0, hf24_0⟩ := Kd.R_celln false HO_5.out ((rd x6_1 x7_1) : Int) p24 q24
      replace p24 := eq_true p24
      replace q24 := eq_true q24
      have HP30 := Kd.R_putg HO_5.out ((rd x6_1 x7_1) : Int) true
      go_wp2_with (first | ((with_reducible refine gate_store (t := 4) (p := 40) rfl ?_); refine store_event (t := 4) (p := 40) (v := ?vo_w31) (w1 := (wr.setCell ⟨go24, ((rd x6_1 x7_1) : Int).toNat, none⟩ (.bool true))) ?hg ?ho ?hn ?hr ?_; (case ho => rfl); (case hg => rfl); (case hn => rfl); (case hr => first | (go_simp; done) | (go_simp; rfl)); intro w31 hw; have hg : wr.grownBy w31 (some go24) := (by rw [hw]; exact HP30.2); have hp_ : Kd.R Kd.bool 4 w31 w.heap.size (fun _ => True) (.slice (some ⟨go24, 0, none⟩) x5_1.length co28) y283 := (by rw [hw, Ny283.out]; exact HP30.1); clear HP30; have n0_ := qM (hp_); have n1_ := qM (Kd.R_over' (v := (.slice (some ⟨go24, 0, none⟩) x5_1.length co28)) (by (with_reducible repeat (first | apply Kd.R_alloc | apply Kd.R_drewN | apply Kd.R_drew)); exact HO_6.out) (Kd.R_typed HO_5.out) (by decide) hg); have n2_ := qM (blk_grown (g := gb270) (o := .cells #[.slice (some ad282) l0_0.length c0_0, .slice A0_1 l0_1.length c0_1] 30 (0, 0)) (by (with_reducible repeat (first | refine qn ?_ _ | refine qd ?_ | refine qa ?_ _)); exact BK270.out) hg (Kd.R_ne HO_5.out BK270.out (by decide))); have n3_ := qM ((by rw [hw]; exact qS (HB.out) GB24.out : Below w.heap.size w w31)); clear HO_5; clear HO_6; clear BK270; clear HB; have HO_5 := n0_; have HO_6 := n1_; have BK270 := n2_; have HB := n3_; clear n0_ n1_ n2_ n3_; clear hg hw hp_; have hcz32_0 : w31.cell? ⟨gb270, 0, none⟩ = some (.slice (some ad282) l0_0.length c0_0) := (qC BK270.out 0).trans rfl; have hcz32_1 : w31.cell? ⟨gb270, 1, none⟩ = some (.slice A0_1 l0_1.length c0_1) := (qC BK270.out 1).trans rfl; have hfz32_0 := qF BK270.out 0; have hfz32_1 := qF BK270.out 1) | ((with_reducible refine gate_callee (f := 57) rfl ?_); refine goesL_ (some 44) rfl rfl Try.func57 (by kernel_rfl) rfl #[.agg #[.slice (some ad282) l0_0.length c0_0, .slice A0_1 l0_1.length c0_1], .int .i64 (rd x6_1 x7_1)] rfl (by (try simp only [List.map_toArray, List.map_cons, List.map_nil]); first | done | rfl | (simp only [List.length_drop, List.length_take]; rfl)) ?_; (with_reducible refine (spec_l3May.calls k1 _ _ l0_0 _ _ l0_1 (rd x6_1 x7_1) t284 _ ?side1 ?side2 ?side3 ?side4 A25.out).mono ?_); (case side1 => repeat (first | exact (qB HR0_0.out HB.out) | (with_reducible refine qc ?_ _) | (with_reducible refine qe ?_ _) | (with_reducible refine qf ?_))); (case side2 => exact HC0_0.out); (case side3 => repeat (first | exact (qB HR0_1.out HB.out) | (with_reducible refine qc ?_ _) | (with_reducible refine qe ?_ _) | (with_reducible refine qf ?_))); (case side4 => exact HC0_1.out); rintro e w33 ⟨v285, rfl, ho0, hb⟩; refine ⟨_, rfl, ?_⟩; have n0_ := qM (Kd.R_below (by (with_reducible repeat (first | apply Kd.R_alloc | apply Kd.R_drewN | apply Kd.R_drew)); exact HO_5.out) hb); have n1_ := qM (Kd.R_elder' (by (with_reducible repeat (first | apply Kd.R_alloc | apply Kd.R_drewN | apply Kd.R_drew)); exact HO_6.out) (Kd.R_base ho0) hb); have n2_ := qM (Kd.R_lower (Kd.R_new' ho0 (Kd.R_lt (by (with_reducible repeat (first | apply Kd.R_alloc | apply Kd.R_drewN | apply Kd.R_drew)); exact HO_6.out))) (qz (by repeat (first | (with_reducible first | exact HB.out | apply qA | apply qN | apply qD | refine qS ?_ GE270.out) | exact HB.out)))); have n3_ := qM (blk_below (g := gb270) (o := .cells #[.slice (some ad282) l0_0.length c0_0, .slice A0_1 l0_1.length c0_1] 30 (0, 0)) (by (with_reducible repeat (first | refine qn ?_ _ | refine qd ?_ | refine qa ?_ _)); exact BK270.out) hb); have n4_ := qM (qs (by repeat (first | (with_reducible first | exact HB.out | apply qA | apply qN | apply qD | refine qS ?_ GE270.out) | exact HB.out)) hb); clear HO_5; clear HO_6; clear BK270; clear HB; have HO_5 := n0_; have HO_6 := n1_; have HO286 := n2_; have BK270 := n3_; have HB := n4_; clear n0_ n1_ n2_ n3_ n4_; (try clear hb); (try clear hb2); (try clear hk); (try clear hi); (try clear ho0); obtain ⟨Ao35, co35, eo35⟩ := Kd.R_slice HO286.out; subst eo35) | ((with_reducible refine gate_builtin (b := .append) (xs := #[.tmp 41, .tmp 44]) rfl ?_); at_builtin; refine Kd.R_append_rows (Kd.int .i64) (w0 := w) w.heap.size rfl (.tmp 41) (.tmp 44) 34 3 (.int .i64 0) 8 rfl Try.underlying34 info3 rfl (by decide) (by omega) (.slice (some ad280) x6_1.length co27) x6_1 t284 _ _ _ (fun k_ => some k_ ≠ (.slice Ao35 t284.length co35 : Value).ownBlock) (fun _ => False) rfl rfl ?aO ?aR (fun _ _ h => h) (fun _ h => h.elim) ?aF ?aB ?aS ?aL ?_; (case aR => repeat (first | exact (Kd.R_reads' HO286.out).2.2 | (with_reducible refine qc ?_ _) | (with_reducible refine qe ?_ _) | (with_reducible refine qf ?_))); (case aB => exact (by repeat (first | (with_reducible first | exact HB.out | apply qA | apply qN | apply qD | refine qS ?_ GE270.out) | exact HB.out))); (case aF => exact (fun k_ hk => Kd.fresh' (Kd.R_lt (by (with_reducible repeat (first | apply Kd.R_alloc | apply Kd.R_drewN | apply Kd.R_drew)); exact HO286.out)) k_ hk)); (case aO => exact (by (with_reducible repeat (first | apply Kd.R_alloc | apply Kd.R_drewN | apply Kd.R_drew)); exact Kd.R_mono HO_6.out (fun _ hk => hk.2))); (case aS => exact (qz (by repeat (first | (with_reducible first | exact HB.out | apply qA | apply qN | apply qD | refine qS ?_ GE270.out) | exact HB.out)))); (case aL => have := LMc26.out; omega); intro v288 w34 ho hb hg hat; rw [← Ny287.out] at ho; have n0_ := qM (Kd.R_over' (by (with_reducible repeat (first | apply Kd.R_alloc | apply Kd.R_drewN | apply Kd.R_drew)); exact HO_5.out) (Kd.R_typed (by (with_reducible repeat (first | apply Kd.R_alloc | apply Kd.R_drewN | apply Kd.R_drew)); exact HO_6.out)) (by decide) hg); have n1_ := qM (blk_grown (g := gb270) (o := .cells #[.slice (some ad282) l0_0.length c0_0, .slice A0_1 l0_1.length c0_1] 30 (0, 0)) (by (with_reducible repeat (first | refine qn ?_ _ | refine qd ?_ | refine qa ?_ _)); exact BK270.out) hg (Kd.R_ne HO_6.out BK270.out (by decide))); have n2_ := qM (Kd.R_after (ok := (fun _ => True)) (by (with_reducible repeat (first | apply Kd.R_alloc | apply Kd.R_drewN | apply Kd.R_drew)); exact HO286.out) hg hat); have n3_ := qM (hb); have n4_ := qM (ho); clear HO_5; clear BK270; clear HO286; clear HB; clear HO_6; have HO_5 := n0_; have BK270 := n1_; have HO286 := n2_; have HB := n3_; have HO289 := n4_; clear n0_ n1_ n2_ n3_ n4_; clear ho hb hg hat))
      go_roundg k1
      case measure => have := HK1.out; omega
      case rel => exact ⟨(y283), (y287), (wrap64 (x7_1 + 1)), (by first | rfl | (simp; done) | (simp [*]; done)), H', ⟨by have := HK1.out; omega⟩, ⟨by (with_reducible repeat (first | apply Kd.R_alloc | apply Kd.R_drewN | apply Kd.R_drew)); exact HO_5.out⟩, ⟨by (with_reducible repeat (first | apply Kd.R_alloc | apply Kd.R_drewN | apply Kd.R_drew)); exact Kd.R_mono HO289.out (fun _ hk => trivial)⟩, ⟨by (with_reducible repeat (first | refine qn ?_ _ | refine qd ?_ | refine qa ?_ _)); exact BK270.out⟩, ⟨by repeat (first | (with_reducible first | exact HB.out | apply qA | apply qN | apply qD | refine qS ?_ GE270.out) | exact HB.out)⟩⟩
def spec_l2Has.l0 : Nat → List Int → Int → Int → Option (Bool)
  | 0, _, _, _ => none
  | k + 1, x0, x1, x5 => if x5 < (x0.length : Int) then (if 0 ≤ x5 then (if (rd x0 x5) = x1 then (some true) else (spec_l2Has.l0 k x0 x1 (wrap64 (x5 + 1)))) else (none)) else (some false)
def spec_l2Has.f (k : Nat) (l0 : List Int) (a1 : Int) : Option (Bool) := spec_l2Has.l0 k l0 a1 0
set_option maxHeartbeats 8000000 in
set_option maxRecDepth 100000 in
theorem spec_l2Has.calls (k : Nat) (A0 : Option Addr) (c0 : Nat) (l0 : List Int) (a1 : Int) (r : Bool) (w : World) (hr0 : Kd.C (Kd.int .i64) w A0 l0.length l0) (hc0 : l0.length ≤ c0) (h : spec_l2Has.f k l0 a1 = some r) :
    Calls Try.prog 69 #[.slice A0 l0.length c0, .int .i64 a1] w fun e w' => e = .returned (.bool r) ∧ Drawn0 w w' := by
  have HR0 := qM hr0
  have HC0 := qM hc0
  clear hr0 hc0
  have H : (spec_l2Has.l0 k l0 a1 0) = some r := h
  clear h
  have H' := qM H
  clear H
  go_enter Try.func69, Try.ntmps69
  go_wp2
  go_loopg [5] k (fun kq v5 w' => ∃ (x5_1 : Int), v5 = .int .i64 x5_1 ∧ Aside0 (spec_l2Has.l0 kq l0 a1 x5_1 = some r) ∧ Aside0 (kq ≤ k) ∧ Drawn0 w w')
  case atStart => exact ⟨(0), (by first | rfl | (simp; done) | (simp [*]; done)), H', ⟨Nat.le_refl _⟩, by repeat (first | exact Drawn0.refl _ | apply Drawn0.step)⟩
  case round =>
    clear H'
    try clear p2
    obtain ⟨x5_1, rfl, HA, HK1, ⟨m1, rfl⟩⟩ := hrel
    cases gk with
    | zero => exact absurd HA.out (by simp [spec_l2Has.l0])
    | succ k1 =>
      have H := HA.out
      clear HA
      simp only [spec_l2Has.l0] at H
      by_cases c3 : x5_1 < (l0.length : Int)
      rotate_left
      · rw [if_neg c3] at H
        have c3b0 : decide (x5_1 < (l0.length : Int)) = false := decide_eq_false c3
        clear c3
        obtain rfl := Option.some.inj H
        go_wp2
        go_ret
        exact ⟨by first | rfl | (simp; done) | (simp [*]; done), by repeat (first | exact Drawn0.refl _ | apply Drawn0.step)⟩
      rw [if_pos c3] at H
      have c3b0 : decide (x5_1 < (l0.length : Int)) = true := decide_eq_true c3
      clear c3
      by_cases c4 : 0 ≤ x5_1
      rotate_left
      · rw [if_neg c4] at H
        exact absurd H (by simp)
      rw [if_pos c4] at H
      have c4b0 : decide (0 ≤ x5_1) = true := decide_eq_true c4
      clear c4
      by_cases c5 : (rd l0 x5_1) = a1
      · rw [if_pos c5] at H
        have c5b0 : ((rd l0 x5_1) == a1) = true := beq_iff_eq.mpr c5
        have c5b1 : ((rd l0 x5_1) != a1) = false := bne_eq_false_iff_eq.mpr c5
        clear c5
        obtain rfl := Option.some.inj H
        have p290 : 0 ≤ (x5_1 : Int) := qO (by first | (with_reducible assumption) | assumption)
        have q290 : x5_1 < (l0.length : Int) := qO (by first | (with_reducible assumption) | assumption)
        obtain ⟨ad290, e290, hx290_0⟩ := Kd.at_int HR0.out x5_1 p290 q290
        cases e290
        replace p290 := eq_true p290
        replace q290 := eq_true q290
        go_wp2
        go_ret
        exact ⟨by first | rfl | (simp; done) | (simp [*]; done), by repeat (first | exact Drawn0.refl _ | apply Drawn0.step)⟩
      rw [if_neg c5] at H
      have c5b0 : ((rd l0 x5_1) == a1) = false := beq_eq_false_iff_ne.mpr c5
      have c5b1 : ((rd l0 x5_1) != a1) = true := bne_iff_ne.mpr c5
      have H' := qM H
      clear H
      have p290 : 0 ≤ (x5_1 : Int) := qO (by first | (with_reducible assumption) | assumption)
      have q290 : x5_1 < (l0.length : Int) := qO (by first | (with_reducible assumption) | assumption)
      obtain ⟨ad290, e290, hx290_0⟩ := Kd.at_int HR0.out x5_1 p290 q290
      cases e290
      replace p290 := eq_true p290
      replace q290 := eq_true q290
      go_wp2
      go_roundg k1
      case measure => have := HK1.out; omega
      case rel => exact ⟨(wrap64 (x5_1 + 1)), (by first | rfl | (simp; done) | (simp [*]; done)), H', ⟨by have := HK1.out; omega⟩, by repeat (first | exact Drawn0.refl _ | apply Drawn0.step)⟩
end Go.Proofs.Ythfemojaabejiaa.G
end
section
namespace Go.Proofs.Ythfemojaabejiaa.G
open Go.RowKit Go.Proofs.YthfemojaabejiaaW.PrintWords Go.Proofs.YthfemojaabejiaaW.PrintLast Go.Proofs.YthfemojaabejiaaW.PrintMore
attribute [local go_sem] max2_int min2_int max_two min_two max_three min_three max_four min_four
set_option linter.unusedVariables false
set_option linter.unusedSimpArgs false
def spec_l4Free.l0 : Nat → List Int → List Int → Int → Option (Bool)
  | 0, _, _, _ => none
  | k + 1, x0, x1, x5 => if x5 < (x1.length : Int) then (if 0 ≤ x5 then ((spec_l2Has.f k x0 (rd x1 x5)).bind fun t292 => (if t292 = true then (spec_l4Free.l0 k x0 x1 (wrap64 (x5 + 1))) else (some false))) else (none)) else (some true)
def spec_l4Free.f (k : Nat) (l0 : List Int) (l1 : List Int) : Option (Bool) := spec_l4Free.l0 k l0 l1 0
set_option maxHeartbeats 8000000 in
set_option maxRecDepth 100000 in
theorem spec_l4Free.calls (k : Nat) (A0 : Option Addr) (c0 : Nat) (l0 : List Int) (A1 : Option Addr) (c1 : Nat) (l1 : List Int) (r : Bool) (w : World) (hr0 : Kd.C (Kd.int .i64) w A0 l0.length l0) (hc0 : l0.length ≤ c0) (hr1 : Kd.C (Kd.int .i64) w A1 l1.length l1) (hc1 : l1.length ≤ c1) (h : spec_l4Free.f k l0 l1 = some r) :
    Calls Try.prog 70 #[.slice A0 l0.length c0, .slice A1 l1.length c1] w fun e w' => e = .returned (.bool r) ∧ Drawn0 w w' := by
  have HR0 := qM hr0
  have HC0 := qM hc0
  clear hr0 hc0
  have HR1 := qM hr1
  have HC1 := qM hc1
  clear hr1 hc1
  have H : (spec_l4Free.l0 k l0 l1 0) = some r := h
  clear h
  have H' := qM H
  clear H
  go_enter Try.func70, Try.ntmps70
  go_wp2
  go_loopg [5] k (fun kq v5 w' => ∃ (x5_1 : Int), v5 = .int .i64 x5_1 ∧ Aside0 (spec_l4Free.l0 kq l0 l1 x5_1 = some r) ∧ Aside0 (kq ≤ k) ∧ Drawn0 w w')
  case atStart => exact ⟨(0), (by first | rfl | (simp; done) | (simp [*]; done)), H', ⟨Nat.le_refl _⟩, by repeat (first | exact Drawn0.refl _ | apply Drawn0.step)⟩
  case round =>
    clear H'
    try clear c1
    try clear p2
    obtain ⟨x5_1, rfl, HA, HK1, ⟨m1, rfl⟩⟩ := hrel
    cases gk with
    | zero => exact absurd HA.out (by simp [spec_l4Free.l0])
    | succ k1 =>
      have H := HA.out
      clear HA
      simp only [spec_l4Free.l0] at H
      by_cases c3 : x5_1 < (l1.length : Int)
      rotate_left
      · rw [if_neg c3] at H
        have c3b0 : decide (x5_1 < (l1.length : Int)) = false := decide_eq_false c3
        clear c3
        obtain rfl := Option.some.inj H
        go_wp2
        go_ret
        exact ⟨by first | rfl | (simp; done) | (simp [*]; done), by repeat (first | exact Drawn0.refl _ | apply Drawn0.step)⟩
      rw [if_pos c3] at H
      have c3b0 : decide (x5_1 < (l1.length : Int)) = true := decide_eq_true c3
      clear c3
      by_cases c4 : 0 ≤ x5_1
      rotate_left
      · rw [if_neg c4] at H
        exact absurd H (by simp)
      rw [if_pos c4] at H
      have c4b0 : decide (0 ≤ x5_1) = true := decide_eq_true c4
      clear c4
      replace H := Option.bind_eq_some_iff.mp H
      obtain ⟨t292, A50, H⟩ := H
      replace H : (if t292 = true then (spec_l4Free.l0 k1 l0 l1 (wrap64 (x5_1 + 1))) else (some false)) = some r := H
      have A5 := qM A50
      clear A50
      by_cases c6 : t292 = true
      rotate_left
      · replace c6 := Bool.eq_false_iff.mpr c6
        subst c6
        have H1 : (some false) = some r := by rw [if_neg (show ¬ (false = true) by decide)] at H; exact H
        clear H
        have H := H1
        clear H1
        obtain rfl := Option.some.inj H
        have p291 : 0 ≤ (x5_1 : Int) := qO (by first | (with_reducible assumption) | assumption)
        have q291 : x5_1 < (l1.length : Int) := qO (by first | (with_reducible assumption) | assumption)
        obtain ⟨ad291, e291, hx291_0⟩ := Kd.at_int HR1.out x5_1 p291 q291
        cases e291
        replace p291 := eq_true p291
        replace q291 := eq_true q291
        go_wp2_with (first | ((with_reducible refine gate_callee (f := 69) rfl ?_); refine goesL_ (some 17) rfl rfl Try.func69 (by kernel_rfl) rfl #[.slice A0 l0.length c0, .int .i64 (rd l1 x5_1)] rfl (by (try simp only [List.map_toArray, List.map_cons, List.map_nil]); first | done | rfl | (simp only [List.length_drop, List.length_take]; rfl)) ?_; (with_reducible refine (spec_l2Has.calls k1 _ _ l0 (rd l1 x5_1) false _ ?side1 ?side2 A5.out).mono ?_); (case side1 => repeat (first | exact HR0.out | (with_reducible refine qc ?_ _) | (with_reducible refine qe ?_ _) | (with_reducible refine qf ?_))); (case side2 => exact HC0.out); rintro e w' ⟨rfl, ⟨nd, rfl⟩⟩; refine ⟨_, rfl, ?_⟩))
        go_ret
        exact ⟨by first | rfl | (simp; done) | (simp [*]; done), by repeat (first | exact Drawn0.refl _ | apply Drawn0.step)⟩
      subst c6
      have H1 : (spec_l4Free.l0 k1 l0 l1 (wrap64 (x5_1 + 1))) = some r := by rw [if_pos rfl] at H; exact H
      clear H
      have H := H1
      clear H1
      have H' := qM H
      clear H
      have p291 : 0 ≤ (x5_1 : Int) := qO (by first | (with_reducible assumption) | assumption)
      have q291 : x5_1 < (l1.length : Int) := qO (by first | (with_reducible assumption) | assumption)
      obtain ⟨ad291, e291, hx291_0⟩ := Kd.at_int HR1.out x5_1 p291 q291
      cases e291
      replace p291 := eq_true p291
      replace q291 := eq_true q291
      go_wp2_with (first | ((with_reducible refine gate_callee (f := 69) rfl ?_); refine goesL_ (some 17) rfl rfl Try.func69 (by kernel_rfl) rfl #[.slice A0 l0.length c0, .int .i64 (rd l1 x5_1)] rfl (by (try simp only [List.map_toArray, List.map_cons, List.map_nil]); first | done | rfl | (simp only [List.length_drop, List.length_take]; rfl)) ?_; (with_reducible refine (spec_l2Has.calls k1 _ _ l0 (rd l1 x5_1) true _ ?side1 ?side2 A5.out).mono ?_); (case side1 => repeat (first | exact HR0.out | (with_reducible refine qc ?_ _) | (with_reducible refine qe ?_ _) | (with_reducible refine qf ?_))); (case side2 => exact HC0.out); rintro e w' ⟨rfl, ⟨nd, rfl⟩⟩; refine ⟨_, rfl, ?_⟩))
      go_roundg k1
      case measure => have := HK1.out; omega
      case rel => exact ⟨(wrap64 (x5_1 + 1)), (by first | rfl | (simp; done) | (simp [*]; done)), H', ⟨by have := HK1.out; omega⟩, by repeat (first | exact Drawn0.refl _ | apply Drawn0.step)⟩
mutual
def spec_OrderTopo.j0 : Nat → List Int → List Int → Bool → List Bool → List (S141) → Option (List Int × Bool)
  | 0, _, _, _, _, _ => none
  | k + 1, x1, x6, x19, x294000, x294001 => if x19 = true then (some (x6, false)) else ((spec_l4Below.f k x294000 x294001 x1).bind fun t299 => (spec_OrderTopo.l0 k x6 t299 true x294000 x294001))
def spec_OrderTopo.l0 : Nat → List Int → List Bool → Bool → List Bool → List (S141) → Option (List Int × Bool)
  | 0, _, _, _, _, _ => none
  | k + 1, x6, x7, x8, x294000, x294001 => if x8 = true then (spec_OrderTopo.l1 k x6 x7 false 0 x294000 x294001) else (some (x6, true))
def spec_OrderTopo.l1 : Nat → List Int → List Bool → Bool → Int → List Bool → List (S141) → Option (List Int × Bool)
  | 0, _, _, _, _, _, _ => none
  | k + 1, x6, x7, x8, x9, x294000, x294001 => if x9 < (x7.length : Int) then (spec_OrderTopo.j3 k x6 x7 x8 x9 (!x8) x294000 x294001) else (spec_OrderTopo.j3 k x6 x7 x8 x9 false x294000 x294001)
def spec_OrderTopo.j3 : Nat → List Int → List Bool → Bool → Int → Bool → List Bool → List (S141) → Option (List Int × Bool)
  | 0, _, _, _, _, _, _, _ => none
  | k + 1, x6, x7, x8, x9, x32, x294000, x294001 => if x32 = true then (if 0 ≤ x9 then (if x9 < (x7.length : Int) then (if rdOf false x7 x9 = true then ((spec_l2Has.f k x6 x9).bind fun t303 => (if t303 = true then (spec_OrderTopo.l1 k x6 x7 x8 (wrap64 (x9 + 1)) x294000 x294001) else ((spec_l3May.f k x294000 x294001 x9).bind fun t304 => ((spec_l4Free.f k x6 t304).bind fun t307 => (if t307 = true then (if x6.length < 17592186044416 then (spec_OrderTopo.l1 k (x6 ++ [x9]) x7 true (wrap64 (x9 + 1)) x294000 x294001) else (none)) else (spec_OrderTopo.l1 k x6 x7 x8 (wrap64 (x9 + 1)) x294000 x294001)))))) else (spec_OrderTopo.l1 k x6 x7 x8 (wrap64 (x9 + 1)) x294000 x294001)) else (none)) else (none)) else (spec_OrderTopo.l0 k x6 x7 x8 x294000 x294001)
end
def spec_OrderTopo.f (k : Nat) (l0_0 : List Bool) (l0_1 : List (S141)) (l1 : List Int) : Option (List Int × Bool) := (some (([] : List Int) : List Int)).bind fun y294 => ((spec_SheetSafe.f k l0_0 l0_1).bind fun t297 => (if t297 = true then ((spec_l4Keys.f k l0_0 l0_1 l1).bind fun t298 => (spec_OrderTopo.j0 k l1 y294 (!t298) l0_0 l0_1)) else (spec_OrderTopo.j0 k l1 y294 true l0_0 l0_1)))
set_option maxHeartbeats 8000000 in
set_option maxRecDepth 100000 in
theorem spec_OrderTopo.calls (k : Nat) (A0_0 : Option Addr) (c0_0 : Nat) (l0_0 : List Bool) (A0_1 : Option Addr) (c0_1 : Nat) (l0_1 : List (S141)) (A1 : Option Addr) (c1 : Nat) (l1 : List Int) (r1 : List Int) (r2 : Bool) (w : World) (hr0_0 : Kd.C Kd.bool w A0_0 l0_0.length l0_0) (hc0_0 : l0_0.length ≤ c0_0) (hr0_1 : Kd.C k141 w A0_1 l0_1.length l0_1) (hc0_1 : l0_1.length ≤ c0_1) (hr1 : Kd.C (Kd.int .i64) w A1 l1.length l1) (hc1 : l1.length ≤ c1) (h : spec_OrderTopo.f k l0_0 l0_1 l1 = some (r1, r2)) :
    Calls Try.prog 19 #[.agg #[.slice A0_0 l0_0.length c0_0, .slice A0_1 l0_1.length c0_1], .slice A1 l1.length c1] w fun e w' => ∃ v0_ : Value, e = .returned (.tuple #[v0_, .bool r2]) ∧ Kd.R (Kd.int .i64) 3 w' w.heap.size (fun _ => True) v0_ r1 ∧ Below w.heap.size w w' := by
  have hu30 := Try.underlying30
  have HR0_0 := qM hr0_0
  have HC0_0 := qM hc0_0
  clear hr0_0 hc0_0
  have HR0_1 := qM hr0_1
  have HC0_1 := qM hc0_1
  clear hr0_1 hc0_1
  have HR1 := qM hr1
  have HC1 := qM hc1
  clear hr1 hc1
  have HB := qM (Below.refl w.heap.size w)
  have H : ((some (([] : List Int) : List Int)).bind fun y294 => ((spec_SheetSafe.f k l0_0 l0_1).bind fun t297 => (if t297 = true then ((spec_l4Keys.f k l0_0 l0_1 l1).bind fun t298 => (spec_OrderTopo.j0 k l1 y294 (!t298) l0_0 l0_1)) else (spec_OrderTopo.j0 k l1 y294 true l0_0 l0_1)))) = some (r1, r2) := h
  clear h
  obtain ⟨y294, hy294⟩ : ∃ y_ : List Int, y_ = (([] : List Int)) := ⟨_, rfl⟩
  replace H : ((spec_SheetSafe.f k l0_0 l0_1).bind fun t297 => (if t297 = true then ((spec_l4Keys.f k l0_0 l0_1 l1).bind fun t298 => (spec_OrderTopo.j0 k l1 y294 (!t298) l0_0 l0_1)) else (spec_OrderTopo.j0 k l1 y294 true l0_0 l0_1))) = some (r1, r2) := by first | (rw [hy294]; with_reducible exact H) | (have H2_ := (Option.bind_some _ _).symm.trans H; rw [hy294]; with_reducible exact H2_) | (have H2_ := (Option.bind_some _ _).symm.trans H; with_reducible exact H2_) | with_reducible exact H | (rw [hy294]; exact H) | exact H
  have Ny294 := qM hy294
  clear hy294
  have HC3 := qM H
  clear H
  go_enter Try.func19, Try.ntmps19
  go_upto_region 2 with (first | ((with_reducible refine gate_dst (N := 2) rfl ?_); refine box_event ?hg (N := 2) ?hd (cs := #[.slice A0_0 l0_0.length c0_0, .slice A0_1 l0_1.length c0_1]) (t := 30) ?hr ?_; (case hd => rfl); (case hg => rfl); (case hr => first | (go_simp; done) | (go_simp; rfl)); intro gb293 hg w4 hbox hb; have n0_ := qM (qs (by repeat (first | (with_reducible first | exact HB.out | apply qA | apply qN | apply qD) | exact HB.out)) hb); have n1_ := qM (hbox); have n2_ := qM ((by rw [hg]; exact (qz (by repeat (first | (with_reducible first | exact HB.out | apply qA | apply qN | apply qD) | exact HB.out))) : w.heap.size ≤ gb293)); have n3_ := qM ((by rw [hg]; exact (qz (by repeat (first | (with_reducible first | exact HB.out | apply qA | apply qN | apply qD) | exact HB.out))) : w.heap.size ≤ gb293)); clear HB; have HB := n0_; have BK293 := n1_; have GW293 := n2_; have GE293 := n3_; clear n0_ n1_ n2_ n3_; clear hb hbox hg) | ((with_reducible refine gate_dst (N := 10) rfl ?_); refine Kd.R_lit (Kd.int .i64) _ 3 ?hg (N := 10) ?hd (xs := ([] : List Int)) (inner := []) (ok := fun _ => True) (okp := fun _ => True) ?hr ?hp (fun _ hk => hk) trivial (Below.refl _ _) (Nat.le_refl _) (by simp) ?_; (case hd => rfl); (case hg => rfl); (case hr => first | (go_simp; done) | (go_simp; rfl)); (case hp => exact (Reps.none _ _)); intro v295 w5 ho6 hb hg_ hnew_; clear hg_ hnew_; (first | rw [← Ny294.out] at ho6 | (simp only [Int.reduceToNat] at ho6; rw [← Ny294.out] at ho6)); have n0_ := qM (Kd.R_lower ho6 (qz (by repeat (first | (with_reducible first | exact HB.out | apply qA | apply qN | apply qD | refine qS ?_ GE293.out) | exact HB.out)))); have n1_ := qM (blk_below (g := gb293) (o := .cells #[.slice A0_0 l0_0.length c0_0, .slice A0_1 l0_1.length c0_1] 30 (0, 0)) (by (with_reducible repeat (first | refine qn ?_ _ | refine qd ?_ | refine qa ?_ _)); exact BK293.out) hb); have n2_ := qM (qs (by repeat (first | (with_reducible first | exact HB.out | apply qA | apply qN | apply qD | refine qS ?_ GE293.out) | exact HB.out)) hb); clear BK293; clear HB; have HO296 := n0_; have BK293 := n1_; have HB := n2_; clear n0_ n1_ n2_; clear hb ho6))
  (try simp only [Act.put, List.setIfInBounds_toArray, List.set_cons_zero, List.set_cons_succ])
  go_cut [19] (fun v19 wc => ∃ (kq : Nat) (x19_2 : Bool), v19 = .bool x19_2 ∧ Aside0 (spec_OrderTopo.j0 kq l1 y294 x19_2 l0_0 l0_1 = some (r1, r2)) ∧ Aside0 (kq ≤ k) ∧ Aside0 (Kd.R (Kd.int .i64) 3 wc w.heap.size (fun _ => True) v295 y294) ∧ Aside0 (wc.heap[gb293]? = some (.cells #[(.slice A0_0 l0_0.length c0_0), (.slice A0_1 l0_1.length c0_1)] 30 (0, 0))) ∧ Aside0 (Below w.heap.size w wc))
  case first =>
    have H := HC3.out
    clear HC3
    replace H := Option.bind_eq_some_iff.mp H
    obtain ⟨t297, A70, H⟩ := H
    replace H : (if t297 = true then ((spec_l4Keys.f k l0_0 l0_1 l1).bind fun t298 => (spec_OrderTopo.j0 k l1 y294 (!t298) l0_0 l0_1)) else (spec_OrderTopo.j0 k l1 y294 true l0_0 l0_1)) = some (r1, r2) := H
    have A7 := qM A70
    clear A70
    by_cases c8 : t297 = true
    rotate_left
    · replace c8 := Bool.eq_false_iff.mpr c8
      subst c8
      have H1 : (spec_OrderTopo.j0 k l1 y294 true l0_0 l0_1) = some (r1, r2) := by rw [if_neg (show ¬ (false = true) by decide)] at H; exact H
      clear H
      have H := H1
      clear H1
      have H' := qM H
      clear H
      have hcz14_0 : w5.cell? ⟨gb293, 0, none⟩ = some (.slice A0_0 l0_0.length c0_0) := (qC BK293.out 0).trans rfl
      have hcz14_1 : w5.cell? ⟨gb293, 1, none⟩ = some (.slice A0_1 l0_1.length c0_1) := (qC BK293.out 1).trans rfl
      have hfz14_0 := qF BK293.out 0
      have hfz14_1 := qF BK293.out 1
      go_wp2_with (first | ((with_reducible refine gate_callee (f := 15) rfl ?_); refine goesL_ (some 12) rfl rfl Try.func15 (by kernel_rfl) rfl #[.agg #[.slice A0_0 l0_0.length c0_0, .slice A0_1 l0_1.length c0_1]] rfl (by (try simp only [List.map_toArray, List.map_cons, List.map_nil]); first | done | rfl | (simp only [List.length_drop, List.length_take]; rfl)) ?_; (with_reducible refine (spec_SheetSafe.calls k _ _ l0_0 _ _ l0_1 false _ ?side1 ?side2 ?side3 ?side4 A7.out).mono ?_); (case side1 => repeat (first | exact (qB HR0_0.out HB.out) | (with_reducible refine qc ?_ _) | (with_reducible refine qe ?_ _) | (with_reducible refine qf ?_))); (case side2 => exact HC0_0.out); (case side3 => repeat (first | exact (qB HR0_1.out HB.out) | (with_reducible refine qc ?_ _) | (with_reducible refine qe ?_ _) | (with_reducible refine qf ?_))); (case side4 => exact HC0_1.out); rintro e w15 ⟨rfl, hb⟩; refine ⟨_, rfl, ?_⟩; have n0_ := qM (Kd.R_below (by (with_reducible repeat (first | apply Kd.R_alloc | apply Kd.R_drewN | apply Kd.R_drew)); exact HO296.out) hb); have n1_ := qM (blk_below (g := gb293) (o := .cells #[.slice A0_0 l0_0.length c0_0, .slice A0_1 l0_1.length c0_1] 30 (0, 0)) (by (with_reducible repeat (first | refine qn ?_ _ | refine qd ?_ | refine qa ?_ _)); exact BK293.out) hb); have n2_ := qM (qs (by repeat (first | (with_reducible first | exact HB.out | apply qA | apply qN | apply qD | refine qS ?_ GE293.out) | exact HB.out)) hb); clear HO296; clear BK293; clear HB; have HO296 := n0_; have BK293 := n1_; have HB := n2_; clear n0_ n1_ n2_; (try clear hb); (try clear hb2); (try clear hk); (try clear hi)))
      go_meet
      case rel => exact ⟨_, (true), (by first | rfl | (simp; done) | (simp [*]; done)), H', ⟨by first | omega | exact Nat.le_refl _⟩, ⟨by (with_reducible repeat (first | apply Kd.R_alloc | apply Kd.R_drewN | apply Kd.R_drew)); exact HO296.out⟩, ⟨by (with_reducible repeat (first | refine qn ?_ _ | refine qd ?_ | refine qa ?_ _)); exact BK293.out⟩, ⟨by repeat (first | (with_reducible first | exact HB.out | apply qA | apply qN | apply qD | refine qS ?_ GE293.out) | exact HB.out)⟩⟩
    subst c8
    have H1 : ((spec_l4Keys.f k l0_0 l0_1 l1).bind fun t298 => (spec_OrderTopo.j0 k l1 y294 (!t298) l0_0 l0_1)) = some (r1, r2) := by rw [if_pos rfl] at H; exact H
    clear H
    have H := H1
    clear H1
    replace H := Option.bind_eq_some_iff.mp H
    obtain ⟨t298, A90, H⟩ := H
    replace H : (spec_OrderTopo.j0 k l1 y294 (!t298) l0_0 l0_1) = some (r1, r2) := H
    have A9 := qM A90
    clear A90
    have H' := qM H
    clear H
    have hcz10_0 : w5.cell? ⟨gb293, 0, none⟩ = some (.slice A0_0 l0_0.length c0_0) := (qC BK293.out 0).trans rfl
    have hcz10_1 : w5.cell? ⟨gb293, 1, none⟩ = some (.slice A0_1 l0_1.length c0_1) := (qC BK293.out 1).trans rfl
    have hfz10_0 := qF BK293.out 0
    have hfz10_1 := qF BK293.out 1
    go_wp2_with (first | ((with_reducible refine gate_callee (f := 15) rfl ?_); refine goesL_ (some 12) rfl rfl Try.func15 (by kernel_rfl) rfl #[.agg #[.slice A0_0 l0_0.length c0_0, .slice A0_1 l0_1.length c0_1]] rfl (by (try simp only [List.map_toArray, List.map_cons, List.map_nil]); first | done | rfl | (simp only [List.length_drop, List.length_take]; rfl)) ?_; (with_reducible refine (spec_SheetSafe.calls k _ _ l0_0 _ _ l0_1 true _ ?side1 ?side2 ?side3 ?side4 A7.out).mono ?_); (case side1 => repeat (first | exact (qB HR0_0.out HB.out) | (with_reducible refine qc ?_ _) | (with_reducible refine qe ?_ _) | (with_reducible refine qf ?_))); (case side2 => exact HC0_0.out); (case side3 => repeat (first | exact (qB HR0_1.out HB.out) | (with_reducible refine qc ?_ _) | (with_reducible refine qe ?_ _) | (with_reducible refine qf ?_))); (case side4 => exact HC0_1.out); rintro e w11 ⟨rfl, hb⟩; refine ⟨_, rfl, ?_⟩; have n0_ := qM (Kd.R_below (by (with_reducible repeat (first | apply Kd.R_alloc | apply Kd.R_drewN | apply Kd.R_drew)); exact HO296.out) hb); have n1_ := qM (blk_below (g := gb293) (o := .cells #[.slice A0_0 l0_0.length c0_0, .slice A0_1 l0_1.length c0_1] 30 (0, 0)) (by (with_reducible repeat (first | refine qn ?_ _ | refine qd ?_ | refine qa ?_ _)); exact BK293.out) hb); have n2_ := qM (qs (by repeat (first | (with_reducible first | exact HB.out | apply qA | apply qN | apply qD | refine qS ?_ GE293.out) | exact HB.out)) hb); clear HO296; clear BK293; clear HB; have HO296 := n0_; have BK293 := n1_; have HB := n2_; clear n0_ n1_ n2_; (try clear hb); (try clear hb2); (try clear hk); (try clear hi); have hcz12_0 : w11.cell? ⟨gb293, 0, none⟩ = some (.slice A0_0 l0_0.length c0_0) := (qC BK293.out 0).trans rfl; have hcz12_1 : w11.cell? ⟨gb293, 1, none⟩ = some (.slice A0_1 l0_1.length c0_1) := (qC BK293.out 1).trans rfl; have hfz12_0 := qF BK293.out 0; have hfz12_1 := qF BK293.out 1) | (go_at_call 67; (with_reducible refine (spec_l4Keys.calls k _ _ l0_0 _ _ l0_1 _ _ l1 t298 _ ?side1 ?side2 ?side3 ?side4 ?side5 ?side6 A9.out).mono ?_); (case side1 => repeat (first | exact (qB HR0_0.out HB.out) | (with_reducible refine qc ?_ _) | (with_reducible refine qe ?_ _) | (with_reducible refine qf ?_))); (case side2 => exact HC0_0.out); (case side3 => repeat (first | exact (qB HR0_1.out HB.out) | (with_reducible refine qc ?_ _) | (with_reducible refine qe ?_ _) | (with_reducible refine qf ?_))); (case side4 => exact HC0_1.out); (case side5 => repeat (first | exact (qB HR1.out HB.out) | (with_reducible refine qc ?_ _) | (with_reducible refine qe ?_ _) | (with_reducible refine qf ?_))); (case side6 => exact HC1.out); rintro e w13 ⟨rfl, hb⟩; have n0_ := qM (Kd.R_below (by (with_reducible repeat (first | apply Kd.R_alloc | apply Kd.R_drewN | apply Kd.R_drew)); exact HO296.out) hb); have n1_ := qM (blk_below (g := gb293) (o := .cells #[.slice A0_0 l0_0.length c0_0, .slice A0_1 l0_1.length c0_1] 30 (0, 0)) (by (with_reducible repeat (first | refine qn ?_ _ | refine qd ?_ | refine qa ?_ _)); exact BK293.out) hb); have n2_ := qM (qs (by repeat (first | (with_reducible first | exact HB.out | apply qA | apply qN | apply qD | refine qS ?_ GE293.out) | exact HB.out)) hb); clear HO296; clear BK293; clear HB; have HO296 := n0_; have BK293 := n1_; have HB := n2_; clear n0_ n1_ n2_; (try clear hb); (try clear hb2); (try clear hk); (try clear hi)))
    go_meet
    case rel => exact ⟨_, (!t298), (by first | rfl | (simp; done) | (simp [*]; done)), H', ⟨by first | omega | exact Nat.le_refl _⟩, ⟨by (with_reducible repeat (first | apply Kd.R_alloc | apply Kd.R_drewN | apply Kd.R_drew)); exact HO296.out⟩, ⟨by (with_reducible repeat (first | refine qn ?_ _ | refine qd ?_ | refine qa ?_ _)); exact BK293.out⟩, ⟨by repeat (first | (with_reducible first | exact HB.out | apply qA | apply qN | apply qD | refine qS ?_ GE293.out) | exact HB.out)⟩⟩
  case rest =>
    clear HC3
    try clear c1
    try clear p2
    try clear c8
    try clear c15
    try clear hcz10_0
    try clear hcz10_1
    try clear hcz12_0
    try clear hcz12_1
    try clear hcz14_0
    try clear hcz14_1
    try clear hfz10_0
    try clear hfz10_1
    try clear hfz12_0
    try clear hfz12_1
    try clear hfz14_0
    try clear hfz14_1
    obtain ⟨kq, x19_2, rfl, HA, HJ2, HO_6, BK293, HB⟩ := hcut
    cases kq with
    | zero => exact absurd HA.out (by simp [spec_OrderTopo.j0])
    | succ kj2 =>
      have H := HA.out
      clear HA
      simp only [spec_OrderTopo.j0] at H
      by_cases c16 : x19_2 = true
      · subst c16
        have H1 : (some (y294, false)) = some (r1, r2) := by rw [if_pos rfl] at H; exact H
        clear H
        have H := H1
        clear H1
        simp only [Option.some.injEq, Prod.mk.injEq] at H
        obtain ⟨rfl, rfl⟩ := H
        go_wp2
        go_ret2
        exact ⟨_, by first | rfl | (simp [errW_none, errW_some] <;> rfl) | (simp [*, errW_none, errW_some] <;> rfl), by (with_reducible repeat (first | apply Kd.R_alloc | apply Kd.R_drewN | apply Kd.R_drew)); exact HO_6.out, by repeat (first | (with_reducible first | exact HB.out | apply qA | apply qN | apply qD | refine qS ?_ GE293.out) | exact HB.out)⟩
      replace c16 := Bool.eq_false_iff.mpr c16
      subst c16
      have H1 : ((spec_l4Below.f kj2 l0_0 l0_1 l1).bind fun t299 => (spec_OrderTopo.l0 kj2 y294 t299 true l0_0 l0_1)) = some (r1, r2) := by rw [if_neg (show ¬ (false = true) by decide)] at H; exact H
      clear H
      have H := H1
      clear H1
      replace H := Option.bind_eq_some_iff.mp H
      obtain ⟨t299, A170, H⟩ := H
      replace H : (spec_OrderTopo.l0 kj2 y294 t299 true l0_0 l0_1) = some (r1, r2) := H
      have A17 := qM A170
      clear A170
      have H' := qM H
      clear H
      have hcz18_0 : wc.cell? ⟨gb293, 0, none⟩ = some (.slice A0_0 l0_0.length c0_0) := (qC BK293.out 0).trans rfl
      have hcz18_1 : wc.cell? ⟨gb293, 1, none⟩ = some (.slice A0_1 l0_1.length c0_1) := (qC BK293.out 1).trans rfl
      have hfz18_0 := qF BK293.out 0
      have hfz18_1 := qF BK293.out 1
      go_wp2_with (first | ((with_reducible refine gate_callee (f := 68) rfl ?_); refine goesL_ (some 23) rfl rfl Try.func68 (by kernel_rfl) rfl #[.agg #[.slice A0_0 l0_0.length c0_0, .slice A0_1 l0_1.length c0_1], .slice A1 l1.length c1] rfl (by (try simp only [List.map_toArray, List.map_cons, List.map_nil]); first | done | rfl | (simp only [List.length_drop, List.length_take]; rfl)) ?_; (with_reducible refine (spec_l4Below.calls kj2 _ _ l0_0 _ _ l0_1 _ _ l1 t299 _ ?side1 ?side2 ?side3 ?side4 ?side5 ?side6 A17.out).mono ?_); (case side1 => repeat (first | exact (qB HR0_0.out HB.out) | (with_reducible refine qc ?_ _) | (with_reducible refine qe ?_ _) | (with_reducible refine qf ?_))); (case side2 => exact HC0_0.out); (case side3 => repeat (first | exact (qB HR0_1.out HB.out) | (with_reducible refine qc ?_ _) | (with_reducible refine qe ?_ _) | (with_reducible refine qf ?_))); (case side4 => exact HC0_1.out); (case side5 => repeat (first | exact (qB HR1.out HB.out) | (with_reducible refine qc ?_ _) | (with_reducible refine qe ?_ _) | (with_reducible refine qf ?_))); (case side6 => exact HC1.out); rintro e w19 ⟨v300, rfl, ho0, hb⟩; refine ⟨_, rfl, ?_⟩; have n0_ := qM (Kd.R_below (by (with_reducible repeat (first | apply Kd.R_alloc | apply Kd.R_drewN | apply Kd.R_drew)); exact HO_6.out) hb); have n1_ := qM (Kd.R_lower ho0 (qz (by repeat (first | (with_reducible first | exact HB.out | apply qA | apply qN | apply qD | refine qS ?_ GE293.out) | exact HB.out)))); have n2_ := qM (blk_below (g := gb293) (o := .cells #[.slice A0_0 l0_0.length c0_0, .slice A0_1 l0_1.length c0_1] 30 (0, 0)) (by (with_reducible repeat (first | refine qn ?_ _ | refine qd ?_ | refine qa ?_ _)); exact BK293.out) hb); have n3_ := qM (qs (by repeat (first | (with_reducible first | exact HB.out | apply qA | apply qN | apply qD | refine qS ?_ GE293.out) | exact HB.out)) hb); clear HO_6; clear BK293; clear HB; have HO_6 := n0_; have HO301 := n1_; have BK293 := n2_; have HB := n3_; clear n0_ n1_ n2_ n3_; (try clear hb); (try clear hb2); (try clear hk); (try clear hi); (try clear ho0)))
      go_loopg [6, 8] kj2 (fun kq v6 v8 w' => ∃ (x6_2 : List Int) (x8_2 : Bool), v8 = .bool x8_2 ∧ Aside0 (spec_OrderTopo.l0 kq x6_2 t299 x8_2 l0_0 l0_1 = some (r1, r2)) ∧ Aside0 (kq ≤ kj2) ∧ Aside0 (Kd.R (Kd.int .i64) 3 w' w.heap.size (fun _ => True) v6 x6_2) ∧ Aside0 (Kd.R Kd.bool 4 w' w.heap.size (fun _ => True) v300 t299) ∧ Aside0 (w'.heap[gb293]? = some (.cells #[(.slice A0_0 l0_0.length c0_0), (.slice A0_1 l0_1.length c0_1)] 30 (0, 0))) ∧ Aside0 (Below w.heap.size w w'))
      case atStart => exact ⟨(y294), (true), (by first | rfl | (simp; done) | (simp [*]; done)), H', ⟨Nat.le_refl _⟩, ⟨by (with_reducible repeat (first | apply Kd.R_alloc | apply Kd.R_drewN | apply Kd.R_drew)); exact HO_6.out⟩, ⟨by (with_reducible repeat (first | apply Kd.R_alloc | apply Kd.R_drewN | apply Kd.R_drew)); exact HO301.out⟩, ⟨by (with_reducible repeat (first | refine qn ?_ _ | refine qd ?_ | refine qa ?_ _)); exact BK293.out⟩, ⟨by repeat (first | (with_reducible first | exact HB.out | apply qA | apply qN | apply qD | refine qS ?_ GE293.out) | exact HB.out)⟩⟩
      case round =>
        clear H'
        try clear c1
        try clear p2
        try clear c6
        try clear c8
        try clear c15
        try clear c16
        try clear c19
        try clear hcz10_0
        try clear hcz10_1
        try clear hcz12_0
        try clear hcz12_1
        try clear hcz14_0
        try clear hcz14_1
        try clear hcz18_0
        try clear hcz18_1
        try clear hfz10_0
        try clear hfz10_1
        try clear hfz12_0
        try clear hfz12_1
        try clear hfz14_0
        try clear hfz14_1
        try clear hfz18_0
        try clear hfz18_1
        try clear p2
        obtain ⟨x6_2, x8_2, rfl, HA, HK2, HO_6, HO_7, BK293, HB⟩ := hrel
        cases gk with
        | zero => exact absurd HA.out (by simp [spec_OrderTopo.l0])
        | succ k2 =>
          have H := HA.out
          clear HA
          simp only [spec_OrderTopo.l0] at H
          by_cases c20 : x8_2 = true
          rotate_left
          · replace c20 := Bool.eq_false_iff.mpr c20
            subst c20
            have H1 : (some (x6_2, true)) = some (r1, r2) := by rw [if_neg (show ¬ (false = true) by decide)] at H; exact H
            clear H
            have H := H1
            clear H1
            simp only [Option.some.injEq, Prod.mk.injEq] at H
            obtain ⟨rfl, rfl⟩ := H
            go_wp2
            go_ret2
            exact ⟨_, by first | rfl | (simp [errW_none, errW_some] <;> rfl) | (simp [*, errW_none, errW_some] <;> rfl), by (with_reducible repeat (first | apply Kd.R_alloc | apply Kd.R_drewN | apply Kd.R_drew)); exact HO_6.out, by repeat (first | (with_reducible first | exact HB.out | apply qA | apply qN | apply qD | refine qS ?_ GE293.out) | exact HB.out)⟩
          subst c20
          have H1 : (spec_OrderTopo.l1 k2 x6_2 t299 false 0 l0_0 l0_1) = some (r1, r2) := by rw [if_pos rfl] at H; exact H
          clear H
          have H := H1
          clear H1
          have H' := qM H
          clear H
          go_wp2
          go_loopg [6, 8, 9] k2 (fun kq v6 v8 v9 w' => ∃ (x6_3 : List Int) (x8_3 : Bool) (x9_3 : Int), v8 = .bool x8_3 ∧ v9 = .int .i64 x9_3 ∧ Aside0 (spec_OrderTopo.l1 kq x6_3 t299 x8_3 x9_3 l0_0 l0_1 = some (r1, r2)) ∧ Aside0 (kq ≤ k2) ∧ Aside0 (Kd.R (Kd.int .i64) 3 w' w.heap.size (fun _ => True) v6 x6_3) ∧ Aside0 (Kd.R Kd.bool 4 w' w.heap.size (fun _ => True) v300 t299) ∧ Aside0 (w'.heap[gb293]? = some (.cells #[(.slice A0_0 l0_0.length c0_0), (.slice A0_1 l0_1.length c0_1)] 30 (0, 0))) ∧ Aside0 (Below w.heap.size w w'))
          case atStart => exact ⟨(x6_2), (false), (0), (by first | rfl | (simp; done) | (simp [*]; done)), (by first | rfl | (simp; done) | (simp [*]; done)), H', ⟨Nat.le_refl _⟩, ⟨by (with_reducible repeat (first | apply Kd.R_alloc | apply Kd.R_drewN | apply Kd.R_drew)); exact HO_6.out⟩, ⟨by (with_reducible repeat (first | apply Kd.R_alloc | apply Kd.R_drewN | apply Kd.R_drew)); exact HO_7.out⟩, ⟨by (with_reducible repeat (first | refine qn ?_ _ | refine qd ?_ | refine qa ?_ _)); exact BK293.out⟩, ⟨by repeat (first | (with_reducible first | exact HB.out | apply qA | apply qN | apply qD | refine qS ?_ GE293.out) | exact HB.out)⟩⟩
          case round =>
            clear H'
            try clear c1
            try clear c2
            try clear p2
            try clear c6
            try clear c8
            try clear c15
            try clear c16
            try clear c19
            try clear c20
            try clear hcz10_0
            try clear hcz10_1
            try clear hcz12_0
            try clear hcz12_1
            try clear hcz14_0
            try clear hcz14_1
            try clear hcz18_0
            try clear hcz18_1
            try clear hfz10_0
            try clear hfz10_1
            try clear hfz12_0
            try clear hfz12_1
            try clear hfz14_0
            try clear hfz14_1
            try clear hfz18_0
            try clear hfz18_1
            try clear p2
            obtain ⟨x6_3, x8_3, x9_3, rfl, rfl, HA, HK3, HO_6, HO_7, BK293, HB⟩ := hrel
            cases gk with
            | zero => exact absurd HA.out (by simp [spec_OrderTopo.l1])
            | succ k3 =>
              have H := HA.out
              clear HA
              simp only [spec_OrderTopo.l1] at H
              have HC21 := qM H
              clear H
              go_upto_region 9 with (fail)
              go_cut [32] (fun v32 wc => ∃ (kq : Nat) (x32_20 : Bool), v32 = .bool x32_20 ∧ Aside0 (spec_OrderTopo.j3 kq x6_3 t299 x8_3 x9_3 x32_20 l0_0 l0_1 = some (r1, r2)) ∧ Aside0 (kq ≤ k3) ∧ Aside0 (Kd.R (Kd.int .i64) 3 wc w.heap.size (fun _ => True) u6 x6_3) ∧ Aside0 (Kd.R Kd.bool 4 wc w.heap.size (fun _ => True) v300 t299) ∧ Aside0 (wc.heap[gb293]? = some (.cells #[(.slice A0_0 l0_0.length c0_0), (.slice A0_1 l0_1.length c0_1)] 30 (0, 0))) ∧ Aside0 (Below w.heap.size w wc))
              case first =>
                have H := HC21.out
                clear HC21
                by_cases c22 : x9_3 < (t299.length : Int)
                rotate_left
                · rw [if_neg c22] at H
                  have c22b0 : decide (x9_3 < (t299.length : Int)) = false := decide_eq_false c22
                  clear c22
                  (first | rw [c22b0] | (simp only [i64_w, i32_w]; rw [c22b0]) | skip)
                  have H' := qM H
                  clear H
                  obtain ⟨Ao24, co24, eo24⟩ := Kd.R_slice HO_7.out
                  subst eo24
                  go_wp2
                  go_meet
                  case rel => exact ⟨_, (false), (by first | rfl | (simp; done) | (simp [*]; done)), H', ⟨by have := HJ2.out; have := HK2.out; have := HK3.out; first | omega | exact Nat.le_refl _⟩, ⟨by (with_reducible repeat (first | apply Kd.R_alloc | apply Kd.R_drewN | apply Kd.R_drew)); exact HO_6.out⟩, ⟨by (with_reducible repeat (first | apply Kd.R_alloc | apply Kd.R_drewN | apply Kd.R_drew)); exact HO_7.out⟩, ⟨by (with_reducible repeat (first | refine qn ?_ _ | refine qd ?_ | refine qa ?_ _)); exact BK293.out⟩, ⟨by repeat (first | (with_reducible first | exact HB.out | apply qA | apply qN | apply qD | refine qS ?_ GE293.out) | exact HB.out)⟩⟩
                rw [if_pos c22] at H
                have c22b0 : decide (x9_3 < (t299.length : Int)) = true := decide_eq_true c22
                clear c22
                (first | rw [c22b0] | (simp only [i64_w, i32_w]; rw [c22b0]) | skip)
                have H' := qM H
                clear H
                obtain ⟨Ao23, co23, eo23⟩ := Kd.R_slice HO_7.out
                subst eo23
                go_wp2
                go_meet
                case rel => exact ⟨_, (!x8_3), (by first | rfl | (simp; done) | (simp [*]; done)), H', ⟨by have := HJ2.out; have := HK2.out; have := HK3.out; first | omega | exact Nat.le_refl _⟩, ⟨by (with_reducible repeat (first | apply Kd.R_alloc | apply Kd.R_drewN | apply Kd.R_drew)); exact HO_6.out⟩, ⟨by (with_reducible repeat (first | apply Kd.R_alloc | apply Kd.R_drewN | apply Kd.R_drew)); exact HO_7.out⟩, ⟨by (with_reducible repeat (first | refine qn ?_ _ | refine qd ?_ | refine qa ?_ _)); exact BK293.out⟩, ⟨by repeat (first | (with_reducible first | exact HB.out | apply qA | apply qN | apply qD | refine qS ?_ GE293.out) | exact HB.out)⟩⟩
              case rest =>
                clear HC21
                try clear c1
                try clear c2
                try clear p2
                try clear c6
                try clear c8
                try clear c15
                try clear c16
                try clear c19
                try clear c20
                try clear c22
                try clear c22b0
                try clear hcz10_0
                try clear hcz10_1
                try clear hcz12_0
                try clear hcz12_1
                try clear hcz14_0
                try clear hcz14_1
                try clear hcz18_0
                try clear hcz18_1
                try clear hfz10_0
                try clear hfz10_1
                try clear hfz12_0
                try clear hfz12_1
                try clear hfz14_0
                try clear hfz14_1
                try clear hfz18_0
                try clear hfz18_1
                try clear p2
                obtain ⟨kq, x32_20, rfl, HA, HJ20, HO_6, HO_7, BK293, HB⟩ := hcut
                cases kq with
                | zero => exact absurd HA.out (by simp [spec_OrderTopo.j3])
                | succ kj20 =>
                  have H := HA.out
                  clear HA
                  simp only [spec_OrderTopo.j3] at H
                  by_cases c25 : x32_20 = true
                  rotate_left
                  · replace c25 := Bool.eq_false_iff.mpr c25
                    subst c25
                    have H1 : (spec_OrderTopo.l0 kj20 x6_3 t299 x8_3 l0_0 l0_1) = some (r1, r2) := by rw [if_neg (show ¬ (false = true) by decide)] at H; exact H
                    clear H
                    have H := H1
                    clear H1
                    have H' := qM H
                    clear H
                    go_wp2
                    go_roundg kj20
                    case measure => have := HJ2.out; have := HK2.out; have := HK3.out; have := HJ20.out; omega
                    case rel => exact ⟨(x6_3), (x8_3), (by first | rfl | (simp; done) | (simp [*]; done)), H', ⟨by have := HJ2.out; have := HK2.out; have := HK3.out; have := HJ20.out; omega⟩, ⟨by (with_reducible repeat (first | apply Kd.R_alloc | apply Kd.R_drewN | apply Kd.R_drew)); exact HO_6.out⟩, ⟨by (with_reducible repeat (first | apply Kd.R_alloc | apply Kd.R_drewN | apply Kd.R_drew)); exact HO_7.out⟩, ⟨by (with_reducible repeat (first | refine qn ?_ _ | refine qd ?_ | refine qa ?_ _)); exact BK293.out⟩, ⟨by repeat (first | (with_reducible first | exact HB.out | apply qA | apply qN | apply qD | refine qS ?_ GE293.out) | exact HB.out)⟩⟩
                  subst c25
                  have H1 : (if 0 ≤ x9_3 then (if x9_3 < (t299.length : Int) then (if rdOf false t299 x9_3 = true then ((spec_l2Has.f kj20 x6_3 x9_3).bind fun t303 => (if t303 = true then (spec_OrderTopo.l1 kj20 x6_3 t299 x8_3 (wrap64 (x9_3 + 1)) l0_0 l0_1) else ((spec_l3May.f kj20 l0_0 l0_1 x9_3).bind fun t304 => ((spec_l4Free.f kj20 x6_3 t304).bind fun t307 => (if t307 = true then (if x6_3.length < 17592186044416 then (spec_OrderTopo.l1 kj20 (x6_3 ++ [x9_3]) t299 true (wrap64 (x9_3 + 1)) l0_0 l0_1) else (none)) else (spec_OrderTopo.l1 kj20 x6_3 t299 x8_3 (wrap64 (x9_3 + 1)) l0_0 l0_1)))))) else (spec_OrderTopo.l1 kj20 x6_3 t299 x8_3 (wrap64 (x9_3 + 1)) l0_0 l0_1)) else (none)) else (none)) = some (r1, r2) := by rw [if_pos rfl] at H; exact H
                  clear H
                  have H := H1
                  clear H1
                  by_cases c26 : 0 ≤ x9_3
                  rotate_left
                  · rw [if_neg c26] at H
                    exact absurd H (by simp)
                  rw [if_pos c26] at H
                  have c26b0 : decide (0 ≤ x9_3) = true := decide_eq_true c26
                  clear c26
                  by_cases c27 : x9_3 < (t299.length : Int)
                  rotate_left
                  · rw [if_neg c27] at H
                    exact absurd H (by simp)
                  rw [if_pos c27] at H
                  have c27b0 : decide (x9_3 < (t299.length : Int)) = true := decide_eq_true c27
                  clear c27
                  obtain ⟨bq28, hbq28⟩ : ∃ b_ : Bool, b_ = (rdOf false t299 x9_3) := ⟨_, rfl⟩
                  replace H : (if bq28 = true then ((spec_l2Has.f kj20 x6_3 x9_3).bind fun t303 => (if t303 = true then (spec_OrderTopo.l1 kj20 x6_3 t299 x8_3 (wrap64 (x9_3 + 1)) l0_0 l0_1) else ((spec_l3May.f kj20 l0_0 l0_1 x9_3).bind fun t304 => ((spec_l4Free.f kj20 x6_3 t304).bind fun t307 => (if t307 = true then (if x6_3.length < 17592186044416 then (spec_OrderTopo.l1 kj20 (x6_3 ++ [x9_3]) t299 true (wrap64 (x9_3 + 1)) l0_0 l0_1) else (none)) else (spec_OrderTopo.l1 kj20 x6_3 t299 x8_3 (wrap64 (x9_3 + 1)) l0_0 l0_1)))))) else (spec_OrderTopo.l1 kj20 x6_3 t299 x8_3 (wrap64 (x9_3 + 1)) l0_0 l0_1)) = some (r1, r2) := by rw [← hbq28] at H; exact H
                  have Nbq28 := qM hbq28
                  clear hbq28
                  by_cases c29 : bq28 = true
                  rotate_left
                  · replace c29 := Bool.eq_false_iff.mpr c29
                    subst c29
                    have H1 : (spec_OrderTopo.l1 kj20 x6_3 t299 x8_3 (wrap64 (x9_3 + 1)) l0_0 l0_1) = some (r1, r2) := by rw [if_neg (show ¬ (false = true) by decide)] at H; exact H
                    clear H
                    have H := H1
                    clear H1
                    have H' := qM H
                    clear H
                    obtain ⟨Ao49, co49, eo49⟩ := Kd.R_slice HO_7.out
                    subst eo49
                    have p302 : 0 ≤ (x9_3 : Int) := qO (by first | (with_reducible assumption) | assumption)
                    have q302 : x9_3 < (t299.length : Int) := qO (by first | (with_reducible assumption) | assumption)
                    obtain ⟨ad302, e302, hx302_0⟩ := Kd.at_bool (Kd.R_reads' HO_7.out).2.2 x9_3 p302 q302
                    (try rw [← Nbq28.out] at hx302_0)
                    cases e302
                    replace p302 := eq_true p302
                    replace q302 := eq_true q302
                    go_wp2
                    go_roundg kj20
                    case measure => have := HJ2.out; have := HK2.out; have := HK3.out; have := HJ20.out; omega
                    case rel => exact ⟨(x6_3), (x8_3), (wrap64 (x9_3 + 1)), (by first | rfl | (simp; done) | (simp [*]; done)), (by first | rfl | (simp; done) | (simp [*]; done)), H', ⟨by have := HJ2.out; have := HK2.out; have := HK3.out; have := HJ20.out; omega⟩, ⟨by (with_reducible repeat (first | apply Kd.R_alloc | apply Kd.R_drewN | apply Kd.R_drew)); exact HO_6.out⟩, ⟨by (with_reducible repeat (first | apply Kd.R_alloc | apply Kd.R_drewN | apply Kd.R_drew)); exact HO_7.out⟩, ⟨by (with_reducible repeat (first | refine qn ?_ _ | refine qd ?_ | refine qa ?_ _)); exact BK293.out⟩, ⟨by repeat (first | (with_reducible first | exact HB.out | apply qA | apply qN | apply qD | refine qS ?_ GE293.out) | exact HB.out)⟩⟩
                  subst c29
                  have H1 : ((spec_l2Has.f kj20 x6_3 x9_3).bind fun t303 => (if t303 = true then (spec_OrderTopo.l1 kj20 x6_3 t299 x8_3 (wrap64 (x9_3 + 1)) l0_0 l0_1) else ((spec_l3May.f kj20 l0_0 l0_1 x9_3).bind fun t304 => ((spec_l4Free.f kj20 x6_3 t304).bind fun t307 => (if t307 = true then (if x6_3.length < 17592186044416 then (spec_OrderTopo.l1 kj20 (x6_3 ++ [x9_3]) t299 true (wrap64 (x9_3 + 1)) l0_0 l0_1) else (none)) else (spec_OrderTopo.l1 kj20 x6_3 t299 x8_3 (wrap64 (x9_3 + 1)) l0_0 l0_1)))))) = some (r1, r2) := by rw [if_pos rfl] at H; exact H
                  clear H
                  have H := H1
                  clear H1
                  replace H := Option.bind_eq_some_iff.mp H
                  obtain ⟨t303, A300, H⟩ := H
                  replace H : (if t303 = true then (spec_OrderTopo.l1 kj20 x6_3 t299 x8_3 (wrap64 (x9_3 + 1)) l0_0 l0_1) else ((spec_l3May.f kj20 l0_0 l0_1 x9_3).bind fun t304 => ((spec_l4Free.f kj20 x6_3 t304).bind fun t307 => (if t307 = true then (if x6_3.length < 17592186044416 then (spec_OrderTopo.l1 kj20 (x6_3 ++ [x9_3]) t299 true (wrap64 (x9_3 + 1)) l0_0 l0_1) else (none)) else (spec_OrderTopo.l1 kj20 x6_3 t299 x8_3 (wrap64 (x9_3 + 1)) l0_0 l0_1))))) = some (r1, r2) := H
                  have A30 := qM A300
                  clear A300
                  by_cases c31 : t303 = true
                  · subst c31
                    have H1 : (spec_OrderTopo.l1 kj20 x6_3 t299 x8_3 (wrap64 (x9_3 + 1)) l0_0 l0_1) = some (r1, r2) := by rw [if_pos rfl] at H; exact H
                    clear H
                    have H := H1
                    clear H1
                    have H' := qM H
                    clear H
                    obtain ⟨Ao32, co32, eo32⟩ := Kd.R_slice HO_7.out
                    subst eo32
                    have p302 : 0 ≤ (x9_3 : Int) := qO (by first | (with_reducible assumption) | assumption)
                    have q302 : x9_3 < (t299.length : Int) := qO (by first | (with_reducible assumption) | assumption)
                    obtain ⟨ad302, e302, hx302_0⟩ := Kd.at_bool (Kd.R_reads' HO_7.out).2.2 x9_3 p302 q302
                    (try rw [← Nbq28.out] at hx302_0)
                    cases e302
                    replace p302 := eq_true p302
                    replace q302 := eq_true q302
                    obtain ⟨Ao33, co33, eo33⟩ := Kd.R_slice HO_6.out
                    subst eo33
                    go_wp2_with (first | (go_at_call 69; (with_reducible refine (spec_l2Has.calls kj20 _ _ x6_3 x9_3 true _ ?side1 ?side2 A30.out).mono ?_); (case side1 => repeat (first | exact (Kd.R_reads' HO_6.out).2.2 | (with_reducible refine qc ?_ _) | (with_reducible refine qe ?_ _) | (with_reducible refine qf ?_))); (case side2 => exact (Kd.R_reads' HO_6.out).2.1); rintro e w' ⟨rfl, ⟨nd, rfl⟩⟩))
                    go_roundg kj20
                    case measure => have := HJ2.out; have := HK2.out; have := HK3.out; have := HJ20.out; omega
                    case rel => exact ⟨(x6_3), (x8_3), (wrap64 (x9_3 + 1)), (by first | rfl | (simp; done) | (simp [*]; done)), (by first | rfl | (simp; done) | (simp [*]; done)), H', ⟨by have := HJ2.out; have := HK2.out; have := HK3.out; have := HJ20.out; omega⟩, ⟨by (with_reducible repeat (first | apply Kd.R_alloc | apply Kd.R_drewN | apply Kd.R_drew)); exact HO_6.out⟩, ⟨by (with_reducible repeat (first | apply Kd.R_alloc | apply Kd.R_drewN | apply Kd.R_drew)); exact HO_7.out⟩, ⟨by (with_reducible repeat (first | refine qn ?_ _ | refine qd ?_ | refine qa ?_ _)); exact BK293.out⟩, ⟨by repeat (first | (with_reducible first | exact HB.out | apply qA | apply qN | apply qD | refine qS ?_ GE293.out) | exact HB.out)⟩⟩
                  replace c31 := Bool.eq_false_iff.mpr c31
                  subst c31
                  have H1 : ((spec_l3May.f kj20 l0_0 l0_1 x9_3).bind fun t304 => ((spec_l4Free.f kj20 x6_3 t304).bind fun t307 => (if t307 = true then (if x6_3.length < 17592186044416 then (spec_OrderTopo.l1 kj20 (x6_3 ++ [x9_3]) t299 true (wrap64 (x9_3 + 1)) l0_0 l0_1) else (none)) else (spec_OrderTopo.l1 kj20 x6_3 t299 x8_3 (wrap64 (x9_3 + 1)) l0_0 l0_1)))) = some (r1, r2) := by rw [if_neg (show ¬ (false = true) by decide)] at H; exact H
                  clear H
                  have H := H1
                  clear H1
                  replace H := Option.bind_eq_some_iff.mp H
                  obtain ⟨t304, A340, H⟩ := H
                  replace H : ((spec_l4Free.f kj20 x6_3 t304).bind fun t307 => (if t307 = true then (if x6_3.length < 17592186044416 then (spec_OrderTopo.l1 kj20 (x6_3 ++ [x9_3]) t299 true (wrap64 (x9_3 + 1)) l0_0 l0_1) else (none)) else (spec_OrderTopo.l1 kj20 x6_3 t299 x8_3 (wrap64 (x9_3 + 1)) l0_0 l0_1))) = some (r1, r2) := H
                  have A34 := qM A340
                  clear A340
                  replace H := Option.bind_eq_some_iff.mp H
                  obtain ⟨t307, A350, H⟩ := H
                  replace H : (if t307 = true then (if x6_3.length < 17592186044416 then (spec_OrderTopo.l1 kj20 (x6_3 ++ [x9_3]) t299 true (wrap64 (x9_3 + 1)) l0_0 l0_1) else (none)) else (spec_OrderTopo.l1 kj20 x6_3 t299 x8_3 (wrap64 (x9_3 + 1)) l0_0 l0_1)) = some (r1, r2) := H
                  have A35 := qM A350
                  clear A350
                  by_cases c36 : t307 = true
                  rotate_left
                  · replace c36 := Bool.eq_false_iff.mpr c36
                    subst c36
                    have H1 : (spec_OrderTopo.l1 kj20 x6_3 t299 x8_3 (wrap64 (x9_3 + 1)) l0_0 l0_1) = some (r1, r2) := by rw [if_neg (show ¬ (false = true) by decide)] at H; exact H
                    clear H
                    have H := H1
                    clear H1
                    have H' := qM H
                    clear H
                    obtain ⟨Ao44, co44, eo44⟩ := Kd.R_slice HO_7.out
                    subst eo44
                    have p302 : 0 ≤ (x9_3 : Int) := qO (by first | (with_reducible assumption) | assumption)
                    have q302 : x9_3 < (t299.length : Int) := qO (by first | (with_reducible assumption) | assumption)
                    obtain ⟨ad302, e302, hx302_0⟩ := Kd.at_bool (Kd.R_reads' HO_7.out).2.2 x9_3 p302 q302
                    (try rw [← Nbq28.out] at hx302_0)
                    cases e302
                    replace p302 := eq_true p302
                    replace q302 := eq_true q302
                    obtain ⟨Ao45, co45, eo45⟩ := Kd.R_slice HO_6.out
                    subst eo45
                    go_wp2_with (first | (go_at_call 69; (with_reducible refine (spec_l2Has.calls kj20 _ _ x6_3 x9_3 false _ ?side1 ?side2 A30.out).mono ?_); (case side1 => repeat (first | exact (Kd.R_reads' HO_6.out).2.2 | (with_reducible refine qc ?_ _) | (with_reducible refine qe ?_ _) | (with_reducible refine qf ?_))); (case side2 => exact (Kd.R_reads' HO_6.out).2.1); rintro e w' ⟨rfl, ⟨nd, rfl⟩⟩; have hcz46_0 : wc.cell? ⟨gb293, 0, none⟩ = some (.slice A0_0 l0_0.length c0_0) := (qC BK293.out 0).trans rfl; have hcz46_1 : wc.cell? ⟨gb293, 1, none⟩ = some (.slice A0_1 l0_1.length c0_1) := (qC BK293.out 1).trans rfl; have hfz46_0 := qF BK293.out 0; have hfz46_1 := qF BK293.out 1) | (go_at_call 57; (with_reducible refine (spec_l3May.calls kj20 _ _ l0_0 _ _ l0_1 x9_3 t304 _ ?side1 ?side2 ?side3 ?side4 A34.out).mono ?_); (case side1 => repeat (first | exact (qB HR0_0.out (by repeat (first | (with_reducible first | exact HB.out | apply qA | apply qN | apply qD | refine qS ?_ GE293.out) | exact HB.out))) | (with_reducible refine qc ?_ _) | (with_reducible refine qe ?_ _) | (with_reducible refine qf ?_))); (case side2 => exact HC0_0.out); (case side3 => repeat (first | exact (qB HR0_1.out (by repeat (first | (with_reducible first | exact HB.out | apply qA | apply qN | apply qD | refine qS ?_ GE293.out) | exact HB.out))) | (with_reducible refine qc ?_ _) | (with_reducible refine qe ?_ _) | (with_reducible refine qf ?_))); (case side4 => exact HC0_1.out); rintro e w47 ⟨v305, rfl, ho0, hb⟩; have n0_ := qM (Kd.R_elder' (by (with_reducible repeat (first | apply Kd.R_alloc | apply Kd.R_drewN | apply Kd.R_drew)); exact HO_6.out) (Kd.R_base ho0) hb); have n1_ := qM (Kd.R_below (by (with_reducible repeat (first | apply Kd.R_alloc | apply Kd.R_drewN | apply Kd.R_drew)); exact HO_7.out) hb); have n2_ := qM (Kd.R_lower (Kd.R_new' ho0 (Kd.R_lt (by (with_reducible repeat (first | apply Kd.R_alloc | apply Kd.R_drewN | apply Kd.R_drew)); exact HO_6.out))) (qz (by repeat (first | (with_reducible first | exact HB.out | apply qA | apply qN | apply qD | refine qS ?_ GE293.out) | exact HB.out)))); have n3_ := qM (blk_below (g := gb293) (o := .cells #[.slice A0_0 l0_0.length c0_0, .slice A0_1 l0_1.length c0_1] 30 (0, 0)) (by (with_reducible repeat (first | refine qn ?_ _ | refine qd ?_ | refine qa ?_ _)); exact BK293.out) hb); have n4_ := qM (qs (by repeat (first | (with_reducible first | exact HB.out | apply qA | apply qN | apply qD | refine qS ?_ GE293.out) | exact HB.out)) hb); clear HO_6; clear HO_7; clear BK293; clear HB; have HO_6 := n0_; have HO_7 := n1_; have HO306 := n2_; have BK293 := n3_; have HB := n4_; clear n0_ n1_ n2_ n3_ n4_; (try clear hb); (try clear hb2); (try clear hk); (try clear hi); (try clear ho0); obtain ⟨Ao48, co48, eo48⟩ := Kd.R_slice HO306.out; subst eo48) | (go_at_call 70; (with_reducible refine (spec_l4Free.calls kj20 _ _ x6_3 _ _ t304 false _ ?side1 ?side2 ?side3 ?side4 A35.out).mono ?_); (case side1 => repeat (first | exact (Kd.R_reads' HO_6.out).2.2 | (with_reducible refine qc ?_ _) | (with_reducible refine qe ?_ _) | (with_reducible refine qf ?_))); (case side2 => exact (Kd.R_reads' HO_6.out).2.1); (case side3 => repeat (first | exact (Kd.R_reads' HO306.out).2.2 | (with_reducible refine qc ?_ _) | (with_reducible refine qe ?_ _) | (with_reducible refine qf ?_))); (case side4 => exact (Kd.R_reads' HO306.out).2.1); rintro e w' ⟨rfl, ⟨nd, rfl⟩⟩))
                    go_roundg kj20
                    case measure => have := HJ2.out; have := HK2.out; have := HK3.out; have := HJ20.out; omega
                    case rel => exact ⟨(x6_3), (x8_3), (wrap64 (x9_3 + 1)), (by first | rfl | (simp; done) | (simp [*]; done)), (by first | rfl | (simp; done) | (simp [*]; done)), H', ⟨by have := HJ2.out; have := HK2.out; have := HK3.out; have := HJ20.out; omega⟩, ⟨by (with_reducible repeat (first | apply Kd.R_alloc | apply Kd.R_drewN | apply Kd.R_drew)); exact Kd.R_mono HO_6.out (fun _ hk => trivial)⟩, ⟨by (with_reducible repeat (first | apply Kd.R_alloc | apply Kd.R_drewN | apply Kd.R_drew)); exact HO_7.out⟩, ⟨by (with_reducible repeat (first | refine qn ?_ _ | refine qd ?_ | refine qa ?_ _)); exact BK293.out⟩, ⟨by repeat (first | (with_reducible first | exact HB.out | apply qA | apply qN | apply qD | refine qS ?_ GE293.out) | exact HB.out)⟩⟩
                  subst c36
                  have H1 : (if x6_3.length < 17592186044416 then (spec_OrderTopo.l1 kj20 (x6_3 ++ [x9_3]) t299 true (wrap64 (x9_3 + 1)) l0_0 l0_1) else (none)) = some (r1, r2) := by rw [if_pos rfl] at H; exact H
                  clear H
                  have H := H1
                  clear H1
                  by_cases c37 : x6_3.length < 17592186044416
                  rotate_left
                  · rw [if_neg c37] at H
                    exact absurd H (by simp)
                  rw [if_pos c37] at H
                  have LMc37 := qM c37
                  clear c37
                  obtain ⟨y308, hy308⟩ : ∃ y_ : List Int, y_ = (x6_3 ++ [x9_3]) := ⟨_, rfl⟩
                  replace H : (spec_OrderTopo.l1 kj20 y308 t299 true (wrap64 (x9_3 + 1)) l0_0 l0_1) = some (r1, r2) := by first | (rw [hy308]; with_reducible exact H) | (have H2_ := (Option.bind_some _ _).symm.trans H; rw [hy308]; with_reducible exact H2_) | (have H2_ := (Option.bind_some _ _).symm.trans H; with_reducible exact H2_) | with_reducible exact H | (rw [hy308]; exact H) | exact H
                  have Ny308 := qM hy308
                  clear hy308
                  have H' := qM H
                  clear H
                  obtain ⟨Ao38, co38, eo38⟩ := Kd.R_slice HO_7.out
                  subst eo38
                  have p302 : 0 ≤ (x9_3 : Int) := qO (by first | (with_reducible assumption) | assumption)
                  have q302 : x9_3 < (t299.length : Int) := qO (by first | (with_reducible assumption) | assumption)
                  obtain ⟨ad302, e302, hx302_0⟩ := Kd.at_bool (Kd.R_reads' HO_7.out).2.2 x9_3 p302 q302
                  (try rw [← Nbq28.out] at hx302_0)
                  cases e302
                  replace p302 := eq_true p302
                  replace q302 := eq_true q302
                  obtain ⟨Ao39, co39, eo39⟩ := Kd.R_slice HO_6.out
                  subst eo39
                  go_wp2_with (first | (go_at_call 69; (with_reducible refine (spec_l2Has.calls kj20 _ _ x6_3 x9_3 false _ ?side1 ?side2 A30.out).mono ?_); (case side1 => repeat (first | exact (Kd.R_reads' HO_6.out).2.2 | (with_reducible refine qc ?_ _) | (with_reducible refine qe ?_ _) | (with_reducible refine qf ?_))); (case side2 => exact (Kd.R_reads' HO_6.out).2.1); rintro e w' ⟨rfl, ⟨nd, rfl⟩⟩; have hcz40_0 : wc.cell? ⟨gb293, 0, none⟩ = some (.slice A0_0 l0_0.length c0_0) := (qC BK293.out 0).trans rfl; have hcz40_1 : wc.cell? ⟨gb293, 1, none⟩ = some (.slice A0_1 l0_1.length c0_1) := (qC BK293.out 1).trans rfl; have hfz40_0 := qF BK293.out 0; have hfz40_1 := qF BK293.out 1) | (go_at_call 57; (with_reducible refine (spec_l3May.calls kj20 _ _ l0_0 _ _ l0_1 x9_3 t304 _ ?side1 ?side2 ?side3 ?side4 A34.out).mono ?_); (case side1 => repeat (first | exact (qB HR0_0.out (by repeat (first | (with_reducible first | exact HB.out | apply qA | apply qN | apply qD | refine qS ?_ GE293.out) | exact HB.out))) | (with_reducible refine qc ?_ _) | (with_reducible refine qe ?_ _) | (with_reducible refine qf ?_))); (case side2 => exact HC0_0.out); (case side3 => repeat (first | exact (qB HR0_1.out (by repeat (first | (with_reducible first | exact HB.out | apply qA | apply qN | apply qD | refine qS ?_ GE293.out) | exact HB.out))) | (with_reducible refine qc ?_ _) | (with_reducible refine qe ?_ _) | (with_reducible refine qf ?_))); (case side4 => exact HC0_1.out); rintro e w41 ⟨v305, rfl, ho0, hb⟩; have n0_ := qM (Kd.R_elder' (by (with_reducible repeat (first | apply Kd.R_alloc | apply Kd.R_drewN | apply Kd.R_drew)); exact HO_6.out) (Kd.R_base ho0) hb); have n1_ := qM (Kd.R_below (by (with_reducible repeat (first | apply Kd.R_alloc | apply Kd.R_drewN | apply Kd.R_drew)); exact HO_7.out) hb); have n2_ := qM (Kd.R_lower (Kd.R_new' ho0 (Kd.R_lt (by (with_reducible repeat (first | apply Kd.R_alloc | apply Kd.R_drewN | apply Kd.R_drew)); exact HO_6.out))) (qz (by repeat (first | (with_reducible first | exact HB.out | apply qA | apply qN | apply qD | refine qS ?_ GE293.out) | exact HB.out)))); have n3_ := qM (blk_below (g := gb293) (o := .cells #[.slice A0_0 l0_0.length c0_0, .slice A0_1 l0_1.length c0_1] 30 (0, 0)) (by (with_reducible repeat (first | refine qn ?_ _ | refine qd ?_ | refine qa ?_ _)); exact BK293.out) hb); have n4_ := qM (qs (by repeat (first | (with_reducible first | exact HB.out | apply qA | apply qN | apply qD | refine qS ?_ GE293.out) | exact HB.out)) hb); clear HO_6; clear HO_7; clear BK293; clear HB; have HO_6 := n0_; have HO_7 := n1_; have HO306 := n2_; have BK293 := n3_; have HB := n4_; clear n0_ n1_ n2_ n3_ n4_; (try clear hb); (try clear hb2); (try clear hk); (try clear hi); (try clear ho0); obtain ⟨Ao42, co42, eo42⟩ := Kd.R_slice HO306.out; subst eo42) | (go_at_call 70; (with_reducible refine (spec_l4Free.calls kj20 _ _ x6_3 _ _ t304 true _ ?side1 ?side2 ?side3 ?side4 A35.out).mono ?_); (case side1 => repeat (first | exact (Kd.R_reads' HO_6.out).2.2 | (with_reducible refine qc ?_ _) | (with_reducible refine qe ?_ _) | (with_reducible refine qf ?_))); (case side2 => exact (Kd.R_reads' HO_6.out).2.1); (case side3 => repeat (first | exact (Kd.R_reads' HO306.out).2.2 | (with_reducible refine qc ?_ _) | (with_reducible refine qe ?_ _) | (with_reducible refine qf ?_))); (case side4 => exact (Kd.R_reads' HO306.out).2.1); rintro e w' ⟨rfl, ⟨nd, rfl⟩⟩) | ((with_reducible refine gate_builtin (b := .append) (xs := #[.tmp 52, .tmp 54]) rfl ?_); at_builtin; refine Kd.R_append (Kd.int .i64) (w0 := w) w.heap.size rfl (.tmp 52) (.tmp 54) 34 3 (.int .i64 0) 8 rfl Try.underlying34 info3 rfl (by decide) (by omega) (.slice Ao39 x6_3.length co39) x6_3 x9_3 [.int .i64 x9_3] (fun k_ => some k_ ≠ (.slice Ao42 t304.length co42 : Value).ownBlock) (fun _ => False) rfl rfl ?aP (fun _ hk => hk.elim) ?aF ?aO ?aB ?aS ?aL ?_; (case aP => exact rfl); (case aB => exact (by repeat (first | (with_reducible first | exact HB.out | apply qA | apply qN | apply qD | refine qS ?_ GE293.out) | exact HB.out))); (case aF => exact (fun k_ hk => Kd.fresh' (Kd.R_lt (by (with_reducible repeat (first | apply Kd.R_alloc | apply Kd.R_drewN | apply Kd.R_drew)); exact HO306.out)) k_ hk)); (case aO => exact (by (with_reducible repeat (first | apply Kd.R_alloc | apply Kd.R_drewN | apply Kd.R_drew)); exact Kd.R_mono HO_6.out (fun _ hk => hk.2))); (case aS => exact (qz (by repeat (first | (with_reducible first | exact HB.out | apply qA | apply qN | apply qD | refine qS ?_ GE293.out) | exact HB.out)))); (case aL => have := LMc37.out; omega); intro v309 w43 ho hb hg hat; rw [← Ny308.out] at ho; have n0_ := qM (Kd.R_over' (by (with_reducible repeat (first | apply Kd.R_alloc | apply Kd.R_drewN | apply Kd.R_drew)); exact HO_7.out) (Kd.R_typed (by (with_reducible repeat (first | apply Kd.R_alloc | apply Kd.R_drewN | apply Kd.R_drew)); exact HO_6.out)) (by decide) hg); have n1_ := qM (blk_grown (g := gb293) (o := .cells #[.slice A0_0 l0_0.length c0_0, .slice A0_1 l0_1.length c0_1] 30 (0, 0)) (by (with_reducible repeat (first | refine qn ?_ _ | refine qd ?_ | refine qa ?_ _)); exact BK293.out) hg (Kd.R_ne HO_6.out BK293.out (by decide))); have n2_ := qM (Kd.R_after (ok := (fun _ => True)) (by (with_reducible repeat (first | apply Kd.R_alloc | apply Kd.R_drewN | apply Kd.R_drew)); exact HO306.out) hg hat); have n3_ := qM (hb); have n4_ := qM (ho); clear HO_7; clear BK293; clear HO306; clear HB; clear HO_6; have HO_7 := n0_; have BK293 := n1_; have HO306 := n2_; have HB := n3_; have HO310 := n4_; clear n0_ n1_ n2_ n3_ n4_; clear ho hb hg hat))
                  go_roundg kj20
                  case measure => have := HJ2.out; have := HK2.out; have := HK3.out; have := HJ20.out; omega
                  case rel => exact ⟨(y308), (true), (wrap64 (x9_3 + 1)), (by first | rfl | (simp; done) | (simp [*]; done)), (by first | rfl | (simp; done) | (simp [*]; done)), H', ⟨by have := HJ2.out; have := HK2.out; have := HK3.out; have := HJ20.out; omega⟩, ⟨by (with_reducible repeat (first | apply Kd.R_alloc | apply Kd.R_drewN | apply Kd.R_drew)); exact Kd.R_mono HO310.out (fun _ hk => trivial)⟩, ⟨by (with_reducible repeat (first | apply Kd.R_alloc | apply Kd.R_drewN | apply Kd.R_drew)); exact HO_7.out⟩, ⟨by (with_reducible repeat (first | refine qn ?_ _ | refine qd ?_ | refine qa ?_ _)); exact BK293.out⟩, ⟨by repeat (first | (with_reducible first | exact HB.out | apply qA | apply qN | apply qD | refine qS ?_ GE293.out) | exact HB.out)⟩⟩
def laws_toIntS.l0 : Nat → List Int → List Int → Int → Option (List Int)
  | 0, _, _, _ => none
  | k + 1, x0, x3, x4 => if x4 < (x0.length : Int) then (if 0 ≤ x4 then (if x4 < (x3.length : Int) then (laws_toIntS.l0 k x0 (x3.set (x4 : Int).toNat (rd x0 x4)) (wrap64 (x4 + 1))) else (none)) else (none)) else (some x3)
def laws_toIntS.f (k : Nat) (l0 : List Int) : Option (List Int) := if 0 ≤ (l0.length : Int) then (if ((l0.length : Int) : Int).toNat ≤ 35184372088832 then (laws_toIntS.l0 k l0 (List.replicate ((l0.length : Int) : Int).toNat 0) 0) else (none)) else (none)
set_option maxHeartbeats 8000000 in
set_option maxRecDepth 100000 in
theorem laws_toIntS.calls (k : Nat) (A0 : Option Addr) (c0 : Nat) (l0 : List Int) (r : List Int) (w : World) (hr0 : Kd.C (Kd.int .i64) w A0 l0.length l0) (hc0 : l0.length ≤ c0) (h : laws_toIntS.f k l0 = some r) :
    Calls Try.prog 20 #[.slice A0 l0.length c0] w fun e w' => ∃ v0_ : Value, e = .returned (v0_) ∧ Kd.R (Kd.int .i64) 3 w' w.heap.size (fun _ => True) v0_ r ∧ Below w.heap.size w w' := by
  have HR0 := qM hr0
  have HC0 := qM hc0
  clear hr0 hc0
  have HB := qM (Below.refl w.heap.size w)
  have H : (if 0 ≤ (l0.length : Int) then (if ((l0.length : Int) : Int).toNat ≤ 35184372088832 then (laws_toIntS.l0 k l0 (List.replicate ((l0.length : Int) : Int).toNat 0) 0) else (none)) else (none)) = some r := h
  clear h
  by_cases c2 : 0 ≤ (l0.length : Int)
  rotate_left
  · rw [if_neg c2] at H
    exact absurd H (by simp)
  rw [if_pos c2] at H
  have c2b0 := eq_true c2
  have c2b1 : decide (0 ≤ (l0.length : Int)) = true := decide_eq_true c2
  clear c2
  by_cases c3 : ((l0.length : Int) : Int).toNat ≤ 35184372088832
  rotate_left
  · rw [if_neg c3] at H
    exact absurd H (by simp)
  rw [if_pos c3] at H
  have c3b0 := eq_true c3
  have c3b1 : decide (((l0.length : Int) : Int).toNat ≤ 35184372088832) = true := decide_eq_true c3
  clear c3
  obtain ⟨y311, hy311⟩ : ∃ y_ : List Int, y_ = (List.replicate ((l0.length : Int) : Int).toNat 0) := ⟨_, rfl⟩
  replace H : (laws_toIntS.l0 k l0 y311 0) = some r := by first | (rw [hy311]; with_reducible exact H) | (have H2_ := (Option.bind_some _ _).symm.trans H; rw [hy311]; with_reducible exact H2_) | (have H2_ := (Option.bind_some _ _).symm.trans H; with_reducible exact H2_) | with_reducible exact H | (rw [hy311]; exact H) | exact H
  have Ny311 := qM hy311
  clear hy311
  have H' := qM H
  clear H
  go_enter Try.func20, Try.ntmps20
  go_wp2_with (first | ((with_reducible refine gate_dst (N := 7) rfl ?_); refine Kd.R_make (Kd.int .i64) _ 3 rfl (N := 7) rfl 34 _ _ rfl (l0.length : Int) rfl rfl Try.underlying34 (.int .i64 0) 8 info3 rfl (by decide) (by omega) 0 (ok := fun _ => True) (okp := fun _ => True) rfl (fun _ hk => hk) trivial (qO (by first | (with_reducible assumption) | assumption)) (Nat.le_trans (Nat.mul_le_mul_right _ (qO (by first | (with_reducible assumption) | assumption) : (l0.length : Int).toNat ≤ 35184372088832)) (by omega)) (Below.refl _ _) (Nat.le_refl _) ?_; intro v312 w4 ho5 hb hg_ hnew_; clear hg_ hnew_; (first | rw [← Ny311.out] at ho5 | (simp only [Int.reduceToNat] at ho5; rw [← Ny311.out] at ho5)); have n0_ := qM (Kd.R_lower ho5 (qz (by repeat (first | (with_reducible first | exact HB.out | apply qA | apply qN | apply qD) | exact HB.out)))); have n1_ := qM (qs (by repeat (first | (with_reducible first | exact HB.out | apply qA | apply qN | apply qD) | exact HB.out)) hb); clear HB; have HO313 := n0_; have HB := n1_; clear n0_ n1_; clear hb ho5))
  go_loopg [4] k (fun kq v4 w' => ∃ (x3_1 : List Int) (x4_1 : Int), v4 = .int .i64 x4_1 ∧ Aside0 (laws_toIntS.l0 kq l0 x3_1 x4_1 = some r) ∧ Aside0 (kq ≤ k) ∧ Aside0 (Kd.R (Kd.int .i64) 3 w' w.heap.size (fun _ => True) v312 x3_1) ∧ Aside0 (Below w.heap.size w w'))
  case atStart => exact ⟨(y311), (0), (by first | rfl | (simp; done) | (simp [*]; done)), H', ⟨Nat.le_refl _⟩, ⟨by (with_reducible repeat (first | apply Kd.R_alloc | apply Kd.R_drewN | apply Kd.R_drew)); exact HO313.out⟩, ⟨by repeat (first | (with_reducible first | exact HB.out | apply qA | apply qN | apply qD) | exact HB.out)⟩⟩
  case round =>
    clear H'
    try clear c2
    try clear c2b0
    try clear c2b1
    try clear p2
    try clear c3
    try clear c3b0
    try clear c3b1
    obtain ⟨x3_1, x4_1, rfl, HA, HK1, HO_3, HB⟩ := hrel
    cases gk with
    | zero => exact absurd HA.out (by simp [laws_toIntS.l0])
    | succ k1 =>
      have H := HA.out
      clear HA
      simp only [laws_toIntS.l0] at H
      by_cases c6 : x4_1 < (l0.length : Int)
      rotate_left
      · rw [if_neg c6] at H
        have c6b0 : decide (x4_1 < (l0.length : Int)) = false := decide_eq_false c6
        clear c6
        obtain rfl := Option.some.inj H
        go_wp2
        go_ret
        exact ⟨_, by first | rfl | (simp [errW_none, errW_some] <;> rfl) | (simp [*, errW_none, errW_some] <;> rfl), by (with_reducible repeat (first | apply Kd.R_alloc | apply Kd.R_drewN | apply Kd.R_drew)); exact HO_3.out, by repeat (first | (with_reducible first | exact HB.out | apply qA | apply qN | apply qD) | exact HB.out)⟩
      rw [if_pos c6] at H
      have c6b0 : decide (x4_1 < (l0.length : Int)) = true := decide_eq_true c6
      clear c6
      by_cases c7 : 0 ≤ x4_1
      rotate_left
      · rw [if_neg c7] at H
        exact absurd H (by simp)
      rw [if_pos c7] at H
      have c7b0 : decide (0 ≤ x4_1) = true := decide_eq_true c7
      clear c7
      by_cases c8 : x4_1 < (x3_1.length : Int)
      rotate_left
      · rw [if_neg c8] at H
        exact absurd H (by simp)
      rw [if_pos c8] at H
      have c8b0 : decide (x4_1 < (x3_1.length : Int)) = true := decide_eq_true c8
      clear c8
      obtain ⟨y315, hy315⟩ : ∃ y_ : List Int, y_ = (x3_1.set (x4_1 : Int).toNat (rd l0 x4_1)) := ⟨_, rfl⟩
      replace H : (laws_toIntS.l0 k1 l0 y315 (wrap64 (x4_1 + 1))) = some r := by first | (rw [hy315]; with_reducible exact H) | (have H2_ := (Option.bind_some _ _).symm.trans H; rw [hy315]; with_reducible exact H2_) | (have H2_ := (Option.bind_some _ _).symm.trans H; with_reducible exact H2_) | with_reducible exact H | (rw [hy315]; exact H) | exact H
      have Ny315 := qM hy315
      clear hy315
      have H' := qM H
      clear H
      have p314 : 0 ≤ (x4_1 : Int) := qO (by first | (with_reducible assumption) | assumption)
      have q314 : x4_1 < (l0.length : Int) := qO (by first | (with_reducible assumption) | assumption)
      obtain ⟨ad314, e314, hx314_0⟩ := Kd.at_int HR0.out x4_1 p314 q314
      cases e314
      replace hx314_0 := (HB.out.cell (qL w _ hx314_0)).trans hx314_0
      replace p314 := eq_true p314
      replace q314 := eq_true q314
      have p9 : 0 ≤ (x4_1 : Int) := qO (by first | (with_reducible assumption) | assumption)
      have q9 : (x4_1 : Int) < ((x3_1.length : Int) : Int) := qO (by first | (with_reducible assumption) | assumption)
      obtain ⟨go9, co9, eo9, gb9, gl9, cl9, HG9⟩ := Kd.R_form HO_3.out (by omega)
      (first | cases eo9 | (injection eo9 with ea_ en_ ec_; (first | subst ea_ | (injection ea_ with ea_; subst ea_)); subst ec_; clear en_))
      have GB9 := qM gb9
      have GG9 := qM HG9
      clear gb9 gl9 HG9
      obtain ⟨hx9_0, hf9_0⟩ := Kd.R_celln 0 HO_3.out (x4_1 : Int) p9 q9
      replace p9 := eq_true p9
      replace q9 := eq_true q9
      have HP10 := Kd.R_putg HO_3.out (x4_1 : Int) (rd l0 x4_1)
      go_wp2_with (first | ((with_reducible refine gate_store (t := 3) (p := 20) rfl ?_); refine store_event (t := 3) (p := 20) (v := ?vo_w11) (w1 := (wr.setCell ⟨go9, (x4_1 : Int).toNat, none⟩ (.int .i64 (rd l0 x4_1)))) ?hg ?ho ?hn ?hr ?_; (case ho => rfl); (case hg => rfl); (case hn => rfl); (case hr => first | (go_simp; done) | (go_simp; rfl)); intro w11 hw; have hg : wr.grownBy w11 (some go9) := (by rw [hw]; exact HP10.2); have hp_ : Kd.R (Kd.int .i64) 3 w11 w.heap.size (fun _ => True) (.slice (some ⟨go9, 0, none⟩) x3_1.length co9) y315 := (by rw [hw, Ny315.out]; exact HP10.1); clear HP10; have n0_ := qM (hp_); have n1_ := qM ((by rw [hw]; exact qS (HB.out) GB9.out : Below w.heap.size w w11)); clear HO_3; clear HB; have HO_3 := n0_; have HB := n1_; clear n0_ n1_; clear hg hw hp_))
      go_roundg k1
      case measure => have := HK1.out; omega
      case rel => exact ⟨(y315), (wrap64 (x4_1 + 1)), (by first | rfl | (simp; done) | (simp [*]; done)), H', ⟨by have := HK1.out; omega⟩, ⟨by (with_reducible repeat (first | apply Kd.R_alloc | apply Kd.R_drewN | apply Kd.R_drew)); exact HO_3.out⟩, ⟨by repeat (first | (with_reducible first | exact HB.out | apply qA | apply qN | apply qD) | exact HB.out)⟩⟩
end Go.Proofs.Ythfemojaabejiaa.G
end
section
namespace Go.Proofs.Ythfemojaabejiaa.G
open Go.RowKit Go.Proofs.YthfemojaabejiaaW.PrintWords Go.Proofs.YthfemojaabejiaaW.PrintLast Go.Proofs.YthfemojaabejiaaW.PrintMore
attribute [local go_sem] max2_int min2_int max_two min_two max_three min_three max_four min_four
set_option linter.unusedVariables false
set_option linter.unusedSimpArgs false
def laws_eqIntS.l0 : Nat → List Int → List Int → Int → Option (Bool)
  | 0, _, _, _ => none
  | k + 1, x0, x1, x5 => if x5 < (x0.length : Int) then (if 0 ≤ x5 then (if x5 < (x1.length : Int) then (if (rd x0 x5) = (rd x1 x5) then (laws_eqIntS.l0 k x0 x1 (wrap64 (x5 + 1))) else (some false)) else (none)) else (none)) else (some true)
def laws_eqIntS.f (k : Nat) (l0 : List Int) (l1 : List Int) : Option (Bool) := if (l0.length : Int) = (l1.length : Int) then (laws_eqIntS.l0 k l0 l1 0) else (some false)
set_option maxHeartbeats 8000000 in
set_option maxRecDepth 100000 in
theorem laws_eqIntS.calls (k : Nat) (A0 : Option Addr) (c0 : Nat) (l0 : List Int) (A1 : Option Addr) (c1 : Nat) (l1 : List Int) (r : Bool) (w : World) (hr0 : Kd.C (Kd.int .i64) w A0 l0.length l0) (hc0 : l0.length ≤ c0) (hr1 : Kd.C (Kd.int .i64) w A1 l1.length l1) (hc1 : l1.length ≤ c1) (h : laws_eqIntS.f k l0 l1 = some r) :
    Calls Try.prog 22 #[.slice A0 l0.length c0, .slice A1 l1.length c1] w fun e w' => e = .returned (.bool r) ∧ Drawn0 w w' := by
  have HR0 := qM hr0
  have HC0 := qM hc0
  clear hr0 hc0
  have HR1 := qM hr1
  have HC1 := qM hc1
  clear hr1 hc1
  have H : (if (l0.length : Int) = (l1.length : Int) then (laws_eqIntS.l0 k l0 l1 0) else (some false)) = some r := h
  clear h
  by_cases c3 : (l0.length : Int) = (l1.length : Int)
  rotate_left
  · rw [if_neg c3] at H
    have c3b0 : ((l0.length : Int) == (l1.length : Int)) = false := beq_eq_false_iff_ne.mpr c3
    have c3b1 : ((l0.length : Int) != (l1.length : Int)) = true := bne_iff_ne.mpr c3
    have c3b2 : (l0.length == l1.length) = false := by first | simpa using c3 | (simp at c3 ⊢; omega)
    obtain rfl := Option.some.inj H
    go_enter Try.func22, Try.ntmps22
    go_wp2
    repeat (go_quiet (fail); try go_wp2)
    go_ret
    exact ⟨by first | rfl | (simp; done) | (simp [*]; done), by repeat (first | exact Drawn0.refl _ | apply Drawn0.step)⟩
  rw [if_pos c3] at H
  have c3b0 : ((l0.length : Int) == (l1.length : Int)) = true := beq_iff_eq.mpr c3
  have c3b1 : ((l0.length : Int) != (l1.length : Int)) = false := bne_eq_false_iff_eq.mpr c3
  have c3b2 : (l0.length == l1.length) = true := by first | simpa using c3 | (simp at c3 ⊢; omega)
  clear c3
  have H' := qM H
  clear H
  go_enter Try.func22, Try.ntmps22
  go_wp2
  repeat (go_quiet (fail); try go_wp2)
  go_loopg [5] k (fun kq v5 w' => ∃ (x5_1 : Int), v5 = .int .i64 x5_1 ∧ Aside0 (laws_eqIntS.l0 kq l0 l1 x5_1 = some r) ∧ Aside0 (kq ≤ k) ∧ Drawn0 w w')
  case atStart => exact ⟨(0), (by first | rfl | (simp; done) | (simp [*]; done)), H', ⟨Nat.le_refl _⟩, by repeat (first | exact Drawn0.refl _ | apply Drawn0.step)⟩
  case round =>
    clear H'
    try clear c1
    try clear c2
    try clear p2
    try clear c3
    try clear c3b0
    try clear c3b1
    try clear c3b2
    obtain ⟨x5_1, rfl, HA, HK1, ⟨m1, rfl⟩⟩ := hrel
    cases gk with
    | zero => exact absurd HA.out (by simp [laws_eqIntS.l0])
    | succ k1 =>
      have H := HA.out
      clear HA
      simp only [laws_eqIntS.l0] at H
      by_cases c4 : x5_1 < (l0.length : Int)
      rotate_left
      · rw [if_neg c4] at H
        have c4b0 : decide (x5_1 < (l0.length : Int)) = false := decide_eq_false c4
        clear c4
        obtain rfl := Option.some.inj H
        go_wp2
        repeat (go_quiet (fail); try go_wp2)
        go_ret
        exact ⟨by first | rfl | (simp; done) | (simp [*]; done), by repeat (first | exact Drawn0.refl _ | apply Drawn0.step)⟩
      rw [if_pos c4] at H
      have c4b0 : decide (x5_1 < (l0.length : Int)) = true := decide_eq_true c4
      clear c4
      by_cases c5 : 0 ≤ x5_1
      rotate_left
      · rw [if_neg c5] at H
        exact absurd H (by simp)
      rw [if_pos c5] at H
      have c5b0 : decide (0 ≤ x5_1) = true := decide_eq_true c5
      clear c5
      by_cases c6 : x5_1 < (l1.length : Int)
      rotate_left
      · rw [if_neg c6] at H
        exact absurd H (by simp)
      rw [if_pos c6] at H
      have c6b0 : decide (x5_1 < (l1.length : Int)) = true := decide_eq_true c6
      clear c6
      by_cases c7 : (rd l0 x5_1) = (rd l1 x5_1)
      rotate_left
      · rw [if_neg c7] at H
        have c7b0 : ((rd l0 x5_1) == (rd l1 x5_1)) = false := beq_eq_false_iff_ne.mpr c7
        have c7b1 : ((rd l0 x5_1) != (rd l1 x5_1)) = true := bne_iff_ne.mpr c7
        obtain rfl := Option.some.inj H
        have p318 : 0 ≤ (x5_1 : Int) := qO (by first | (with_reducible assumption) | assumption)
        have q318 : x5_1 < (l0.length : Int) := qO (by first | (with_reducible assumption) | assumption)
        obtain ⟨ad318, e318, hx318_0⟩ := Kd.at_int HR0.out x5_1 p318 q318
        cases e318
        replace p318 := eq_true p318
        replace q318 := eq_true q318
        have p319 : 0 ≤ (x5_1 : Int) := qO (by first | (with_reducible assumption) | assumption)
        have q319 : x5_1 < (l1.length : Int) := qO (by first | (with_reducible assumption) | assumption)
        obtain ⟨ad319, e319, hx319_0⟩ := Kd.at_int HR1.out x5_1 p319 q319
        cases e319
        replace p319 := eq_true p319
        replace q319 := eq_true q319
        go_wp2
        repeat (go_quiet (fail); try go_wp2)
        go_ret
        exact ⟨by first | rfl | (simp; done) | (simp [*]; done), by repeat (first | exact Drawn0.refl _ | apply Drawn0.step)⟩
      rw [if_pos c7] at H
      have c7b0 : ((rd l0 x5_1) == (rd l1 x5_1)) = true := beq_iff_eq.mpr c7
      have c7b1 : ((rd l0 x5_1) != (rd l1 x5_1)) = false := bne_eq_false_iff_eq.mpr c7
      clear c7
      have H' := qM H
      clear H
      have p318 : 0 ≤ (x5_1 : Int) := qO (by first | (with_reducible assumption) | assumption)
      have q318 : x5_1 < (l0.length : Int) := qO (by first | (with_reducible assumption) | assumption)
      obtain ⟨ad318, e318, hx318_0⟩ := Kd.at_int HR0.out x5_1 p318 q318
      cases e318
      replace p318 := eq_true p318
      replace q318 := eq_true q318
      have p319 : 0 ≤ (x5_1 : Int) := qO (by first | (with_reducible assumption) | assumption)
      have q319 : x5_1 < (l1.length : Int) := qO (by first | (with_reducible assumption) | assumption)
      obtain ⟨ad319, e319, hx319_0⟩ := Kd.at_int HR1.out x5_1 p319 q319
      cases e319
      replace p319 := eq_true p319
      replace q319 := eq_true q319
      go_wp2
      repeat (go_quiet (fail); try go_wp2)
      go_roundg k1
      case measure => have := HK1.out; omega
      case rel => exact ⟨(wrap64 (x5_1 + 1)), (by first | rfl | (simp; done) | (simp [*]; done)), H', ⟨by have := HK1.out; omega⟩, by repeat (first | exact Drawn0.refl _ | apply Drawn0.step)⟩
def laws_markBoolS.l0 : Nat → List Bool → Int → Int → Option (Int × List Bool)
  | 0, _, _, _ => none
  | k + 1, x0, x1, x5 => if x5 < (x0.length : Int) then (if 0 ≤ x5 then (laws_markBoolS.l0 k (x0.set (x5 : Int).toNat ((Int.tmod x1 3) == 0)) (wrap64 (x1 + 1)) (wrap64 (x5 + 1))) else (none)) else (some (x1, x0))
def laws_markBoolS.f (k : Nat) (l0 : List Bool) (a1 : Int) : Option (Int × List Bool) := laws_markBoolS.l0 k l0 a1 0
set_option maxHeartbeats 8000000 in
set_option maxRecDepth 100000 in
theorem laws_markBoolS.calls (k : Nat) (P0_ : Nat → Prop) (u9000_ : Value) (l0 : List Bool) (a1 : Int) (r1 : Int) (r2 : List Bool) (w0 w : World) (hB : Below w0.heap.size w0 w) (ho0 : Kd.R Kd.bool 4 w w0.heap.size P0_ u9000_ l0) (h : laws_markBoolS.f k l0 a1 = some (r1, r2)) :
    Calls Try.prog 72 #[u9000_, .int .i64 a1] w fun e w' => e = .returned (.int .i64 r1) ∧ Kd.R Kd.bool 4 w' w0.heap.size (fun k_ => (P0_ k_ ∨ w.heap.size ≤ k_)) u9000_ r2 ∧ Below w0.heap.size w0 w' ∧ Kept w w' (fun k_ => P0_ k_) := by
  have HO0 := qM (show Kd.R Kd.bool 4 w w0.heap.size (fun k_ => (P0_ k_ ∨ w.heap.size ≤ k_)) u9000_ l0 from Kd.R_mono ho0 (fun k_ hk => (.inl hk)))
  have HK := qM (Kept.refl w (fun k_ => P0_ k_))
  have HW0 := qM hB.size
  have HB := qM hB
  clear hB
  have H : (laws_markBoolS.l0 k l0 a1 0) = some (r1, r2) := h
  clear h
  have H' := qM H
  clear H
  go_enter Try.func72, Try.ntmps72
  go_wp2
  go_loopg [1, 5] k (fun kq v1 v5 w' => ∃ (x0_1 : List Bool) (x1_1 : Int) (x5_1 : Int), v1 = .int .i64 x1_1 ∧ v5 = .int .i64 x5_1 ∧ Aside0 (laws_markBoolS.l0 kq x0_1 x1_1 x5_1 = some (r1, r2)) ∧ Aside0 (kq ≤ k) ∧ Aside0 (Kd.R Kd.bool 4 w' w0.heap.size (fun k_ => (P0_ k_ ∨ w.heap.size ≤ k_)) u9000_ x0_1) ∧ Aside0 (Kept w w' (fun k_ => P0_ k_)) ∧ Aside0 (Below w0.heap.size w0 w'))
  case atStart => exact ⟨(l0), (a1), (0), (by first | rfl | (simp; done) | (simp [*]; done)), (by first | rfl | (simp; done) | (simp [*]; done)), H', ⟨Nat.le_refl _⟩, ⟨by (with_reducible repeat (first | apply Kd.R_alloc | apply Kd.R_drewN | apply Kd.R_drew)); exact HO0.out⟩, ⟨by repeat (first | (with_reducible first | exact HK.out | apply Kept.alloc | apply Kept.drewN | apply Kept.drew) | exact HK.out)⟩, ⟨by repeat (first | (with_reducible first | exact HB.out | apply qA | apply qN | apply qD) | exact HB.out)⟩⟩
  case round =>
    clear H'
    try clear p2
    obtain ⟨x0_1, x1_1, x5_1, rfl, rfl, HA, HK1, HO_0, HK, HB⟩ := hrel
    cases gk with
    | zero => exact absurd HA.out (by simp [laws_markBoolS.l0])
    | succ k1 =>
      have H := HA.out
      clear HA
      simp only [laws_markBoolS.l0] at H
      by_cases c3 : x5_1 < (x0_1.length : Int)
      rotate_left
      · rw [if_neg c3] at H
        have c3b0 : decide (x5_1 < (x0_1.length : Int)) = false := decide_eq_false c3
        clear c3
        simp only [Option.some.injEq, Prod.mk.injEq] at H
        obtain ⟨rfl, rfl⟩ := H
        obtain ⟨Ao9, co9, eo9⟩ := Kd.R_slice HO_0.out
        subst eo9
        go_wp2
        go_ret
        exact ⟨by first | rfl | (simp [errW_none, errW_some] <;> rfl) | (simp [*, errW_none, errW_some] <;> rfl), by (with_reducible repeat (first | apply Kd.R_alloc | apply Kd.R_drewN | apply Kd.R_drew)); exact HO_0.out, by repeat (first | (with_reducible first | exact HB.out | apply qA | apply qN | apply qD) | exact HB.out), by repeat (first | (with_reducible first | exact HK.out | apply Kept.alloc | apply Kept.drewN | apply Kept.drew) | exact HK.out)⟩
      rw [if_pos c3] at H
      have c3b0 : decide (x5_1 < (x0_1.length : Int)) = true := decide_eq_true c3
      clear c3
      by_cases c4 : 0 ≤ x5_1
      rotate_left
      · rw [if_neg c4] at H
        exact absurd H (by simp)
      rw [if_pos c4] at H
      have c4b0 : decide (0 ≤ x5_1) = true := decide_eq_true c4
      clear c4
      obtain ⟨y320, hy320⟩ : ∃ y_ : List Bool, y_ = (x0_1.set (x5_1 : Int).toNat ((Int.tmod x1_1 3) == 0)) := ⟨_, rfl⟩
      replace H : (laws_markBoolS.l0 k1 y320 (wrap64 (x1_1 + 1)) (wrap64 (x5_1 + 1))) = some (r1, r2) := by first | (rw [hy320]; with_reducible exact H) | (have H2_ := (Option.bind_some _ _).symm.trans H; rw [hy320]; with_reducible exact H2_) | (have H2_ := (Option.bind_some _ _).symm.trans H; with_reducible exact H2_) | with_reducible exact H | (rw [hy320]; exact H) | exact H
      have Ny320 := qM hy320
      clear hy320
      have H' := qM H
      clear H
      obtain ⟨Ao6, co6, eo6⟩ := Kd.R_slice HO_0.out
      subst eo6
      have p5 : 0 ≤ (x5_1 : Int) := qO (by first | (with_reducible assumption) | assumption)
      have q5 : (x5_1 : Int) < ((x0_1.length : Int) : Int) := qO (by first | (with_reducible assumption) | assumption)
      obtain ⟨go5, co5, eo5, gb5, gl5, cl5, HG5⟩ := Kd.R_form HO_0.out (by omega)
      (first | cases eo5 | (injection eo5 with ea_ en_ ec_; (first | subst ea_ | (injection ea_ with ea_; subst ea_)); subst ec_; clear en_))
      have GB5 := qM gb5
      have GG5 := qM HG5
      clear gb5 gl5 HG5
      have HMgo5 := qM (show (P0_ go5 ∨ w.heap.size ≤ go5) from (HO_0.out.1 _ rfl))
      obtain ⟨hx5_0, hf5_0⟩ := Kd.R_celln false HO_0.out (x5_1 : Int) p5 q5
      replace p5 := eq_true p5
      replace q5 := eq_true q5
      have HP7 := Kd.R_putg HO_0.out (x5_1 : Int) ((Int.tmod x1_1 3) == 0)
      go_wp2_with (first | ((with_reducible refine gate_store (t := 4) (p := 17) rfl ?_); refine store_event (t := 4) (p := 17) (v := ?vo_w8) (w1 := (wr.setCell ⟨go5, (x5_1 : Int).toNat, none⟩ (.bool ((Int.tmod x1_1 3) == 0)))) ?hg ?ho ?hn ?hr ?_; (case ho => rfl); (case hg => rfl); (case hn => rfl); (case hr => first | (go_simp; done) | (go_simp; rfl)); intro w8 hw; have hg : wr.grownBy w8 (some go5) := (by rw [hw]; exact HP7.2); have hp_ : Kd.R Kd.bool 4 w8 w0.heap.size (fun k_ => (P0_ k_ ∨ w.heap.size ≤ k_)) (.slice (some ⟨go5, 0, none⟩) x0_1.length co6) y320 := (by rw [hw, Ny320.out]; exact HP7.1); clear HP7; have n0_ := qM (hp_); have n1_ := qM ((by rw [hw]; exact qS (HB.out) GB5.out : Below w0.heap.size w0 w8)); have n2_ := qM (Kept.of_grown (S := (fun k_ => P0_ k_)) hg (by repeat (first | (with_reducible first | exact HK.out | apply Kept.alloc | apply Kept.drewN | apply Kept.drew) | exact HK.out)) (fun k_ e_ => (HO_0.out.1 k_ e_))); clear HO_0; clear HB; clear HK; have HO_0 := n0_; have HB := n1_; have HK := n2_; clear n0_ n1_ n2_; clear hg hw hp_))
      go_roundg k1
      case measure => have := HK1.out; omega
      case rel => exact ⟨(y320), (wrap64 (x1_1 + 1)), (wrap64 (x5_1 + 1)), (by first | rfl | (simp; done) | (simp [*]; done)), (by first | rfl | (simp; done) | (simp [*]; done)), H', ⟨by have := HK1.out; omega⟩, ⟨by (with_reducible repeat (first | apply Kd.R_alloc | apply Kd.R_drewN | apply Kd.R_drew)); exact HO_0.out⟩, ⟨by repeat (first | (with_reducible first | exact HK.out | apply Kept.alloc | apply Kept.drewN | apply Kept.drew) | exact HK.out)⟩, ⟨by repeat (first | (with_reducible first | exact HB.out | apply qA | apply qN | apply qD) | exact HB.out)⟩⟩
def laws_markIntS.l0 : Nat → List Int → Int → Int → Option (Int × List Int)
  | 0, _, _, _ => none
  | k + 1, x0, x1, x5 => if x5 < (x0.length : Int) then (if 0 ≤ x5 then (laws_markIntS.l0 k (x0.set (x5 : Int).toNat x1) (wrap64 (x1 + 1)) (wrap64 (x5 + 1))) else (none)) else (some (x1, x0))
def laws_markIntS.f (k : Nat) (l0 : List Int) (a1 : Int) : Option (Int × List Int) := laws_markIntS.l0 k l0 a1 0
set_option maxHeartbeats 8000000 in
set_option maxRecDepth 100000 in
theorem laws_markIntS.calls (k : Nat) (P0_ : Nat → Prop) (u9000_ : Value) (l0 : List Int) (a1 : Int) (r1 : Int) (r2 : List Int) (w0 w : World) (hB : Below w0.heap.size w0 w) (ho0 : Kd.R (Kd.int .i64) 3 w w0.heap.size P0_ u9000_ l0) (h : laws_markIntS.f k l0 a1 = some (r1, r2)) :
    Calls Try.prog 24 #[u9000_, .int .i64 a1] w fun e w' => e = .returned (.int .i64 r1) ∧ Kd.R (Kd.int .i64) 3 w' w0.heap.size (fun k_ => (P0_ k_ ∨ w.heap.size ≤ k_)) u9000_ r2 ∧ Below w0.heap.size w0 w' ∧ Kept w w' (fun k_ => P0_ k_) := by
  have HO0 := qM (show Kd.R (Kd.int .i64) 3 w w0.heap.size (fun k_ => (P0_ k_ ∨ w.heap.size ≤ k_)) u9000_ l0 from Kd.R_mono ho0 (fun k_ hk => (.inl hk)))
  have HK := qM (Kept.refl w (fun k_ => P0_ k_))
  have HW0 := qM hB.size
  have HB := qM hB
  clear hB
  have H : (laws_markIntS.l0 k l0 a1 0) = some (r1, r2) := h
  clear h
  have H' := qM H
  clear H
  go_enter Try.func24, Try.ntmps24
  go_wp2
  go_loopg [1, 5] k (fun kq v1 v5 w' => ∃ (x0_1 : List Int) (x1_1 : Int) (x5_1 : Int), v1 = .int .i64 x1_1 ∧ v5 = .int .i64 x5_1 ∧ Aside0 (laws_markIntS.l0 kq x0_1 x1_1 x5_1 = some (r1, r2)) ∧ Aside0 (kq ≤ k) ∧ Aside0 (Kd.R (Kd.int .i64) 3 w' w0.heap.size (fun k_ => (P0_ k_ ∨ w.heap.size ≤ k_)) u9000_ x0_1) ∧ Aside0 (Kept w w' (fun k_ => P0_ k_)) ∧ Aside0 (Below w0.heap.size w0 w'))
  case atStart => exact ⟨(l0), (a1), (0), (by first | rfl | (simp; done) | (simp [*]; done)), (by first | rfl | (simp; done) | (simp [*]; done)), H', ⟨Nat.le_refl _⟩, ⟨by (with_reducible repeat (first | apply Kd.R_alloc | apply Kd.R_drewN | apply Kd.R_drew)); exact HO0.out⟩, ⟨by repeat (first | (with_reducible first | exact HK.out | apply Kept.alloc | apply Kept.drewN | apply Kept.drew) | exact HK.out)⟩, ⟨by repeat (first | (with_reducible first | exact HB.out | apply qA | apply qN | apply qD) | exact HB.out)⟩⟩
  case round =>
    clear H'
    try clear c2
    try clear p2
    obtain ⟨x0_1, x1_1, x5_1, rfl, rfl, HA, HK1, HO_0, HK, HB⟩ := hrel
    cases gk with
    | zero => exact absurd HA.out (by simp [laws_markIntS.l0])
    | succ k1 =>
      have H := HA.out
      clear HA
      simp only [laws_markIntS.l0] at H
      by_cases c3 : x5_1 < (x0_1.length : Int)
      rotate_left
      · rw [if_neg c3] at H
        have c3b0 : decide (x5_1 < (x0_1.length : Int)) = false := decide_eq_false c3
        clear c3
        simp only [Option.some.injEq, Prod.mk.injEq] at H
        obtain ⟨rfl, rfl⟩ := H
        obtain ⟨Ao9, co9, eo9⟩ := Kd.R_slice HO_0.out
        subst eo9
        go_wp2
        go_ret
        exact ⟨by first | rfl | (simp [errW_none, errW_some] <;> rfl) | (simp [*, errW_none, errW_some] <;> rfl), by (with_reducible repeat (first | apply Kd.R_alloc | apply Kd.R_drewN | apply Kd.R_drew)); exact HO_0.out, by repeat (first | (with_reducible first | exact HB.out | apply qA | apply qN | apply qD) | exact HB.out), by repeat (first | (with_reducible first | exact HK.out | apply Kept.alloc | apply Kept.drewN | apply Kept.drew) | exact HK.out)⟩
      rw [if_pos c3] at H
      have c3b0 : decide (x5_1 < (x0_1.length : Int)) = true := decide_eq_true c3
      clear c3
      by_cases c4 : 0 ≤ x5_1
      rotate_left
      · rw [if_neg c4] at H
        exact absurd H (by simp)
      rw [if_pos c4] at H
      have c4b0 : decide (0 ≤ x5_1) = true := decide_eq_true c4
      clear c4
      obtain ⟨y324, hy324⟩ : ∃ y_ : List Int, y_ = (x0_1.set (x5_1 : Int).toNat x1_1) := ⟨_, rfl⟩
      replace H : (laws_markIntS.l0 k1 y324 (wrap64 (x1_1 + 1)) (wrap64 (x5_1 + 1))) = some (r1, r2) := by first | (rw [hy324]; with_reducible exact H) | (have H2_ := (Option.bind_some _ _).symm.trans H; rw [hy324]; with_reducible exact H2_) | (have H2_ := (Option.bind_some _ _).symm.trans H; with_reducible exact H2_) | with_reducible exact H | (rw [hy324]; exact H) | exact H
      have Ny324 := qM hy324
      clear hy324
      have H' := qM H
      clear H
      obtain ⟨Ao6, co6, eo6⟩ := Kd.R_slice HO_0.out
      subst eo6
      have p5 : 0 ≤ (x5_1 : Int) := qO (by first | (with_reducible assumption) | assumption)
      have q5 : (x5_1 : Int) < ((x0_1.length : Int) : Int) := qO (by first | (with_reducible assumption) | assumption)
      obtain ⟨go5, co5, eo5, gb5, gl5, cl5, HG5⟩ := Kd.R_form HO_0.out (by omega)
      (first | cases eo5 | (injection eo5 with ea_ en_ ec_; (first | subst ea_ | (injection ea_ with ea_; subst ea_)); subst ec_; clear en_))
      have GB5 := qM gb5
      have GG5 := qM HG5
      clear gb5 gl5 HG5
      have HMgo5 := qM (show (P0_ go5 ∨ w.heap.size ≤ go5) from (HO_0.out.1 _ rfl))
      obtain ⟨hx5_0, hf5_0⟩ := Kd.R_celln 0 HO_0.out (x5_1 : Int) p5 q5
      replace p5 := eq_true p5
      replace q5 := eq_true q5
      have HP7 := Kd.R_putg HO_0.out (x5_1 : Int) x1_1
      go_wp2_with (first | ((with_reducible refine gate_store (t := 3) (p := 15) rfl ?_); refine store_event (t := 3) (p := 15) (v := ?vo_w8) (w1 := (wr.setCell ⟨go5, (x5_1 : Int).toNat, none⟩ (.int .i64 x1_1))) ?hg ?ho ?hn ?hr ?_; (case ho => rfl); (case hg => rfl); (case hn => rfl); (case hr => first | (go_simp; done) | (go_simp; rfl)); intro w8 hw; have hg : wr.grownBy w8 (some go5) := (by rw [hw]; exact HP7.2); have hp_ : Kd.R (Kd.int .i64) 3 w8 w0.heap.size (fun k_ => (P0_ k_ ∨ w.heap.size ≤ k_)) (.slice (some ⟨go5, 0, none⟩) x0_1.length co6) y324 := (by rw [hw, Ny324.out]; exact HP7.1); clear HP7; have n0_ := qM (hp_); have n1_ := qM ((by rw [hw]; exact qS (HB.out) GB5.out : Below w0.heap.size w0 w8)); have n2_ := qM (Kept.of_grown (S := (fun k_ => P0_ k_)) hg (by repeat (first | (with_reducible first | exact HK.out | apply Kept.alloc | apply Kept.drewN | apply Kept.drew) | exact HK.out)) (fun k_ e_ => (HO_0.out.1 k_ e_))); clear HO_0; clear HB; clear HK; have HO_0 := n0_; have HB := n1_; have HK := n2_; clear n0_ n1_ n2_; clear hg hw hp_))
      go_roundg k1
      case measure => have := HK1.out; omega
      case rel => exact ⟨(y324), (wrap64 (x1_1 + 1)), (wrap64 (x5_1 + 1)), (by first | rfl | (simp; done) | (simp [*]; done)), (by first | rfl | (simp; done) | (simp [*]; done)), H', ⟨by have := HK1.out; omega⟩, ⟨by (with_reducible repeat (first | apply Kd.R_alloc | apply Kd.R_drewN | apply Kd.R_drew)); exact HO_0.out⟩, ⟨by repeat (first | (with_reducible first | exact HK.out | apply Kept.alloc | apply Kept.drewN | apply Kept.drew) | exact HK.out)⟩, ⟨by repeat (first | (with_reducible first | exact HB.out | apply qA | apply qN | apply qD) | exact HB.out)⟩⟩
def laws_heldIntS.l0 : Nat → List Int → Int → Int → Option (Int)
  | 0, _, _, _ => none
  | k + 1, x0, x1, x5 => if x5 < (x0.length : Int) then (if 0 ≤ x5 then (if (rd x0 x5) = x1 then (laws_heldIntS.l0 k x0 (wrap64 (x1 + 1)) (wrap64 (x5 + 1))) else (some (-1))) else (none)) else (some x1)
def laws_heldIntS.f (k : Nat) (l0 : List Int) (a1 : Int) : Option (Int) := laws_heldIntS.l0 k l0 a1 0
set_option maxHeartbeats 8000000 in
set_option maxRecDepth 100000 in
theorem laws_heldIntS.calls (k : Nat) (A0 : Option Addr) (c0 : Nat) (l0 : List Int) (a1 : Int) (r : Int) (w : World) (hr0 : Kd.C (Kd.int .i64) w A0 l0.length l0) (hc0 : l0.length ≤ c0) (h : laws_heldIntS.f k l0 a1 = some r) :
    Calls Try.prog 25 #[.slice A0 l0.length c0, .int .i64 a1] w fun e w' => e = .returned (.int .i64 r) ∧ Drawn0 w w' := by
  have HR0 := qM hr0
  have HC0 := qM hc0
  clear hr0 hc0
  have H : (laws_heldIntS.l0 k l0 a1 0) = some r := h
  clear h
  have H' := qM H
  clear H
  go_enter Try.func25, Try.ntmps25
  go_wp2
  go_loopg [1, 5] k (fun kq v1 v5 w' => ∃ (x1_1 : Int) (x5_1 : Int), v1 = .int .i64 x1_1 ∧ v5 = .int .i64 x5_1 ∧ Aside0 (laws_heldIntS.l0 kq l0 x1_1 x5_1 = some r) ∧ Aside0 (kq ≤ k) ∧ Drawn0 w w')
  case atStart => exact ⟨(a1), (0), (by first | rfl | (simp; done) | (simp [*]; done)), (by first | rfl | (simp; done) | (simp [*]; done)), H', ⟨Nat.le_refl _⟩, by repeat (first | exact Drawn0.refl _ | apply Drawn0.step)⟩
  case round =>
    clear H'
    try clear c2
    try clear p2
    obtain ⟨x1_1, x5_1, rfl, rfl, HA, HK1, ⟨m1, rfl⟩⟩ := hrel
    cases gk with
    | zero => exact absurd HA.out (by simp [laws_heldIntS.l0])
    | succ k1 =>
      have H := HA.out
      clear HA
      simp only [laws_heldIntS.l0] at H
      by_cases c3 : x5_1 < (l0.length : Int)
      rotate_left
      · rw [if_neg c3] at H
        have c3b0 : decide (x5_1 < (l0.length : Int)) = false := decide_eq_false c3
        clear c3
        obtain rfl := Option.some.inj H
        go_wp2
        go_ret
        exact ⟨by first | rfl | (simp; done) | (simp [*]; done), by repeat (first | exact Drawn0.refl _ | apply Drawn0.step)⟩
      rw [if_pos c3] at H
      have c3b0 : decide (x5_1 < (l0.length : Int)) = true := decide_eq_true c3
      clear c3
      by_cases c4 : 0 ≤ x5_1
      rotate_left
      · rw [if_neg c4] at H
        exact absurd H (by simp)
      rw [if_pos c4] at H
      have c4b0 : decide (0 ≤ x5_1) = true := decide_eq_true c4
      clear c4
      by_cases c5 : (rd l0 x5_1) = x1_1
      rotate_left
      · rw [if_neg c5] at H
        have c5b0 : ((rd l0 x5_1) == x1_1) = false := beq_eq_false_iff_ne.mpr c5
        have c5b1 : ((rd l0 x5_1) != x1_1) = true := bne_iff_ne.mpr c5
        obtain rfl := Option.some.inj H
        have p325 : 0 ≤ (x5_1 : Int) := qO (by first | (with_reducible assumption) | assumption)
        have q325 : x5_1 < (l0.length : Int) := qO (by first | (with_reducible assumption) | assumption)
        obtain ⟨ad325, e325, hx325_0⟩ := Kd.at_int HR0.out x5_1 p325 q325
        cases e325
        replace p325 := eq_true p325
        replace q325 := eq_true q325
        go_wp2
        go_ret
        exact ⟨by first | rfl | (simp; done) | (simp [*]; done), by repeat (first | exact Drawn0.refl _ | apply Drawn0.step)⟩
      rw [if_pos c5] at H
      have c5b0 : ((rd l0 x5_1) == x1_1) = true := beq_iff_eq.mpr c5
      have c5b1 : ((rd l0 x5_1) != x1_1) = false := bne_eq_false_iff_eq.mpr c5
      clear c5
      have H' := qM H
      clear H
      have p325 : 0 ≤ (x5_1 : Int) := qO (by first | (with_reducible assumption) | assumption)
      have q325 : x5_1 < (l0.length : Int) := qO (by first | (with_reducible assumption) | assumption)
      obtain ⟨ad325, e325, hx325_0⟩ := Kd.at_int HR0.out x5_1 p325 q325
      cases e325
      replace p325 := eq_true p325
      replace q325 := eq_true q325
      go_wp2
      go_roundg k1
      case measure => have := HK1.out; omega
      case rel => exact ⟨(wrap64 (x1_1 + 1)), (wrap64 (x5_1 + 1)), (by first | rfl | (simp; done) | (simp [*]; done)), (by first | rfl | (simp; done) | (simp [*]; done)), H', ⟨by have := HK1.out; omega⟩, by repeat (first | exact Drawn0.refl _ | apply Drawn0.step)⟩
end Go.Proofs.Ythfemojaabejiaa.G
end
section
namespace Go.Proofs.Ythfemojaabejiaa.G
open Go.RowKit Go.Proofs.YthfemojaabejiaaW.PrintWords Go.Proofs.YthfemojaabejiaaW.PrintLast Go.Proofs.YthfemojaabejiaaW.PrintMore
set_option linter.unusedVariables false
set_option linter.unusedSimpArgs false
set_option maxHeartbeats 8000000 in
set_option maxRecDepth 100000 in
theorem impl_Sheet_all_1.calls (x : Int) (g : Nat) (A0 : Option Addr) (c0 : Nat) (l0 : List Bool) (A1 : Option Addr) (c1 : Nat) (l1 : List S141) (r : Bool) (w : World) (hg : w.heap[g]? = some (.cells #[.slice A0 l0.length c0, .slice A1 l1.length c1] 30 (0, 0))) (hr0 : Kd.C Kd.bool w A0 l0.length l0) (hc0 : l0.length ≤ c0) (hr1 : Kd.C k141 w A1 l1.length l1) (hc1 : l1.length ≤ c1) (h : impl_Sheet_has.f l0 l1 x = some r) :
    Calls Try.prog 118 #[.int .i64 x, .pointer (some ⟨g, 0, none⟩)] w fun e w' => e = .returned (.bool (!r)) ∧ Below w.heap.size w w' := by
  have hu2 := Try.underlying30
  have hx : w.cell? ⟨g, 0, none⟩ = some (.slice A0 l0.length c0) := (qC hg 0).trans rfl
  have hy : w.cell? ⟨g, 1, none⟩ = some (.slice A1 l1.length c1) := (qC hg 1).trans rfl
  have HC := qM (impl_Sheet_has.calls A0 c0 l0 A1 c1 l1 x r w hr0 hc0 hr1 hc1 h)
  clear hg hr0 hr1 hc0 hc1 h
  go_enter Try.func118, Try.ntmps118
  go_wp2_with fail
  with_reducible refine HC.out.mono ?_
  rintro e w1 ⟨rfl, hb⟩
  have HB := qM hb
  clear hb
  go_wp2
  go_ret
  exact ⟨rfl, HB.out⟩
def impl_Sheet_all_1_any.f (l0 : List Int) (m : List Bool) (ts : List S141) : Option Bool := if (∀ x ∈ l0, (impl_Sheet_has.f m ts x).isSome = true) then some (l0.any fun x => !((impl_Sheet_has.f m ts x).getD false)) else none
theorem impl_Sheet_all_1_any.calls (A0 : Option Addr) (c0 : Nat) (l0 : List Int) (g : Nat) (A1 : Option Addr) (c1 : Nat) (l1 : List Bool) (A2 : Option Addr) (c2 : Nat) (l2 : List S141) (r : Bool) (w : World) (hg : w.heap[g]? = some (.cells #[.slice A1 l1.length c1, .slice A2 l2.length c2] 30 (0, 0))) (hr0 : Kd.C (Kd.int .i64) w A0 l0.length l0) (hc0 : l0.length ≤ c0) (hr1 : Kd.C Kd.bool w A1 l1.length l1) (hc1 : l1.length ≤ c1) (hr2 : Kd.C k141 w A2 l2.length l2) (hc2 : l2.length ≤ c2) (h : impl_Sheet_all_1_any.f l0 l1 l2 = some r) :
    Calls Try.prog 112 #[.slice A0 l0.length c0, .func (.func 118) #[] #[.pointer (some ⟨g, 0, none⟩)]] w fun e w' => e = .returned (.bool r) ∧ Below w.heap.size w w' := by
  unfold impl_Sheet_all_1_any.f at h
  split at h
  · rename_i hs
    obtain rfl := Option.some.inj h
    refine containsFunc_int 118 #[.pointer (some ⟨g, 0, none⟩)] _ A0 c0 l0 w hr0 (enters_fn Try.func118 (by kernel_rfl) rfl) (fun x hx W hb => ?_)
    obtain ⟨b, hbb⟩ := Option.isSome_iff_exists.1 (hs x hx)
    rw [hbb]
    exact impl_Sheet_all_1.calls x g A1 c1 l1 A2 c2 l2 b W ((hb.block g (blk_lt hg)).trans hg) (qB hr1 hb) hc1 (qB hr2 hb) hc2 hbb
  · cases h
end Go.Proofs.Ythfemojaabejiaa.G
end
section
namespace Go.Proofs.Ythfemojaabejiaa.G
open Go.RowKit Go.Proofs.YthfemojaabejiaaW.PrintWords Go.Proofs.YthfemojaabejiaaW.PrintLast Go.Proofs.YthfemojaabejiaaW.PrintMore
attribute [local go_sem] max2_int min2_int max_two min_two max_three min_three max_four min_four
set_option linter.unusedVariables false
set_option linter.unusedSimpArgs false
def impl_Sheet_all.f (l0_0 : List Bool) (l0_1 : List (S141)) (l1 : List Int) : Option (Bool) := (impl_Sheet_all_1_any.f l1 l0_0 l0_1).bind fun t317 => (some (!t317))
set_option maxHeartbeats 8000000 in
set_option maxRecDepth 100000 in
theorem impl_Sheet_all.calls (A0_0 : Option Addr) (c0_0 : Nat) (l0_0 : List Bool) (A0_1 : Option Addr) (c0_1 : Nat) (l0_1 : List (S141)) (A1 : Option Addr) (c1 : Nat) (l1 : List Int) (r : Bool) (w : World) (hr0_0 : Kd.C Kd.bool w A0_0 l0_0.length l0_0) (hc0_0 : l0_0.length ≤ c0_0) (hr0_1 : Kd.C k141 w A0_1 l0_1.length l0_1) (hc0_1 : l0_1.length ≤ c0_1) (hr1 : Kd.C (Kd.int .i64) w A1 l1.length l1) (hc1 : l1.length ≤ c1) (h : impl_Sheet_all.f l0_0 l0_1 l1 = some r) :
    Calls Try.prog 71 #[.agg #[.slice A0_0 l0_0.length c0_0, .slice A0_1 l0_1.length c0_1], .slice A1 l1.length c1] w fun e w' => e = .returned (.bool r) ∧ Below w.heap.size w w' := by
  have hu30 := Try.underlying30
  have hmf : ∀ (fn : Fn) (first cap : Array Value) (W : World), (Instr.makeFunc fn first cap).run Try.prog W = .ok (.func fn first cap) W := fun _ _ _ _ => rfl
  have HR0_0 := qM hr0_0
  have HC0_0 := qM hc0_0
  clear hr0_0 hc0_0
  have HR0_1 := qM hr0_1
  have HC0_1 := qM hc0_1
  clear hr0_1 hc0_1
  have HR1 := qM hr1
  have HC1 := qM hc1
  clear hr1 hc1
  have HB := qM (Below.refl w.heap.size w)
  have H : ((impl_Sheet_all_1_any.f l1 l0_0 l0_1).bind fun t317 => (some (!t317))) = some r := h
  clear h
  replace H := Option.bind_eq_some_iff.mp H
  obtain ⟨t317, A30, H⟩ := H
  replace H : (some (!t317)) = some r := H
  have A3 := qM A30
  clear A30
  obtain rfl := Option.some.inj H
  go_enter Try.func71, Try.ntmps71
  go_wp2_with (first | ((with_reducible refine gate_dst (N := 2) rfl ?_); refine box_event ?hg (N := 2) ?hd (cs := #[.slice A0_0 l0_0.length c0_0, .slice A0_1 l0_1.length c0_1]) (t := 30) ?hr ?_; (case hd => rfl); (case hg => rfl); (case hr => first | (go_simp; done) | (go_simp; rfl)); intro gb316 hg w4 hbox hb; have n0_ := qM (qs (by repeat (first | (with_reducible first | exact HB.out | apply qA | apply qN | apply qD) | exact HB.out)) hb); have n1_ := qM (hbox); have n2_ := qM ((by rw [hg]; exact (qz (by repeat (first | (with_reducible first | exact HB.out | apply qA | apply qN | apply qD) | exact HB.out))) : w.heap.size ≤ gb316)); have n3_ := qM ((by rw [hg]; exact (qz (by repeat (first | (with_reducible first | exact HB.out | apply qA | apply qN | apply qD) | exact HB.out))) : w.heap.size ≤ gb316)); clear HB; have HB := n0_; have BK316 := n1_; have GW316 := n2_; have GE316 := n3_; clear n0_ n1_ n2_ n3_; clear hb hbox hg) | ((with_reducible refine gate_callee (f := 112) rfl ?_); refine goesL_ (some 7) rfl rfl Try.func112 (by kernel_rfl) rfl #[.slice A1 l1.length c1, .func (.func 118) #[] #[.pointer (some ⟨gb316, 0, none⟩)]] rfl (by (try simp only [List.map_toArray, List.map_cons, List.map_nil]); first | done | rfl | (simp only [List.length_drop, List.length_take]; rfl)) ?_; (with_reducible refine (impl_Sheet_all_1_any.calls _ _ l1 gb316 A0_0 c0_0 l0_0 A0_1 c0_1 l0_1 t317 _ ?side1 ?side2 ?side3 ?side4 ?side5 ?side6 ?side7 A3.out).mono ?_); (case side1 => (with_reducible repeat (first | refine qn ?_ _ | refine qd ?_ | refine qa ?_ _)); exact BK316.out); (case side2 => repeat (first | exact (qB HR1.out HB.out) | (with_reducible refine qc ?_ _) | (with_reducible refine qe ?_ _) | (with_reducible refine qf ?_))); (case side3 => exact HC1.out); (case side4 => repeat (first | exact (qB HR0_0.out HB.out) | (with_reducible refine qc ?_ _) | (with_reducible refine qe ?_ _) | (with_reducible refine qf ?_))); (case side5 => exact HC0_0.out); (case side6 => repeat (first | exact (qB HR0_1.out HB.out) | (with_reducible refine qc ?_ _) | (with_reducible refine qe ?_ _) | (with_reducible refine qf ?_))); (case side7 => exact HC0_1.out); rintro e w5 ⟨rfl, hb⟩; refine ⟨_, rfl, ?_⟩; have n0_ := qM (blk_below (g := gb316) (o := .cells #[.slice A0_0 l0_0.length c0_0, .slice A0_1 l0_1.length c0_1] 30 (0, 0)) (by (with_reducible repeat (first | refine qn ?_ _ | refine qd ?_ | refine qa ?_ _)); exact BK316.out) hb); have n1_ := qM (qs (by repeat (first | (with_reducible first | exact HB.out | apply qA | apply qN | apply qD | refine qS ?_ GE316.out) | exact HB.out)) hb); clear BK316; clear HB; have BK316 := n0_; have HB := n1_; clear n0_ n1_; (try clear hb); (try clear hb2); (try clear hk); (try clear hi)))
  go_ret
  exact ⟨by first | rfl | (simp [errW_none, errW_some] <;> rfl) | (simp [*, errW_none, errW_some] <;> rfl), by repeat (first | (with_reducible first | exact HB.out | apply qA | apply qN | apply qD | refine qS ?_ GE316.out) | exact HB.out)⟩
end Go.Proofs.Ythfemojaabejiaa.G
end
section
namespace Go.Proofs.Ythfemojaabejiaa.G
open Go.RowKit Go.Proofs.YthfemojaabejiaaW.PrintWords
set_option linter.unusedVariables false
set_option linter.unusedSimpArgs false
theorem rdOf_nn (l : List Bool) (x : Int) : rdOf false l x = l.getD x.toNat false := rfl
theorem l3May_loop (made : List Bool) (tasks : List Tk) (l : List Int) (hl : l.length ≤ 1000) (hp : ∀ x ∈ l, 0 ≤ x) :
    ∀ (d i : Nat) (acc : List Int), d = l.length - i → i ≤ l.length → acc.length ≤ i → Ev (fun k => spec_l3May.l0 k acc l (i : Int) made tasks) (acc ++ (l.drop i).filter fun j => made.getD j.toNat false) := by
  intro d
  induction d with
  | zero =>
    intro i acc hd hi ha
    have e : i = l.length := by omega
    subst e
    refine Ev.step (fun k => by rw [spec_l3May.l0]) ?_
    simp only [if_neg (show ¬ ((l.length : Int) < (l.length : Int)) by omega), List.drop_length, List.filter_nil, List.append_nil]
    exact Ev.now _
  | succ d ihd =>
    intro i acc hd hi ha
    have hlt : i < l.length := by omega
    have hx := hp _ (List.getElem_mem hlt)
    rw [List.drop_eq_getElem_cons hlt, List.filter_cons]
    refine Ev.step (fun k => by rw [spec_l3May.l0]) ?_
    simp only [if_pos (show (i : Int) < (l.length : Int) by omega), if_pos (show (0 : Int) ≤ (i : Int) by omega), rd_get l i hlt, if_pos hx, rdOf_nn, wrap_nat i (by omega)]
    by_cases hm : l[i] < (made.length : Int)
    · simp only [if_pos hm]
      cases hb : made.getD l[i].toNat false with
      | true =>
        simp only [if_true, if_pos (show acc.length < 17592186044416 by omega)]
        refine Ev.eq (ihd (i + 1) (acc ++ [l[i]]) (by omega) (by omega) (by rw [List.length_append, List.length_singleton]; omega)) ?_
        simp
      | false =>
        simp only [Bool.false_eq_true, if_false]
        exact ihd (i + 1) acc (by omega) (by omega) (by omega)
    · have hb : made.getD l[i].toNat false = false := by rw [List.getD_eq_getElem?_getD, List.getElem?_eq_none (by omega)]; rfl
      simp only [if_neg hm, hb, Bool.false_eq_true, if_false]
      exact ihd (i + 1) acc (by omega) (by omega) (by omega)
theorem l3May_ev (made : List Bool) (tasks : List Tk) (hb : ∀ t ∈ tasks, (nodT t : Int) ≤ 4000000000) (k : Nat) (hk : k < tasks.length) : Ev (fun r => spec_l3May.f r made tasks (k : Int)) (castL (mayN made tasks k)) := by
  unfold spec_l3May.f
  simp only [if_pos (show (0 : Int) ≤ (k : Int) by omega), if_pos (show (k : Int) < (tasks.length : Int) by omega), rd_tkD tasks k hk]
  refine Ev.bind (specMay_ev _ (hb _ (by rw [List.getD_eq_getElem?_getD, List.getElem?_eq_getElem hk, Option.getD_some]; exact List.getElem_mem hk))) ?_
  rw [mayN_cast]
  refine Ev.eq (l3May_loop made tasks (mayK (tasks.getD k ⟨0, 0, []⟩)) (Nat.le_trans (mayK_len _) (by omega)) (fun x hx => (mayK_rng _ x hx).1) (mayK (tasks.getD k ⟨0, 0, []⟩)).length 0 [] (by omega) (by omega) (by simp)) ?_
  rw [List.drop_zero, List.nil_append]
  rfl
theorem safe_l2 (made : List Bool) (tasks : List Tk) (D : List Bool) (ag : Int) (x : Nat) (l : List Nat) (hx : x < D.length) (hxm : x ≤ 1000) (hl : l.length ≤ 1000) (hr : ∀ j ∈ l, j < D.length) {R : Bool} :
    ∀ (d i : Nat) (fr : Bool), d = l.length - i → i ≤ l.length → Ev (fun k => spec_SheetSafe.l1 k (D.set x (fr && (l.drop i).all fun j => D.getD j false)) ag ((x + 1 : Nat) : Int) made tasks) R → Ev (fun k => spec_SheetSafe.l2 k D ag (x : Int) fr (castL l) (i : Int) made tasks) R := by
  intro d
  induction d with
  | zero =>
    intro i fr hd hi h
    have e : i = l.length := by omega
    subst e
    refine Ev.step (fun k => by rw [spec_SheetSafe.l2]) ?_
    simp only [castL_len, if_neg (show ¬ ((l.length : Int) < (l.length : Int)) by omega), if_pos (show (0 : Int) ≤ (x : Int) by omega), if_pos (show (x : Int) < (D.length : Int) by omega), Int.toNat_natCast, wrap_nat x (by omega)]
    simpa using h
  | succ d ihd =>
    intro i fr hd hi h
    have hlt : i < l.length := by omega
    have hj := hr _ (List.getElem_mem hlt)
    refine Ev.step (fun k => by rw [spec_SheetSafe.l2]) ?_
    simp only [castL_len, if_pos (show (i : Int) < (l.length : Int) by omega), if_pos (show (0 : Int) ≤ (i : Int) by omega), castL_rd l i hlt, if_pos (show (0 : Int) ≤ (l[i] : Int) by omega), if_pos (show (l[i] : Int) < (D.length : Int) by omega), rdOf_nn, Int.toNat_natCast, wrap_nat i (by omega)]
    rw [List.drop_eq_getElem_cons hlt, List.all_cons] at h
    cases fr with
    | true =>
      simp only [if_true]
      exact ihd (i + 1) _ (by omega) (by omega) (by simpa using h)
    | false =>
      simp only [Bool.false_eq_true, if_false]
      exact ihd (i + 1) false (by omega) (by omega) (by simpa using h)
theorem safe_l1 (made : List Bool) (tasks : List Tk) (he : made.length = tasks.length) (hl : made.length ≤ 10) (hb : ∀ t ∈ tasks, (nodT t : Int) ≤ 4000000000) (ag : Nat) (ha : ag ≤ 1000) {R : Bool} :
    ∀ (d x : Nat) (D : List Bool), d = made.length - x → x ≤ made.length → D.length = made.length → Ev (fun k => spec_SheetSafe.l0 k (((List.range made.length).drop x).foldl (Topo.mark (mayN made tasks)) D) ((ag + 1 : Nat) : Int) made tasks) R → Ev (fun k => spec_SheetSafe.l1 k D (ag : Int) (x : Int) made tasks) R := by
  intro d
  induction d with
  | zero =>
    intro x D hd hx hD h
    have e : x = made.length := by omega
    subst e
    refine Ev.step (fun k => by rw [spec_SheetSafe.l1]) ?_
    simp only [if_neg (show ¬ ((made.length : Int) < (made.length : Int)) by omega), wrap_nat ag (by omega)]
    rw [List.drop_of_length_le (by rw [List.length_range]; omega)] at h
    exact h
  | succ d ihd =>
    intro x D hd hx hD h
    have hlt : x < made.length := by omega
    refine Ev.step (fun k => by rw [spec_SheetSafe.l1]) ?_
    simp only [if_pos (show (x : Int) < (made.length : Int) by omega)]
    refine Ev.bind (l3May_ev made tasks hb x (by omega)) ?_
    refine safe_l2 made tasks D ag x (mayN made tasks x) (by omega) (by omega) (Nat.le_trans (mayN_len _ _ _) (by omega)) (fun j hj => by rw [hD]; exact (mayN_mem hj).1) (mayN made tasks x).length 0 true (by omega) (by omega) ?_
    refine ihd (x + 1) _ (by omega) (by omega) (by rw [List.length_set]; exact hD) ?_
    rw [List.drop_eq_getElem_cons (by rw [List.length_range]; exact hlt), List.foldl_cons] at h
    simp only [List.getElem_range] at h
    rw [List.drop_zero, Bool.true_and]
    exact h
theorem safe_l0 (made : List Bool) (tasks : List Tk) (he : made.length = tasks.length) (hl : made.length ≤ 10) (hb : ∀ t ∈ tasks, (nodT t : Int) ≤ 4000000000) {R : Bool} (h : Ev (fun k => spec_SheetSafe.l3 k (Topo.sweeps (mayN made tasks) made.length (made.length + 1)) 0) R) :
    ∀ (d a : Nat), d = made.length + 1 - a → a ≤ made.length + 1 → Ev (fun k => spec_SheetSafe.l0 k (Topo.sweeps (mayN made tasks) made.length a) (a : Int) made tasks) R := by
  intro d
  induction d with
  | zero =>
    intro a hd ha
    have e : a = made.length + 1 := by omega
    subst e
    refine Ev.step (fun k => by rw [spec_SheetSafe.l0]) ?_
    simp only [if_neg (show ¬ (((made.length + 1 : Nat) : Int) ≤ (made.length : Int)) by omega)]
    exact h
  | succ d ihd =>
    intro a hd ha
    refine Ev.step (fun k => by rw [spec_SheetSafe.l0]) ?_
    simp only [if_pos (show (a : Int) ≤ (made.length : Int) by omega)]
    refine safe_l1 made tasks he hl hb a (by omega) made.length 0 _ (by omega) (by omega) (Topo.sweeps_len _ _ _) ?_
    rw [List.drop_zero]
    exact ihd (a + 1) (by omega) (by omega)
theorem safe_l3 (D : List Bool) (hl : D.length ≤ 1000) : ∀ (d i : Nat), d = D.length - i → i ≤ D.length → Ev (fun k => spec_SheetSafe.l3 k D (i : Int)) ((D.drop i).all id) := by
  intro d
  induction d with
  | zero =>
    intro i hd hi
    have e : i = D.length := by omega
    subst e
    refine Ev.step (fun k => by rw [spec_SheetSafe.l3]) ?_
    simp only [if_neg (show ¬ ((D.length : Int) < (D.length : Int)) by omega), List.drop_length, List.all_nil]
    exact Ev.now true
  | succ d ihd =>
    intro i hd hi
    have hlt : i < D.length := by omega
    refine Ev.step (fun k => by rw [spec_SheetSafe.l3]) ?_
    simp only [if_pos (show (i : Int) < (D.length : Int) by omega), if_pos (show (0 : Int) ≤ (i : Int) by omega), rd_bool D i hlt, wrap_nat i (by omega)]
    rw [List.drop_eq_getElem_cons hlt, List.all_cons]
    cases hv : D[i] with
    | true =>
      simp only [if_true, id, Bool.true_and]
      exact ihd (i + 1) (by omega) (by omega)
    | false =>
      simp only [Bool.false_eq_true, if_false, id, Bool.false_and]
      exact Ev.now false
theorem safe_all {made : List Bool} {tasks : List Tk} (h : sheetOk made tasks = true) : safeB made tasks = (Topo.sweeps (mayN made tasks) made.length (made.length + 1)).all id := by
  unfold safeB
  rw [h, Bool.true_and, Bool.eq_iff_iff, Topo.safe_iff (n := made.length) (made := madeB made) (may := mayN made tasks) (fun k hk j hj => mayN_mem hj), List.all_eq_true]
  have hlen := Topo.sweeps_len (mayN made tasks) made.length (made.length + 1)
  constructor
  · intro h2 b hb
    obtain ⟨i, hi, rfl⟩ := List.mem_iff_getElem.1 hb
    have := h2 i (by omega)
    rw [List.getD_eq_getElem?_getD, List.getElem?_eq_getElem hi, Option.getD_some] at this
    exact this
  · intro h2 k hk
    rw [List.getD_eq_getElem?_getD, List.getElem?_eq_getElem (by omega), Option.getD_some]
    exact h2 _ (List.getElem_mem _)
theorem specSafe_ev (made : List Bool) (tasks : List Tk) (hb : ∀ t ∈ tasks, (nodT t : Int) ≤ 4000000000) : Ev (fun k => spec_SheetSafe.f k made tasks) (safeB made tasks) := by
  unfold spec_SheetSafe.f
  refine Ev.bind (specSheet_ev made tasks hb) ?_
  cases h : sheetOk made tasks with
  | false =>
    simp only [Bool.false_eq_true, if_false]
    exact Ev.eq (Ev.now false) (by rw [safeB, h]; rfl)
  | true =>
    have hlen := sheetOk_len h
    simp only [if_true, if_pos (show (0 : Int) ≤ (made.length : Int) by omega), Int.toNat_natCast, if_pos (show made.length ≤ 281474976710656 by omega)]
    rw [safe_all h]
    refine safe_l0 made tasks hlen.1 hlen.2 hb ?_ (made.length + 1) 0 (by omega) (by omega)
    have h3 := safe_l3 (Topo.sweeps (mayN made tasks) made.length (made.length + 1)) (by rw [Topo.sweeps_len]; omega) _ 0 rfl (by omega)
    rw [List.drop_zero] at h3
    exact h3
end Go.Proofs.Ythfemojaabejiaa.G
end
section
namespace Go.Proofs.Ythfemojaabejiaa.G
open Go.RowKit Go.Proofs.YthfemojaabejiaaW.PrintWords
set_option linter.unusedVariables false
set_option linter.unusedSimpArgs false
abbrev Or := S95
theorem rd_I (l : List Int) (i : Nat) (h : i < l.length) : rd l (i : Int) = l[i] := by
  simp only [rd, Int.toNat_natCast, List.getD_eq_getElem?_getD, List.getElem?_eq_getElem h, Option.getD_some]
def keyIn (n : Nat) (x : Int) : Bool := decide (0 ≤ x ∧ x ≤ (n : Int) - 1)
theorem safe_sheet {made : List Bool} {tasks : List Tk} (h : safeB made tasks = true) : sheetOk made tasks = true := by
  unfold safeB at h
  rw [Bool.and_eq_true] at h
  exact h.1
theorem has_f (made : List Bool) (ts : List Tk) (x : Int) : impl_Sheet_has.f made ts x = some (keyIn made.length x) := by
  unfold impl_Sheet_has.f keyIn
  by_cases h : x ≥ 0
  · rw [if_pos h]
    congr 1
    rw [Bool.eq_iff_iff, decide_eq_true_eq, decide_eq_true_eq]
    omega
  · rw [if_neg h]
    congr 1
    rw [eq_comm, decide_eq_false_iff_not]
    omega
theorem all_f (made : List Bool) (ts : List Tk) (l : List Int) : impl_Sheet_all.f made ts l = some (l.all (keyIn made.length)) := by
  unfold impl_Sheet_all.f impl_Sheet_all_1_any.f
  rw [if_pos (fun x hx => by rw [has_f]; rfl), Option.bind_some]
  congr 1
  rw [List.all_eq_not_any_not]
  congr 1
  simp only [has_f, Option.getD_some]
theorem l6In_now (a b c : Int) : spec_l6In.f a b c = some (decide (b ≤ a ∧ a ≤ c)) := by
  unfold spec_l6In.f
  by_cases h : a ≥ b
  · rw [if_pos h]; simp only [ge_iff_le] at h; simp [h]
  · rw [if_neg h]; simp only [ge_iff_le] at h; simp [h]
theorem specKeys_ev {made : List Bool} {ts : List Tk} (hok : sheetOk made ts = true) (hb : ∀ t ∈ ts, (nodT t : Int) ≤ 4000000000) (l : List Int) (hl : l.length ≤ 4000000000) : Ev (fun k => spec_l4Keys.f k made ts l) (l.all (keyIn made.length)) := by
  unfold spec_l4Keys.f
  have hlen := sheetOk_len hok
  have loop : ∀ (d i : Nat), d = l.length - i → i ≤ l.length → Ev (fun k => spec_l4Keys.l0 k l (i : Int) made ts) ((l.drop i).all (keyIn made.length)) := by
    intro d
    induction d with
    | zero =>
      intro i hd hi
      have e : i = l.length := by omega
      subst e
      refine Ev.step (fun k => by rw [spec_l4Keys.l0]) ?_
      simp only [if_neg (show ¬ ((l.length : Int) < (l.length : Int)) by omega), List.drop_length, List.all_nil]
      refine Ev.bind (specSheet_ev made ts hb) ?_
      exact Ev.eq (Ev.now _) hok
    | succ d ihd =>
      intro i hd hi
      have hlt : i < l.length := by omega
      refine Ev.step (fun k => by rw [spec_l4Keys.l0]) ?_
      simp only [if_pos (show (i : Int) < (l.length : Int) by omega), if_pos (show (0 : Int) ≤ (i : Int) by omega), rd_I l i hlt, wrap_nat i (by omega), l6In_now, Option.bind_some, wrap_id ((made.length : Int) - 1) (by omega) (by omega)]
      rw [List.drop_eq_getElem_cons hlt, List.all_cons]
      have e : keyIn made.length l[i] = decide (0 ≤ l[i] ∧ l[i] ≤ (made.length : Int) - 1) := rfl
      rw [← e]
      cases keyIn made.length l[i] with
      | true => simp only [if_true, Bool.true_and]; exact ihd (i + 1) (by omega) (by omega)
      | false => simp only [Bool.false_eq_true, if_false, Bool.false_and]; exact Ev.now false
  have h1 := loop l.length 0 (by omega) (by omega)
  rw [List.drop_zero] at h1
  exact h1
end Go.Proofs.Ythfemojaabejiaa.G
end
section
namespace Go.Proofs.Ythfemojaabejiaa.G
open Go.RowKit Go.Proofs.YthfemojaabejiaaW.PrintWords Go.Proofs.YthfemojaabejiaaW.PrintLast Go.Proofs.YthfemojaabejiaaW.PrintMore
set_option linter.unusedVariables false
set_option linter.unusedSimpArgs false
noncomputable def orderI (made : List Bool) (tasks : List Tk) (l : List Int) : List Int × Bool :=
  if safeB made tasks = true then (if l.all (keyIn made.length) = true then (castL ((orderL made tasks (l.map Int.toNat)).getD []), (orderL made tasks (l.map Int.toNat)).isSome) else ([], false)) else ([], false)
noncomputable def impl_OrderTopo.f (l0_0 : List Bool) (l0_1 : List (S141)) (l1 : List Int) : Option (List Int × Bool) := some (orderI l0_0 l0_1 l1)
theorem keys_cast {n : Nat} {l : List Int} (h : l.all (keyIn n) = true) : castL (l.map Int.toNat) = l := castL_toNat l fun x hx => (qO (List.all_eq_true.1 h x hx)).1
set_option maxHeartbeats 8000000 in
set_option maxRecDepth 100000 in
theorem impl_OrderTopo.calls (A0_0 : Option Addr) (c0_0 : Nat) (l0_0 : List Bool) (A0_1 : Option Addr) (c0_1 : Nat) (l0_1 : List (S141)) (A1 : Option Addr) (c1 : Nat) (l1 : List Int) (r0 : List Int) (r1 : Bool) (w : World) (hr0_0 : Kd.C Kd.bool w A0_0 l0_0.length l0_0) (hc0_0 : l0_0.length ≤ c0_0) (hr0_1 : Kd.C k141 w A0_1 l0_1.length l0_1) (hc0_1 : l0_1.length ≤ c0_1) (hr1 : Kd.C (Kd.int .i64) w A1 l1.length l1) (hc1 : l1.length ≤ c1) (h : impl_OrderTopo.f l0_0 l0_1 l1 = some (r0, r1)) :
    Calls Try.prog 21 #[.agg #[.slice A0_0 l0_0.length c0_0, .slice A0_1 l0_1.length c0_1], .slice A1 l1.length c1] w fun e w' => ∃ v0_ : Value, e = .returned (.tuple #[v0_, .bool r1]) ∧ Kd.R (Kd.int .i64) 3 w' w.heap.size (fun _ => True) v0_ r0 ∧ Below w.heap.size w w' := by
  have hu0 := Try.underlying30
  have hr := Option.some.inj h
  clear h
  have HB0 := qM ((Below.refl w.heap.size w).alloc (Nat.le_refl _) (.cells #[.slice A0_0 l0_0.length c0_0, .slice A0_1 l0_1.length c0_1] 30 (0, 0)))
  have BX0 := qM (blk_new w (.cells #[.slice A0_0 l0_0.length c0_0, .slice A0_1 l0_1.length c0_1] 30 (0, 0)))
  have HR0 := qM hr0_0
  have HC0 := qM hc0_0
  have HR1 := qM hr0_1
  have HC1 := qM hc0_1
  have HRL := qM hr1
  have HCL := qM hc1
  have hs0 : (w.alloc (.cells #[.slice A0_0 l0_0.length c0_0, .slice A0_1 l0_1.length c0_1] 30 (0, 0))).cell? ⟨w.heap.size, 0, none⟩ = some (.slice A0_0 l0_0.length c0_0) := (qC BX0.out 0).trans rfl
  have hs1 : (w.alloc (.cells #[.slice A0_0 l0_0.length c0_0, .slice A0_1 l0_1.length c0_1] 30 (0, 0))).cell? ⟨w.heap.size, 1, none⟩ = some (.slice A0_1 l0_1.length c0_1) := (qC BX0.out 1).trans rfl
  clear hr0_0 hc0_0 hr0_1 hc0_1 hr1 hc1
  unfold orderI at hr
  cases hok : safeB l0_0 l0_1 with
  | false =>
    rw [hok, if_neg (by simp)] at hr
    obtain ⟨rfl, rfl⟩ := Prod.mk.inj hr
    have CK := qM (impl_SheetSafe.calls A0_0 c0_0 l0_0 A0_1 c0_1 l0_1 false _ (qB HR0.out HB0.out) HC0.out (qB HR1.out HB0.out) HC1.out (by unfold impl_SheetSafe.f; rw [hok]))
    clear hr hok
    go_enter Try.func21, Try.ntmps21
    go_wp2_with (go_at_call 17; (with_reducible refine CK.out.mono ?_); rintro e w1 ⟨rfl, hb1⟩; have HB1 := qM (HB0.out.trans (hb1.mono HB0.out.size)); clear hb1 CK)
    go_ret2
    exact ⟨_, rfl, Kd.R_nil _ _ _ _ _, HB1.out⟩
  | true =>
    rw [hok, if_pos rfl] at hr
    have CK := qM (impl_SheetSafe.calls A0_0 c0_0 l0_0 A0_1 c0_1 l0_1 true _ (qB HR0.out HB0.out) HC0.out (qB HR1.out HB0.out) HC1.out (by unfold impl_SheetSafe.f; rw [hok]))
    have hsh := safe_sheet hok
    have hlen := sheetOk_len hsh
    have HMAY := qM (may_ok hsh)
    have HLE := qM hlen
    have hall := all_f l0_0 l0_1 l1
    clear hok hsh hlen
    cases hk : l1.all (keyIn l0_0.length) with
    | false =>
      rw [hk, if_neg (by simp)] at hr
      obtain ⟨rfl, rfl⟩ := Prod.mk.inj hr
      rw [hk] at hall
      have HAL := qM hall
      clear hr hall hk
      go_enter Try.func21, Try.ntmps21
      go_wp2_with (first | (go_at_call 17; (with_reducible refine CK.out.mono ?_); rintro e w1 ⟨rfl, hb1⟩; have HB1 := qM (HB0.out.trans (hb1.mono HB0.out.size)); have BX1 := qM (blk_below BX0.out hb1); clear hb1 CK hs0 hs1; have hs0 : w1.cell? ⟨w.heap.size, 0, none⟩ = some (.slice A0_0 l0_0.length c0_0) := (qC BX1.out 0).trans rfl; have hs1 : w1.cell? ⟨w.heap.size, 1, none⟩ = some (.slice A0_1 l0_1.length c0_1) := (qC BX1.out 1).trans rfl) | (go_at_call 71; refine (impl_Sheet_all.calls A0_0 c0_0 l0_0 A0_1 c0_1 l0_1 A1 c1 l1 _ _ (qB HR0.out HB1.out) HC0.out (qB HR1.out HB1.out) HC1.out (qB HRL.out HB1.out) HCL.out HAL.out).mono ?_; rintro e w2 ⟨rfl, hb2⟩; have HB2 := qM (HB1.out.trans (hb2.mono HB1.out.size)); have BX2 := qM (blk_below BX1.out hb2); clear hb2 hs0 hs1))
      go_ret2
      exact ⟨_, rfl, Kd.R_nil _ _ _ _ _, HB2.out⟩
    | true =>
      rw [hk, if_pos rfl] at hr
      rw [hk] at hall
      have HAL := qM hall
      have HKC := qM (keys_cast hk)
      obtain ⟨L, hL⟩ : ∃ L : List Nat, L = l1.map Int.toNat := ⟨_, rfl⟩
      rw [← hL] at hr HKC
      have HRR := qM hr
      clear hr hall hk hL
      go_enter Try.func21, Try.ntmps21
      go_wp2_with (first | (go_at_call 17; (with_reducible refine CK.out.mono ?_); rintro e w1 ⟨rfl, hb1⟩; have HB1 := qM (HB0.out.trans (hb1.mono HB0.out.size)); have BX1 := qM (blk_below BX0.out hb1); clear hb1 CK hs0 hs1; have hs0 : w1.cell? ⟨w.heap.size, 0, none⟩ = some (.slice A0_0 l0_0.length c0_0) := (qC BX1.out 0).trans rfl; have hs1 : w1.cell? ⟨w.heap.size, 1, none⟩ = some (.slice A0_1 l0_1.length c0_1) := (qC BX1.out 1).trans rfl) | (go_at_call 71; refine (impl_Sheet_all.calls A0_0 c0_0 l0_0 A0_1 c0_1 l0_1 A1 c1 l1 _ _ (qB HR0.out HB1.out) HC0.out (qB HR1.out HB1.out) HC1.out (qB HRL.out HB1.out) HCL.out HAL.out).mono ?_; rintro e w2 ⟨rfl, hb2⟩; have HB2 := qM (HB1.out.trans (hb2.mono HB1.out.size)); have BX2 := qM (blk_below BX1.out hb2); clear hb2 hs0 hs1))
      clear BX0 HB0 HB1 BX1
      refine start_ (n := 11) (S := fun w' => w'.cell? ⟨w.heap.size, 0, none⟩ = some (.slice A0_0 l0_0.length c0_0) ∧ w'.cell? ⟨w.heap.size, 1, none⟩ = some (.slice A0_1 l0_1.length c0_1)) (ds := []) #[false, false, false, false, false, false, false, false, false, false, false] (by kernel_rfl) rfl rfl ⟨(qC (qd BX2.out) 0).trans rfl, (qC (qd BX2.out) 1).trans rfl⟩ (fun hHeld => ?_)
      have HB3 := qM (qD HB2.out)
      have BX3 := qM (qd BX2.out)
      generalize w2.drew = w3 at HB3 BX3 hHeld ⊢
      clear HB2 BX2
      refine pure_ (i := 2) (N := (some 17)) (v := ?_) (a' := ?_) #[false, false, true, false, false, false, false, false, false, false, false] rfl rfl (by kernel_rfl) (fun _ _ _ h => h) (Or.inl ⟨by rfl, ?_⟩) ?_ ?_
      rotate_left
      · intro w'
        go_simp
        with_reducible rfl
      rotate_left
      · simp only [Act.put, List.setIfInBounds_toArray, List.set_cons_zero, List.set_cons_succ, i64_w, i32_w]
        rfl
      refine take_ (i := 0) (N := (some 15)) (v := ?_) (a' := ?_) #[true, false, true, false, false, false, false, false, false, false, false] rfl rfl (by kernel_rfl) (fun _ _ _ h => h) (Or.inl ⟨by rfl, ?_⟩) hHeld ?_ ?_
      rotate_left
      · rintro w' ⟨s0, s1⟩
        go_simp
        with_reducible rfl
      rotate_left
      · simp only [Act.put, List.setIfInBounds_toArray, List.set_cons_zero, List.set_cons_succ, i64_w, i32_w]
        rfl
      refine take_ (i := 1) (N := (some 16)) (v := ?_) (a' := ?_) #[true, true, true, false, false, false, false, false, false, false, false] rfl rfl (by kernel_rfl) (fun _ _ _ h => h) (Or.inl ⟨by rfl, ?_⟩) hHeld ?_ ?_
      rotate_left
      · rintro w' ⟨s0, s1⟩
        go_simp
        with_reducible rfl
      rotate_left
      · simp only [Act.put, List.setIfInBounds_toArray, List.set_cons_zero, List.set_cons_succ, i64_w, i32_w]
        rfl
      refine take_ (i := 3) (N := (some 18)) (v := ?_) (a' := ?_) #[true, true, true, true, false, false, false, false, false, false, false] rfl rfl (by kernel_rfl) (fun _ _ _ h => h) (Or.inl ⟨by rfl, ?_⟩) hHeld ?_ ?_
      rotate_left
      · rintro w' ⟨s0, s1⟩
        go_simp
        with_reducible rfl
      rotate_left
      · simp only [Act.put, List.setIfInBounds_toArray, List.set_cons_zero, List.set_cons_succ, i64_w, i32_w]
        rfl
      refine pure_ (i := 4) (N := (some 19)) (v := ?_) (a' := ?_) #[true, true, true, true, true, false, false, false, false, false, false] rfl rfl (by kernel_rfl) (fun _ _ _ h => h) (Or.inl ⟨by rfl, ?_⟩) ?_ ?_
      rotate_left
      · intro w'
        go_simp
        with_reducible rfl
      rotate_left
      · simp only [Act.put, List.setIfInBounds_toArray, List.set_cons_zero, List.set_cons_succ, i64_w, i32_w]
        rfl
      refine one_ (i := 5) (N := (some 20)) #[true, true, true, true, true, true, false, false, false, false, false] rfl rfl (by kernel_rfl) (by decide) (fun K hK => ?_)
      have hLl : l1.length = L.length := by have h_ := congrArg List.length HKC.out; rw [castL_len] at h_; exact h_.symm
      have HLL := qM hLl
      have HCK : Aside0 (Kd.C (Kd.int .i64) w3 A1 L.length (castL L)) := ⟨by rw [← hLl, HKC.out]; exact qB HRL.out HB3.out⟩
      refine goes_ Try.func62 (by kernel_rfl) rfl #[.agg #[.slice A0_0 l0_0.length c0_0, .slice A0_1 l0_1.length c0_1], .slice A1 l1.length c1, .func (.func 64) #[.agg #[.slice A0_0 l0_0.length c0_0, .slice A0_1 l0_1.length c0_1]] #[]] (by rfl) rfl rfl (by (try simp only [List.map_toArray, List.map_cons, List.map_nil]); first | done | rfl) ?_
      rw [hLl]
      clear hLl
      refine (reached_w (mayN l0_0 l0_1) (qB HR0.out HB3.out) HC0.out (qB HR1.out HB3.out) HC1.out (by have := HLE.out; omega) (fun k hk _ => HMAY.out k hk) L A1 c1 HCK.out).mono ?_
      rintro e w4 ⟨M, ext, rfl, hW, hm4, hb4, _⟩
      refine ⟨_, rfl, ?_⟩
      have HB4 := qM (HB3.out.trans (hb4.mono HB3.out.size))
      have BX4 := qM (blk_below BX3.out hb4)
      have HM4 := qM hm4
      have HW := qM hW
      clear hb4 hm4 hW hHeld HB3 BX3 HCK
      refine hK.out _ _ ⟨(qC BX4.out 0).trans rfl, (qC BX4.out 1).trans rfl⟩ (fun hHeld => ?_)
      clear hK K
      refine norm_ (a' := ?_) ?_ ?_
      rotate_left
      · show Act.put _ (some 20) _ = _
        simp only [Act.put, List.setIfInBounds_toArray, List.set_cons_zero, List.set_cons_succ, i64_w, i32_w]
        rfl
      refine one_ (i := 6) (N := (some 21)) #[true, true, true, true, true, true, true, false, false, false, false] rfl rfl (by kernel_rfl) (by decide) (fun K hK => ?_)
      refine goes_ Try.func61 (by kernel_rfl) rfl #[.agg #[.slice A0_0 l0_0.length c0_0, .slice A0_1 l0_1.length c0_1], .map (some M)] (by rfl) rfl rfl (by (try simp only [List.map_toArray, List.map_cons, List.map_nil]); first | done | rfl) ?_
      have HEL : Aside0 (ext.length ≤ 100000 ∧ ∀ k ∈ ext, k < l0_0.length) := ⟨by
        have hlt : ∀ k ∈ ext, k < l0_0.length := fun k hk => madeB_lt (HW.out.sound k hk).1
        have := Topo.sub_len ext (List.range l0_0.length) HW.out.nodup (fun x hx => List.mem_range.2 (hlt x hx))
        rw [List.length_range] at this
        exact ⟨by have := HLE.out; omega, hlt⟩⟩
      refine (topo_w (mayN l0_0 l0_1) ext (qB HR0.out HB4.out) HC0.out (qB HR1.out HB4.out) HC1.out (by have := HLE.out; omega) HEL.out.1 (fun k hk _ => HMAY.out k hk) HM4.out).mono ?_
      intro e w5 hT
      rw [ext_topo HW.out] at hT
      obtain ⟨v5, rfl, hb5, hv5⟩ := topoP_ret hT
      refine ⟨_, rfl, ?_⟩
      have HB5 := qM (HB4.out.trans (hb5.mono HB4.out.size))
      have BX5 := qM (blk_below BX4.out hb5)
      have HV5 := qM (Kd.R_lower hv5 HB4.out.size)
      clear hb5 hT hHeld HB4 BX4 HM4 HW HEL hv5
      refine hK.out _ _ ⟨(qC BX5.out 0).trans rfl, (qC BX5.out 1).trans rfl⟩ (fun hHeld => ?_)
      clear hK K
      refine norm_ (a' := ?_) ?_ ?_
      rotate_left
      · show Act.put _ (some 21) _ = _
        simp only [Act.put, List.setIfInBounds_toArray, List.set_cons_zero, List.set_cons_succ, i64_w, i32_w]
        rfl
      refine pure_ (i := 7) (N := (some 22)) (v := ?_) (a' := ?_) #[true, true, true, true, true, true, true, true, false, false, false] rfl rfl (by kernel_rfl) (fun _ _ _ h => h) (Or.inl ⟨by rfl, ?_⟩) ?_ ?_
      rotate_left
      · intro w'
        go_simp
        with_reducible rfl
      rotate_left
      · simp only [Act.put, List.setIfInBounds_toArray, List.set_cons_zero, List.set_cons_succ, i64_w, i32_w]
        rfl
      refine pure_ (i := 8) (N := (some 23)) (v := ?_) (a' := ?_) #[true, true, true, true, true, true, true, true, true, false, false] rfl rfl (by kernel_rfl) (fun _ _ _ h => h) (Or.inl ⟨by rfl, ?_⟩) ?_ ?_
      rotate_left
      · intro w'
        go_simp
        with_reducible rfl
      rotate_left
      · simp only [Act.put, List.setIfInBounds_toArray, List.set_cons_zero, List.set_cons_succ, i64_w, i32_w]
        rfl
      refine pure_ (i := 9) (N := (some 4)) (v := ?_) (a' := ?_) #[true, true, true, true, true, true, true, true, true, true, false] rfl rfl (by kernel_rfl) (fun _ _ _ h => h) (Or.inl ⟨by rfl, ?_⟩) ?_ ?_
      rotate_left
      · intro w'
        go_simp
        with_reducible rfl
      rotate_left
      · simp only [Act.put, List.setIfInBounds_toArray, List.set_cons_zero, List.set_cons_succ, i64_w, i32_w]
        rfl
      refine pure_ (i := 10) (N := (some 5)) (v := ?_) (a' := ?_) #[true, true, true, true, true, true, true, true, true, true, true] rfl rfl (by kernel_rfl) (fun _ _ _ h => h) (Or.inl ⟨by rfl, ?_⟩) ?_ ?_
      rotate_left
      · intro w'
        go_simp
        with_reducible rfl
      rotate_left
      · simp only [Act.put, List.setIfInBounds_toArray, List.set_cons_zero, List.set_cons_succ, i64_w, i32_w]
        rfl
      refine done_ (by kernel_rfl) ?_
      clear hHeld
      go_wp2
      go_ret2
      obtain ⟨h1, h2⟩ := Prod.mk.inj HRR.out
      exact ⟨_, by rw [← h2]; rfl, by rw [← h1]; exact HV5.out, HB5.out⟩
end Go.Proofs.Ythfemojaabejiaa.G
end
