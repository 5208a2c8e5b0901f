-- Written by pack.py (ours): the claim's texts, cut down to what its theorem reaches.
import Derived.Laws.EntriesVeiled
import Derived.Test.YthfemojaabejiaaKFnExactCloudOk5
section
namespace Go.Proofs.Ythfemojaabejiaa.G
open Go.RowKit Go.Proofs.YthfemojaabejiaaW.PrintWords Go.Proofs.YthfemojaabejiaaW.PrintLast Go.Proofs.YthfemojaabejiaaW.PrintMore
set_option linter.unusedVariables false
set_option linter.unusedSimpArgs false
theorem blk_new' {w : World} {o : Obj} {n : Nat} (h : n = w.heap.size) : (w.alloc o).heap[n]? = some o := by subst h; exact blk_new w o
theorem reach_start (w : World) (A0 : Option Addr) (c0 n0 : Nat) (A1 : Option Addr) (c1 n1 : Nat) :
    ReachAt w w.heap.size (w.heap.size + 3) (w.heap.size + 4) (w.heap.size + 1) (w.heap.size + 2) A0 c0 n0 A1 c1 n1 []
      (((((w.alloc (.cells #[.slice A0 n0 c0, .slice A1 n1 c1] 30 (0, 0))).alloc (.cells #[.func (.func 64) #[.agg #[.slice A0 n0 c0, .slice A1 n1 c1]] #[]] 84 (0, 0))).alloc (.map #[] 0)).alloc (.cells #[.map (some (w.heap.size + 2))] 81 (0, 0))).alloc
        (.cells #[.func (.func 114) #[] #[.pointer (some ⟨w.heap.size, 0, none⟩), .pointer (some ⟨w.heap.size + 3, 0, none⟩), .pointer (some ⟨w.heap.size + 4, 0, none⟩), .pointer (some ⟨w.heap.size + 1, 0, none⟩)]] 145 (0, 0))) where
  below := (((((Below.refl w.heap.size w).alloc (Nat.le_refl _) _).alloc (by simp) _).alloc (by simp; omega) _).alloc (by simp; omega) _).alloc (by simp; omega) _
  hs := qa (qa (qa (qa (blk_new w _) _) _) _) _
  hn := qa (qa (qa (blk_new' (by simp)) _) _) _
  ho := qa (blk_new' (by simp)) _
  hw := blk_new' (by simp)
  hm := by
    have h := BSet.made ((w.alloc (.cells #[.slice A0 n0 c0, .slice A1 n1 c1] 30 (0, 0))).alloc (.cells #[.func (.func 64) #[.agg #[.slice A0 n0 c0, .slice A1 n1 c1]] #[]] 84 (0, 0))) Try.prog 3 4
    have e : ((w.alloc (.cells #[.slice A0 n0 c0, .slice A1 n1 c1] 30 (0, 0))).alloc (.cells #[.func (.func 64) #[.agg #[.slice A0 n0 c0, .slice A1 n1 c1]] #[]] 84 (0, 0))).heap.size = w.heap.size + 2 := by simp
    rw [e] at h
    have h2 : BSet _ Try.prog 3 4 (w.heap.size + 2) (castL []) := h
    exact (h2.kept (World.grownBy_alloc _ _ none) (by simp)).kept (World.grownBy_alloc _ _ none) (by simp)
  base := by omega
def ReachedP (w : World) (made : List Bool) (may : Nat → List Nat) (L : List Nat) (e : Ending) (w' : World) : Prop :=
  ∃ (M : Nat) (ext : List Nat), e = .returned (.map (some M)) ∧ Topo.Walked (fun k => made.getD k false) may L [] ext ∧ BSet w' Try.prog 3 4 M (castL ext) ∧ Below w.heap.size w w' ∧ w.heap.size ≤ M
set_option maxHeartbeats 8000000 in
set_option maxRecDepth 100000 in
theorem reached_w {w : World} {A0 : Option Addr} {c0 : Nat} {made : List Bool} {A1 : Option Addr} {c1 : Nat} {tasks : List Tk} (may : Nat → List Nat)
    (hr0 : Kd.C Kd.bool w A0 made.length made) (hc0 : made.length ≤ c0) (hr1 : Kd.C k141 w A1 tasks.length tasks) (hc1 : tasks.length ≤ c1) (hml : made.length ≤ 100000)
    (hmay : ∀ k, k < made.length → made.getD k false = true → ∃ kr, impl_Sheet_may.f kr made tasks (k : Int) = some (castL (may k))) (L : List Nat) (A : Option Addr) (c : Nat) (hrL : Kd.C (Kd.int .i64) w A L.length (castL L)) :
    Calls Try.prog 62 #[.agg #[.slice A0 made.length c0, .slice A1 tasks.length c1], .slice A L.length c, .func (.func 64) #[.agg #[.slice A0 made.length c0, .slice A1 tasks.length c1]] #[]] w (ReachedP w made may L) := by
  have HS := qM (reach_start w A0 c0 made.length A1 c1 tasks.length)
  have CK := qM (reach_w (w0 := w) may hr0 hc0 hr1 hc1 (by omega) hmay (made.length + 1) L [] _ A c (by simp) List.nodup_nil (fun k hk => by cases hk) HS.out (qB hrL (HS.out.below)))
  have hmf : ∀ (fn : Fn) (first cap : Array Value) (W : World), (Instr.makeFunc fn first cap).run Try.prog W = .ok (.func fn first cap) W := fun _ _ _ _ => rfl
  have hmm := @run_makeMap Try.prog
  have hu0 := Try.underlying30
  clear hr0 hc0 hr1 hc1 hml hmay hrL HS
  go_enter Try.func62, Try.ntmps62
  go_wp2_with (go_at_call 114; (with_reducible refine CK.out.mono ?_); rintro e w1 ⟨rfl, ext, hW, hR, hK⟩; have HR1 := qM hR; have HW1 := qM hW; have ho0 : w1.cell? ⟨w.heap.size + 1 + 1 + 1, 0, none⟩ = some (.map (some (w.heap.size + 2))) := (qC hR.ho 0).trans rfl; clear hR hW hK CK)
  go_ret
  exact ⟨_, ext, rfl, HW1.out, by have := HR1.out.hm; simpa using this, HR1.out.below, by omega⟩
end Go.Proofs.Ythfemojaabejiaa.G
end
section
namespace Go.Proofs.Ythfemojaabejiaa.G
open Go.RowKit Go.Proofs.YthfemojaabejiaaW.PrintWords Go.Proofs.YthfemojaabejiaaW.PrintLast Go.Proofs.YthfemojaabejiaaW.PrintMore
attribute [local go_sem] max2_int min2_int max_two min_two max_three min_three max_four min_four
set_option linter.unusedVariables false
set_option linter.unusedSimpArgs false
def slices_Index_int.l0 : Nat → List Int → Int → Int → Int → Option (Int)
  | 0, _, _, _, _ => none
  | k + 1, x0, x1, x7, x8 => if x8 < x7 then (if 0 ≤ x8 then (if x8 < (x0.length : Int) then (if x1 = (rd x0 x8) then (some x8) else (slices_Index_int.l0 k x0 x1 x7 (wrap64 (x8 + 1)))) else (none)) else (none)) else (some (-1))
def slices_Index_int.f (k : Nat) (l0 : List Int) (a1 : Int) : Option (Int) := slices_Index_int.l0 k l0 a1 (l0.length : Int) 0
set_option maxHeartbeats 8000000 in
set_option maxRecDepth 100000 in
theorem slices_Index_int.calls (k : Nat) (A0 : Option Addr) (c0 : Nat) (l0 : List Int) (a1 : Int) (r : Int) (w : World) (hr0 : Kd.C (Kd.int .i64) w A0 l0.length l0) (hc0 : l0.length ≤ c0) (h : slices_Index_int.f k l0 a1 = some r) :
    Calls Try.prog 139 #[.slice A0 l0.length c0, .int .i64 a1] w fun e w' => e = .returned (.int .i64 r) ∧ Drawn0 w w' := by
  have HR0 := qM hr0
  have HC0 := qM hc0
  clear hr0 hc0
  have H : (slices_Index_int.l0 k l0 a1 (l0.length : Int) 0) = some r := h
  clear h
  have H' := qM H
  clear H
  go_enter Try.func139, Try.ntmps139
  go_wp2
  go_loopg [8] k (fun kq v8 w' => ∃ (x8_1 : Int), v8 = .int .i64 x8_1 ∧ Aside0 (slices_Index_int.l0 kq l0 a1 (l0.length : Int) x8_1 = some r) ∧ Aside0 (kq ≤ k) ∧ Drawn0 w w')
  case atStart => exact ⟨(0), (by first | rfl | (simp; done) | (simp [*]; done)), H', ⟨Nat.le_refl _⟩, by repeat (first | exact Drawn0.refl _ | apply Drawn0.step)⟩
  case round =>
    clear H'
    try clear c1
    try clear p2
    obtain ⟨x8_1, rfl, HA, HK1, ⟨m1, rfl⟩⟩ := hrel
    cases gk with
    | zero => exact absurd HA.out (by simp [slices_Index_int.l0])
    | succ k1 =>
      have H := HA.out
      clear HA
      simp only [slices_Index_int.l0] at H
      by_cases c3 : x8_1 < (l0.length : Int)
      rotate_left
      · rw [if_neg c3] at H
        have c3b0 : decide (x8_1 < (l0.length : Int)) = false := decide_eq_false c3
        clear c3
        obtain rfl := Option.some.inj H
        go_wp2
        go_ret
        exact ⟨by first | rfl | (simp; done) | (simp [*]; done), by repeat (first | exact Drawn0.refl _ | apply Drawn0.step)⟩
      rw [if_pos c3] at H
      have c3b0 : decide (x8_1 < (l0.length : Int)) = true := decide_eq_true c3
      clear c3
      by_cases c4 : 0 ≤ x8_1
      rotate_left
      · rw [if_neg c4] at H
        exact absurd H (by simp)
      rw [if_pos c4] at H
      have c4b0 : decide (0 ≤ x8_1) = true := decide_eq_true c4
      clear c4
      by_cases c5 : x8_1 < (l0.length : Int)
      rotate_left
      · rw [if_neg c5] at H
        exact absurd H (by simp)
      rw [if_pos c5] at H
      have c5b0 : decide (x8_1 < (l0.length : Int)) = true := decide_eq_true c5
      clear c5
      by_cases c6 : a1 = (rd l0 x8_1)
      · rw [if_pos c6] at H
        have c6b0 : (a1 == (rd l0 x8_1)) = true := beq_iff_eq.mpr c6
        have c6b1 : (a1 != (rd l0 x8_1)) = false := bne_eq_false_iff_eq.mpr c6
        clear c6
        obtain rfl := Option.some.inj H
        have p224 : 0 ≤ (x8_1 : Int) := qO (by first | (with_reducible assumption) | assumption)
        have q224 : x8_1 < (l0.length : Int) := qO (by first | (with_reducible assumption) | assumption)
        obtain ⟨ad224, e224, hx224_0⟩ := Kd.at_int HR0.out x8_1 p224 q224
        cases e224
        replace p224 := eq_true p224
        replace q224 := eq_true q224
        go_wp2
        go_ret
        exact ⟨by first | rfl | (simp; done) | (simp [*]; done), by repeat (first | exact Drawn0.refl _ | apply Drawn0.step)⟩
      rw [if_neg c6] at H
      have c6b0 : (a1 == (rd l0 x8_1)) = false := beq_eq_false_iff_ne.mpr c6
      have c6b1 : (a1 != (rd l0 x8_1)) = true := bne_iff_ne.mpr c6
      have H' := qM H
      clear H
      have p224 : 0 ≤ (x8_1 : Int) := qO (by first | (with_reducible assumption) | assumption)
      have q224 : x8_1 < (l0.length : Int) := qO (by first | (with_reducible assumption) | assumption)
      obtain ⟨ad224, e224, hx224_0⟩ := Kd.at_int HR0.out x8_1 p224 q224
      cases e224
      replace p224 := eq_true p224
      replace q224 := eq_true q224
      go_wp2
      go_roundg k1
      case measure => have := HK1.out; omega
      case rel => exact ⟨(wrap64 (x8_1 + 1)), (by first | rfl | (simp; done) | (simp [*]; done)), H', ⟨by have := HK1.out; omega⟩, by repeat (first | exact Drawn0.refl _ | apply Drawn0.step)⟩
def slices_Contains_int.f (k : Nat) (l0 : List Int) (a1 : Int) : Option (Bool) := (slices_Index_int.f k l0 a1).bind fun t225 => (some (decide (t225 ≥ 0)))
set_option maxHeartbeats 8000000 in
set_option maxRecDepth 100000 in
theorem slices_Contains_int.calls (k : Nat) (A0 : Option Addr) (c0 : Nat) (l0 : List Int) (a1 : Int) (r : Bool) (w : World) (hr0 : Kd.C (Kd.int .i64) w A0 l0.length l0) (hc0 : l0.length ≤ c0) (h : slices_Contains_int.f k l0 a1 = some r) :
    Calls Try.prog 111 #[.slice A0 l0.length c0, .int .i64 a1] w fun e w' => e = .returned (.bool r) ∧ Drawn0 w w' := by
  have HR0 := qM hr0
  have HC0 := qM hc0
  clear hr0 hc0
  have H : ((slices_Index_int.f k l0 a1).bind fun t225 => (some (decide (t225 ≥ 0)))) = some r := h
  clear h
  replace H := Option.bind_eq_some_iff.mp H
  obtain ⟨t225, A30, H⟩ := H
  replace H : (some (decide (t225 ≥ 0))) = some r := H
  have A3 := qM A30
  clear A30
  obtain rfl := Option.some.inj H
  go_enter Try.func111, Try.ntmps111
  go_wp2_with (first | ((with_reducible refine gate_callee (f := 139) rfl ?_); refine goesL_ (some 7) rfl rfl Try.func139 (by kernel_rfl) rfl #[.slice A0 l0.length c0, .int .i64 a1] rfl (by (try simp only [List.map_toArray, List.map_cons, List.map_nil]); first | done | rfl | (simp only [List.length_drop, List.length_take]; rfl)) ?_; (with_reducible refine (slices_Index_int.calls k _ _ l0 a1 t225 _ ?side1 ?side2 A3.out).mono ?_); (case side1 => repeat (first | exact HR0.out | (with_reducible refine qc ?_ _) | (with_reducible refine qe ?_ _) | (with_reducible refine qf ?_))); (case side2 => exact HC0.out); rintro e w' ⟨rfl, ⟨nd, rfl⟩⟩; refine ⟨_, rfl, ?_⟩))
  go_ret
  exact ⟨by first | rfl | (simp; done) | (simp [*]; done), by repeat (first | exact Drawn0.refl _ | apply Drawn0.step)⟩
end Go.Proofs.Ythfemojaabejiaa.G
end
section
namespace Go.Proofs.Ythfemojaabejiaa.G
open Go.RowKit Go.Proofs.YthfemojaabejiaaW.PrintWords Go.Proofs.YthfemojaabejiaaW.PrintLast Go.Proofs.YthfemojaabejiaaW.PrintMore
set_option linter.unusedVariables false
set_option linter.unusedSimpArgs false
theorem index_f (l : List Int) (n : Int) (hl : l.length ≤ 9223372036854775807) : ∃ k, slices_Contains_int.f k l n = some (l.contains n) := by
  have rdI : ∀ (i : Nat) (h : i < l.length), rd l (i : Int) = l[i] := fun i h => by
    simp only [rd, Int.toNat_natCast, List.getD_eq_getElem?_getD, List.getElem?_eq_getElem h, Option.getD_some]
  have loop : ∀ (d i : Nat), d = l.length - i → i ≤ l.length → ∃ r : Int, slices_Index_int.l0 (d + 1) l n (l.length : Int) (i : Int) = some r ∧ decide (r ≥ 0) = (l.drop i).contains n := by
    intro d
    induction d with
    | zero =>
      intro i hd hi
      refine ⟨-1, ?_, ?_⟩
      · rw [slices_Index_int.l0, if_neg (by omega)]
      · rw [List.drop_of_length_le (by omega)]; rfl
    | succ d ih =>
      intro i hd hi
      have hlt : i < l.length := by omega
      rw [slices_Index_int.l0, if_pos (by omega), if_pos (by omega), if_pos (by omega), rdI i hlt, List.drop_eq_getElem_cons hlt]
      by_cases hc : n = l[i]
      · refine ⟨(i : Int), by rw [if_pos hc], ?_⟩
        rw [List.contains_cons, ← hc]
        simp
      · obtain ⟨r, h1, h2⟩ := ih (i + 1) (by omega) (by omega)
        refine ⟨r, ?_, ?_⟩
        · rw [if_neg hc, show wrap64 ((i : Int) + 1) = ((i + 1 : Nat) : Int) from by unfold wrap64; omega]
          exact h1
        · rw [h2, List.contains_cons, beq_eq_false_iff_ne.2 hc, Bool.false_or]
  obtain ⟨r, h1, h2⟩ := loop l.length 0 (by omega) (by omega)
  refine ⟨l.length + 1, ?_⟩
  unfold slices_Contains_int.f slices_Index_int.f
  rw [show ((0 : Nat) : Int) = 0 from rfl] at h1
  rw [h1, Option.bind_some, h2, List.drop_zero]
end Go.Proofs.Ythfemojaabejiaa.G
end
section
namespace Go.Proofs.Ythfemojaabejiaa.G
open Go.RowKit Go.Proofs.YthfemojaabejiaaW.PrintWords Go.Proofs.YthfemojaabejiaaW.PrintLast Go.Proofs.YthfemojaabejiaaW.PrintMore
set_option linter.unusedVariables false
set_option linter.unusedSimpArgs false
theorem wpList_bset_len {P : Program} {ops : Array Oper} {Q : Exit → Act → World → Prop} {rest : List Oper} {w : World} {o : Oper} {a : Act} (hg : o.guard = none) (m : Operand) (t : TypeId) (hop : o.op = Op.call { callee := Callee.builtin Builtin.len, args := #[m], argTypes := #[t] })
    {k e : TypeId} {b : Nat} {S : List Int} (h : BSet w P k e b S) (ht : P.underlying t = some (.map k e)) (hm : a.eval m = .map (some b)) (hK : wpList P ops Q rest (a.put o.dst (.int .i64 (S.length : Int))) w) : wpList P ops Q (o :: rest) a w := by
  refine wpList_plain hg fun K' hK' => ?_
  unfold Oper.wp
  simp [execOp, hop, resolve, invoke, builtin, hm, h.len ht o.type, Result.andThen]
  exact hK' _ _ hK
theorem contains_dec (l : List Int) (x : Int) : l.contains x = decide (x ∈ l) := by simp
set_option maxHeartbeats 8000000 in
set_option maxRecDepth 100000 in
theorem topo1_calls {Bo : Nat} {Ao : Option Addr} {co : Nat} {OL : List Int} (x : Int) (W : World) (hb : W.heap[Bo]? = some (.cells #[.slice Ao OL.length co] 34 (0, 0))) (hr : Kd.C (Kd.int .i64) W Ao OL.length OL) (hc : OL.length ≤ co) (hl : OL.length ≤ 1000000) :
    Calls Try.prog 113 #[.int .i64 x, .pointer (some ⟨Bo, 0, none⟩)] W fun e W' => e = .returned (.bool (!decide (x ∈ OL))) ∧ Below W.heap.size W W' := by
  obtain ⟨kc, hk⟩ := index_f OL x (by omega)
  rw [contains_dec] at hk
  have CK := qM (slices_Contains_int.calls kc Ao co OL x (decide (x ∈ OL)) W hr hc hk)
  have hq : W.cell? ⟨Bo, 0, none⟩ = some (.slice Ao OL.length co) := (qC hb 0).trans rfl
  clear hb hr hc hl hk
  go_enter Try.func113, Try.ntmps113
  go_wp2_with (go_at_call 111; refine CK.out.mono ?_; rintro e w1 ⟨rfl, ⟨m, rfl⟩⟩)
  go_ret
  exact ⟨rfl, qN (Below.refl _ _) m⟩
structure TopoAt (w0 : World) (Bs Bo : Nat) (A0 : Option Addr) (c0 n0 : Nat) (A1 : Option Addr) (c1 n1 : Nat) (out : List Nat) (W : World) : Prop where
  below : Below w0.heap.size w0 W
  hs : W.heap[Bs]? = some (.cells #[.slice A0 n0 c0, .slice A1 n1 c1] 30 (0, 0))
  ho : ∃ Ao co, W.heap[Bo]? = some (.cells #[.slice Ao (castL out).length co] 34 (0, 0)) ∧ Kd.R (Kd.int .i64) 3 W w0.heap.size (fun k => k ≠ Bs ∧ k ≠ Bo) (.slice Ao (castL out).length co) (castL out)
  bs : w0.heap.size ≤ Bs
  bo : w0.heap.size ≤ Bo
  ne : Bs ≠ Bo
theorem TopoAt.on {w0 W W' : World} {Bs Bo : Nat} {A0 : Option Addr} {c0 n0 : Nat} {A1 : Option Addr} {c1 n1 : Nat} {out : List Nat} (h : TopoAt w0 Bs Bo A0 c0 n0 A1 c1 n1 out W) (hb : Below W.heap.size W W') : TopoAt w0 Bs Bo A0 c0 n0 A1 c1 n1 out W' := by
  obtain ⟨Ao, co, h1, h2⟩ := h.ho
  exact ⟨h.below.trans (hb.mono h.below.size), blk_below h.hs hb, ⟨Ao, co, blk_below h1 hb, Kd.R_below h2 hb⟩, h.bs, h.bo, h.ne⟩
def TopoP (w0 : World) (r : Option (List Nat)) (e : Ending) (W : World) : Prop :=
  Below w0.heap.size w0 W ∧ match r with
    | none => e = .returned (.tuple #[.slice none 0 0, .bool false])
    | some l => ∃ v, e = .returned (.tuple #[v, .bool true]) ∧ Kd.R (Kd.int .i64) 3 W w0.heap.size (fun _ => True) v (castL l)
theorem contains_cast (l : List Nat) (x : Nat) : (castL l).contains (x : Int) = l.contains x := by
  rw [Bool.eq_iff_iff, List.contains_iff_mem, List.contains_iff_mem, castL_mem]
theorem any_cast (l out : List Nat) : ((castL l).any fun x => !decide (x ∈ castL out)) = !(l.all fun j => out.contains j) := by
  induction l with
  | nil => rfl
  | cons y l ih =>
    show (!decide ((y : Int) ∈ castL out) || (castL l).any fun x => !decide (x ∈ castL out)) = _
    rw [ih, ← contains_dec, contains_cast, List.all_cons]
    cases out.contains y <;> simp
theorem pick_at {n : Nat} {need : Nat → Bool} {may : Nat → List Nat} {out : List Nat} {i : Nat} (hi : i < n) (h : ∀ j, j < i → Topo.free need may out j = false) (hf : Topo.free need may out i = true) : Topo.pick n need may out = some i := by
  unfold Topo.pick
  rw [List.find?_eq_some_iff_getElem]
  refine ⟨hf, i, by rw [List.length_range]; exact hi, by simp, fun j hj => ?_⟩
  simp [h j hj]
theorem pick_no {n : Nat} {need : Nat → Bool} {may : Nat → List Nat} {out : List Nat} (h : ∀ j, j < n → Topo.free need may out j = false) : Topo.pick n need may out = none := by
  unfold Topo.pick
  rw [List.find?_eq_none]
  intro x hx
  rw [List.mem_range] at hx
  simp [h x hx]
theorem topo_tells {w0 w2 : World} {Bs Bo : Nat} {A0 : Option Addr} {c0 n0 : Nat} {A1 : Option Addr} {c1 n1 : Nat} {out : List Nat} (h : TopoAt w0 Bs Bo A0 c0 n0 A1 c1 n1 out w2) (hl : (castL out).length ≤ 1000000) (l : List Int) : Tells 113 #[.pointer (some ⟨Bo, 0, none⟩)] (Value.int .i64) (fun x => !decide (x ∈ castL out)) w2 l := by
  intro x _ W hW
  obtain ⟨Ao, co, hbo, hro⟩ := h.ho
  have h1 := Kd.R_reads' hro
  exact topo1_calls x W (blk_below hbo hW) (qB h1.2.2 hW) h1.2.1 hl
set_option maxHeartbeats 16000000 in
set_option maxRecDepth 100000 in
theorem topo_w {w : World} {M : Nat} {A0 : Option Addr} {c0 : Nat} {made : List Bool} {A1 : Option Addr} {c1 : Nat} {tasks : List Tk} (may : Nat → List Nat) (NL : List Nat)
    (hr0 : Kd.C Kd.bool w A0 made.length made) (hc0 : made.length ≤ c0) (hr1 : Kd.C k141 w A1 tasks.length tasks) (hc1 : tasks.length ≤ c1) (hml : made.length ≤ 100000) (hnl : NL.length ≤ 100000)
    (hmay : ∀ k, k < made.length → k ∈ NL → ∃ kr, impl_Sheet_may.f kr made tasks (k : Int) = some (castL (may k))) (hset : BSet w Try.prog 3 4 M (castL NL)) :
    Calls Try.prog 61 #[.agg #[.slice A0 made.length c0, .slice A1 tasks.length c1], .map (some M)] w (TopoP w (Topo.topo made.length (fun k => NL.contains k) may NL.length [])) := by
  have HR0 := qM hr0
  have HC0 := qM hc0
  have HR1 := qM hr1
  have HC1 := qM hc1
  have HML := qM hml
  have HNL := qM hnl
  have HMAY := qM hmay
  have HSET := qM hset
  have hu0 := Try.underlying30
  have HT0 : Aside0 (TopoAt w w.heap.size (w.heap.size + 1) A0 c0 made.length A1 c1 tasks.length [] ((w.alloc (.cells #[.slice A0 made.length c0, .slice A1 tasks.length c1] 30 (0, 0))).alloc (.cells #[.slice none 0 0] 34 (0, 0)))) := ⟨{
    below := ((Below.refl w.heap.size w).alloc (Nat.le_refl _) _).alloc (by simp) _
    hs := qa (blk_new w _) _
    ho := ⟨none, 0, by have := blk_new (w.alloc (.cells #[.slice A0 made.length c0, .slice A1 tasks.length c1] 30 (0, 0))) (.cells #[.slice none 0 0] 34 (0, 0)); simpa [castL] using this, Kd.R_nil _ _ _ _ _⟩
    bs := Nat.le_refl _
    bo := by omega
    ne := by omega }⟩
  clear hr0 hc0 hr1 hc1 hml hnl hmay hset
  go_enter Try.func61, Try.ntmps61
  go_wp2
  go_step3
  go_wp2
  go_step3
  go_wp2
  have hmf : ∀ (fn : Fn) (first cap : Array Value) (W : World), (Instr.makeFunc fn first cap).run Try.prog W = .ok (.func fn first cap) W := fun _ _ _ _ => rfl
  go_loopg [7] NL.length (fun kq v7 w' => ∃ out : List Nat, Aside0 (out.length + kq = NL.length) ∧ Aside0 (Topo.topo made.length (fun k => NL.contains k) may NL.length [] = Topo.topo made.length (fun k => NL.contains k) may kq out) ∧ Aside0 (TopoAt w w.heap.size (w.heap.size + 1) A0 c0 made.length A1 c1 tasks.length out w'))
  case atStart => exact ⟨[], ⟨by simp⟩, ⟨rfl⟩, HT0⟩
  case round =>
    clear HT0
    obtain ⟨out, HOL, HTE, HTA⟩ := hrel
    have HOLB : Aside0 ((castL out).length ≤ 1000000) := ⟨by rw [castL_len]; have := HOL.out; have := HNL.out; omega⟩
    obtain ⟨Ao, co, hbo, hro⟩ := HTA.out.ho
    have HRO := qM hro
    have HBO := qM hbo
    have hq0 : wr.cell? ⟨w.heap.size + 1, 0, none⟩ = some (.slice Ao (castL out).length co) := (qC hbo 0).trans rfl
    have hs0 : wr.cell? ⟨w.heap.size, 0, none⟩ = some (.slice A0 made.length c0) := (qC HTA.out.hs 0).trans rfl
    have hs1 : wr.cell? ⟨w.heap.size, 1, none⟩ = some (.slice A1 tasks.length c1) := (qC HTA.out.hs 1).trans rfl
    have HSET1 := qM (HSET.out.move (HTA.out.below.block M HSET.out.lt))
    clear hbo hro
    cases gk with
    | zero =>
      have hlen : decide ((castL out).length < (castL NL).length) = false := decide_eq_false (by rw [castL_len, castL_len]; have := HOL.out; omega)
      go_wp2_with (at_len; refine wpList_bset_len rfl _ 81 rfl HSET1.out Try.underlying81 rfl ?_)
      try rw [Exit.noGoto_ret]
      go_ret2
      refine ⟨HTA.out.below, ?_⟩
      rw [HTE.out]
      exact ⟨_, rfl, Kd.R_mono HRO.out (fun _ _ => trivial)⟩
    | succ g =>
      have hlen : decide ((castL out).length < (castL NL).length) = true := decide_eq_true (by rw [castL_len, castL_len]; have := HOL.out; omega)
      go_wp2_with (at_len; refine wpList_bset_len rfl _ 81 rfl HSET1.out Try.underlying81 rfl ?_)
      clear hlen hq0 hs0 hs1
      obtain ⟨wo, rfl⟩ : ∃ wo : World, wo = wr := ⟨_, rfl⟩
      go_loopg [16] made.length (fun kq v16 w' => ∃ i : Nat, v16 = .int .i64 (i : Int) ∧ Aside0 (i + kq = made.length) ∧ Aside0 (∀ j, j < i → Topo.free (fun k => NL.contains k) may out j = false) ∧ Aside0 (TopoAt w w.heap.size (w.heap.size + 1) A0 c0 made.length A1 c1 tasks.length out w'))
      case atStart => exact ⟨0, by simp, ⟨by omega⟩, ⟨fun j h => by omega⟩, HTA⟩
      case round =>
        clear HTA HRO HBO HSET1
        obtain ⟨i, rfl, HIK, HFR, HTA⟩ := hrel
        obtain ⟨Ao, co, hbo, hro⟩ := HTA.out.ho
        have HRO := qM hro
        have HBO := qM hbo
        have hq0 : wr.cell? ⟨w.heap.size + 1, 0, none⟩ = some (.slice Ao (castL out).length co) := (qC hbo 0).trans rfl
        have hs0 : wr.cell? ⟨w.heap.size, 0, none⟩ = some (.slice A0 made.length c0) := (qC HTA.out.hs 0).trans rfl
        have hs1 : wr.cell? ⟨w.heap.size, 1, none⟩ = some (.slice A1 tasks.length c1) := (qC HTA.out.hs 1).trans rfl
        have HSET1 := qM (HSET.out.move (HTA.out.below.block M HSET.out.lt))
        clear hbo hro
        cases gk with
        | zero =>
          have hi : i = made.length := by have := HIK.out; omega
          have hge : made.length ≤ i := by omega
          have hge2 : ¬ (i < made.length) := by omega
          have HIE := qM hi
          clear hi
          go_wp2
          try rw [Exit.noGoto_ret]
          go_ret2
          refine ⟨HTA.out.below, ?_⟩
          rw [HTE.out]
          unfold Topo.topo
          rw [pick_no (fun j hj => HFR.out j (by rw [HIE.out]; exact hj))]
          rfl
        | succ gi =>
          have hlt : i < made.length := by have := HIK.out; omega
          have HLT := qM hlt
          have hmax : (i : Int) + 1 ≤ 9223372036854775807 := by have := HML.out; omega
          have HWF : Aside0 ((Lit.int .i64 (i : Int)).wf = true) := ⟨WalkArith.wf_i64 (by omega)⟩
          have hlk := HSET1.out.look Try.underlying81 Try.underlying3 Try.underlying4 (zeroBool _) HWF.out
          have HNF : Topo.free (fun k => NL.contains k) may out i = false → Aside0 (∀ j, j < i + 1 → Topo.free (fun k => NL.contains k) may out j = false) := fun h => ⟨fun j hj => by
            rcases Nat.lt_or_ge j i with h1 | h1
            · exact HFR.out j h1
            · have : j = i := by omega
              rw [this]; exact h⟩
          by_cases hn : i ∈ NL
          · rw [decide_eq_true ((castL_mem _ _).2 hn)] at hlk
            obtain ⟨kc, hkc⟩ := index_f (castL out) (i : Int) (by have := HOLB.out; omega)
            rw [contains_cast] at hkc
            by_cases ho : out.contains i = true
            · rw [ho] at hkc
              have HKC := qM hkc
              have HFF := HNF (by simp only [Topo.free]; rw [ho]; simp)
              clear hkc ho hn HNF
              go_wp2_with (go_at_call 111; refine (slices_Contains_int.calls kc Ao co (castL out) (i : Int) _ _ (Kd.R_reads' HRO.out).2.2 (Kd.R_reads' HRO.out).2.1 HKC.out).mono ?_; rintro e w1 ⟨rfl, ⟨m, rfl⟩⟩; have TA1 := qM (HTA.out.on (qN (Below.refl _ _) m)); clear hq0 hs0 hs1; have hs0 : (wr.drewN m).cell? ⟨w.heap.size, 0, none⟩ = some (.slice A0 made.length c0) := (qC TA1.out.hs 0).trans rfl; have hs1 : (wr.drewN m).cell? ⟨w.heap.size, 1, none⟩ = some (.slice A1 tasks.length c1) := (qC TA1.out.hs 1).trans rfl; generalize wr.drewN m = w1 at TA1 hs0 hs1 ⊢; clear hlk)
              go_roundg gi
              case measure => omega
              case rel => exact ⟨i + 1, by go_num, ⟨by have := HIK.out; omega⟩, HFF, TA1⟩
            · have ho' : out.contains i = false := by simpa using ho
              rw [ho'] at hkc
              have HKC := qM hkc
              obtain ⟨kr, hkr⟩ := HMAY.out i HLT.out hn
              have HKR := qM hkr
              have HEN : Aside0 (∀ (args : Array Value) (W : World), (callFunc 113 args).run Try.prog W = .ok (.enter 113 args) W) := ⟨enters_fn Try.func113 (by kernel_rfl) rfl⟩
              by_cases hf : ((may i).all fun j => out.contains j) = true
              · have HFA := qM hf
                have HPK := qM (pick_at (n := made.length) HLT.out HFR.out (by simp only [Topo.free]; rw [ho', hf, List.contains_iff_mem.2 hn]; rfl))
                clear hkc ho ho' hkr hf hn HNF
                go_wp2_with (first | (go_at_call 111; refine (slices_Contains_int.calls kc Ao co (castL out) (i : Int) _ _ (Kd.R_reads' HRO.out).2.2 (Kd.R_reads' HRO.out).2.1 HKC.out).mono ?_; rintro e w1 ⟨rfl, ⟨m, rfl⟩⟩; have TA1 := qM (HTA.out.on (qN (Below.refl _ _) m)); clear hq0 hs0 hs1; have hs0 : (wr.drewN m).cell? ⟨w.heap.size, 0, none⟩ = some (.slice A0 made.length c0) := (qC TA1.out.hs 0).trans rfl; have hs1 : (wr.drewN m).cell? ⟨w.heap.size, 1, none⟩ = some (.slice A1 tasks.length c1) := (qC TA1.out.hs 1).trans rfl; generalize wr.drewN m = w1 at TA1 hs0 hs1 ⊢; clear hlk) | (go_at_call 64; refine (impl_Sheet_may.calls kr A0 c0 made A1 c1 tasks (i : Int) _ _ (qB HR0.out TA1.out.below) HC0.out (qB HR1.out TA1.out.below) HC1.out HKR.out).mono ?_; rintro e w2 ⟨vm, rfl, hvm, hb2⟩; have TA2 := qM (TA1.out.on hb2); obtain ⟨Am, cm, rfl, _, hCm⟩ := Kd.R_reads hvm; have HCM := qM hCm; clear hvm hb2 hCm hs0 hs1) | (go_at_call 112; refine (containsFunc_int 113 #[.pointer (some ⟨w.heap.size + 1, 0, none⟩)] (fun x => !decide (x ∈ castL out)) Am cm (castL (may i)) _ HCM.out HEN.out (topo_tells TA2.out HOLB.out _)).mono ?_; rintro e w3 ⟨rfl, hb3⟩; rw [any_cast, HFA.out]; have TA3 := qM (TA2.out.on hb3); clear hb3; obtain ⟨A3, c3, hbo3, hro3⟩ := TA3.out.ho; have HBO3 := qM hbo3; have HRO3 := qM hro3; have hq3 : w3.cell? ⟨w.heap.size + 1, 0, none⟩ = some (.slice A3 (castL out).length c3) := (qC hbo3 0).trans rfl; clear hbo3 hro3) | (at_builtin; refine Kd.R_append (Kd.int .i64) (w0 := w) w.heap.size rfl (.tmp 34) (.tmp 36) 34 3 (.int .i64 0) 8 rfl Try.underlying34 infoInt rfl (by decide) (by omega) (.slice A3 (castL out).length c3) (castL out) (i : Int) [.int .i64 (i : Int)] (fun k => k ≠ w.heap.size ∧ k ≠ w.heap.size + 1) (fun _ => False) rfl rfl ?aP (fun _ hk => hk.elim) ?aF ?aO ?aB ?aS ?aL ?_; (case aP => rfl); (case aB => exact TA3.out.below); (case aF => exact (fun k hk => by have h1 := TA3.out.below.size; have h2 := blk_lt HBO3.out; omega)); (case aO => exact HRO3.out); (case aS => exact TA3.out.below.size); (case aL => have := HOLB.out; omega); intro v4 w4 ho hb hg hat; obtain ⟨A4, c4, e4⟩ := Kd.R_slice ho; subst e4; have hbo4 := blk_grown HBO3.out hg (Kd.R_away HRO3.out (fun k hk e => hk.2 e)); have hs4 := blk_grown TA3.out.hs hg (Kd.R_away HRO3.out (fun k hk e => hk.1 e)); have HBO4 := qM hbo4; have HS4 := qM hs4; have HRO4 := qM ho; have HB4 := qM hb; clear hq3; have hq4 : w4.cell? ⟨w.heap.size + 1, 0, none⟩ = some (.slice A3 (castL out).length c3) := (qC hbo4 0).trans rfl; have hf4 := qF hbo4 0; clear ho hb hg hat hbo4 hs4))
                go_roundg g
                case measure => omega
                case rel =>
                  refine ⟨out ++ [i], ⟨by rw [List.length_append, List.length_singleton]; have := HOL.out; omega⟩, ⟨?_⟩, ⟨?_⟩⟩
                  · rw [HTE.out]
                    conv => lhs; unfold Topo.topo
                    rw [HPK.out]
                  · exact ⟨HB4.out.setCell (p := ⟨w.heap.size + 1, 0, none⟩) (by simp) _, blk_far (p := ⟨w.heap.size + 1, 0, none⟩) HS4.out (by simp) _, ⟨A4, c4, by have h5 := blk_put HBO4.out 0 (.slice A4 ((castL out).length + 1) c4) rfl; rw [castL_snoc, List.length_append, List.length_singleton]; exact h5, by rw [castL_snoc]; exact Kd.R_far (p := ⟨w.heap.size + 1, 0, none⟩) HRO4.out (fun k hk => hk.2) _⟩, Nat.le_refl _, by omega, by omega⟩
              · have hf' : ((may i).all fun j => out.contains j) = false := by simpa using hf
                have HFA := qM hf'
                have HFF := HNF (by simp only [Topo.free]; rw [hf', Bool.and_false])
                clear hkc ho ho' hkr hf hf' hn HNF
                go_wp2_with (first | (go_at_call 111; refine (slices_Contains_int.calls kc Ao co (castL out) (i : Int) _ _ (Kd.R_reads' HRO.out).2.2 (Kd.R_reads' HRO.out).2.1 HKC.out).mono ?_; rintro e w1 ⟨rfl, ⟨m, rfl⟩⟩; have TA1 := qM (HTA.out.on (qN (Below.refl _ _) m)); clear hq0 hs0 hs1; have hs0 : (wr.drewN m).cell? ⟨w.heap.size, 0, none⟩ = some (.slice A0 made.length c0) := (qC TA1.out.hs 0).trans rfl; have hs1 : (wr.drewN m).cell? ⟨w.heap.size, 1, none⟩ = some (.slice A1 tasks.length c1) := (qC TA1.out.hs 1).trans rfl; generalize wr.drewN m = w1 at TA1 hs0 hs1 ⊢; clear hlk) | (go_at_call 64; refine (impl_Sheet_may.calls kr A0 c0 made A1 c1 tasks (i : Int) _ _ (qB HR0.out TA1.out.below) HC0.out (qB HR1.out TA1.out.below) HC1.out HKR.out).mono ?_; rintro e w2 ⟨vm, rfl, hvm, hb2⟩; have TA2 := qM (TA1.out.on hb2); obtain ⟨Am, cm, rfl, _, hCm⟩ := Kd.R_reads hvm; have HCM := qM hCm; clear hvm hb2 hCm hs0 hs1) | (go_at_call 112; refine (containsFunc_int 113 #[.pointer (some ⟨w.heap.size + 1, 0, none⟩)] (fun x => !decide (x ∈ castL out)) Am cm (castL (may i)) _ HCM.out HEN.out (topo_tells TA2.out HOLB.out _)).mono ?_; rintro e w3 ⟨rfl, hb3⟩; rw [any_cast, HFA.out]; have TA3 := qM (TA2.out.on hb3); clear hb3))
                go_roundg gi
                case measure => omega
                case rel => exact ⟨i + 1, by go_num, ⟨by have := HIK.out; omega⟩, HFF, TA3⟩
          · rw [decide_eq_false (fun h => hn ((castL_mem _ _).1 h))] at hlk
            have HFF := HNF (by simp only [Topo.free]; rw [show NL.contains i = false by simpa using hn]; simp)
            clear hn HNF
            go_wp2
            go_roundg gi
            case measure => omega
            case rel => exact ⟨i + 1, by go_num, ⟨by have := HIK.out; omega⟩, HFF, HTA⟩
end Go.Proofs.Ythfemojaabejiaa.G
end
section
namespace Go.Proofs.Ythfemojaabejiaa.G
open Go.RowKit Go.Proofs.YthfemojaabejiaaW.PrintWords
set_option linter.unusedVariables false
set_option linter.unusedSimpArgs false
theorem isKey_ev (a : Int) : impl_isKey.f a = some (decide (0 ≤ a ∧ a < 10)) := by
  unfold impl_isKey.f
  by_cases h : a ≥ 0
  · rw [if_pos h]; simp only [ge_iff_le] at h; simp [h]
  · rw [if_neg h]; simp only [ge_iff_le] at h; simp [h]
theorem isValue_ev (a : Int) : impl_isValue.f a = some (decide (0 ≤ a ∧ a ≤ 96)) := by
  unfold impl_isValue.f
  by_cases h : a ≥ 0
  · rw [if_pos h]; simp only [ge_iff_le] at h; simp [h]
  · rw [if_neg h]; simp only [ge_iff_le] at h; simp [h]
theorem ite_prop (P : Prop) [Decidable P] (c : Bool) : (if P then some c else some false) = some (decide P && c) := by by_cases h : P <;> simp [h]
theorem fits_now (k : Nat) (a b : Int) (l : List Tk) : impl_Task_fits.f (k + 1) a b l = some (shapeB a b l.length) := by
  unfold impl_Task_fits.f
  have e0 : ∀ m : Nat, ((l.length : Int) == (m : Int)) = decide (l.length = m) := fun m => by rw [Bool.eq_iff_iff]; simp only [beq_iff_eq, decide_eq_true_eq]; omega
  have e1 : ((l.length : Int) == 0) = decide (l.length = 0) := e0 0
  have e2 : ((l.length : Int) == 1) = decide (l.length = 1) := e0 1
  have e3 : ((l.length : Int) == 2) = decide (l.length = 2) := e0 2
  have e4 : ((l.length : Int) == 3) = decide (l.length = 3) := e0 3
  simp only [impl_Task_fits.j0, isKey_ev, isValue_ev, Option.bind_some, e1, e2, e3, e4, ite_prop, Bool.decide_eq_true]
  clear e0 e1 e2 e3 e4
  unfold shapeB
  by_cases h0 : a = 0
  · simp only [h0, if_true]
  by_cases h1 : a = 1
  · simp only [h0, h1, if_true, if_false, show ¬ ((1 : Int) = 0) by decide]
  by_cases h2 : a = 2
  · simp only [h2, if_true, if_false, show ¬ ((2 : Int) = 0) by decide, show ¬ ((2 : Int) = 1) by decide, show ((2 : Int) == 2) = true by decide]
  by_cases h3 : a = 3
  · simp only [h3, if_true, if_false, show ¬ ((3 : Int) = 0) by decide, show ¬ ((3 : Int) = 1) by decide, show ¬ ((3 : Int) = 2) by decide, show ((3 : Int) == 3) = true by decide]
  have h3b : (a == 3) = false := beq_eq_false_iff_ne.mpr h3
  by_cases h4 : a = 4
  · simp only [h4, if_true, if_false, show ¬ ((4 : Int) = 0) by decide, show ¬ ((4 : Int) = 1) by decide, show ¬ ((4 : Int) = 2) by decide, show ¬ ((4 : Int) = 3) by decide, show ((4 : Int) == 3) = false by decide, Bool.false_eq_true, decide_true, Bool.true_and]
  by_cases h5 : a = 5
  · simp only [h5, if_true, if_false, show ¬ ((5 : Int) = 0) by decide, show ¬ ((5 : Int) = 1) by decide, show ¬ ((5 : Int) = 2) by decide, show ¬ ((5 : Int) = 3) by decide, show ¬ ((5 : Int) = 4) by decide, show ((5 : Int) == 3) = false by decide, Bool.false_eq_true, decide_true, Bool.true_and]
  simp only [h0, h1, h2, h3, h4, h5, h3b, if_false, Bool.false_eq_true, decide_false, Bool.false_and]
theorem fits_ev (a b : Int) (l : List Tk) : Ev (fun k => impl_Task_fits.f k a b l) (shapeB a b l.length) := ⟨1, fun k hk => by
  obtain ⟨m, rfl⟩ : ∃ m, k = m + 1 := ⟨k - 1, by omega⟩
  exact fits_now m a b l⟩
end Go.Proofs.Ythfemojaabejiaa.G
end
section
namespace Go.Proofs.Ythfemojaabejiaa.G
open Go.RowKit Go.Proofs.YthfemojaabejiaaW.PrintWords
set_option linter.unusedVariables false
set_option linter.unusedSimpArgs false
theorem Ev.eq {α : Type} {g : Nat → Option α} {r r' : α} (h : Ev g r) (e : r = r') : Ev g r' := e ▸ h
theorem Ev.of_eq {α : Type} {o : Option α} {r : α} (h : o = some r) : Ev (fun _ => o) r := ⟨0, fun _ _ => h⟩
def CountsTo (t : Tk) (room r : Int) : Prop := ((fitT t = true ∧ (nodT t : Int) ≤ room) → r = nodT t) ∧ (¬ (fitT t = true ∧ (nodT t : Int) ≤ room) → room < r) ∧ 1 ≤ r ∧ r ≤ 16 + 16 * room
theorem countTo_loop (ps : List Tk) (hlen : ps.length ≤ 3) (room : Int) (h0 : 0 ≤ room) (h1 : room ≤ 15)
    (ih : ∀ p ∈ ps, ∀ rm : Int, 0 ≤ rm → rm ≤ 15 → ∃ r, Ev (fun k => impl_Task_countTo.f k p.f0 p.f1 p.f2 rm) r ∧ CountsTo p rm r) :
    ∀ (d i : Nat) (n : Int), d = ps.length - i → i ≤ ps.length → 1 ≤ n → n ≤ 16 + 16 * room →
      ∃ r, Ev (fun k => impl_Task_countTo.l0 k room n ps (ps.length : Int) (i : Int)) r ∧ ((fitL (ps.drop i) = true ∧ n + (nodL (ps.drop i) : Int) ≤ room) → r = n + nodL (ps.drop i)) ∧ (¬ (fitL (ps.drop i) = true ∧ n + (nodL (ps.drop i) : Int) ≤ room) → room < r) ∧ 1 ≤ r ∧ r ≤ 16 + 16 * room := by
  intro d
  induction d with
  | zero =>
    intro i n hd hi hn hn2
    have e : i = ps.length := by omega
    subst e
    refine ⟨n, Ev.step (fun k => by rw [impl_Task_countTo.l0]) ?_, ?_⟩
    · simp only [if_neg (show ¬ ((ps.length : Int) < (ps.length : Int)) by omega)]
      exact Ev.now n
    · simp only [List.drop_length, fitL, nodL]
      refine ⟨fun _ => by simp, fun h => ?_, hn, hn2⟩
      simp at h
      omega
  | succ d ihd =>
    intro i n hd hi hn hn2
    have hlt : i < ps.length := by omega
    have hrd := rd_tk ps i hlt
    have hdr := drop_tk ps i hlt
    have hmem : ps[i] ∈ ps := List.getElem_mem hlt
    by_cases hg : n > room
    · refine ⟨16, Ev.step (fun k => by rw [impl_Task_countTo.l0]) ?_, fun h => ?_, fun _ => by omega, by omega, by omega⟩
      · simp only [if_pos (show (i : Int) < (ps.length : Int) by omega), if_pos (show (0 : Int) ≤ (i : Int) by omega), if_pos hg]
        exact Ev.now 16
      · exfalso
        have := h.2
        omega
    · obtain ⟨c, hc, hc1, hc2, hc3, hc4⟩ := ih ps[i] hmem (room - n) (by omega) (by omega)
      obtain ⟨r, hr, hr1, hr2, hr3, hr4⟩ := ihd (i + 1) (n + c) (by omega) (by omega) (by omega) (by omega)
      refine ⟨r, Ev.step (fun k => by rw [impl_Task_countTo.l0]) ?_, ?_, ?_, hr3, hr4⟩
      · simp only [if_pos (show (i : Int) < (ps.length : Int) by omega), if_pos (show (0 : Int) ≤ (i : Int) by omega), if_neg hg, hrd]
        rw [wrap_id (room - n) (by omega) (by omega), wrap_nat i (by omega)]
        refine Ev.bind hc ?_
        simp only [wrap_id (n + c) (by omega) (by omega)]
        exact hr
      · rw [hdr]
        simp only [fitL, nodL, Bool.and_eq_true]
        rintro ⟨⟨f1, f2⟩, h3⟩
        have e := hc1 ⟨f1, by omega⟩
        rw [hr1 ⟨f2, by omega⟩]
        omega
      · rw [hdr]
        simp only [fitL, nodL, Bool.and_eq_true]
        intro hno
        by_cases hp : fitT ps[i] = true ∧ (nodT ps[i] : Int) ≤ room - n
        · have e := hc1 hp
          exact hr2 (fun h => hno ⟨⟨hp.1, h.1⟩, by have := h.2; omega⟩)
        · have := hc2 hp
          exact hr2 (fun h => by have := h.2; omega)
theorem countTo_ev : ∀ t : Tk, ∀ room : Int, 0 ≤ room → room ≤ 15 → ∃ r, Ev (fun k => impl_Task_countTo.f k t.f0 t.f1 t.f2 room) r ∧ CountsTo t room r := by
  refine tk_ind fun t ih room h0 h1 => ?_
  by_cases hr : room < 1
  · refine ⟨16, Ev.step (fun k => by rw [impl_Task_countTo.f]) ?_, ?_, ?_, by omega, by omega⟩
    · simp only [if_pos hr]
      refine Ev.step (fun k => by rw [impl_Task_countTo.j0]) ?_
      simp only [if_true]
      exact Ev.now 16
    · rintro ⟨_, h⟩
      have := nodT_pos t
      omega
    · intro _
      omega
  · have hshape := fits_ev t.f0 t.f1 t.f2
    by_cases hf : shapeB t.f0 t.f1 t.f2.length = true
    · obtain ⟨r, hr1, hr2, hr3, hr4, hr5⟩ := countTo_loop t.f2 (shapeB_len hf) room h0 h1 ih t.f2.length 0 1 (by omega) (by omega) (by omega) (by omega)
      refine ⟨r, Ev.step (fun k => by rw [impl_Task_countTo.f]) ?_, ?_, ?_, hr4, hr5⟩
      · simp only [if_neg hr]
        refine Ev.bind hshape ?_
        simp only [hf, Bool.not_true]
        refine Ev.step (fun k => by rw [impl_Task_countTo.j0]) ?_
        simp only [Bool.false_eq_true, if_false]
        exact hr1
      · rw [fitT_eq, nodT_eq, hf]
        simp only [List.drop_zero, Bool.true_and] at hr2 ⊢
        rintro ⟨a, b⟩
        rw [hr2 ⟨a, by omega⟩]
        omega
      · rw [fitT_eq, nodT_eq, hf]
        simp only [List.drop_zero, Bool.true_and] at hr3 ⊢
        intro h
        exact hr3 (fun ⟨a, b⟩ => h ⟨a, by omega⟩)
    · refine ⟨16, Ev.step (fun k => by rw [impl_Task_countTo.f]) ?_, ?_, ?_, by omega, by omega⟩
      · simp only [if_neg hr]
        refine Ev.bind hshape ?_
        simp only [Bool.not_eq_true] at hf
        simp only [hf, Bool.not_false]
        refine Ev.step (fun k => by rw [impl_Task_countTo.j0]) ?_
        simp only [if_true]
        exact Ev.now 16
      · rw [fitT_eq]
        intro h
        simp [hf] at h
      · intro _
        omega
theorem count_loop (ps : List Tk) (hlen : ps.length ≤ 3) :
    ∀ (d i : Nat) (n : Int), d = ps.length - i → i ≤ ps.length → 1 ≤ n → n ≤ 300 →
      ∃ r, Ev (fun k => impl_Task_count.l0 k n ps (ps.length : Int) (i : Int)) r ∧ ((fitL (ps.drop i) = true ∧ n + (nodL (ps.drop i) : Int) ≤ 15) → r = n + nodL (ps.drop i)) ∧ (¬ (fitL (ps.drop i) = true ∧ n + (nodL (ps.drop i) : Int) ≤ 15) → 15 < r) := by
  intro d
  induction d with
  | zero =>
    intro i n hd hi hn hn2
    have e : i = ps.length := by omega
    subst e
    refine ⟨n, Ev.step (fun k => by rw [impl_Task_count.l0]) ?_, ?_⟩
    · simp only [if_neg (show ¬ ((ps.length : Int) < (ps.length : Int)) by omega)]
      exact Ev.now n
    · simp only [List.drop_length, fitL, nodL]
      refine ⟨fun _ => by simp, fun h => ?_⟩
      simp at h
      omega
  | succ d ihd =>
    intro i n hd hi hn hn2
    have hlt : i < ps.length := by omega
    have hrd := rd_tk ps i hlt
    have hdr := drop_tk ps i hlt
    by_cases hg : n > 15
    · refine ⟨n, Ev.step (fun k => by rw [impl_Task_count.l0]) ?_, fun h => ?_, fun _ => by omega⟩
      · simp only [if_pos (show (i : Int) < (ps.length : Int) by omega), if_pos (show (0 : Int) ≤ (i : Int) by omega), if_pos hg]
        exact Ev.now n
      · exfalso
        have := h.2
        omega
    · obtain ⟨c, hc, hc1, hc2, hc3, hc4⟩ := countTo_ev ps[i] (15 - n) (by omega) (by omega)
      obtain ⟨r, hr, hr1, hr2⟩ := ihd (i + 1) (n + c) (by omega) (by omega) (by omega) (by omega)
      refine ⟨r, Ev.step (fun k => by rw [impl_Task_count.l0]) ?_, ?_, ?_⟩
      · simp only [if_pos (show (i : Int) < (ps.length : Int) by omega), if_pos (show (0 : Int) ≤ (i : Int) by omega), if_neg hg, hrd]
        rw [wrap_id (15 - n) (by omega) (by omega), wrap_nat i (by omega)]
        refine Ev.bind hc ?_
        simp only [wrap_id (n + c) (by omega) (by omega)]
        exact hr
      · rw [hdr]
        simp only [fitL, nodL, Bool.and_eq_true]
        rintro ⟨⟨f1, f2⟩, h3⟩
        have e := hc1 ⟨f1, by omega⟩
        rw [hr1 ⟨f2, by omega⟩]
        omega
      · rw [hdr]
        simp only [fitL, nodL, Bool.and_eq_true]
        intro hno
        by_cases hp : fitT ps[i] = true ∧ (nodT ps[i] : Int) ≤ 15 - n
        · have e := hc1 hp
          exact hr2 (fun h => hno ⟨⟨hp.1, h.1⟩, by have := h.2; omega⟩)
        · have := hc2 hp
          exact hr2 (fun h => by have := h.2; omega)
theorem count_ev (t : Tk) : ∃ r, Ev (fun k => impl_Task_count.f k t.f0 t.f1 t.f2) r ∧ (okT t = true → r = nodT t) ∧ (okT t = false → 15 < r) := by
  have hshape := fits_ev t.f0 t.f1 t.f2
  by_cases hf : shapeB t.f0 t.f1 t.f2.length = true
  · obtain ⟨r, hr1, hr2, hr3⟩ := count_loop t.f2 (shapeB_len hf) t.f2.length 0 1 (by omega) (by omega) (by omega) (by omega)
    refine ⟨r, ?_, ?_, ?_⟩
    · unfold impl_Task_count.f
      refine Ev.bind hshape ?_
      simp only [hf, if_true]
      exact hr1
    · intro h
      have h1 := okT_fit h
      have h2 := okT_nod h
      rw [fitT_eq, Bool.and_eq_true] at h1
      rw [nodT_eq] at h2 ⊢
      simp only [List.drop_zero] at hr2
      rw [hr2 ⟨h1.2, by omega⟩]
      omega
    · intro h
      simp only [List.drop_zero] at hr3
      refine hr3 (fun ⟨a, b⟩ => ?_)
      rw [okT, fitT_eq, nodT_eq, hf, a] at h
      simp at h
      omega
  · refine ⟨16, ?_, ?_, fun _ => by omega⟩
    · unfold impl_Task_count.f
      refine Ev.bind hshape ?_
      simp only [hf, Bool.false_eq_true, if_false]
      exact Ev.now 16
    · intro h
      have h1 := okT_fit h
      rw [fitT_eq, Bool.and_eq_true] at h1
      exact absurd h1.1 hf
theorem implOk_ev (t : Tk) : Ev (fun k => impl_TaskOk.f k t.f0 t.f1 t.f2) (okT t) := by
  obtain ⟨r, hr, h1, h2⟩ := count_ev t
  unfold impl_TaskOk.f
  refine Ev.bind hr ?_
  refine Ev.of_eq ?_
  cases h : okT t with
  | true => have := h1 h; have := okT_nod h; simp; omega
  | false => have := h2 h; simp; omega
theorem l1Shape_now (k : Nat) (a : Int) : spec_l1Shape.f (k + 1) a = some (if a = 0 then (0, 96, true) else if a = 1 then (0, 9, true) else if a = 2 then (2, 0, true) else if a = 3 then (2, 0, true) else if a = 4 then (3, 0, true) else if a = 5 then (1, 9, true) else (0, 0, false)) := by
  unfold spec_l1Shape.f
  simp only [spec_l1Shape.j0]
  repeat' split
  all_goals simp_all
theorem l1Shape_ev (a : Int) : Ev (fun k => spec_l1Shape.f k a) (if a = 0 then (0, 96, true) else if a = 1 then (0, 9, true) else if a = 2 then (2, 0, true) else if a = 3 then (2, 0, true) else if a = 4 then (3, 0, true) else if a = 5 then (1, 9, true) else (0, 0, false)) := ⟨1, fun k hk => by
  obtain ⟨m, rfl⟩ : ∃ m, k = m + 1 := ⟨k - 1, by omega⟩
  exact l1Shape_now m a⟩
theorem l6In_ev (a b c : Int) : spec_l6In.f a b c = some (decide (b ≤ a ∧ a ≤ c)) := by
  unfold spec_l6In.f
  by_cases h : a ≥ b
  · rw [if_pos h]; simp only [ge_iff_le] at h; simp [h]
  · rw [if_neg h]; simp only [ge_iff_le] at h; simp [h]
theorem l1Fit_loop (a b : Int) (ps : List Tk) (hlen : ps.length ≤ 3) (ih : ∀ p ∈ ps, Ev (fun k => spec_l1Fit.f k p.f0 p.f1 p.f2) (fitT p)) :
    ∀ (d i : Nat), d = ps.length - i → i ≤ ps.length → Ev (fun k => spec_l1Fit.l0 k (i : Int) a b ps) (fitL (ps.drop i)) := by
  intro d
  induction d with
  | zero =>
    intro i hd hi
    have e : i = ps.length := by omega
    subst e
    refine Ev.step (fun k => by rw [spec_l1Fit.l0]) ?_
    simp only [if_neg (show ¬ ((ps.length : Int) < (ps.length : Int)) by omega), List.drop_length, fitL]
    exact Ev.now true
  | succ d ihd =>
    intro i hd hi
    have hlt : i < ps.length := by omega
    have hrd := rd_tk ps i hlt
    have hmem : ps[i] ∈ ps := List.getElem_mem hlt
    rw [drop_tk ps i hlt]
    refine Ev.step (fun k => by rw [spec_l1Fit.l0]) ?_
    simp only [if_pos (show (i : Int) < (ps.length : Int) by omega), if_pos (show (0 : Int) ≤ (i : Int) by omega), hrd]
    refine Ev.bind (ih _ hmem) ?_
    simp only [fitL]
    cases h : fitT ps[i] with
    | true =>
      simp only [if_true, Bool.true_and, wrap_nat i (by omega)]
      exact ihd (i + 1) (by omega) (by omega)
    | false =>
      simp only [Bool.false_eq_true, if_false, Bool.false_and]
      exact Ev.now false
theorem l1Fit_ev : ∀ t : Tk, Ev (fun k => spec_l1Fit.f k t.f0 t.f1 t.f2) (fitT t) := by
  refine tk_ind fun t ih => ?_
  refine Ev.step (fun k => by rw [spec_l1Fit.f]) ?_
  refine Ev.bind (l1Shape_ev t.f0) ?_
  rw [fitT_eq]
  have bad : Ev (fun k => spec_l1Fit.j0 k true t.f0 t.f1 t.f2) false := by
    refine Ev.step (fun k => by rw [spec_l1Fit.j0]) ?_
    simp only [if_true]
    exact Ev.now false
  have good : t.f2.length ≤ 3 → ∀ c : Bool, Ev (fun k => spec_l1Fit.j0 k (!c) t.f0 t.f1 t.f2) (c && fitL t.f2) := by
    intro hl c
    refine Ev.step (fun k => by rw [spec_l1Fit.j0]) ?_
    cases c with
    | false =>
      simp only [Bool.not_false, if_true, Bool.false_and]
      exact Ev.now false
    | true =>
      simp only [Bool.not_true, Bool.false_eq_true, if_false, Bool.true_and]
      exact l1Fit_loop t.f0 t.f1 t.f2 hl ih t.f2.length 0 (by omega) (by omega)
  have e0 : ∀ m : Nat, ((t.f2.length : Int) = (m : Int)) = (t.f2.length = m) := fun m => by rw [eq_iff_iff]; omega
  have e1 : ((t.f2.length : Int) = 0) = (t.f2.length = 0) := e0 0
  have e2 : ((t.f2.length : Int) = 1) = (t.f2.length = 1) := e0 1
  have e3 : ((t.f2.length : Int) = 2) = (t.f2.length = 2) := e0 2
  have e4 : ((t.f2.length : Int) = 3) = (t.f2.length = 3) := e0 3
  simp only [l6In_ev, Option.bind_some]
  unfold shapeB
  by_cases h0 : t.f0 = 0
  · simp only [h0, if_true, e1] at good bad ⊢
    by_cases hl : t.f2.length = 0
    · simp only [hl, if_true, decide_true, Bool.and_true] at good ⊢
      exact good (by omega) _
    · simp only [hl, if_false, decide_false, Bool.and_false, Bool.false_and]
      exact bad
  by_cases h1 : t.f0 = 1
  · have e9 : ∀ x : Int, (0 ≤ x ∧ x < 10) = (0 ≤ x ∧ x ≤ 9) := fun x => by rw [eq_iff_iff]; omega
    simp only [h1, if_true, e1, e9, show ¬ ((1 : Int) = 0) by decide, if_false] at good bad ⊢
    by_cases hl : t.f2.length = 0
    · simp only [hl, if_true, decide_true, Bool.and_true] at good ⊢
      exact good (by omega) _
    · simp only [hl, if_false, decide_false, Bool.and_false, Bool.false_and]
      exact bad
  by_cases h2 : t.f0 = 2
  · have e9 : ∀ x : Int, (x = 0) = (0 ≤ x ∧ x ≤ 0) := fun x => by rw [eq_iff_iff]; omega
    simp only [h2, if_true, e3, e9 t.f1, show ¬ ((2 : Int) = 0) by decide, show ¬ ((2 : Int) = 1) by decide, if_false] at good bad ⊢
    by_cases hl : t.f2.length = 2
    · simp only [hl, if_true, decide_true, Bool.and_true] at good ⊢
      exact good (by omega) _
    · simp only [hl, if_false, decide_false, Bool.and_false, Bool.false_and]
      exact bad
  by_cases h3 : t.f0 = 3
  · have e9 : ∀ x : Int, (x = 0) = (0 ≤ x ∧ x ≤ 0) := fun x => by rw [eq_iff_iff]; omega
    simp only [h3, if_true, e3, e9 t.f1, show ¬ ((3 : Int) = 0) by decide, show ¬ ((3 : Int) = 1) by decide, show ¬ ((3 : Int) = 2) by decide, if_false] at good bad ⊢
    by_cases hl : t.f2.length = 2
    · simp only [hl, if_true, decide_true, Bool.and_true] at good ⊢
      exact good (by omega) _
    · simp only [hl, if_false, decide_false, Bool.and_false, Bool.false_and]
      exact bad
  by_cases h4 : t.f0 = 4
  · have e9 : ∀ x : Int, (x = 0) = (0 ≤ x ∧ x ≤ 0) := fun x => by rw [eq_iff_iff]; omega
    simp only [h4, if_true, e4, e9 t.f1, show ¬ ((4 : Int) = 0) by decide, show ¬ ((4 : Int) = 1) by decide, show ¬ ((4 : Int) = 2) by decide, show ¬ ((4 : Int) = 3) by decide, if_false] at good bad ⊢
    by_cases hl : t.f2.length = 3
    · simp only [hl, if_true, decide_true, Bool.and_true] at good ⊢
      exact good (by omega) _
    · simp only [hl, if_false, decide_false, Bool.and_false, Bool.false_and]
      exact bad
  by_cases h5 : t.f0 = 5
  · have e9 : ∀ x : Int, (0 ≤ x ∧ x < 10) = (0 ≤ x ∧ x ≤ 9) := fun x => by rw [eq_iff_iff]; omega
    simp only [h5, if_true, e2, e9 t.f1, show ¬ ((5 : Int) = 0) by decide, show ¬ ((5 : Int) = 1) by decide, show ¬ ((5 : Int) = 2) by decide, show ¬ ((5 : Int) = 3) by decide, show ¬ ((5 : Int) = 4) by decide, if_false] at good bad ⊢
    by_cases hl : t.f2.length = 1
    · simp only [hl, if_true, decide_true, Bool.and_true] at good ⊢
      exact good (by omega) _
    · simp only [hl, if_false, decide_false, Bool.and_false, Bool.false_and]
      exact bad
  · simp only [h0, h1, h2, h3, h4, h5, if_false, Bool.false_eq_true, Bool.false_and]
    exact bad
theorem l1Nodes_loop (a b : Int) (ps : List Tk) (hlen : ps.length ≤ 4000000000) (ih : ∀ p ∈ ps, (nodT p : Int) ≤ 4000000000 → Ev (fun k => spec_l1Nodes.f k p.f0 p.f1 p.f2) (nodT p : Int)) :
    ∀ (d i : Nat) (n : Int), d = ps.length - i → i ≤ ps.length → 0 ≤ n → n + (nodL (ps.drop i) : Int) ≤ 4000000000 → Ev (fun k => spec_l1Nodes.l0 k n (i : Int) a b ps) (n + nodL (ps.drop i)) := by
  intro d
  induction d with
  | zero =>
    intro i n hd hi hn hb
    have e : i = ps.length := by omega
    subst e
    refine Ev.step (fun k => by rw [spec_l1Nodes.l0]) ?_
    simp only [if_neg (show ¬ ((ps.length : Int) < (ps.length : Int)) by omega), List.drop_length, nodL]
    exact Ev.eq (Ev.now n) (by omega)
  | succ d ihd =>
    intro i n hd hi hn hb
    have hlt : i < ps.length := by omega
    have hrd := rd_tk ps i hlt
    have hmem : ps[i] ∈ ps := List.getElem_mem hlt
    rw [drop_tk ps i hlt] at hb ⊢
    simp only [nodL] at hb ⊢
    refine Ev.step (fun k => by rw [spec_l1Nodes.l0]) ?_
    simp only [if_pos (show (i : Int) < (ps.length : Int) by omega), if_pos (show (0 : Int) ≤ (i : Int) by omega), hrd]
    refine Ev.bind (ih _ hmem (by omega)) ?_
    simp only [wrap_nat i (by omega), wrap_id (n + (nodT ps[i] : Int)) (by omega) (by omega)]
    exact Ev.eq (ihd (i + 1) (n + nodT ps[i]) (by omega) (by omega) (by omega) (by omega)) (by omega)
theorem l1Nodes_ev : ∀ t : Tk, (nodT t : Int) ≤ 4000000000 → Ev (fun k => spec_l1Nodes.f k t.f0 t.f1 t.f2) (nodT t : Int) := by
  refine tk_ind fun t ih hb => ?_
  rw [nodT_eq] at hb ⊢
  have := nodL_len t.f2
  refine Ev.step (fun k => by rw [spec_l1Nodes.f]) ?_
  exact Ev.eq (l1Nodes_loop t.f0 t.f1 t.f2 (by omega) ih t.f2.length 0 1 (by omega) (by omega) (by omega) (by rw [List.drop_zero]; omega)) (by rw [List.drop_zero]; omega)
theorem specOk_ev (t : Tk) (hb : (nodT t : Int) ≤ 4000000000) : Ev (fun k => spec_TaskOk.f k t.f0 t.f1 t.f2) (okT t) := by
  unfold spec_TaskOk.f
  refine Ev.bind (l1Fit_ev t) ?_
  unfold okT
  cases h : fitT t with
  | false =>
    simp only [Bool.false_eq_true, if_false, Bool.false_and]
    exact Ev.now false
  | true =>
    simp only [if_true, Bool.true_and]
    refine Ev.bind (l1Nodes_ev t hb) ?_
    refine Ev.of_eq ?_
    congr 1
    rw [Bool.eq_iff_iff]
    simp only [decide_eq_true_eq]
    omega
end Go.Proofs.Ythfemojaabejiaa.G
end
section
namespace Go.Proofs.Ythfemojaabejiaa.G
open Go.RowKit Go.Proofs.YthfemojaabejiaaW.PrintWords
set_option linter.unusedVariables false
set_option linter.unusedSimpArgs false
theorem implMay_ev (t : Tk) : Ev (fun k => impl_TaskMay.f k t.f0 t.f1 t.f2) (mayK t) := by
  have h := implOk_ev t
  unfold impl_TaskMay.f
  refine Ev.bind h ?_
  cases ht : okT t with
  | false =>
    simp only [Bool.false_eq_true, if_false]
    exact Ev.eq (Ev.now _) (by simp [mayK, ht])
  | true =>
    have hf := okT_fit ht
    have e : (⟨t.f0, t.f1, t.f2⟩ : Tk) = t := by cases t; rfl
    simp only [if_true, e, hf]
    exact Ev.eq (Ev.now _) (by simp [mayK, ht])
theorem specMay_ev (t : Tk) (hb : (nodT t : Int) ≤ 4000000000) : Ev (fun k => spec_TaskMay.f k t.f0 t.f1 t.f2) (mayK t) := by
  have h := specOk_ev t hb
  unfold spec_TaskMay.f
  refine Ev.bind h ?_
  cases ht : okT t with
  | false =>
    simp only [Bool.false_eq_true, if_false]
    exact Ev.eq (Ev.now _) (by simp [mayK, ht])
  | true =>
    have hf := okT_fit ht
    have e : (⟨t.f0, t.f1, t.f2⟩ : Tk) = t := by cases t; rfl
    simp only [if_true, e, hf]
    exact Ev.eq (Ev.now _) (by simp [mayK, ht])
end Go.Proofs.Ythfemojaabejiaa.G
end
section
namespace Go.Proofs.Ythfemojaabejiaa.G
open Go.RowKit Go.Proofs.YthfemojaabejiaaW.PrintWords
set_option linter.unusedVariables false
set_option linter.unusedSimpArgs false
def rowsOk : List Bool → List Tk → Bool
  | m :: ms, t :: ts => (okT t && (m || ((t.f0 == 0) && (t.f1 == 0)))) && rowsOk ms ts
  | _, _ => true
def sheetOk (made : List Bool) (tasks : List Tk) : Bool := (decide (made.length = tasks.length) && decide (made.length ≤ 10)) && rowsOk made tasks
theorem rd_bool (l : List Bool) (i : Nat) (h : i < l.length) : rdOf false l (i : Int) = l[i] := by
  simp only [rdOf, Int.toNat_natCast, List.getD_eq_getElem?_getD, List.getElem?_eq_getElem h, Option.getD_some]
theorem sheetOk_len {made : List Bool} {tasks : List Tk} (h : sheetOk made tasks = true) : made.length = tasks.length ∧ made.length ≤ 10 := by
  simp only [sheetOk, Bool.and_eq_true, decide_eq_true_eq] at h
  exact h.1
theorem implSheet_loop (made : List Bool) (tasks : List Tk) (he : made.length = tasks.length) (hl : made.length ≤ 10) :
    ∀ (d i : Nat), d = tasks.length - i → i ≤ tasks.length → Ev (fun k => impl_SheetOk.l0 k tasks (tasks.length : Int) (i : Int) made tasks) (rowsOk (made.drop i) (tasks.drop i)) := by
  intro d
  induction d with
  | zero =>
    intro i hd hi
    have e : i = tasks.length := by omega
    subst e
    refine Ev.step (fun k => by rw [impl_SheetOk.l0]) ?_
    simp only [if_neg (show ¬ ((tasks.length : Int) < (tasks.length : Int)) by omega), List.drop_length]
    exact Ev.eq (Ev.now true) (by unfold rowsOk; split <;> simp_all)
  | succ d ihd =>
    intro i hd hi
    have hlt : i < tasks.length := by omega
    have hlm : i < made.length := by omega
    rw [drop_tk made i hlm, drop_tk tasks i hlt, rowsOk]
    refine Ev.step (fun k => by rw [impl_SheetOk.l0]) ?_
    simp only [if_pos (show (i : Int) < (tasks.length : Int) by omega), if_pos (show (0 : Int) ≤ (i : Int) by omega), if_pos (show (i : Int) < (made.length : Int) by omega), rd_tk tasks i hlt, rd_bool made i hlm]
    refine Ev.bind (implOk_ev _) ?_
    have hn := ihd (i + 1) (by omega) (by omega)
    cases h : okT tasks[i] with
    | false =>
      simp only [Bool.false_eq_true, if_false, Bool.false_and]
      exact Ev.now false
    | true =>
      cases hm : made[i] with
      | true =>
        simp only [if_true, Bool.true_and, Bool.true_or, wrap_nat i (by omega)]
        exact hn
      | false =>
        simp only [if_true, Bool.true_and, Bool.false_or, Bool.false_eq_true, if_false, wrap_nat i (by omega)]
        by_cases h0 : tasks[i].f0 = 0
        · by_cases h1 : tasks[i].f1 = 0
          · simp only [h0, h1, if_true, beq_self_eq_true, Bool.true_and]
            exact hn
          · simp only [h0, h1, if_true, if_false, beq_self_eq_true, beq_eq_false_iff_ne.mpr h1, Bool.true_and, Bool.and_false, Bool.false_and]
            exact Ev.now false
        · simp only [h0, if_false, beq_eq_false_iff_ne.mpr h0, Bool.false_and]
          exact Ev.now false
theorem implSheet_ev (made : List Bool) (tasks : List Tk) : Ev (fun k => impl_SheetOk.f k made tasks) (sheetOk made tasks) := by
  unfold impl_SheetOk.f
  by_cases he : made.length = tasks.length
  · simp only [if_pos (show (made.length : Int) = (tasks.length : Int) by omega)]
    refine Ev.step (fun k => by rw [impl_SheetOk.j0]) ?_
    by_cases hl : made.length ≤ 10
    · simp only [decide_eq_false (show ¬ ((made.length : Int) > 10) by omega), Bool.false_eq_true, if_false]
      refine Ev.eq (implSheet_loop made tasks he hl tasks.length 0 (by omega) (by omega)) ?_
      rw [List.drop_zero, List.drop_zero, sheetOk, decide_eq_true he, decide_eq_true hl]
      simp
    · simp only [decide_eq_true (show ((made.length : Int) > 10) by omega), if_true]
      exact Ev.eq (Ev.now false) (by rw [sheetOk, decide_eq_false hl]; simp)
  · simp only [if_neg (show ¬ ((made.length : Int) = (tasks.length : Int)) by omega)]
    refine Ev.step (fun k => by rw [impl_SheetOk.j0]) ?_
    simp only [if_true]
    exact Ev.eq (Ev.now false) (by rw [sheetOk, decide_eq_false he]; simp)
theorem specSheet_loop (made : List Bool) (tasks : List Tk) (he : made.length = tasks.length) (hl : made.length ≤ 10) (hb : ∀ t ∈ tasks, (nodT t : Int) ≤ 4000000000) :
    ∀ (d i : Nat), d = made.length - i → i ≤ made.length → Ev (fun k => spec_SheetOk.l0 k (i : Int) made tasks) (rowsOk (made.drop i) (tasks.drop i)) := by
  intro d
  induction d with
  | zero =>
    intro i hd hi
    have e : i = made.length := by omega
    subst e
    refine Ev.step (fun k => by rw [spec_SheetOk.l0]) ?_
    simp only [if_neg (show ¬ ((made.length : Int) < (made.length : Int)) by omega), List.drop_length]
    exact Ev.eq (Ev.now true) (by unfold rowsOk; rfl)
  | succ d ihd =>
    intro i hd hi
    have hlt : i < tasks.length := by omega
    have hlm : i < made.length := by omega
    rw [drop_tk made i hlm, drop_tk tasks i hlt, rowsOk]
    refine Ev.step (fun k => by rw [spec_SheetOk.l0]) ?_
    simp only [if_pos (show (i : Int) < (tasks.length : Int) by omega), if_pos (show (0 : Int) ≤ (i : Int) by omega), if_pos (show (i : Int) < (made.length : Int) by omega), rd_tk tasks i hlt, rd_bool made i hlm]
    refine Ev.bind (specOk_ev _ (hb _ (List.getElem_mem hlt))) ?_
    have hn := ihd (i + 1) (by omega) (by omega)
    cases h : okT tasks[i] with
    | false =>
      simp only [Bool.false_eq_true, if_false, Bool.false_and]
      exact Ev.now false
    | true =>
      cases hm : made[i] with
      | true =>
        simp only [if_true, Bool.true_and, Bool.true_or, wrap_nat i (by omega)]
        exact hn
      | false =>
        simp only [if_true, Bool.true_and, Bool.false_or, Bool.false_eq_true, if_false, wrap_nat i (by omega)]
        by_cases h0 : tasks[i].f0 = 0
        · by_cases h1 : tasks[i].f1 = 0
          · simp only [h0, h1, if_true, beq_self_eq_true, Bool.true_and]
            exact hn
          · simp only [h0, h1, if_true, if_false, beq_self_eq_true, beq_eq_false_iff_ne.mpr h1, Bool.true_and, Bool.and_false, Bool.false_and]
            exact Ev.now false
        · simp only [h0, if_false, beq_eq_false_iff_ne.mpr h0, Bool.false_and]
          exact Ev.now false
theorem specSheet_ev (made : List Bool) (tasks : List Tk) (hb : ∀ t ∈ tasks, (nodT t : Int) ≤ 4000000000) : Ev (fun k => spec_SheetOk.f k made tasks) (sheetOk made tasks) := by
  unfold spec_SheetOk.f
  by_cases he : made.length = tasks.length
  · simp only [if_pos (show (made.length : Int) = (tasks.length : Int) by omega)]
    refine Ev.step (fun k => by rw [spec_SheetOk.j0]) ?_
    by_cases hl : made.length ≤ 10
    · simp only [decide_eq_false (show ¬ ((made.length : Int) > 10) by omega), Bool.false_eq_true, if_false]
      refine Ev.eq (specSheet_loop made tasks he hl hb made.length 0 (by omega) (by omega)) ?_
      rw [List.drop_zero, List.drop_zero, sheetOk, decide_eq_true he, decide_eq_true hl]
      simp
    · simp only [decide_eq_true (show ((made.length : Int) > 10) by omega), if_true]
      exact Ev.eq (Ev.now false) (by rw [sheetOk, decide_eq_false hl]; simp)
  · simp only [if_neg (show ¬ ((made.length : Int) = (tasks.length : Int)) by omega)]
    refine Ev.step (fun k => by rw [spec_SheetOk.j0]) ?_
    simp only [if_true]
    exact Ev.eq (Ev.now false) (by rw [sheetOk, decide_eq_false he]; simp)
end Go.Proofs.Ythfemojaabejiaa.G
end
section
namespace Go.Proofs.Ythfemojaabejiaa.G
open Go.RowKit Go.Proofs.YthfemojaabejiaaW.PrintWords
set_option linter.unusedVariables false
set_option linter.unusedSimpArgs false
def mayI (made : List Bool) (t : Tk) : List Int := (mayK t).filter fun j => made.getD j.toNat false
def mayN (made : List Bool) (tasks : List Tk) (k : Nat) : List Nat := (mayI made (tasks.getD k ⟨0, 0, []⟩)).map Int.toNat
theorem castL_toNat : ∀ l : List Int, (∀ x ∈ l, 0 ≤ x) → castL (l.map Int.toNat) = l
  | [], _ => rfl
  | x :: l, h => by
    have h1 := castL_toNat l (fun y hy => h y (List.mem_cons_of_mem _ hy))
    have h2 := h x List.mem_cons_self
    show ((x.toNat : Nat) : Int) :: castL (l.map Int.toNat) = x :: l
    rw [h1, Int.toNat_of_nonneg h2]
theorem mayI_pos (made : List Bool) (t : Tk) : ∀ x ∈ mayI made t, 0 ≤ x := fun x hx => (mayK_rng t x (List.mem_filter.1 hx).1).1
theorem mayN_cast (made : List Bool) (tasks : List Tk) (k : Nat) : castL (mayN made tasks k) = mayI made (tasks.getD k ⟨0, 0, []⟩) := castL_toNat _ (mayI_pos _ _)
theorem mayN_mem {made : List Bool} {tasks : List Tk} {k j : Nat} (h : j ∈ mayN made tasks k) : j < made.length ∧ made.getD j false = true := by
  unfold mayN at h
  obtain ⟨x, hx, e⟩ := List.mem_map.1 h
  subst e
  have h2 : made.getD x.toNat false = true := (List.mem_filter.1 hx).2
  refine ⟨?_, h2⟩
  rcases Nat.lt_or_ge x.toNat made.length with h3 | h3
  · exact h3
  · rw [List.getD_eq_getElem?_getD, List.getElem?_eq_none h3] at h2; cases h2
theorem mayN_len (made : List Bool) (tasks : List Tk) (k : Nat) : (mayN made tasks k).length ≤ 10 := by
  unfold mayN mayI
  rw [List.length_map]
  exact Nat.le_trans (List.length_filter_le _ _) (mayK_len _)
theorem makes_int (made : List Bool) (tasks : List Tk) (x : Int) (h : 0 ≤ x) : impl_Sheet_makes.f made tasks x = some (made.getD x.toNat false) := by
  have := makes_nat made tasks x.toNat
  rwa [Int.toNat_of_nonneg h] at this
theorem rd_get (l : List Int) (i : Nat) (h : i < l.length) : rd l (i : Int) = l[i] := by
  simp only [rd, Int.toNat_natCast, List.getD_eq_getElem?_getD, List.getElem?_eq_getElem h, Option.getD_some]
theorem implShMay_loop (made : List Bool) (tasks : List Tk) (l : List Int) (hl : l.length ≤ 1000) (hp : ∀ x ∈ l, 0 ≤ x) :
    ∀ (d i : Nat) (acc : List Int), d = l.length - i → i ≤ l.length → acc.length ≤ i → Ev (fun k => impl_Sheet_may.l0 k acc l (l.length : Int) (i : Int) made tasks) (acc ++ (l.drop i).filter fun j => made.getD j.toNat false) := by
  intro d
  induction d with
  | zero =>
    intro i acc hd hi ha
    have e : i = l.length := by omega
    subst e
    refine Ev.step (fun k => by rw [impl_Sheet_may.l0]) ?_
    simp only [if_neg (show ¬ ((l.length : Int) < (l.length : Int)) by omega), List.drop_length, List.filter_nil, List.append_nil]
    exact Ev.now _
  | succ d ihd =>
    intro i acc hd hi ha
    have hlt : i < l.length := by omega
    rw [List.drop_eq_getElem_cons hlt, List.filter_cons]
    refine Ev.step (fun k => by rw [impl_Sheet_may.l0]) ?_
    simp only [if_pos (show (i : Int) < (l.length : Int) by omega), if_pos (show (0 : Int) ≤ (i : Int) by omega), rd_get l i hlt, makes_int made tasks l[i] (hp _ (List.getElem_mem hlt)), Option.bind_some, wrap_nat i (by omega)]
    cases hm : made.getD l[i].toNat false with
    | true =>
      simp only [if_true, if_pos (show acc.length < 17592186044416 by omega)]
      refine Ev.eq (ihd (i + 1) (acc ++ [l[i]]) (by omega) (by omega) (by rw [List.length_append, List.length_singleton]; omega)) ?_
      simp
    | false =>
      simp only [Bool.false_eq_true, if_false]
      exact ihd (i + 1) acc (by omega) (by omega) (by omega)
theorem rd_tkD (ts : List Tk) (k : Nat) (h : k < ts.length) : rd_T141 ts (k : Int) = ts.getD k ⟨0, 0, []⟩ := by
  rw [rd_tk ts k h, List.getD_eq_getElem?_getD, List.getElem?_eq_getElem h, Option.getD_some]
theorem implShMay_ev (made : List Bool) (tasks : List Tk) (k : Nat) (hk : k < tasks.length) : Ev (fun r => impl_Sheet_may.f r made tasks (k : Int)) (castL (mayN made tasks k)) := by
  unfold impl_Sheet_may.f
  simp only [if_pos (show (0 : Int) ≤ (k : Int) by omega), if_pos (show (k : Int) < (tasks.length : Int) by omega), rd_tkD tasks k hk]
  refine Ev.bind (implMay_ev _) ?_
  rw [mayN_cast]
  refine Ev.eq (implShMay_loop made tasks (mayK (tasks.getD k ⟨0, 0, []⟩)) (Nat.le_trans (mayK_len _) (by omega)) (fun x hx => (mayK_rng _ x hx).1) (mayK (tasks.getD k ⟨0, 0, []⟩)).length 0 [] (by omega) (by omega) (by simp)) ?_
  rw [List.drop_zero, List.nil_append]
  rfl
theorem implKeys_loop (n : Nat) (hn : n ≤ 1000) : ∀ (d i : Nat), d = n - i → i ≤ n → Ev (fun k => impl_Sheet_keys.l0 k (castL (List.range i)) (n : Int) (i : Int)) (castL (List.range n)) := by
  intro d
  induction d with
  | zero =>
    intro i hd hi
    have e : i = n := by omega
    subst e
    refine Ev.step (fun k => by rw [impl_Sheet_keys.l0]) ?_
    simp only [if_neg (show ¬ ((i : Int) < (i : Int)) by omega)]
    exact Ev.now _
  | succ d ihd =>
    intro i hd hi
    refine Ev.step (fun k => by rw [impl_Sheet_keys.l0]) ?_
    simp only [if_pos (show (i : Int) < (n : Int) by omega), if_pos (show (castL (List.range i)).length < 17592186044416 by rw [castL_len, List.length_range]; omega), wrap_nat i (by omega)]
    refine Ev.eq (r := castL (List.range n)) ?_ rfl
    have := ihd (i + 1) (by omega) (by omega)
    rw [List.range_succ, castL_snoc] at this
    exact this
theorem implKeys_ev (made : List Bool) (tasks : List Tk) (hn : made.length ≤ 1000) : Ev (fun k => impl_Sheet_keys.f k made tasks) (castL (List.range made.length)) := by
  unfold impl_Sheet_keys.f
  exact implKeys_loop made.length hn made.length 0 (by omega) (by omega)
end Go.Proofs.Ythfemojaabejiaa.G
end
section
namespace Go.Proofs.Ythfemojaabejiaa.G
open Go.RowKit Go.Proofs.YthfemojaabejiaaW.PrintWords
set_option linter.unusedVariables false
set_option linter.unusedSimpArgs false
def madeB (made : List Bool) (k : Nat) : Bool := made.getD k false
open Classical in
noncomputable def reachB (made : List Bool) (tasks : List Tk) (L : List Nat) (k : Nat) : Bool := decide (Topo.Reach (madeB made) (mayN made tasks) L k)
open Classical in
theorem reachB_iff {made : List Bool} {tasks : List Tk} {L : List Nat} {k : Nat} : reachB made tasks L k = true ↔ Topo.Reach (madeB made) (mayN made tasks) L k := by
  unfold reachB
  exact decide_eq_true_iff
def safeB (made : List Bool) (tasks : List Tk) : Bool := sheetOk made tasks && (Topo.topo made.length (madeB made) (mayN made tasks) (Topo.needed made.length (madeB made)).length []).isSome
noncomputable def orderL (made : List Bool) (tasks : List Tk) (L : List Nat) : Option (List Nat) := Topo.topo made.length (reachB made tasks L) (mayN made tasks) (Topo.needed made.length (reachB made tasks L)).length []
theorem madeB_lt {made : List Bool} {k : Nat} (h : madeB made k = true) : k < made.length := by
  rcases Nat.lt_or_ge k made.length with h1 | h1
  · exact h1
  · unfold madeB at h; rw [List.getD_eq_getElem?_getD, List.getElem?_eq_none h1] at h; cases h
theorem reach_made {made : Nat → Bool} {may : Nat → List Nat} {L : List Nat} {k : Nat} (h : Topo.Reach made may L k) : made k = true := by
  cases h with
  | base _ hm => exact hm
  | step _ _ hm => exact hm
theorem ext_need {made : List Bool} {tasks : List Tk} {L ext : List Nat} (h : Topo.Walked (fun k => made.getD k false) (mayN made tasks) L [] ext) : (fun k => ext.contains k) = reachB made tasks L := by
  funext k
  rw [Bool.eq_iff_iff, List.contains_iff_mem, reachB_iff]
  exact h.iff k
theorem ext_len {made : List Bool} {tasks : List Tk} {L ext : List Nat} (h : Topo.Walked (fun k => made.getD k false) (mayN made tasks) L [] ext) : ext.length = (Topo.needed made.length (reachB made tasks L)).length := by
  have e := ext_need h
  have hlt : ∀ k ∈ ext, k < made.length := fun k hk => madeB_lt (h.sound k hk).1
  refine Nat.le_antisymm (Topo.sub_len _ _ h.nodup fun x hx => Topo.needed_mem.2 ⟨hlt x hx, ?_⟩) (Topo.sub_len _ _ (Topo.needed_nodup _ _) fun x hx => ?_)
  · rw [← e]; exact List.contains_iff_mem.2 hx
  · have h2 := (Topo.needed_mem.1 hx).2
    rw [← e] at h2
    exact List.contains_iff_mem.1 h2
theorem ext_topo {made : List Bool} {tasks : List Tk} {L ext : List Nat} (h : Topo.Walked (fun k => made.getD k false) (mayN made tasks) L [] ext) : Topo.topo made.length (fun k => ext.contains k) (mayN made tasks) ext.length [] = orderL made tasks L := by
  rw [ext_need h, ext_len h]
  rfl
theorem reach_all (made : List Bool) (tasks : List Tk) : reachB made tasks (List.range made.length) = madeB made := by
  funext k
  rw [Bool.eq_iff_iff, reachB_iff]
  exact ⟨fun h => reach_made h, fun h => .base (List.mem_range.2 (madeB_lt h)) h⟩
theorem order_all (made : List Bool) (tasks : List Tk) : orderL made tasks (List.range made.length) = Topo.topo made.length (madeB made) (mayN made tasks) (Topo.needed made.length (madeB made)).length [] := by
  unfold orderL
  rw [reach_all]
theorem may_ok {made : List Bool} {tasks : List Tk} (h : sheetOk made tasks = true) : ∀ k, k < made.length → ∃ kr, impl_Sheet_may.f kr made tasks (k : Int) = some (castL (mayN made tasks k)) := fun k hk => by
  obtain ⟨n, hn⟩ := implShMay_ev made tasks k (by have := sheetOk_len h; omega)
  exact ⟨n, hn n (Nat.le_refl _)⟩
theorem topoP_ret {w W : World} {r : Option (List Nat)} {e : Ending} (h : TopoP w r e W) : ∃ v, e = .returned (.tuple #[v, .bool r.isSome]) ∧ Below w.heap.size w W ∧ Kd.R (Kd.int .i64) 3 W w.heap.size (fun _ => True) v (castL (r.getD [])) := by
  obtain ⟨h1, h2⟩ := h
  cases r with
  | none => exact ⟨_, h2, h1, Kd.R_nil _ _ _ _ _⟩
  | some l => obtain ⟨v, h3, h4⟩ := h2; exact ⟨v, h3, h1, h4⟩
end Go.Proofs.Ythfemojaabejiaa.G
end
section
namespace Go.Proofs.Ythfemojaabejiaa.G
open Go.RowKit Go.Proofs.YthfemojaabejiaaW.PrintWords Go.Proofs.YthfemojaabejiaaW.PrintLast Go.Proofs.YthfemojaabejiaaW.PrintMore
set_option linter.unusedVariables false
set_option linter.unusedSimpArgs false
def impl_SheetSafe.f (l0_0 : List Bool) (l0_1 : List (S141)) : Option Bool := some (safeB l0_0 l0_1)
set_option maxHeartbeats 8000000 in
set_option maxRecDepth 100000 in
theorem impl_SheetSafe.calls (A0_0 : Option Addr) (c0_0 : Nat) (l0_0 : List Bool) (A0_1 : Option Addr) (c0_1 : Nat) (l0_1 : List (S141)) (r : Bool) (w : World) (hr0_0 : Kd.C Kd.bool w A0_0 l0_0.length l0_0) (hc0_0 : l0_0.length ≤ c0_0) (hr0_1 : Kd.C k141 w A0_1 l0_1.length l0_1) (hc0_1 : l0_1.length ≤ c0_1) (h : impl_SheetSafe.f l0_0 l0_1 = some r) :
    Calls Try.prog 17 #[.agg #[.slice A0_0 l0_0.length c0_0, .slice A0_1 l0_1.length c0_1]] w fun e w' => e = .returned (.bool r) ∧ Below w.heap.size w w' := by
  have hu0 := Try.underlying30
  have hr := Option.some.inj h
  clear h
  obtain ⟨k1, hk1⟩ := implSheet_ev l0_0 l0_1
  have hk1 := hk1 k1 (Nat.le_refl _)
  have HB0 := qM ((Below.refl w.heap.size w).alloc (Nat.le_refl _) (.cells #[.slice A0_0 l0_0.length c0_0, .slice A0_1 l0_1.length c0_1] 30 (0, 0)))
  have BX0 := qM (blk_new w (.cells #[.slice A0_0 l0_0.length c0_0, .slice A0_1 l0_1.length c0_1] 30 (0, 0)))
  have HR0 := qM hr0_0
  have HC0 := qM hc0_0
  have HR1 := qM hr0_1
  have HC1 := qM hc0_1
  have hs0 : (w.alloc (.cells #[.slice A0_0 l0_0.length c0_0, .slice A0_1 l0_1.length c0_1] 30 (0, 0))).cell? ⟨w.heap.size, 0, none⟩ = some (.slice A0_0 l0_0.length c0_0) := (qC BX0.out 0).trans rfl
  have hs1 : (w.alloc (.cells #[.slice A0_0 l0_0.length c0_0, .slice A0_1 l0_1.length c0_1] 30 (0, 0))).cell? ⟨w.heap.size, 1, none⟩ = some (.slice A0_1 l0_1.length c0_1) := (qC BX0.out 1).trans rfl
  clear hr0_0 hc0_0 hr0_1 hc0_1
  cases hok : sheetOk l0_0 l0_1 with
  | false =>
    rw [hok] at hk1
    have CK := qM (impl_SheetOk.calls k1 A0_0 c0_0 l0_0 A0_1 c0_1 l0_1 false _ (qB HR0.out HB0.out) HC0.out (qB HR1.out HB0.out) HC1.out hk1)
    have HRR : Aside0 (false = r) := ⟨by rw [← hr, safeB, hok]; rfl⟩
    clear hk1 hr hok
    go_enter Try.func17, Try.ntmps17
    go_wp2_with (go_at_call 60; (with_reducible refine CK.out.mono ?_); rintro e w1 ⟨rfl, hb1⟩; have HB1 := qM (HB0.out.trans (hb1.mono HB0.out.size)); clear hb1 CK)
    go_ret
    exact ⟨by rw [← HRR.out]; rfl, HB1.out⟩
  | true =>
    rw [hok] at hk1
    have CK := qM (impl_SheetOk.calls k1 A0_0 c0_0 l0_0 A0_1 c0_1 l0_1 true _ (qB HR0.out HB0.out) HC0.out (qB HR1.out HB0.out) HC1.out hk1)
    have hlen := sheetOk_len hok
    have HMAY := qM (may_ok hok)
    have HLE := qM hlen
    obtain ⟨k2, hk2⟩ := implKeys_ev l0_0 l0_1 (by omega)
    have HK2 := qM (hk2 k2 (Nat.le_refl _))
    have HRR : Aside0 ((orderL l0_0 l0_1 (List.range l0_0.length)).isSome = r) := ⟨by rw [order_all, ← hr, safeB, hok]; rfl⟩
    clear hk1 hr hok hlen hk2
    go_enter Try.func17, Try.ntmps17
    go_wp2_with (go_at_call 60; (with_reducible refine CK.out.mono ?_); rintro e w1 ⟨rfl, hb1⟩; have HB1 := qM (HB0.out.trans (hb1.mono HB0.out.size)); have BX1 := qM (blk_below BX0.out hb1); clear hb1 CK hs0 hs1)
    clear BX0 HB0
    refine start_ (n := 13) (S := fun w' => w'.cell? ⟨w.heap.size, 0, none⟩ = some (.slice A0_0 l0_0.length c0_0) ∧ w'.cell? ⟨w.heap.size, 1, none⟩ = some (.slice A0_1 l0_1.length c0_1)) (ds := []) #[false, false, false, false, false, false, false, false, false, false, false, false, false] (by kernel_rfl) rfl rfl ⟨(qC (qd BX1.out) 0).trans rfl, (qC (qd BX1.out) 1).trans rfl⟩ (fun hHeld => ?_)
    have HB2 := qM (qD HB1.out)
    have BX2 := qM (qd BX1.out)
    generalize w1.drew = w2 at HB2 BX2 hHeld ⊢
    clear HB1 BX1
    refine take_ (i := 0) (N := (some 9)) (v := ?_) (a' := ?_) #[true, false, false, false, false, false, false, false, false, false, false, false, false] rfl rfl (by kernel_rfl) (fun _ _ _ h => h) (Or.inl ⟨by rfl, ?_⟩) hHeld ?_ ?_
    rotate_left
    · rintro w' ⟨s0, s1⟩
      go_simp
      with_reducible rfl
    rotate_left
    · simp only [Act.put, List.setIfInBounds_toArray, List.set_cons_zero, List.set_cons_succ, i64_w, i32_w]
      rfl
    refine take_ (i := 1) (N := (some 10)) (v := ?_) (a' := ?_) #[true, true, false, false, false, false, false, false, false, false, false, false, false] rfl rfl (by kernel_rfl) (fun _ _ _ h => h) (Or.inl ⟨by rfl, ?_⟩) hHeld ?_ ?_
    rotate_left
    · rintro w' ⟨s0, s1⟩
      go_simp
      with_reducible rfl
    rotate_left
    · simp only [Act.put, List.setIfInBounds_toArray, List.set_cons_zero, List.set_cons_succ, i64_w, i32_w]
      rfl
    refine take_ (i := 2) (N := (some 11)) (v := ?_) (a' := ?_) #[true, true, true, false, false, false, false, false, false, false, false, false, false] rfl rfl (by kernel_rfl) (fun _ _ _ h => h) (Or.inl ⟨by rfl, ?_⟩) hHeld ?_ ?_
    rotate_left
    · rintro w' ⟨s0, s1⟩
      go_simp
      with_reducible rfl
    rotate_left
    · simp only [Act.put, List.setIfInBounds_toArray, List.set_cons_zero, List.set_cons_succ, i64_w, i32_w]
      rfl
    refine take_ (i := 4) (N := (some 13)) (v := ?_) (a' := ?_) #[true, true, true, false, true, false, false, false, false, false, false, false, false] rfl rfl (by kernel_rfl) (fun _ _ _ h => h) (Or.inl ⟨by rfl, ?_⟩) hHeld ?_ ?_
    rotate_left
    · rintro w' ⟨s0, s1⟩
      go_simp
      with_reducible rfl
    rotate_left
    · simp only [Act.put, List.setIfInBounds_toArray, List.set_cons_zero, List.set_cons_succ, i64_w, i32_w]
      rfl
    refine pure_ (i := 5) (N := (some 14)) (v := ?_) (a' := ?_) #[true, true, true, false, true, true, false, false, false, false, false, false, false] rfl rfl (by kernel_rfl) (fun _ _ _ h => h) (Or.inl ⟨by rfl, ?_⟩) ?_ ?_
    rotate_left
    · intro w'
      go_simp
      with_reducible rfl
    rotate_left
    · simp only [Act.put, List.setIfInBounds_toArray, List.set_cons_zero, List.set_cons_succ, i64_w, i32_w]
      rfl
    refine one_ (i := 3) (N := (some 12)) #[true, true, true, true, true, true, false, false, false, false, false, false, false] rfl rfl (by kernel_rfl) (by decide) (fun K hK => ?_)
    refine goes_ Try.func63 (by kernel_rfl) rfl #[.agg #[.slice A0_0 l0_0.length c0_0, .slice A0_1 l0_1.length c0_1]] (by rfl) rfl rfl (by (try simp only [List.map_toArray, List.map_cons, List.map_nil]); first | done | rfl) ?_
    refine (impl_Sheet_keys.calls k2 A0_0 c0_0 l0_0 A0_1 c0_1 l0_1 _ _ (qB HR0.out HB2.out) HC0.out (qB HR1.out HB2.out) HC1.out HK2.out).mono ?_
    rintro e w3 ⟨vk, rfl, hvk, hb3⟩
    refine ⟨_, rfl, ?_⟩
    obtain ⟨Ak, ck, rfl, _, hCk⟩ := Kd.R_reads hvk
    rw [castL_len] at hCk ⊢
    have HB3 := qM (HB2.out.trans (hb3.mono HB2.out.size))
    have BX3 := qM (blk_below BX2.out hb3)
    have HCK := qM hCk
    clear hb3 hvk hCk hHeld HB2 BX2
    refine hK.out _ _ ⟨(qC BX3.out 0).trans rfl, (qC BX3.out 1).trans rfl⟩ (fun hHeld => ?_)
    clear hK K
    refine norm_ (a' := ?_) ?_ ?_
    rotate_left
    · show Act.put _ (some 12) _ = _
      simp only [Act.put, List.setIfInBounds_toArray, List.set_cons_zero, List.set_cons_succ, i64_w, i32_w]
      rfl
    refine one_ (i := 6) (N := (some 15)) #[true, true, true, true, true, true, true, false, false, false, false, false, false] rfl rfl (by kernel_rfl) (by decide) (fun K hK => ?_)
    refine goes_ Try.func62 (by kernel_rfl) rfl #[.agg #[.slice A0_0 l0_0.length c0_0, .slice A0_1 l0_1.length c0_1], .slice Ak (List.range l0_0.length).length ck, .func (.func 64) #[.agg #[.slice A0_0 l0_0.length c0_0, .slice A0_1 l0_1.length c0_1]] #[]] (by rfl) rfl rfl (by (try simp only [List.map_toArray, List.map_cons, List.map_nil]); first | done | rfl) ?_
    refine (reached_w (mayN l0_0 l0_1) (qB HR0.out HB3.out) HC0.out (qB HR1.out HB3.out) HC1.out (by have := HLE.out; omega) (fun k hk _ => HMAY.out k hk) (List.range l0_0.length) Ak ck HCK.out).mono ?_
    rintro e w4 ⟨M, ext, rfl, hW, hm4, hb4, _⟩
    refine ⟨_, rfl, ?_⟩
    have HB4 := qM (HB3.out.trans (hb4.mono HB3.out.size))
    have BX4 := qM (blk_below BX3.out hb4)
    have HM4 := qM hm4
    have HW := qM hW
    clear hb4 hm4 hW hHeld HB3 BX3 HCK
    refine hK.out _ _ ⟨(qC BX4.out 0).trans rfl, (qC BX4.out 1).trans rfl⟩ (fun hHeld => ?_)
    clear hK K
    refine norm_ (a' := ?_) ?_ ?_
    rotate_left
    · show Act.put _ (some 15) _ = _
      simp only [Act.put, List.setIfInBounds_toArray, List.set_cons_zero, List.set_cons_succ, i64_w, i32_w]
      rfl
    refine one_ (i := 7) (N := (some 16)) #[true, true, true, true, true, true, true, true, false, false, false, false, false] rfl rfl (by kernel_rfl) (by decide) (fun K hK => ?_)
    refine goes_ Try.func61 (by kernel_rfl) rfl #[.agg #[.slice A0_0 l0_0.length c0_0, .slice A0_1 l0_1.length c0_1], .map (some M)] (by rfl) rfl rfl (by (try simp only [List.map_toArray, List.map_cons, List.map_nil]); first | done | rfl) ?_
    have HEL : Aside0 (ext.length ≤ 100000 ∧ ∀ k ∈ ext, k < l0_0.length) := ⟨by
      have hlt : ∀ k ∈ ext, k < l0_0.length := fun k hk => madeB_lt (HW.out.sound k hk).1
      have := Topo.sub_len ext (List.range l0_0.length) HW.out.nodup (fun x hx => List.mem_range.2 (hlt x hx))
      rw [List.length_range] at this
      exact ⟨by have := HLE.out; omega, hlt⟩⟩
    refine (topo_w (mayN l0_0 l0_1) ext (qB HR0.out HB4.out) HC0.out (qB HR1.out HB4.out) HC1.out (by have := HLE.out; omega) HEL.out.1 (fun k hk _ => HMAY.out k hk) HM4.out).mono ?_
    intro e w5 hT
    rw [ext_topo HW.out] at hT
    obtain ⟨v5, rfl, hb5, _⟩ := topoP_ret hT
    refine ⟨_, rfl, ?_⟩
    have HB5 := qM (HB4.out.trans (hb5.mono HB4.out.size))
    have BX5 := qM (blk_below BX4.out hb5)
    rw [HRR.out]
    clear hb5 hT hHeld HB4 BX4 HM4 HW HEL
    refine hK.out _ _ ⟨(qC BX5.out 0).trans rfl, (qC BX5.out 1).trans rfl⟩ (fun hHeld => ?_)
    clear hK K
    refine norm_ (a' := ?_) ?_ ?_
    rotate_left
    · show Act.put _ (some 16) _ = _
      simp only [Act.put, List.setIfInBounds_toArray, List.set_cons_zero, List.set_cons_succ, i64_w, i32_w]
      rfl
    refine pure_ (i := 8) (N := (some 8)) (v := ?_) (a' := ?_) #[true, true, true, true, true, true, true, true, true, false, false, false, false] rfl rfl (by kernel_rfl) (fun _ _ _ h => h) (Or.inl ⟨by rfl, ?_⟩) ?_ ?_
    rotate_left
    · intro w'
      go_simp
      with_reducible rfl
    rotate_left
    · simp only [Act.put, List.setIfInBounds_toArray, List.set_cons_zero, List.set_cons_succ, i64_w, i32_w]
      rfl
    refine pure_ (i := 9) (N := (some 17)) (v := ?_) (a' := ?_) #[true, true, true, true, true, true, true, true, true, true, false, false, false] rfl rfl (by kernel_rfl) (fun _ _ _ h => h) (Or.inl ⟨by rfl, ?_⟩) ?_ ?_
    rotate_left
    · intro w'
      go_simp
      with_reducible rfl
    rotate_left
    · simp only [Act.put, List.setIfInBounds_toArray, List.set_cons_zero, List.set_cons_succ, i64_w, i32_w]
      rfl
    refine pure_ (i := 10) (N := (some 18)) (v := ?_) (a' := ?_) #[true, true, true, true, true, true, true, true, true, true, true, false, false] rfl rfl (by kernel_rfl) (fun _ _ _ h => h) (Or.inl ⟨by rfl, ?_⟩) ?_ ?_
    rotate_left
    · intro w'
      go_simp
      with_reducible rfl
    rotate_left
    · simp only [Act.put, List.setIfInBounds_toArray, List.set_cons_zero, List.set_cons_succ, i64_w, i32_w]
      rfl
    refine pure_ (i := 11) (N := (some 3)) (v := ?_) (a' := ?_) #[true, true, true, true, true, true, true, true, true, true, true, true, false] rfl rfl (by kernel_rfl) (fun _ _ _ h => h) (Or.inl ⟨by rfl, ?_⟩) ?_ ?_
    rotate_left
    · intro w'
      go_simp
      with_reducible rfl
    rotate_left
    · simp only [Act.put, List.setIfInBounds_toArray, List.set_cons_zero, List.set_cons_succ, i64_w, i32_w]
      rfl
    refine pure_ (i := 12) (N := (some 4)) (v := ?_) (a' := ?_) #[true, true, true, true, true, true, true, true, true, true, true, true, true] rfl rfl (by kernel_rfl) (fun _ _ _ h => h) (Or.inl ⟨by rfl, ?_⟩) ?_ ?_
    rotate_left
    · intro w'
      go_simp
      with_reducible rfl
    rotate_left
    · simp only [Act.put, List.setIfInBounds_toArray, List.set_cons_zero, List.set_cons_succ, i64_w, i32_w]
      rfl
    refine done_ (by kernel_rfl) ?_
    clear hHeld
    go_wp2
    go_ret
    exact ⟨rfl, HB5.out⟩
end Go.Proofs.Ythfemojaabejiaa.G
end
section
namespace Go.Proofs.Ythfemojaabejiaa.G
open Go.RowKit Go.Proofs.YthfemojaabejiaaW.PrintWords Go.Proofs.YthfemojaabejiaaW.PrintLast Go.Proofs.YthfemojaabejiaaW.PrintMore
attribute [local go_sem] max2_int min2_int max_two min_two max_three min_three max_four min_four
set_option linter.unusedVariables false
set_option linter.unusedSimpArgs false
def spec_l4Keys.l0 : Nat → List Int → Int → List Bool → List (S141) → Option (Bool)
  | 0, _, _, _, _ => none
  | k + 1, x1, x5, x267000, x267001 => if x5 < (x1.length : Int) then (if 0 ≤ x5 then ((spec_l6In.f (rd x1 x5) 0 (wrap64 ((x267000.length : Int) - 1))).bind fun t268 => (if t268 = true then (spec_l4Keys.l0 k x1 (wrap64 (x5 + 1)) x267000 x267001) else (some false))) else (none)) else ((spec_SheetOk.f k x267000 x267001).bind fun t269 => (some t269))
def spec_l4Keys.f (k : Nat) (l0_0 : List Bool) (l0_1 : List (S141)) (l1 : List Int) : Option (Bool) := spec_l4Keys.l0 k l1 0 l0_0 l0_1
set_option maxHeartbeats 8000000 in
set_option maxRecDepth 100000 in
theorem spec_l4Keys.calls (k : Nat) (A0_0 : Option Addr) (c0_0 : Nat) (l0_0 : List Bool) (A0_1 : Option Addr) (c0_1 : Nat) (l0_1 : List (S141)) (A1 : Option Addr) (c1 : Nat) (l1 : List Int) (r : Bool) (w : World) (hr0_0 : Kd.C Kd.bool w A0_0 l0_0.length l0_0) (hc0_0 : l0_0.length ≤ c0_0) (hr0_1 : Kd.C k141 w A0_1 l0_1.length l0_1) (hc0_1 : l0_1.length ≤ c0_1) (hr1 : Kd.C (Kd.int .i64) w A1 l1.length l1) (hc1 : l1.length ≤ c1) (h : spec_l4Keys.f k l0_0 l0_1 l1 = some r) :
    Calls Try.prog 67 #[.agg #[.slice A0_0 l0_0.length c0_0, .slice A0_1 l0_1.length c0_1], .slice A1 l1.length c1] w fun e w' => e = .returned (.bool r) ∧ Below w.heap.size w w' := by
  have hu30 := Try.underlying30
  have HR0_0 := qM hr0_0
  have HC0_0 := qM hc0_0
  clear hr0_0 hc0_0
  have HR0_1 := qM hr0_1
  have HC0_1 := qM hc0_1
  clear hr0_1 hc0_1
  have HR1 := qM hr1
  have HC1 := qM hc1
  clear hr1 hc1
  have HB := qM (Below.refl w.heap.size w)
  have H : (spec_l4Keys.l0 k l1 0 l0_0 l0_1) = some r := h
  clear h
  have H' := qM H
  clear H
  go_enter Try.func67, Try.ntmps67
  go_wp2_with (first | ((with_reducible refine gate_dst (N := 2) rfl ?_); refine box_event ?hg (N := 2) ?hd (cs := #[.slice A0_0 l0_0.length c0_0, .slice A0_1 l0_1.length c0_1]) (t := 30) ?hr ?_; (case hd => rfl); (case hg => rfl); (case hr => first | (go_simp; done) | (go_simp; rfl)); intro gb266 hg w3 hbox hb; have n0_ := qM (qs (by repeat (first | (with_reducible first | exact HB.out | apply qA | apply qN | apply qD) | exact HB.out)) hb); have n1_ := qM (hbox); have n2_ := qM ((by rw [hg]; exact (qz (by repeat (first | (with_reducible first | exact HB.out | apply qA | apply qN | apply qD) | exact HB.out))) : w.heap.size ≤ gb266)); have n3_ := qM ((by rw [hg]; exact (qz (by repeat (first | (with_reducible first | exact HB.out | apply qA | apply qN | apply qD) | exact HB.out))) : w.heap.size ≤ gb266)); clear HB; have HB := n0_; have BK266 := n1_; have GW266 := n2_; have GE266 := n3_; clear n0_ n1_ n2_ n3_; clear hb hbox hg))
  repeat (go_quiet (first | ((with_reducible refine gate_dst (N := 2) rfl ?_); refine box_event ?hg (N := 2) ?hd (cs := #[.slice A0_0 l0_0.length c0_0, .slice A0_1 l0_1.length c0_1]) (t := 30) ?hr ?_; (case hd => rfl); (case hg => rfl); (case hr => first | (go_simp; done) | (go_simp; rfl)); intro gb266 hg w3 hbox hb; have n0_ := qM (qs (by repeat (first | (with_reducible first | exact HB.out | apply qA | apply qN | apply qD) | exact HB.out)) hb); have n1_ := qM (hbox); have n2_ := qM ((by rw [hg]; exact (qz (by repeat (first | (with_reducible first | exact HB.out | apply qA | apply qN | apply qD) | exact HB.out))) : w.heap.size ≤ gb266)); have n3_ := qM ((by rw [hg]; exact (qz (by repeat (first | (with_reducible first | exact HB.out | apply qA | apply qN | apply qD) | exact HB.out))) : w.heap.size ≤ gb266)); clear HB; have HB := n0_; have BK266 := n1_; have GW266 := n2_; have GE266 := n3_; clear n0_ n1_ n2_ n3_; clear hb hbox hg)); try go_wp2_with (first | ((with_reducible refine gate_dst (N := 2) rfl ?_); refine box_event ?hg (N := 2) ?hd (cs := #[.slice A0_0 l0_0.length c0_0, .slice A0_1 l0_1.length c0_1]) (t := 30) ?hr ?_; (case hd => rfl); (case hg => rfl); (case hr => first | (go_simp; done) | (go_simp; rfl)); intro gb266 hg w3 hbox hb; have n0_ := qM (qs (by repeat (first | (with_reducible first | exact HB.out | apply qA | apply qN | apply qD) | exact HB.out)) hb); have n1_ := qM (hbox); have n2_ := qM ((by rw [hg]; exact (qz (by repeat (first | (with_reducible first | exact HB.out | apply qA | apply qN | apply qD) | exact HB.out))) : w.heap.size ≤ gb266)); have n3_ := qM ((by rw [hg]; exact (qz (by repeat (first | (with_reducible first | exact HB.out | apply qA | apply qN | apply qD) | exact HB.out))) : w.heap.size ≤ gb266)); clear HB; have HB := n0_; have BK266 := n1_; have GW266 := n2_; have GE266 := n3_; clear n0_ n1_ n2_ n3_; clear hb hbox hg)))
  go_loopg [5] k (fun kq v5 w' => ∃ (x5_1 : Int), v5 = .int .i64 x5_1 ∧ Aside0 (spec_l4Keys.l0 kq l1 x5_1 l0_0 l0_1 = some r) ∧ Aside0 (kq ≤ k) ∧ Aside0 (w'.heap[gb266]? = some (.cells #[(.slice A0_0 l0_0.length c0_0), (.slice A0_1 l0_1.length c0_1)] 30 (0, 0))) ∧ Aside0 (Below w.heap.size w w'))
  case atStart => exact ⟨(0), (by first | rfl | (simp; done) | (simp [*]; done)), H', ⟨Nat.le_refl _⟩, ⟨by (with_reducible repeat (first | refine qn ?_ _ | refine qd ?_ | refine qa ?_ _)); exact BK266.out⟩, ⟨by repeat (first | (with_reducible first | exact HB.out | apply qA | apply qN | apply qD | refine qS ?_ GE266.out) | exact HB.out)⟩⟩
  case round =>
    clear H'
    try clear c1
    try clear p2
    obtain ⟨x5_1, rfl, HA, HK1, BK266, HB⟩ := hrel
    cases gk with
    | zero => exact absurd HA.out (by simp [spec_l4Keys.l0])
    | succ k1 =>
      have H := HA.out
      clear HA
      simp only [spec_l4Keys.l0] at H
      by_cases c4 : x5_1 < (l1.length : Int)
      rotate_left
      · rw [if_neg c4] at H
        have c4b0 : decide (x5_1 < (l1.length : Int)) = false := decide_eq_false c4
        clear c4
        replace H := Option.bind_eq_some_iff.mp H
        obtain ⟨t269, A100, H⟩ := H
        replace H : (some t269) = some r := H
        have A10 := qM A100
        clear A100
        obtain rfl := Option.some.inj H
        have hcz11_0 : wr.cell? ⟨gb266, 0, none⟩ = some (.slice A0_0 l0_0.length c0_0) := (qC BK266.out 0).trans rfl
        have hcz11_1 : wr.cell? ⟨gb266, 1, none⟩ = some (.slice A0_1 l0_1.length c0_1) := (qC BK266.out 1).trans rfl
        have hfz11_0 := qF BK266.out 0
        have hfz11_1 := qF BK266.out 1
        go_wp2_with (first | (go_at_call 56; (with_reducible refine (spec_SheetOk.calls k1 _ _ l0_0 _ _ l0_1 t269 _ ?side1 ?side2 ?side3 ?side4 A10.out).mono ?_); (case side1 => repeat (first | exact (qB HR0_0.out HB.out) | (with_reducible refine qc ?_ _) | (with_reducible refine qe ?_ _) | (with_reducible refine qf ?_))); (case side2 => exact HC0_0.out); (case side3 => repeat (first | exact (qB HR0_1.out HB.out) | (with_reducible refine qc ?_ _) | (with_reducible refine qe ?_ _) | (with_reducible refine qf ?_))); (case side4 => exact HC0_1.out); rintro e w12 ⟨rfl, hb⟩; have n0_ := qM (blk_below (g := gb266) (o := .cells #[.slice A0_0 l0_0.length c0_0, .slice A0_1 l0_1.length c0_1] 30 (0, 0)) (by (with_reducible repeat (first | refine qn ?_ _ | refine qd ?_ | refine qa ?_ _)); exact BK266.out) hb); have n1_ := qM (qs (by repeat (first | (with_reducible first | exact HB.out | apply qA | apply qN | apply qD | refine qS ?_ GE266.out) | exact HB.out)) hb); clear BK266; clear HB; have BK266 := n0_; have HB := n1_; clear n0_ n1_; (try clear hb); (try clear hb2); (try clear hk); (try clear hi)))
        repeat (go_quiet (first | (go_at_call 56; (with_reducible refine (spec_SheetOk.calls k1 _ _ l0_0 _ _ l0_1 t269 _ ?side1 ?side2 ?side3 ?side4 A10.out).mono ?_); (case side1 => repeat (first | exact (qB HR0_0.out HB.out) | (with_reducible refine qc ?_ _) | (with_reducible refine qe ?_ _) | (with_reducible refine qf ?_))); (case side2 => exact HC0_0.out); (case side3 => repeat (first | exact (qB HR0_1.out HB.out) | (with_reducible refine qc ?_ _) | (with_reducible refine qe ?_ _) | (with_reducible refine qf ?_))); (case side4 => exact HC0_1.out); rintro e w12 ⟨rfl, hb⟩; have n0_ := qM (blk_below (g := gb266) (o := .cells #[.slice A0_0 l0_0.length c0_0, .slice A0_1 l0_1.length c0_1] 30 (0, 0)) (by (with_reducible repeat (first | refine qn ?_ _ | refine qd ?_ | refine qa ?_ _)); exact BK266.out) hb); have n1_ := qM (qs (by repeat (first | (with_reducible first | exact HB.out | apply qA | apply qN | apply qD | refine qS ?_ GE266.out) | exact HB.out)) hb); clear BK266; clear HB; have BK266 := n0_; have HB := n1_; clear n0_ n1_; (try clear hb); (try clear hb2); (try clear hk); (try clear hi))); try go_wp2_with (first | (go_at_call 56; (with_reducible refine (spec_SheetOk.calls k1 _ _ l0_0 _ _ l0_1 t269 _ ?side1 ?side2 ?side3 ?side4 A10.out).mono ?_); (case side1 => repeat (first | exact (qB HR0_0.out HB.out) | (with_reducible refine qc ?_ _) | (with_reducible refine qe ?_ _) | (with_reducible refine qf ?_))); (case side2 => exact HC0_0.out); (case side3 => repeat (first | exact (qB HR0_1.out HB.out) | (with_reducible refine qc ?_ _) | (with_reducible refine qe ?_ _) | (with_reducible refine qf ?_))); (case side4 => exact HC0_1.out); rintro e w12 ⟨rfl, hb⟩; have n0_ := qM (blk_below (g := gb266) (o := .cells #[.slice A0_0 l0_0.length c0_0, .slice A0_1 l0_1.length c0_1] 30 (0, 0)) (by (with_reducible repeat (first | refine qn ?_ _ | refine qd ?_ | refine qa ?_ _)); exact BK266.out) hb); have n1_ := qM (qs (by repeat (first | (with_reducible first | exact HB.out | apply qA | apply qN | apply qD | refine qS ?_ GE266.out) | exact HB.out)) hb); clear BK266; clear HB; have BK266 := n0_; have HB := n1_; clear n0_ n1_; (try clear hb); (try clear hb2); (try clear hk); (try clear hi))))
        go_ret
        exact ⟨by first | rfl | (simp [errW_none, errW_some] <;> rfl) | (simp [*, errW_none, errW_some] <;> rfl), by repeat (first | (with_reducible first | exact HB.out | apply qA | apply qN | apply qD | refine qS ?_ GE266.out) | exact HB.out)⟩
      rw [if_pos c4] at H
      have c4b0 : decide (x5_1 < (l1.length : Int)) = true := decide_eq_true c4
      clear c4
      by_cases c5 : 0 ≤ x5_1
      rotate_left
      · rw [if_neg c5] at H
        exact absurd H (by simp)
      rw [if_pos c5] at H
      have c5b0 : decide (0 ≤ x5_1) = true := decide_eq_true c5
      clear c5
      replace H := Option.bind_eq_some_iff.mp H
      obtain ⟨t268, A60, H⟩ := H
      replace H : (if t268 = true then (spec_l4Keys.l0 k1 l1 (wrap64 (x5_1 + 1)) l0_0 l0_1) else (some false)) = some r := H
      have A6 := qM A60
      clear A60
      by_cases c7 : t268 = true
      rotate_left
      · replace c7 := Bool.eq_false_iff.mpr c7
        subst c7
        have H1 : (some false) = some r := by rw [if_neg (show ¬ (false = true) by decide)] at H; exact H
        clear H
        have H := H1
        clear H1
        obtain rfl := Option.some.inj H
        have p267 : 0 ≤ (x5_1 : Int) := qO (by first | (with_reducible assumption) | assumption)
        have q267 : x5_1 < (l1.length : Int) := qO (by first | (with_reducible assumption) | assumption)
        obtain ⟨ad267, e267, hx267_0⟩ := Kd.at_int HR1.out x5_1 p267 q267
        cases e267
        replace hx267_0 := (HB.out.cell (qL w _ hx267_0)).trans hx267_0
        replace p267 := eq_true p267
        replace q267 := eq_true q267
        have hcz9_0 : wr.cell? ⟨gb266, 0, none⟩ = some (.slice A0_0 l0_0.length c0_0) := (qC BK266.out 0).trans rfl
        have hcz9_1 : wr.cell? ⟨gb266, 1, none⟩ = some (.slice A0_1 l0_1.length c0_1) := (qC BK266.out 1).trans rfl
        have hfz9_0 := qF BK266.out 0
        have hfz9_1 := qF BK266.out 1
        go_wp2_with (first | (go_at_call 82; (with_reducible refine (spec_l6In.calls (rd l1 x5_1) 0 (wrap64 ((l0_0.length : Int) - 1)) false _ A6.out).mono ?_); rintro e w' ⟨rfl, ⟨nd, rfl⟩⟩; (try first | exact ⟨rfl, _, World.drewN_drewN _ _ _⟩ | exact ⟨rfl, _, Eq.trans (World.drewN_drewN _ _ _) (congrArg (World.drewN _) (Nat.add_assoc _ _ _))⟩)))
        repeat (go_quiet (first | (go_at_call 82; (with_reducible refine (spec_l6In.calls (rd l1 x5_1) 0 (wrap64 ((l0_0.length : Int) - 1)) false _ A6.out).mono ?_); rintro e w' ⟨rfl, ⟨nd, rfl⟩⟩; (try first | exact ⟨rfl, _, World.drewN_drewN _ _ _⟩ | exact ⟨rfl, _, Eq.trans (World.drewN_drewN _ _ _) (congrArg (World.drewN _) (Nat.add_assoc _ _ _))⟩))); try go_wp2_with (first | (go_at_call 82; (with_reducible refine (spec_l6In.calls (rd l1 x5_1) 0 (wrap64 ((l0_0.length : Int) - 1)) false _ A6.out).mono ?_); rintro e w' ⟨rfl, ⟨nd, rfl⟩⟩; (try first | exact ⟨rfl, _, World.drewN_drewN _ _ _⟩ | exact ⟨rfl, _, Eq.trans (World.drewN_drewN _ _ _) (congrArg (World.drewN _) (Nat.add_assoc _ _ _))⟩))))
        go_ret
        exact ⟨by first | rfl | (simp [errW_none, errW_some] <;> rfl) | (simp [*, errW_none, errW_some] <;> rfl), by repeat (first | (with_reducible first | exact HB.out | apply qA | apply qN | apply qD | refine qS ?_ GE266.out) | exact HB.out)⟩
      subst c7
      have H1 : (spec_l4Keys.l0 k1 l1 (wrap64 (x5_1 + 1)) l0_0 l0_1) = some r := by rw [if_pos rfl] at H; exact H
      clear H
      have H := H1
      clear H1
      have H' := qM H
      clear H
      have p267 : 0 ≤ (x5_1 : Int) := qO (by first | (with_reducible assumption) | assumption)
      have q267 : x5_1 < (l1.length : Int) := qO (by first | (with_reducible assumption) | assumption)
      obtain ⟨ad267, e267, hx267_0⟩ := Kd.at_int HR1.out x5_1 p267 q267
      cases e267
      replace hx267_0 := (HB.out.cell (qL w _ hx267_0)).trans hx267_0
      replace p267 := eq_true p267
      replace q267 := eq_true q267
      have hcz8_0 : wr.cell? ⟨gb266, 0, none⟩ = some (.slice A0_0 l0_0.length c0_0) := (qC BK266.out 0).trans rfl
      have hcz8_1 : wr.cell? ⟨gb266, 1, none⟩ = some (.slice A0_1 l0_1.length c0_1) := (qC BK266.out 1).trans rfl
      have hfz8_0 := qF BK266.out 0
      have hfz8_1 := qF BK266.out 1
      go_wp2_with (first | (go_at_call 82; (with_reducible refine (spec_l6In.calls (rd l1 x5_1) 0 (wrap64 ((l0_0.length : Int) - 1)) true _ A6.out).mono ?_); rintro e w' ⟨rfl, ⟨nd, rfl⟩⟩; (try first | exact ⟨rfl, _, World.drewN_drewN _ _ _⟩ | exact ⟨rfl, _, Eq.trans (World.drewN_drewN _ _ _) (congrArg (World.drewN _) (Nat.add_assoc _ _ _))⟩)))
      repeat (go_quiet (first | (go_at_call 82; (with_reducible refine (spec_l6In.calls (rd l1 x5_1) 0 (wrap64 ((l0_0.length : Int) - 1)) true _ A6.out).mono ?_); rintro e w' ⟨rfl, ⟨nd, rfl⟩⟩; (try first | exact ⟨rfl, _, World.drewN_drewN _ _ _⟩ | exact ⟨rfl, _, Eq.trans (World.drewN_drewN _ _ _) (congrArg (World.drewN _) (Nat.add_assoc _ _ _))⟩))); try go_wp2_with (first | (go_at_call 82; (with_reducible refine (spec_l6In.calls (rd l1 x5_1) 0 (wrap64 ((l0_0.length : Int) - 1)) true _ A6.out).mono ?_); rintro e w' ⟨rfl, ⟨nd, rfl⟩⟩; (try first | exact ⟨rfl, _, World.drewN_drewN _ _ _⟩ | exact ⟨rfl, _, Eq.trans (World.drewN_drewN _ _ _) (congrArg (World.drewN _) (Nat.add_assoc _ _ _))⟩))))
      go_roundg k1
      case measure => have := HK1.out; omega
      case rel => exact ⟨(wrap64 (x5_1 + 1)), (by first | rfl | (simp; done) | (simp [*]; done)), H', ⟨by have := HK1.out; omega⟩, ⟨by (with_reducible repeat (first | refine qn ?_ _ | refine qd ?_ | refine qa ?_ _)); exact BK266.out⟩, ⟨by repeat (first | (with_reducible first | exact HB.out | apply qA | apply qN | apply qD | refine qS ?_ GE266.out) | exact HB.out)⟩⟩
end Go.Proofs.Ythfemojaabejiaa.G
end
section
namespace Go.Proofs.Ythfemojaabejiaa.G
open Go.RowKit Go.Proofs.YthfemojaabejiaaW.PrintWords Go.Proofs.YthfemojaabejiaaW.PrintLast Go.Proofs.YthfemojaabejiaaW.PrintMore
attribute [local go_sem] max2_int min2_int max_two min_two max_three min_three max_four min_four
set_option linter.unusedVariables false
set_option linter.unusedSimpArgs false
def spec_l3Inputs.f (k : Nat) (l0_0 : List Bool) (l0_1 : List (S141)) (l1 : List Int) : Option (Bool) := (spec_SheetOk.f k l0_0 l0_1).bind fun t362 => (if t362 = true then (if (l1.length : Int) = (l0_0.length : Int) then ((spec_l2Values.f k l1).bind fun t363 => (some t363)) else (some false)) else (some false))
set_option maxHeartbeats 8000000 in
set_option maxRecDepth 100000 in
theorem spec_l3Inputs.calls (k : Nat) (A0_0 : Option Addr) (c0_0 : Nat) (l0_0 : List Bool) (A0_1 : Option Addr) (c0_1 : Nat) (l0_1 : List (S141)) (A1 : Option Addr) (c1 : Nat) (l1 : List Int) (r : Bool) (w : World) (hr0_0 : Kd.C Kd.bool w A0_0 l0_0.length l0_0) (hc0_0 : l0_0.length ≤ c0_0) (hr0_1 : Kd.C k141 w A0_1 l0_1.length l0_1) (hc0_1 : l0_1.length ≤ c0_1) (hr1 : Kd.C (Kd.int .i64) w A1 l1.length l1) (hc1 : l1.length ≤ c1) (h : spec_l3Inputs.f k l0_0 l0_1 l1 = some r) :
    Calls Try.prog 75 #[.agg #[.slice A0_0 l0_0.length c0_0, .slice A0_1 l0_1.length c0_1], .slice A1 l1.length c1] w fun e w' => e = .returned (.bool r) ∧ Below w.heap.size w w' := by
  have hu30 := Try.underlying30
  have HR0_0 := qM hr0_0
  have HC0_0 := qM hc0_0
  clear hr0_0 hc0_0
  have HR0_1 := qM hr0_1
  have HC0_1 := qM hc0_1
  clear hr0_1 hc0_1
  have HR1 := qM hr1
  have HC1 := qM hc1
  clear hr1 hc1
  have HB := qM (Below.refl w.heap.size w)
  have H : ((spec_SheetOk.f k l0_0 l0_1).bind fun t362 => (if t362 = true then (if (l1.length : Int) = (l0_0.length : Int) then ((spec_l2Values.f k l1).bind fun t363 => (some t363)) else (some false)) else (some false))) = some r := h
  clear h
  replace H := Option.bind_eq_some_iff.mp H
  obtain ⟨t362, A30, H⟩ := H
  replace H : (if t362 = true then (if (l1.length : Int) = (l0_0.length : Int) then ((spec_l2Values.f k l1).bind fun t363 => (some t363)) else (some false)) else (some false)) = some r := H
  have A3 := qM A30
  clear A30
  by_cases c4 : t362 = true
  rotate_left
  · replace c4 := Bool.eq_false_iff.mpr c4
    subst c4
    have H1 : (some false) = some r := by rw [if_neg (show ¬ (false = true) by decide)] at H; exact H
    clear H
    have H := H1
    clear H1
    obtain rfl := Option.some.inj H
    go_enter Try.func75, Try.ntmps75
    go_wp2_with (first | ((with_reducible refine gate_dst (N := 2) rfl ?_); (try (refine gate_guard (by rfl) ?_; dsimp only)); refine box_event ?hg (N := 2) ?hd (cs := #[.slice A0_0 l0_0.length c0_0, .slice A0_1 l0_1.length c0_1]) (t := 30) ?hr ?_; (case hd => rfl); (case hg => rfl); (case hr => first | (go_simp; done) | (go_simp; rfl)); intro gb361 hg w15 hbox hb; have n0_ := qM (qs (by repeat (first | (with_reducible first | exact HB.out | apply qA | apply qN | apply qD) | exact HB.out)) hb); have n1_ := qM (hbox); have n2_ := qM ((by rw [hg]; exact (qz (by repeat (first | (with_reducible first | exact HB.out | apply qA | apply qN | apply qD) | exact HB.out))) : w.heap.size ≤ gb361)); have n3_ := qM ((by rw [hg]; exact (qz (by repeat (first | (with_reducible first | exact HB.out | apply qA | apply qN | apply qD) | exact HB.out))) : w.heap.size ≤ gb361)); clear HB; have HB := n0_; have BK361 := n1_; have GW361 := n2_; have GE361 := n3_; clear n0_ n1_ n2_ n3_; clear hb hbox hg; have hcz16_0 : w15.cell? ⟨gb361, 0, none⟩ = some (.slice A0_0 l0_0.length c0_0) := (qC BK361.out 0).trans rfl; have hcz16_1 : w15.cell? ⟨gb361, 1, none⟩ = some (.slice A0_1 l0_1.length c0_1) := (qC BK361.out 1).trans rfl; have hfz16_0 := qF BK361.out 0; have hfz16_1 := qF BK361.out 1) | ((with_reducible refine gate_callee (f := 56) rfl ?_); refine goesL_ (some 6) rfl rfl Try.func56 (by kernel_rfl) rfl #[.agg #[.slice A0_0 l0_0.length c0_0, .slice A0_1 l0_1.length c0_1]] rfl (by (try simp only [List.map_toArray, List.map_cons, List.map_nil]); first | done | rfl | (simp only [List.length_drop, List.length_take]; rfl)) ?_; (with_reducible refine (spec_SheetOk.calls k _ _ l0_0 _ _ l0_1 false _ ?side1 ?side2 ?side3 ?side4 A3.out).mono ?_); (case side1 => repeat (first | exact (qB HR0_0.out HB.out) | (with_reducible refine qc ?_ _) | (with_reducible refine qe ?_ _) | (with_reducible refine qf ?_))); (case side2 => exact HC0_0.out); (case side3 => repeat (first | exact (qB HR0_1.out HB.out) | (with_reducible refine qc ?_ _) | (with_reducible refine qe ?_ _) | (with_reducible refine qf ?_))); (case side4 => exact HC0_1.out); rintro e w17 ⟨rfl, hb⟩; refine ⟨_, rfl, ?_⟩; have n0_ := qM (blk_below (g := gb361) (o := .cells #[.slice A0_0 l0_0.length c0_0, .slice A0_1 l0_1.length c0_1] 30 (0, 0)) (by (with_reducible repeat (first | refine qn ?_ _ | refine qd ?_ | refine qa ?_ _)); exact BK361.out) hb); have n1_ := qM (qs (by repeat (first | (with_reducible first | exact HB.out | apply qA | apply qN | apply qD | refine qS ?_ GE361.out) | exact HB.out)) hb); clear BK361; clear HB; have BK361 := n0_; have HB := n1_; clear n0_ n1_; (try clear hb); (try clear hb2); (try clear hk); (try clear hi)))
    go_ret
    exact ⟨by first | rfl | (simp [errW_none, errW_some] <;> rfl) | (simp [*, errW_none, errW_some] <;> rfl), by repeat (first | (with_reducible first | exact HB.out | apply qA | apply qN | apply qD | refine qS ?_ GE361.out) | exact HB.out)⟩
  subst c4
  have H1 : (if (l1.length : Int) = (l0_0.length : Int) then ((spec_l2Values.f k l1).bind fun t363 => (some t363)) else (some false)) = some r := by rw [if_pos rfl] at H; exact H
  clear H
  have H := H1
  clear H1
  by_cases c5 : (l1.length : Int) = (l0_0.length : Int)
  rotate_left
  · rw [if_neg c5] at H
    have c5b0 : ((l1.length : Int) == (l0_0.length : Int)) = false := beq_eq_false_iff_ne.mpr c5
    have c5b1 : ((l1.length : Int) != (l0_0.length : Int)) = true := bne_iff_ne.mpr c5
    have c5b2 : (l1.length == l0_0.length) = false := by first | simpa using c5 | (simp at c5 ⊢; omega)
    obtain rfl := Option.some.inj H
    go_enter Try.func75, Try.ntmps75
    go_wp2_with (first | ((with_reducible refine gate_dst (N := 2) rfl ?_); (try (refine gate_guard (by rfl) ?_; dsimp only)); refine box_event ?hg (N := 2) ?hd (cs := #[.slice A0_0 l0_0.length c0_0, .slice A0_1 l0_1.length c0_1]) (t := 30) ?hr ?_; (case hd => rfl); (case hg => rfl); (case hr => first | (go_simp; done) | (go_simp; rfl)); intro gb361 hg w11 hbox hb; have n0_ := qM (qs (by repeat (first | (with_reducible first | exact HB.out | apply qA | apply qN | apply qD) | exact HB.out)) hb); have n1_ := qM (hbox); have n2_ := qM ((by rw [hg]; exact (qz (by repeat (first | (with_reducible first | exact HB.out | apply qA | apply qN | apply qD) | exact HB.out))) : w.heap.size ≤ gb361)); have n3_ := qM ((by rw [hg]; exact (qz (by repeat (first | (with_reducible first | exact HB.out | apply qA | apply qN | apply qD) | exact HB.out))) : w.heap.size ≤ gb361)); clear HB; have HB := n0_; have BK361 := n1_; have GW361 := n2_; have GE361 := n3_; clear n0_ n1_ n2_ n3_; clear hb hbox hg; have hcz12_0 : w11.cell? ⟨gb361, 0, none⟩ = some (.slice A0_0 l0_0.length c0_0) := (qC BK361.out 0).trans rfl; have hcz12_1 : w11.cell? ⟨gb361, 1, none⟩ = some (.slice A0_1 l0_1.length c0_1) := (qC BK361.out 1).trans rfl; have hfz12_0 := qF BK361.out 0; have hfz12_1 := qF BK361.out 1) | ((with_reducible refine gate_callee (f := 56) rfl ?_); refine goesL_ (some 6) rfl rfl Try.func56 (by kernel_rfl) rfl #[.agg #[.slice A0_0 l0_0.length c0_0, .slice A0_1 l0_1.length c0_1]] rfl (by (try simp only [List.map_toArray, List.map_cons, List.map_nil]); first | done | rfl | (simp only [List.length_drop, List.length_take]; rfl)) ?_; (with_reducible refine (spec_SheetOk.calls k _ _ l0_0 _ _ l0_1 true _ ?side1 ?side2 ?side3 ?side4 A3.out).mono ?_); (case side1 => repeat (first | exact (qB HR0_0.out HB.out) | (with_reducible refine qc ?_ _) | (with_reducible refine qe ?_ _) | (with_reducible refine qf ?_))); (case side2 => exact HC0_0.out); (case side3 => repeat (first | exact (qB HR0_1.out HB.out) | (with_reducible refine qc ?_ _) | (with_reducible refine qe ?_ _) | (with_reducible refine qf ?_))); (case side4 => exact HC0_1.out); rintro e w13 ⟨rfl, hb⟩; refine ⟨_, rfl, ?_⟩; have n0_ := qM (blk_below (g := gb361) (o := .cells #[.slice A0_0 l0_0.length c0_0, .slice A0_1 l0_1.length c0_1] 30 (0, 0)) (by (with_reducible repeat (first | refine qn ?_ _ | refine qd ?_ | refine qa ?_ _)); exact BK361.out) hb); have n1_ := qM (qs (by repeat (first | (with_reducible first | exact HB.out | apply qA | apply qN | apply qD | refine qS ?_ GE361.out) | exact HB.out)) hb); clear BK361; clear HB; have BK361 := n0_; have HB := n1_; clear n0_ n1_; (try clear hb); (try clear hb2); (try clear hk); (try clear hi); have hcz14_0 : w13.cell? ⟨gb361, 0, none⟩ = some (.slice A0_0 l0_0.length c0_0) := (qC BK361.out 0).trans rfl; have hcz14_1 : w13.cell? ⟨gb361, 1, none⟩ = some (.slice A0_1 l0_1.length c0_1) := (qC BK361.out 1).trans rfl; have hfz14_0 := qF BK361.out 0; have hfz14_1 := qF BK361.out 1))
    go_ret
    exact ⟨by first | rfl | (simp [errW_none, errW_some] <;> rfl) | (simp [*, errW_none, errW_some] <;> rfl), by repeat (first | (with_reducible first | exact HB.out | apply qA | apply qN | apply qD | refine qS ?_ GE361.out) | exact HB.out)⟩
  rw [if_pos c5] at H
  have c5b0 : ((l1.length : Int) == (l0_0.length : Int)) = true := beq_iff_eq.mpr c5
  have c5b1 : ((l1.length : Int) != (l0_0.length : Int)) = false := bne_eq_false_iff_eq.mpr c5
  have c5b2 : (l1.length == l0_0.length) = true := by first | simpa using c5 | (simp at c5 ⊢; omega)
  clear c5
  replace H := Option.bind_eq_some_iff.mp H
  obtain ⟨t363, A60, H⟩ := H
  replace H : (some t363) = some r := H
  have A6 := qM A60
  clear A60
  obtain rfl := Option.some.inj H
  go_enter Try.func75, Try.ntmps75
  go_wp2_with (first | ((with_reducible refine gate_dst (N := 2) rfl ?_); (try (refine gate_guard (by rfl) ?_; dsimp only)); refine box_event ?hg (N := 2) ?hd (cs := #[.slice A0_0 l0_0.length c0_0, .slice A0_1 l0_1.length c0_1]) (t := 30) ?hr ?_; (case hd => rfl); (case hg => rfl); (case hr => first | (go_simp; done) | (go_simp; rfl)); intro gb361 hg w7 hbox hb; have n0_ := qM (qs (by repeat (first | (with_reducible first | exact HB.out | apply qA | apply qN | apply qD) | exact HB.out)) hb); have n1_ := qM (hbox); have n2_ := qM ((by rw [hg]; exact (qz (by repeat (first | (with_reducible first | exact HB.out | apply qA | apply qN | apply qD) | exact HB.out))) : w.heap.size ≤ gb361)); have n3_ := qM ((by rw [hg]; exact (qz (by repeat (first | (with_reducible first | exact HB.out | apply qA | apply qN | apply qD) | exact HB.out))) : w.heap.size ≤ gb361)); clear HB; have HB := n0_; have BK361 := n1_; have GW361 := n2_; have GE361 := n3_; clear n0_ n1_ n2_ n3_; clear hb hbox hg; have hcz8_0 : w7.cell? ⟨gb361, 0, none⟩ = some (.slice A0_0 l0_0.length c0_0) := (qC BK361.out 0).trans rfl; have hcz8_1 : w7.cell? ⟨gb361, 1, none⟩ = some (.slice A0_1 l0_1.length c0_1) := (qC BK361.out 1).trans rfl; have hfz8_0 := qF BK361.out 0; have hfz8_1 := qF BK361.out 1) | ((with_reducible refine gate_callee (f := 56) rfl ?_); refine goesL_ (some 6) rfl rfl Try.func56 (by kernel_rfl) rfl #[.agg #[.slice A0_0 l0_0.length c0_0, .slice A0_1 l0_1.length c0_1]] rfl (by (try simp only [List.map_toArray, List.map_cons, List.map_nil]); first | done | rfl | (simp only [List.length_drop, List.length_take]; rfl)) ?_; (with_reducible refine (spec_SheetOk.calls k _ _ l0_0 _ _ l0_1 true _ ?side1 ?side2 ?side3 ?side4 A3.out).mono ?_); (case side1 => repeat (first | exact (qB HR0_0.out HB.out) | (with_reducible refine qc ?_ _) | (with_reducible refine qe ?_ _) | (with_reducible refine qf ?_))); (case side2 => exact HC0_0.out); (case side3 => repeat (first | exact (qB HR0_1.out HB.out) | (with_reducible refine qc ?_ _) | (with_reducible refine qe ?_ _) | (with_reducible refine qf ?_))); (case side4 => exact HC0_1.out); rintro e w9 ⟨rfl, hb⟩; refine ⟨_, rfl, ?_⟩; have n0_ := qM (blk_below (g := gb361) (o := .cells #[.slice A0_0 l0_0.length c0_0, .slice A0_1 l0_1.length c0_1] 30 (0, 0)) (by (with_reducible repeat (first | refine qn ?_ _ | refine qd ?_ | refine qa ?_ _)); exact BK361.out) hb); have n1_ := qM (qs (by repeat (first | (with_reducible first | exact HB.out | apply qA | apply qN | apply qD | refine qS ?_ GE361.out) | exact HB.out)) hb); clear BK361; clear HB; have BK361 := n0_; have HB := n1_; clear n0_ n1_; (try clear hb); (try clear hb2); (try clear hk); (try clear hi); have hcz10_0 : w9.cell? ⟨gb361, 0, none⟩ = some (.slice A0_0 l0_0.length c0_0) := (qC BK361.out 0).trans rfl; have hcz10_1 : w9.cell? ⟨gb361, 1, none⟩ = some (.slice A0_1 l0_1.length c0_1) := (qC BK361.out 1).trans rfl; have hfz10_0 := qF BK361.out 0; have hfz10_1 := qF BK361.out 1) | (go_at_call 119; (with_reducible refine (spec_l2Values.calls k _ _ l1 t363 _ ?side1 ?side2 A6.out).mono ?_); (case side1 => repeat (first | exact (qB HR1.out HB.out) | (with_reducible refine qc ?_ _) | (with_reducible refine qe ?_ _) | (with_reducible refine qf ?_))); (case side2 => exact HC1.out); rintro e w' ⟨rfl, ⟨nd, rfl⟩⟩))
  go_ret
  exact ⟨by first | rfl | (simp [errW_none, errW_some] <;> rfl) | (simp [*, errW_none, errW_some] <;> rfl), by repeat (first | (with_reducible first | exact HB.out | apply qA | apply qN | apply qD | refine qS ?_ GE361.out) | exact HB.out)⟩
end Go.Proofs.Ythfemojaabejiaa.G
end
section
namespace Go.Proofs.Ythfemojaabejiaa.G
open Go.RowKit Go.Proofs.YthfemojaabejiaaW.PrintWords Go.Proofs.YthfemojaabejiaaW.PrintLast Go.Proofs.YthfemojaabejiaaW.PrintMore
attribute [local go_sem] max2_int min2_int max_two min_two max_three min_three max_four min_four
set_option linter.unusedVariables false
set_option linter.unusedSimpArgs false
mutual
def spec_RowOk.j0 : Nat → List (S95) → Bool → List Bool → List (S141) → Option (Bool)
  | 0, _, _, _, _ => none
  | k + 1, x1, x13, x365000, x365001 => if x13 = true then (some false) else (spec_RowOk.l0 k x1 0 x365000 x365001)
def spec_RowOk.l0 : Nat → List (S95) → Int → List Bool → List (S141) → Option (Bool)
  | 0, _, _, _, _ => none
  | k + 1, x1, x5, x365000, x365001 => if x5 < (x1.length : Int) then (if 0 ≤ x5 then ((spec_l3Inputs.f k x365000 x365001 ((rd_T95 x1 x5).f0)).bind fun t367 => (if t367 = true then ((spec_l4Keys.f k x365000 x365001 ((rd_T95 x1 x5).f1)).bind fun t369 => (if t369 = true then (spec_RowOk.l0 k x1 (wrap64 (x5 + 1)) x365000 x365001) else (some false))) else (some false))) else (none)) else (some true)
end
def spec_RowOk.f (k : Nat) (l0_0 : List Bool) (l0_1 : List (S141)) (l1 : List (S95)) : Option (Bool) := if (l1.length : Int) > 6 then (spec_RowOk.j0 k l1 true l0_0 l0_1) else ((spec_SheetSafe.f k l0_0 l0_1).bind fun t365 => (spec_RowOk.j0 k l1 (!t365) l0_0 l0_1))
def spec_RowOk.T6 : Bool × List (List Nat × List Nat) := (true, [([], []), ([], []), ([], []), ([1, 2], [1, 2]), ([3], [3]), ([4], [4]), ([0, 5], [0, 5]), ([6], [6]), ([7, 6], [7]), ([8], [8]), ([8], [8]), ([8], [8]), ([10, 11, 8], [8, 10, 11]), ([12, 8], [8, 12]), ([13, 8], [8, 13]), ([9, 14, 8, 8], [8, 9, 14]), ([15, 8], [8, 15]), ([8, 16], [8, 16])])
def spec_RowOk.B6 : List Nat := [0, 0, 0, 6, 14, 30, 63, 127, 255, 511, 511, 511, 3583, 7679, 15871, 32767, 65535, 131071]
theorem spec_RowOk.tab6 : rtab .any (opsOf Try.f27 6) = spec_RowOk.T6 := by kernel_rfl
theorem spec_RowOk.bits6 : waitsOk spec_RowOk.T6.2 spec_RowOk.B6 = true := by kernel_rfl
set_option maxHeartbeats 8000000 in
set_option maxRecDepth 100000 in
theorem spec_RowOk.calls (k : Nat) (A0_0 : Option Addr) (c0_0 : Nat) (l0_0 : List Bool) (A0_1 : Option Addr) (c0_1 : Nat) (l0_1 : List (S141)) (A1 : Option Addr) (c1 : Nat) (l1 : List (S95)) (r : Bool) (w : World) (hr0_0 : Kd.C Kd.bool w A0_0 l0_0.length l0_0) (hc0_0 : l0_0.length ≤ c0_0) (hr0_1 : Kd.C k141 w A0_1 l0_1.length l0_1) (hc0_1 : l0_1.length ≤ c0_1) (hr1 : Kd.C k95 w A1 l1.length l1) (hc1 : l1.length ≤ c1) (h : spec_RowOk.f k l0_0 l0_1 l1 = some r) :
    Calls Try.prog 27 #[.agg #[.slice A0_0 l0_0.length c0_0, .slice A0_1 l0_1.length c0_1], .slice A1 l1.length c1] w fun e w' => e = .returned (.bool r) ∧ Below w.heap.size w w' := by
  have hu30 := Try.underlying30
  have HR0_0 := qM hr0_0
  have HC0_0 := qM hc0_0
  clear hr0_0 hc0_0
  have HR0_1 := qM hr0_1
  have HC0_1 := qM hc0_1
  clear hr0_1 hc0_1
  have HR1 := qM hr1
  have HC1 := qM hc1
  clear hr1 hc1
  have HB := qM (Below.refl w.heap.size w)
  have H : (if (l1.length : Int) > 6 then (spec_RowOk.j0 k l1 true l0_0 l0_1) else ((spec_SheetSafe.f k l0_0 l0_1).bind fun t365 => (spec_RowOk.j0 k l1 (!t365) l0_0 l0_1))) = some r := h
  clear h
  have HC3 := qM H
  clear H
  go_enter Try.func27, Try.ntmps27
  go_upto_region 1 with (first | ((with_reducible refine gate_dst (N := 2) rfl ?_); refine box_event ?hg (N := 2) ?hd (cs := #[.slice A0_0 l0_0.length c0_0, .slice A0_1 l0_1.length c0_1]) (t := 30) ?hr ?_; (case hd => rfl); (case hg => rfl); (case hr => first | (go_simp; done) | (go_simp; rfl)); intro gb364 hg w4 hbox hb; have n0_ := qM (qs (by repeat (first | (with_reducible first | exact HB.out | apply qA | apply qN | apply qD) | exact HB.out)) hb); have n1_ := qM (hbox); have n2_ := qM ((by rw [hg]; exact (qz (by repeat (first | (with_reducible first | exact HB.out | apply qA | apply qN | apply qD) | exact HB.out))) : w.heap.size ≤ gb364)); have n3_ := qM ((by rw [hg]; exact (qz (by repeat (first | (with_reducible first | exact HB.out | apply qA | apply qN | apply qD) | exact HB.out))) : w.heap.size ≤ gb364)); clear HB; have HB := n0_; have BK364 := n1_; have GW364 := n2_; have GE364 := n3_; clear n0_ n1_ n2_ n3_; clear hb hbox hg))
  (try simp only [Act.put, List.setIfInBounds_toArray, List.set_cons_zero, List.set_cons_succ])
  go_cut [13] (fun v13 wc => ∃ (kq : Nat) (x13_2 : Bool), v13 = .bool x13_2 ∧ Aside0 (spec_RowOk.j0 kq l1 x13_2 l0_0 l0_1 = some r) ∧ Aside0 (kq ≤ k) ∧ Aside0 (wc.heap[gb364]? = some (.cells #[(.slice A0_0 l0_0.length c0_0), (.slice A0_1 l0_1.length c0_1)] 30 (0, 0))) ∧ Aside0 (Below w.heap.size w wc))
  case first =>
    have H := HC3.out
    clear HC3
    by_cases c5 : (l1.length : Int) > 6
    · rw [if_pos c5] at H
      have c5b0 : decide (6 < (l1.length : Int)) = true := decide_eq_true c5
      have c5b1 : decide (6 < l1.length) = true := decide_eq_true (by omega)
      clear c5
      (first | rw [c5b0] | (simp only [i64_w, i32_w]; rw [c5b0]) | skip)
      have H' := qM H
      clear H
      go_wp2
      go_meet
      case rel => exact ⟨_, (true), (by first | rfl | (simp; done) | (simp [*]; done)), H', ⟨by first | omega | exact Nat.le_refl _⟩, ⟨by (with_reducible repeat (first | refine qn ?_ _ | refine qd ?_ | refine qa ?_ _)); exact BK364.out⟩, ⟨by repeat (first | (with_reducible first | exact HB.out | apply qA | apply qN | apply qD | refine qS ?_ GE364.out) | exact HB.out)⟩⟩
    rw [if_neg c5] at H
    have c5b0 : decide (6 < (l1.length : Int)) = false := decide_eq_false c5
    have c5b1 : decide (6 < l1.length) = false := decide_eq_false (by omega)
    clear c5
    (first | rw [c5b0] | (simp only [i64_w, i32_w]; rw [c5b0]) | skip)
    replace H := Option.bind_eq_some_iff.mp H
    obtain ⟨t365, A60, H⟩ := H
    replace H : (spec_RowOk.j0 k l1 (!t365) l0_0 l0_1) = some r := H
    have A6 := qM A60
    clear A60
    have H' := qM H
    clear H
    have hcz7_0 : w4.cell? ⟨gb364, 0, none⟩ = some (.slice A0_0 l0_0.length c0_0) := (qC BK364.out 0).trans rfl
    have hcz7_1 : w4.cell? ⟨gb364, 1, none⟩ = some (.slice A0_1 l0_1.length c0_1) := (qC BK364.out 1).trans rfl
    have hfz7_0 := qF BK364.out 0
    have hfz7_1 := qF BK364.out 1
    go_wp2_with (first | (go_at_call 15; (with_reducible refine (spec_SheetSafe.calls k _ _ l0_0 _ _ l0_1 t365 _ ?side1 ?side2 ?side3 ?side4 A6.out).mono ?_); (case side1 => repeat (first | exact (qB HR0_0.out HB.out) | (with_reducible refine qc ?_ _) | (with_reducible refine qe ?_ _) | (with_reducible refine qf ?_))); (case side2 => exact HC0_0.out); (case side3 => repeat (first | exact (qB HR0_1.out HB.out) | (with_reducible refine qc ?_ _) | (with_reducible refine qe ?_ _) | (with_reducible refine qf ?_))); (case side4 => exact HC0_1.out); rintro e w8 ⟨rfl, hb⟩; have n0_ := qM (blk_below (g := gb364) (o := .cells #[.slice A0_0 l0_0.length c0_0, .slice A0_1 l0_1.length c0_1] 30 (0, 0)) (by (with_reducible repeat (first | refine qn ?_ _ | refine qd ?_ | refine qa ?_ _)); exact BK364.out) hb); have n1_ := qM (qs (by repeat (first | (with_reducible first | exact HB.out | apply qA | apply qN | apply qD | refine qS ?_ GE364.out) | exact HB.out)) hb); clear BK364; clear HB; have BK364 := n0_; have HB := n1_; clear n0_ n1_; (try clear hb); (try clear hb2); (try clear hk); (try clear hi)))
    go_meet
    case rel => exact ⟨_, (!t365), (by first | rfl | (simp; done) | (simp [*]; done)), H', ⟨by first | omega | exact Nat.le_refl _⟩, ⟨by (with_reducible repeat (first | refine qn ?_ _ | refine qd ?_ | refine qa ?_ _)); exact BK364.out⟩, ⟨by repeat (first | (with_reducible first | exact HB.out | apply qA | apply qN | apply qD | refine qS ?_ GE364.out) | exact HB.out)⟩⟩
  case rest =>
    clear HC3
    try clear c1
    try clear c2
    try clear p2
    try clear c5
    try clear c5b0
    try clear c5b1
    try clear hcz7_0
    try clear hcz7_1
    try clear hfz7_0
    try clear hfz7_1
    obtain ⟨kq, x13_2, rfl, HA, HJ2, BK364, HB⟩ := hcut
    cases kq with
    | zero => exact absurd HA.out (by simp [spec_RowOk.j0])
    | succ kj2 =>
      have H := HA.out
      clear HA
      simp only [spec_RowOk.j0] at H
      by_cases c9 : x13_2 = true
      · subst c9
        have H1 : (some false) = some r := by rw [if_pos rfl] at H; exact H
        clear H
        have H := H1
        clear H1
        obtain rfl := Option.some.inj H
        go_wp2
        go_ret
        exact ⟨by first | rfl | (simp [errW_none, errW_some] <;> rfl) | (simp [*, errW_none, errW_some] <;> rfl), by repeat (first | (with_reducible first | exact HB.out | apply qA | apply qN | apply qD | refine qS ?_ GE364.out) | exact HB.out)⟩
      replace c9 := Bool.eq_false_iff.mpr c9
      subst c9
      have H1 : (spec_RowOk.l0 kj2 l1 0 l0_0 l0_1) = some r := by rw [if_neg (show ¬ (false = true) by decide)] at H; exact H
      clear H
      have H := H1
      clear H1
      have H' := qM H
      clear H
      go_wp2
      go_loopg [5] kj2 (fun kq v5 w' => ∃ (x5_2 : Int), v5 = .int .i64 x5_2 ∧ Aside0 (spec_RowOk.l0 kq l1 x5_2 l0_0 l0_1 = some r) ∧ Aside0 (kq ≤ kj2) ∧ Aside0 (w'.heap[gb364]? = some (.cells #[(.slice A0_0 l0_0.length c0_0), (.slice A0_1 l0_1.length c0_1)] 30 (0, 0))) ∧ Aside0 (Below w.heap.size w w'))
      case atStart => exact ⟨(0), (by first | rfl | (simp; done) | (simp [*]; done)), H', ⟨Nat.le_refl _⟩, ⟨by (with_reducible repeat (first | refine qn ?_ _ | refine qd ?_ | refine qa ?_ _)); exact BK364.out⟩, ⟨by repeat (first | (with_reducible first | exact HB.out | apply qA | apply qN | apply qD | refine qS ?_ GE364.out) | exact HB.out)⟩⟩
      case round =>
        clear H'
        try clear c1
        try clear c2
        try clear p2
        try clear c5
        try clear c5b0
        try clear c5b1
        try clear c9
        try clear hcz7_0
        try clear hcz7_1
        try clear hfz7_0
        try clear hfz7_1
        try clear p2
        obtain ⟨x5_2, rfl, HA, HK2, BK364, HB⟩ := hrel
        cases gk with
        | zero => exact absurd HA.out (by simp [spec_RowOk.l0])
        | succ k2 =>
          have H := HA.out
          clear HA
          simp only [spec_RowOk.l0] at H
          by_cases c10 : x5_2 < (l1.length : Int)
          rotate_left
          · rw [if_neg c10] at H
            have c10b0 : decide (x5_2 < (l1.length : Int)) = false := decide_eq_false c10
            clear c10
            obtain rfl := Option.some.inj H
            go_wp2
            go_ret
            exact ⟨by first | rfl | (simp [errW_none, errW_some] <;> rfl) | (simp [*, errW_none, errW_some] <;> rfl), by repeat (first | (with_reducible first | exact HB.out | apply qA | apply qN | apply qD | refine qS ?_ GE364.out) | exact HB.out)⟩
          rw [if_pos c10] at H
          have c10b0 : decide (x5_2 < (l1.length : Int)) = true := decide_eq_true c10
          clear c10
          by_cases c11 : 0 ≤ x5_2
          rotate_left
          · rw [if_neg c11] at H
            exact absurd H (by simp)
          rw [if_pos c11] at H
          have c11b0 : decide (0 ≤ x5_2) = true := decide_eq_true c11
          clear c11
          replace H := Option.bind_eq_some_iff.mp H
          obtain ⟨t367, A120, H⟩ := H
          replace H : (if t367 = true then ((spec_l4Keys.f k2 l0_0 l0_1 ((rd_T95 l1 x5_2).f1)).bind fun t369 => (if t369 = true then (spec_RowOk.l0 k2 l1 (wrap64 (x5_2 + 1)) l0_0 l0_1) else (some false))) else (some false)) = some r := H
          have A12 := qM A120
          clear A120
          by_cases c13 : t367 = true
          rotate_left
          · replace c13 := Bool.eq_false_iff.mpr c13
            subst c13
            have H1 : (some false) = some r := by rw [if_neg (show ¬ (false = true) by decide)] at H; exact H
            clear H
            have H := H1
            clear H1
            obtain rfl := Option.some.inj H
            try go_wp2
            have n0_ := qM (qd BK364.out)
            have n1_ := qM (qD HB.out)
            clear BK364
            clear HB
            have BK364 := n0_
            have HB := n1_
            clear n0_ n1_
            have p366 : 0 ≤ (x5_2 : Int) := qO (by first | (with_reducible assumption) | assumption)
            have q366 : x5_2 < (l1.length : Int) := qO (by first | (with_reducible assumption) | assumption)
            obtain ⟨ad366, A366_0, c366_0, A366_1, c366_1, e366, hx366_0, hx366_1, hl366_0, hi366_0, hl366_1, hi366_1⟩ := at_T95 HR1.out x5_2 p366 q366
            have hw366_1 := hx366_1
            have hw366_0 := hx366_0
            cases e366
            replace hx366_0 := (HB.out.cell (qL w _ hx366_0)).trans hx366_0
            replace hx366_1 := (HB.out.cell (qL w _ hx366_1)).trans hx366_1
            have HR366_0 := qM hi366_0
            have HC366_0 := qM hl366_0
            clear hi366_0 hl366_0
            have HR366_1 := qM hi366_1
            have HC366_1 := qM hl366_1
            clear hi366_1 hl366_1
            replace p366 := eq_true p366
            replace q366 := eq_true q366
            refine start_ (n := 18) (S := fun w' => w'.cell? ⟨gb364, 0, none⟩ = some (.slice A0_0 l0_0.length c0_0) ∧ w'.cell? ⟨gb364, 1, none⟩ = some (.slice A0_1 l0_1.length c0_1) ∧ w'.cell? (ad366.add ((x5_2).toNat * 2)) = some (.slice A366_0 ((rd_T95 l1 x5_2).f0).length c366_0) ∧ w'.cell? ⟨(ad366.add ((x5_2).toNat * 2)).block, (ad366.add ((x5_2).toNat * 2)).off + 1, none⟩ = some (.slice A366_1 ((rd_T95 l1 x5_2).f1).length c366_1)) (ds := []) #[false, false, false, false, false, false, false, false, false, false, false, false, false, false, false, false, false, false] (by kernel_rfl) rfl rfl ⟨(qC BK364.out 0).trans rfl, (qC BK364.out 1).trans rfl, ((HB.out.cell (qL w _ hw366_0)).trans hw366_0), ((HB.out.cell (qL w _ hw366_1)).trans hw366_1)⟩ (fun hHeld => ?_); refine with_tabW spec_RowOk.tab6 spec_RowOk.bits6 (fun HT_ HW_ => ?_)
            generalize wr.drew = w22 at BK364 HB HR366_0 HR366_1 hx366_0 hx366_1 hHeld ⊢
            refine pure_ (i := 1) (N := some 21) (v := ?_) (a' := ?_) #[false, true, false, false, false, false, false, false, false, false, false, false, false, false, false, false, false, false] rfl rfl (any_of HT_.out (by kernel_rfl)) (fun _ _ _ h => h) (Or.inl ⟨by rfl, ?_⟩) ?_ ?_
            rotate_left
            · intro w'
              go_simp
              with_reducible rfl
            rotate_left
            · simp only [Act.put, List.setIfInBounds_toArray, List.set_cons_zero, List.set_cons_succ, i64_w, i32_w]
              rfl
            refine pure_ (i := 2) (N := some 22) (v := ?_) (a' := ?_) #[false, true, true, false, false, false, false, false, false, false, false, false, false, false, false, false, false, false] rfl rfl (any_of HT_.out (by kernel_rfl)) (fun _ _ _ h => h) (Or.inl ⟨by rfl, ?_⟩) ?_ ?_
            rotate_left
            · intro w'
              go_simp
              with_reducible rfl
            rotate_left
            · simp only [Act.put, List.setIfInBounds_toArray, List.set_cons_zero, List.set_cons_succ, i64_w, i32_w]
              rfl
            refine pure_ (i := 3) (N := some 23) (v := ?_) (a' := ?_) #[false, true, true, true, false, false, false, false, false, false, false, false, false, false, false, false, false, false] rfl rfl (any_of HT_.out (by kernel_rfl)) (fun _ _ _ h => h) (Or.inl ⟨by rfl, ?_⟩) ?_ ?_
            rotate_left
            · intro w'
              go_simp
              with_reducible rfl
            rotate_left
            · simp only [Act.put, List.setIfInBounds_toArray, List.set_cons_zero, List.set_cons_succ, i64_w, i32_w]
              rfl
            refine pure_ (i := 4) (N := some 24) (v := ?_) (a' := ?_) #[false, true, true, true, true, false, false, false, false, false, false, false, false, false, false, false, false, false] rfl rfl (any_of HT_.out (by kernel_rfl)) (fun _ _ _ h => h) (Or.inl ⟨by rfl, ?_⟩) ?_ ?_
            rotate_left
            · intro w'
              go_simp
              with_reducible rfl
            rotate_left
            · simp only [Act.put, List.setIfInBounds_toArray, List.set_cons_zero, List.set_cons_succ, i64_w, i32_w]
              rfl
            refine take_ (i := 0) (N := some 20) (v := ?_) (a' := ?_) #[true, true, true, true, true, false, false, false, false, false, false, false, false, false, false, false, false, false] rfl rfl (take_ofW HT_.out HW_.out (by kernel_rfl)) (fun _ _ _ h => h) (Or.inl ⟨by rfl, ?_⟩) hHeld ?_ ?_
            rotate_left
            · rintro w' ⟨s0, s1, s2, s3⟩
              go_simp
              with_reducible rfl
            rotate_left
            · simp only [Act.put, List.setIfInBounds_toArray, List.set_cons_zero, List.set_cons_succ, i64_w, i32_w]
              rfl
            refine take_ (i := 5) (N := some 25) (v := ?_) (a' := ?_) #[true, true, true, true, true, true, false, false, false, false, false, false, false, false, false, false, false, false] rfl rfl (take_ofW HT_.out HW_.out (by kernel_rfl)) (fun _ _ _ h => h) (Or.inl ⟨by rfl, ?_⟩) hHeld ?_ ?_
            rotate_left
            · rintro w' ⟨s0, s1, s2, s3⟩
              go_simp
              with_reducible rfl
            rotate_left
            · simp only [Act.put, List.setIfInBounds_toArray, List.set_cons_zero, List.set_cons_succ, i64_w, i32_w]
              rfl
            refine one_ (i := 6) (N := some 26) #[true, true, true, true, true, true, true, false, false, false, false, false, false, false, false, false, false, false] rfl rfl (one_of HT_.out (by kernel_rfl)) (by decide) (fun K hK => ?_)
            refine goes_ Try.func75 (by kernel_rfl) rfl #[.agg #[.slice A0_0 l0_0.length c0_0, .slice A0_1 l0_1.length c0_1], .slice A366_0 ((rd_T95 l1 x5_2).f0).length c366_0] (by rfl) rfl rfl (by (try simp only [List.map_toArray, List.map_cons, List.map_nil]); first | done | rfl | (simp only [List.length_drop, List.length_take]; rfl)) ?_
            with_reducible refine (spec_l3Inputs.calls k2 _ _ l0_0 _ _ l0_1 _ _ ((rd_T95 l1 x5_2).f0) false _ ?side1 ?side2 ?side3 ?side4 ?side5 ?side6 A12.out).mono ?_
            (case side1 => repeat (first | exact (qB HR0_0.out HB.out) | (with_reducible refine qc ?_ _) | (with_reducible refine qe ?_ _) | (with_reducible refine qf ?_)))
            (case side2 => exact HC0_0.out)
            (case side3 => repeat (first | exact (qB HR0_1.out HB.out) | (with_reducible refine qc ?_ _) | (with_reducible refine qe ?_ _) | (with_reducible refine qf ?_)))
            (case side4 => exact HC0_1.out)
            (case side5 => repeat (first | exact (qB HR366_0.out HB.out) | (with_reducible refine qc ?_ _) | (with_reducible refine qe ?_ _) | (with_reducible refine qf ?_)))
            (case side6 => exact HC366_0.out)
            rintro e w23 ⟨rfl, hb⟩
            refine ⟨_, rfl, ?_⟩
            have n0_ := qM (blk_below (g := gb364) (o := .cells #[.slice A0_0 l0_0.length c0_0, .slice A0_1 l0_1.length c0_1] 30 (0, 0)) (by (with_reducible repeat (first | refine qn ?_ _ | refine qd ?_ | refine qa ?_ _)); exact BK364.out) hb)
            have n1_ := qM (qs (by repeat (first | (with_reducible first | exact HB.out | apply qA | apply qN | apply qD | refine qS ?_ GE364.out) | exact HB.out)) hb)
            clear BK364
            clear HB
            have BK364 := n0_
            have HB := n1_
            clear n0_ n1_
            (try clear hb)
            (try clear hb2)
            (try clear hk)
            (try clear hi)
            refine hK.out _ _ ⟨(qC BK364.out 0).trans rfl, (qC BK364.out 1).trans rfl, ((HB.out.cell (qL w _ hw366_0)).trans hw366_0), ((HB.out.cell (qL w _ hw366_1)).trans hw366_1)⟩ (fun hHeld => ?_)
            clear hK K
            refine norm_ (a' := ?_) ?_ ?_
            rotate_left
            · show Act.put _ (some 26) _ = _
              simp only [Act.put, List.setIfInBounds_toArray, List.set_cons_zero, List.set_cons_succ, i64_w, i32_w]
              rfl
            refine pure_ (i := 7) (N := some 27) (v := ?_) (a' := ?_) #[true, true, true, true, true, true, true, true, false, false, false, false, false, false, false, false, false, false] rfl rfl (any_of HT_.out (by kernel_rfl)) (fun _ _ _ h => h) (Or.inl ⟨by rfl, ?_⟩) ?_ ?_
            rotate_left
            · intro w'
              go_simp
              with_reducible rfl
            rotate_left
            · simp only [Act.put, List.setIfInBounds_toArray, List.set_cons_zero, List.set_cons_succ, i64_w, i32_w]
              rfl
            refine pure_ (i := 8) (N := some 28) (v := ?_) (a' := ?_) #[true, true, true, true, true, true, true, true, true, false, false, false, false, false, false, false, false, false] rfl rfl (any_of HT_.out (by kernel_rfl)) (fun _ _ _ h => h) (Or.inl ⟨by rfl, ?_⟩) ?_ ?_
            rotate_left
            · intro w'
              go_simp
              with_reducible rfl
            rotate_left
            · simp only [Act.put, List.setIfInBounds_toArray, List.set_cons_zero, List.set_cons_succ, i64_w, i32_w]
              rfl
            refine pure_ (i := 9) (N := some 29) (v := undef) (a' := ?_) #[true, true, true, true, true, true, true, true, true, true, false, false, false, false, false, false, false, false] rfl rfl (any_of HT_.out (by kernel_rfl)) (fun _ _ _ h => h) (Or.inr ⟨by rfl, rfl⟩) ?_ ?_
            rotate_left
            · simp only [Act.put, List.setIfInBounds_toArray, List.set_cons_zero, List.set_cons_succ, i64_w, i32_w]
              rfl
            refine pure_ (i := 10) (N := some 30) (v := undef) (a' := ?_) #[true, true, true, true, true, true, true, true, true, true, true, false, false, false, false, false, false, false] rfl rfl (any_of HT_.out (by kernel_rfl)) (fun _ _ _ h => h) (Or.inr ⟨by rfl, rfl⟩) ?_ ?_
            rotate_left
            · simp only [Act.put, List.setIfInBounds_toArray, List.set_cons_zero, List.set_cons_succ, i64_w, i32_w]
              rfl
            refine pure_ (i := 11) (N := some 31) (v := undef) (a' := ?_) #[true, true, true, true, true, true, true, true, true, true, true, true, false, false, false, false, false, false] rfl rfl (any_of HT_.out (by kernel_rfl)) (fun _ _ _ h => h) (Or.inr ⟨by rfl, rfl⟩) ?_ ?_
            rotate_left
            · simp only [Act.put, List.setIfInBounds_toArray, List.set_cons_zero, List.set_cons_succ, i64_w, i32_w]
              rfl
            refine pure_ (i := 12) (N := some 32) (v := undef) (a' := ?_) #[true, true, true, true, true, true, true, true, true, true, true, true, true, false, false, false, false, false] rfl rfl (any_of HT_.out (by kernel_rfl)) (fun _ _ _ h => h) (Or.inr ⟨by rfl, rfl⟩) ?_ ?_
            rotate_left
            · simp only [Act.put, List.setIfInBounds_toArray, List.set_cons_zero, List.set_cons_succ, i64_w, i32_w]
              rfl
            refine pure_ (i := 13) (N := some 33) (v := undef) (a' := ?_) #[true, true, true, true, true, true, true, true, true, true, true, true, true, true, false, false, false, false] rfl rfl (any_of HT_.out (by kernel_rfl)) (fun _ _ _ h => h) (Or.inr ⟨by rfl, rfl⟩) ?_ ?_
            rotate_left
            · simp only [Act.put, List.setIfInBounds_toArray, List.set_cons_zero, List.set_cons_succ, i64_w, i32_w]
              rfl
            refine pure_ (i := 14) (N := some 34) (v := undef) (a' := ?_) #[true, true, true, true, true, true, true, true, true, true, true, true, true, true, true, false, false, false] rfl rfl (any_of HT_.out (by kernel_rfl)) (fun _ _ _ h => h) (Or.inr ⟨by rfl, rfl⟩) ?_ ?_
            rotate_left
            · simp only [Act.put, List.setIfInBounds_toArray, List.set_cons_zero, List.set_cons_succ, i64_w, i32_w]
              rfl
            refine pure_ (i := 15) (N := some 35) (v := undef) (a' := ?_) #[true, true, true, true, true, true, true, true, true, true, true, true, true, true, true, true, false, false] rfl rfl (any_of HT_.out (by kernel_rfl)) (fun _ _ _ h => h) (Or.inr ⟨by rfl, rfl⟩) ?_ ?_
            rotate_left
            · simp only [Act.put, List.setIfInBounds_toArray, List.set_cons_zero, List.set_cons_succ, i64_w, i32_w]
              rfl
            refine pure_ (i := 16) (N := some 36) (v := undef) (a' := ?_) #[true, true, true, true, true, true, true, true, true, true, true, true, true, true, true, true, true, false] rfl rfl (any_of HT_.out (by kernel_rfl)) (fun _ _ _ h => h) (Or.inr ⟨by rfl, rfl⟩) ?_ ?_
            rotate_left
            · simp only [Act.put, List.setIfInBounds_toArray, List.set_cons_zero, List.set_cons_succ, i64_w, i32_w]
              rfl
            refine pure_ (i := 17) (N := some 37) (v := ?_) (a' := ?_) #[true, true, true, true, true, true, true, true, true, true, true, true, true, true, true, true, true, true] rfl rfl (any_of HT_.out (by kernel_rfl)) (fun _ _ _ h => h) (Or.inl ⟨by rfl, ?_⟩) ?_ ?_
            rotate_left
            · intro w'
              go_simp
              with_reducible rfl
            rotate_left
            · simp only [Act.put, List.setIfInBounds_toArray, List.set_cons_zero, List.set_cons_succ, i64_w, i32_w]
              rfl
            refine done_ (done_of HT_.out (by kernel_rfl)) ?_
            try go_wp2
            go_ret
            exact ⟨by first | rfl | (simp [errW_none, errW_some] <;> rfl) | (simp [*, errW_none, errW_some] <;> rfl), by repeat (first | (with_reducible first | exact HB.out | apply qA | apply qN | apply qD | refine qS ?_ GE364.out) | exact HB.out)⟩
          subst c13
          have H1 : ((spec_l4Keys.f k2 l0_0 l0_1 ((rd_T95 l1 x5_2).f1)).bind fun t369 => (if t369 = true then (spec_RowOk.l0 k2 l1 (wrap64 (x5_2 + 1)) l0_0 l0_1) else (some false))) = some r := by rw [if_pos rfl] at H; exact H
          clear H
          have H := H1
          clear H1
          replace H := Option.bind_eq_some_iff.mp H
          obtain ⟨t369, A140, H⟩ := H
          replace H : (if t369 = true then (spec_RowOk.l0 k2 l1 (wrap64 (x5_2 + 1)) l0_0 l0_1) else (some false)) = some r := H
          have A14 := qM A140
          clear A140
          by_cases c15 : t369 = true
          rotate_left
          · replace c15 := Bool.eq_false_iff.mpr c15
            subst c15
            have H1 : (some false) = some r := by rw [if_neg (show ¬ (false = true) by decide)] at H; exact H
            clear H
            have H := H1
            clear H1
            obtain rfl := Option.some.inj H
            try go_wp2
            have n0_ := qM (qd BK364.out)
            have n1_ := qM (qD HB.out)
            clear BK364
            clear HB
            have BK364 := n0_
            have HB := n1_
            clear n0_ n1_
            have p366 : 0 ≤ (x5_2 : Int) := qO (by first | (with_reducible assumption) | assumption)
            have q366 : x5_2 < (l1.length : Int) := qO (by first | (with_reducible assumption) | assumption)
            obtain ⟨ad366, A366_0, c366_0, A366_1, c366_1, e366, hx366_0, hx366_1, hl366_0, hi366_0, hl366_1, hi366_1⟩ := at_T95 HR1.out x5_2 p366 q366
            have hw366_1 := hx366_1
            have hw366_0 := hx366_0
            cases e366
            replace hx366_0 := (HB.out.cell (qL w _ hx366_0)).trans hx366_0
            replace hx366_1 := (HB.out.cell (qL w _ hx366_1)).trans hx366_1
            have HR366_0 := qM hi366_0
            have HC366_0 := qM hl366_0
            clear hi366_0 hl366_0
            have HR366_1 := qM hi366_1
            have HC366_1 := qM hl366_1
            clear hi366_1 hl366_1
            replace p366 := eq_true p366
            replace q366 := eq_true q366
            have p368 : 0 ≤ (x5_2 : Int) := qO (by first | (with_reducible assumption) | assumption)
            have q368 : x5_2 < (l1.length : Int) := qO (by first | (with_reducible assumption) | assumption)
            obtain ⟨ad368, A368_0, c368_0, A368_1, c368_1, e368, hx368_0, hx368_1, hl368_0, hi368_0, hl368_1, hi368_1⟩ := at_T95 HR1.out x5_2 p368 q368
            have hw368_1 := hx368_1
            have hw368_0 := hx368_0
            obtain rfl : ad366 = ad368 := (by injection e368)
            replace hx368_0 := (HB.out.cell (qL w _ hx368_0)).trans hx368_0
            replace hx368_1 := (HB.out.cell (qL w _ hx368_1)).trans hx368_1
            obtain rfl : A366_0 = A368_0 := (by have h_ := Option.some.inj (hx366_0.symm.trans hx368_0); injection h_)
            obtain rfl : c366_0 = c368_0 := (by have h_ := Option.some.inj (hx366_0.symm.trans hx368_0); injection h_)
            obtain rfl : A366_1 = A368_1 := (by have h_ := Option.some.inj (hx366_1.symm.trans hx368_1); injection h_)
            obtain rfl : c366_1 = c368_1 := (by have h_ := Option.some.inj (hx366_1.symm.trans hx368_1); injection h_)
            have HR368_0 := qM hi368_0
            have HC368_0 := qM hl368_0
            clear hi368_0 hl368_0
            have HR368_1 := qM hi368_1
            have HC368_1 := qM hl368_1
            clear hi368_1 hl368_1
            replace p368 := eq_true p368
            replace q368 := eq_true q368
            refine start_ (n := 18) (S := fun w' => w'.cell? ⟨gb364, 0, none⟩ = some (.slice A0_0 l0_0.length c0_0) ∧ w'.cell? ⟨gb364, 1, none⟩ = some (.slice A0_1 l0_1.length c0_1) ∧ w'.cell? (ad366.add ((x5_2).toNat * 2)) = some (.slice A366_0 ((rd_T95 l1 x5_2).f0).length c366_0) ∧ w'.cell? ⟨(ad366.add ((x5_2).toNat * 2)).block, (ad366.add ((x5_2).toNat * 2)).off + 1, none⟩ = some (.slice A366_1 ((rd_T95 l1 x5_2).f1).length c366_1) ∧ w'.cell? (ad366.add ((x5_2).toNat * 2)) = some (.slice A366_0 ((rd_T95 l1 x5_2).f0).length c366_0) ∧ w'.cell? ⟨(ad366.add ((x5_2).toNat * 2)).block, (ad366.add ((x5_2).toNat * 2)).off + 1, none⟩ = some (.slice A366_1 ((rd_T95 l1 x5_2).f1).length c366_1)) (ds := []) #[false, false, false, false, false, false, false, false, false, false, false, false, false, false, false, false, false, false] (by kernel_rfl) rfl rfl ⟨(qC BK364.out 0).trans rfl, (qC BK364.out 1).trans rfl, ((HB.out.cell (qL w _ hw366_0)).trans hw366_0), ((HB.out.cell (qL w _ hw366_1)).trans hw366_1), ((HB.out.cell (qL w _ hw368_0)).trans hw368_0), ((HB.out.cell (qL w _ hw368_1)).trans hw368_1)⟩ (fun hHeld => ?_); refine with_tabW spec_RowOk.tab6 spec_RowOk.bits6 (fun HT_ HW_ => ?_)
            generalize wr.drew = w19 at BK364 HB HR366_0 HR366_1 HR368_0 HR368_1 hx366_0 hx366_1 hx368_0 hx368_1 hHeld ⊢
            refine pure_ (i := 1) (N := some 21) (v := ?_) (a' := ?_) #[false, true, false, false, false, false, false, false, false, false, false, false, false, false, false, false, false, false] rfl rfl (any_of HT_.out (by kernel_rfl)) (fun _ _ _ h => h) (Or.inl ⟨by rfl, ?_⟩) ?_ ?_
            rotate_left
            · intro w'
              go_simp
              with_reducible rfl
            rotate_left
            · simp only [Act.put, List.setIfInBounds_toArray, List.set_cons_zero, List.set_cons_succ, i64_w, i32_w]
              rfl
            refine pure_ (i := 2) (N := some 22) (v := ?_) (a' := ?_) #[false, true, true, false, false, false, false, false, false, false, false, false, false, false, false, false, false, false] rfl rfl (any_of HT_.out (by kernel_rfl)) (fun _ _ _ h => h) (Or.inl ⟨by rfl, ?_⟩) ?_ ?_
            rotate_left
            · intro w'
              go_simp
              with_reducible rfl
            rotate_left
            · simp only [Act.put, List.setIfInBounds_toArray, List.set_cons_zero, List.set_cons_succ, i64_w, i32_w]
              rfl
            refine pure_ (i := 3) (N := some 23) (v := ?_) (a' := ?_) #[false, true, true, true, false, false, false, false, false, false, false, false, false, false, false, false, false, false] rfl rfl (any_of HT_.out (by kernel_rfl)) (fun _ _ _ h => h) (Or.inl ⟨by rfl, ?_⟩) ?_ ?_
            rotate_left
            · intro w'
              go_simp
              with_reducible rfl
            rotate_left
            · simp only [Act.put, List.setIfInBounds_toArray, List.set_cons_zero, List.set_cons_succ, i64_w, i32_w]
              rfl
            refine pure_ (i := 4) (N := some 24) (v := ?_) (a' := ?_) #[false, true, true, true, true, false, false, false, false, false, false, false, false, false, false, false, false, false] rfl rfl (any_of HT_.out (by kernel_rfl)) (fun _ _ _ h => h) (Or.inl ⟨by rfl, ?_⟩) ?_ ?_
            rotate_left
            · intro w'
              go_simp
              with_reducible rfl
            rotate_left
            · simp only [Act.put, List.setIfInBounds_toArray, List.set_cons_zero, List.set_cons_succ, i64_w, i32_w]
              rfl
            refine take_ (i := 0) (N := some 20) (v := ?_) (a' := ?_) #[true, true, true, true, true, false, false, false, false, false, false, false, false, false, false, false, false, false] rfl rfl (take_ofW HT_.out HW_.out (by kernel_rfl)) (fun _ _ _ h => h) (Or.inl ⟨by rfl, ?_⟩) hHeld ?_ ?_
            rotate_left
            · rintro w' ⟨s0, s1, s2, s3, s4, s5⟩
              go_simp
              with_reducible rfl
            rotate_left
            · simp only [Act.put, List.setIfInBounds_toArray, List.set_cons_zero, List.set_cons_succ, i64_w, i32_w]
              rfl
            refine take_ (i := 5) (N := some 25) (v := ?_) (a' := ?_) #[true, true, true, true, true, true, false, false, false, false, false, false, false, false, false, false, false, false] rfl rfl (take_ofW HT_.out HW_.out (by kernel_rfl)) (fun _ _ _ h => h) (Or.inl ⟨by rfl, ?_⟩) hHeld ?_ ?_
            rotate_left
            · rintro w' ⟨s0, s1, s2, s3, s4, s5⟩
              go_simp
              with_reducible rfl
            rotate_left
            · simp only [Act.put, List.setIfInBounds_toArray, List.set_cons_zero, List.set_cons_succ, i64_w, i32_w]
              rfl
            refine one_ (i := 6) (N := some 26) #[true, true, true, true, true, true, true, false, false, false, false, false, false, false, false, false, false, false] rfl rfl (one_of HT_.out (by kernel_rfl)) (by decide) (fun K hK => ?_)
            refine goes_ Try.func75 (by kernel_rfl) rfl #[.agg #[.slice A0_0 l0_0.length c0_0, .slice A0_1 l0_1.length c0_1], .slice A366_0 ((rd_T95 l1 x5_2).f0).length c366_0] (by rfl) rfl rfl (by (try simp only [List.map_toArray, List.map_cons, List.map_nil]); first | done | rfl | (simp only [List.length_drop, List.length_take]; rfl)) ?_
            with_reducible refine (spec_l3Inputs.calls k2 _ _ l0_0 _ _ l0_1 _ _ ((rd_T95 l1 x5_2).f0) true _ ?side1 ?side2 ?side3 ?side4 ?side5 ?side6 A12.out).mono ?_
            (case side1 => repeat (first | exact (qB HR0_0.out HB.out) | (with_reducible refine qc ?_ _) | (with_reducible refine qe ?_ _) | (with_reducible refine qf ?_)))
            (case side2 => exact HC0_0.out)
            (case side3 => repeat (first | exact (qB HR0_1.out HB.out) | (with_reducible refine qc ?_ _) | (with_reducible refine qe ?_ _) | (with_reducible refine qf ?_)))
            (case side4 => exact HC0_1.out)
            (case side5 => repeat (first | exact (qB HR366_0.out HB.out) | (with_reducible refine qc ?_ _) | (with_reducible refine qe ?_ _) | (with_reducible refine qf ?_)))
            (case side6 => exact HC366_0.out)
            rintro e w20 ⟨rfl, hb⟩
            refine ⟨_, rfl, ?_⟩
            have n0_ := qM (blk_below (g := gb364) (o := .cells #[.slice A0_0 l0_0.length c0_0, .slice A0_1 l0_1.length c0_1] 30 (0, 0)) (by (with_reducible repeat (first | refine qn ?_ _ | refine qd ?_ | refine qa ?_ _)); exact BK364.out) hb)
            have n1_ := qM (qs (by repeat (first | (with_reducible first | exact HB.out | apply qA | apply qN | apply qD | refine qS ?_ GE364.out) | exact HB.out)) hb)
            clear BK364
            clear HB
            have BK364 := n0_
            have HB := n1_
            clear n0_ n1_
            (try clear hb)
            (try clear hb2)
            (try clear hk)
            (try clear hi)
            refine hK.out _ _ ⟨(qC BK364.out 0).trans rfl, (qC BK364.out 1).trans rfl, ((HB.out.cell (qL w _ hw366_0)).trans hw366_0), ((HB.out.cell (qL w _ hw366_1)).trans hw366_1), ((HB.out.cell (qL w _ hw368_0)).trans hw368_0), ((HB.out.cell (qL w _ hw368_1)).trans hw368_1)⟩ (fun hHeld => ?_)
            clear hK K
            refine norm_ (a' := ?_) ?_ ?_
            rotate_left
            · show Act.put _ (some 26) _ = _
              simp only [Act.put, List.setIfInBounds_toArray, List.set_cons_zero, List.set_cons_succ, i64_w, i32_w]
              rfl
            refine pure_ (i := 7) (N := some 27) (v := ?_) (a' := ?_) #[true, true, true, true, true, true, true, true, false, false, false, false, false, false, false, false, false, false] rfl rfl (any_of HT_.out (by kernel_rfl)) (fun _ _ _ h => h) (Or.inl ⟨by rfl, ?_⟩) ?_ ?_
            rotate_left
            · intro w'
              go_simp
              with_reducible rfl
            rotate_left
            · simp only [Act.put, List.setIfInBounds_toArray, List.set_cons_zero, List.set_cons_succ, i64_w, i32_w]
              rfl
            refine pure_ (i := 8) (N := some 28) (v := ?_) (a' := ?_) #[true, true, true, true, true, true, true, true, true, false, false, false, false, false, false, false, false, false] rfl rfl (any_of HT_.out (by kernel_rfl)) (fun _ _ _ h => h) (Or.inl ⟨by rfl, ?_⟩) ?_ ?_
            rotate_left
            · intro w'
              go_simp
              with_reducible rfl
            rotate_left
            · simp only [Act.put, List.setIfInBounds_toArray, List.set_cons_zero, List.set_cons_succ, i64_w, i32_w]
              rfl
            refine pure_ (i := 10) (N := some 30) (v := ?_) (a' := ?_) #[true, true, true, true, true, true, true, true, true, false, true, false, false, false, false, false, false, false] rfl rfl (any_of HT_.out (by kernel_rfl)) (fun _ _ _ h => h) (Or.inl ⟨by rfl, ?_⟩) ?_ ?_
            rotate_left
            · intro w'
              go_simp
              with_reducible rfl
            rotate_left
            · simp only [Act.put, List.setIfInBounds_toArray, List.set_cons_zero, List.set_cons_succ, i64_w, i32_w]
              rfl
            refine pure_ (i := 11) (N := some 31) (v := ?_) (a' := ?_) #[true, true, true, true, true, true, true, true, true, false, true, true, false, false, false, false, false, false] rfl rfl (any_of HT_.out (by kernel_rfl)) (fun _ _ _ h => h) (Or.inl ⟨by rfl, ?_⟩) ?_ ?_
            rotate_left
            · intro w'
              go_simp
              with_reducible rfl
            rotate_left
            · simp only [Act.put, List.setIfInBounds_toArray, List.set_cons_zero, List.set_cons_succ, i64_w, i32_w]
              rfl
            refine pure_ (i := 12) (N := some 32) (v := ?_) (a' := ?_) #[true, true, true, true, true, true, true, true, true, false, true, true, true, false, false, false, false, false] rfl rfl (any_of HT_.out (by kernel_rfl)) (fun _ _ _ h => h) (Or.inl ⟨by rfl, ?_⟩) ?_ ?_
            rotate_left
            · intro w'
              go_simp
              with_reducible rfl
            rotate_left
            · simp only [Act.put, List.setIfInBounds_toArray, List.set_cons_zero, List.set_cons_succ, i64_w, i32_w]
              rfl
            refine pure_ (i := 13) (N := some 33) (v := ?_) (a' := ?_) #[true, true, true, true, true, true, true, true, true, false, true, true, true, true, false, false, false, false] rfl rfl (any_of HT_.out (by kernel_rfl)) (fun _ _ _ h => h) (Or.inl ⟨by rfl, ?_⟩) ?_ ?_
            rotate_left
            · intro w'
              go_simp
              with_reducible rfl
            rotate_left
            · simp only [Act.put, List.setIfInBounds_toArray, List.set_cons_zero, List.set_cons_succ, i64_w, i32_w]
              rfl
            refine take_ (i := 9) (N := some 29) (v := ?_) (a' := ?_) #[true, true, true, true, true, true, true, true, true, true, true, true, true, true, false, false, false, false] rfl rfl (take_ofW HT_.out HW_.out (by kernel_rfl)) (fun _ _ _ h => h) (Or.inl ⟨by rfl, ?_⟩) hHeld ?_ ?_
            rotate_left
            · rintro w' ⟨s0, s1, s2, s3, s4, s5⟩
              go_simp
              with_reducible rfl
            rotate_left
            · simp only [Act.put, List.setIfInBounds_toArray, List.set_cons_zero, List.set_cons_succ, i64_w, i32_w]
              rfl
            refine take_ (i := 14) (N := some 34) (v := ?_) (a' := ?_) #[true, true, true, true, true, true, true, true, true, true, true, true, true, true, true, false, false, false] rfl rfl (take_ofW HT_.out HW_.out (by kernel_rfl)) (fun _ _ _ h => h) (Or.inl ⟨by rfl, ?_⟩) hHeld ?_ ?_
            rotate_left
            · rintro w' ⟨s0, s1, s2, s3, s4, s5⟩
              go_simp
              with_reducible rfl
            rotate_left
            · simp only [Act.put, List.setIfInBounds_toArray, List.set_cons_zero, List.set_cons_succ, i64_w, i32_w]
              rfl
            refine one_ (i := 15) (N := some 35) #[true, true, true, true, true, true, true, true, true, true, true, true, true, true, true, true, false, false] rfl rfl (one_of HT_.out (by kernel_rfl)) (by decide) (fun K hK => ?_)
            refine goes_ Try.func67 (by kernel_rfl) rfl #[.agg #[.slice A0_0 l0_0.length c0_0, .slice A0_1 l0_1.length c0_1], .slice A366_1 ((rd_T95 l1 x5_2).f1).length c366_1] (by rfl) rfl rfl (by (try simp only [List.map_toArray, List.map_cons, List.map_nil]); first | done | rfl | (simp only [List.length_drop, List.length_take]; rfl)) ?_
            with_reducible refine (spec_l4Keys.calls k2 _ _ l0_0 _ _ l0_1 _ _ ((rd_T95 l1 x5_2).f1) false _ ?side1 ?side2 ?side3 ?side4 ?side5 ?side6 A14.out).mono ?_
            (case side1 => repeat (first | exact (qB HR0_0.out HB.out) | (with_reducible refine qc ?_ _) | (with_reducible refine qe ?_ _) | (with_reducible refine qf ?_)))
            (case side2 => exact HC0_0.out)
            (case side3 => repeat (first | exact (qB HR0_1.out HB.out) | (with_reducible refine qc ?_ _) | (with_reducible refine qe ?_ _) | (with_reducible refine qf ?_)))
            (case side4 => exact HC0_1.out)
            (case side5 => repeat (first | exact (qB HR368_1.out HB.out) | (with_reducible refine qc ?_ _) | (with_reducible refine qe ?_ _) | (with_reducible refine qf ?_)))
            (case side6 => exact HC368_1.out)
            rintro e w21 ⟨rfl, hb⟩
            refine ⟨_, rfl, ?_⟩
            have n0_ := qM (blk_below (g := gb364) (o := .cells #[.slice A0_0 l0_0.length c0_0, .slice A0_1 l0_1.length c0_1] 30 (0, 0)) (by (with_reducible repeat (first | refine qn ?_ _ | refine qd ?_ | refine qa ?_ _)); exact BK364.out) hb)
            have n1_ := qM (qs (by repeat (first | (with_reducible first | exact HB.out | apply qA | apply qN | apply qD | refine qS ?_ GE364.out) | exact HB.out)) hb)
            clear BK364
            clear HB
            have BK364 := n0_
            have HB := n1_
            clear n0_ n1_
            (try clear hb)
            (try clear hb2)
            (try clear hk)
            (try clear hi)
            refine hK.out _ _ ⟨(qC BK364.out 0).trans rfl, (qC BK364.out 1).trans rfl, ((HB.out.cell (qL w _ hw366_0)).trans hw366_0), ((HB.out.cell (qL w _ hw366_1)).trans hw366_1), ((HB.out.cell (qL w _ hw368_0)).trans hw368_0), ((HB.out.cell (qL w _ hw368_1)).trans hw368_1)⟩ (fun hHeld => ?_)
            clear hK K
            refine norm_ (a' := ?_) ?_ ?_
            rotate_left
            · show Act.put _ (some 35) _ = _
              simp only [Act.put, List.setIfInBounds_toArray, List.set_cons_zero, List.set_cons_succ, i64_w, i32_w]
              rfl
            refine pure_ (i := 16) (N := some 36) (v := ?_) (a' := ?_) #[true, true, true, true, true, true, true, true, true, true, true, true, true, true, true, true, true, false] rfl rfl (any_of HT_.out (by kernel_rfl)) (fun _ _ _ h => h) (Or.inl ⟨by rfl, ?_⟩) ?_ ?_
            rotate_left
            · intro w'
              go_simp
              with_reducible rfl
            rotate_left
            · simp only [Act.put, List.setIfInBounds_toArray, List.set_cons_zero, List.set_cons_succ, i64_w, i32_w]
              rfl
            refine pure_ (i := 17) (N := some 37) (v := ?_) (a' := ?_) #[true, true, true, true, true, true, true, true, true, true, true, true, true, true, true, true, true, true] rfl rfl (any_of HT_.out (by kernel_rfl)) (fun _ _ _ h => h) (Or.inl ⟨by rfl, ?_⟩) ?_ ?_
            rotate_left
            · intro w'
              go_simp
              with_reducible rfl
            rotate_left
            · simp only [Act.put, List.setIfInBounds_toArray, List.set_cons_zero, List.set_cons_succ, i64_w, i32_w]
              rfl
            refine done_ (done_of HT_.out (by kernel_rfl)) ?_
            try go_wp2
            go_ret
            exact ⟨by first | rfl | (simp [errW_none, errW_some] <;> rfl) | (simp [*, errW_none, errW_some] <;> rfl), by repeat (first | (with_reducible first | exact HB.out | apply qA | apply qN | apply qD | refine qS ?_ GE364.out) | exact HB.out)⟩
          subst c15
          have H1 : (spec_RowOk.l0 k2 l1 (wrap64 (x5_2 + 1)) l0_0 l0_1) = some r := by rw [if_pos rfl] at H; exact H
          clear H
          have H := H1
          clear H1
          have H' := qM H
          clear H
          try go_wp2
          have n0_ := qM (qd BK364.out)
          have n1_ := qM (qD HB.out)
          clear BK364
          clear HB
          have BK364 := n0_
          have HB := n1_
          clear n0_ n1_
          have p366 : 0 ≤ (x5_2 : Int) := qO (by first | (with_reducible assumption) | assumption)
          have q366 : x5_2 < (l1.length : Int) := qO (by first | (with_reducible assumption) | assumption)
          obtain ⟨ad366, A366_0, c366_0, A366_1, c366_1, e366, hx366_0, hx366_1, hl366_0, hi366_0, hl366_1, hi366_1⟩ := at_T95 HR1.out x5_2 p366 q366
          have hw366_1 := hx366_1
          have hw366_0 := hx366_0
          cases e366
          replace hx366_0 := (HB.out.cell (qL w _ hx366_0)).trans hx366_0
          replace hx366_1 := (HB.out.cell (qL w _ hx366_1)).trans hx366_1
          have HR366_0 := qM hi366_0
          have HC366_0 := qM hl366_0
          clear hi366_0 hl366_0
          have HR366_1 := qM hi366_1
          have HC366_1 := qM hl366_1
          clear hi366_1 hl366_1
          replace p366 := eq_true p366
          replace q366 := eq_true q366
          have p368 : 0 ≤ (x5_2 : Int) := qO (by first | (with_reducible assumption) | assumption)
          have q368 : x5_2 < (l1.length : Int) := qO (by first | (with_reducible assumption) | assumption)
          obtain ⟨ad368, A368_0, c368_0, A368_1, c368_1, e368, hx368_0, hx368_1, hl368_0, hi368_0, hl368_1, hi368_1⟩ := at_T95 HR1.out x5_2 p368 q368
          have hw368_1 := hx368_1
          have hw368_0 := hx368_0
          obtain rfl : ad366 = ad368 := (by injection e368)
          replace hx368_0 := (HB.out.cell (qL w _ hx368_0)).trans hx368_0
          replace hx368_1 := (HB.out.cell (qL w _ hx368_1)).trans hx368_1
          obtain rfl : A366_0 = A368_0 := (by have h_ := Option.some.inj (hx366_0.symm.trans hx368_0); injection h_)
          obtain rfl : c366_0 = c368_0 := (by have h_ := Option.some.inj (hx366_0.symm.trans hx368_0); injection h_)
          obtain rfl : A366_1 = A368_1 := (by have h_ := Option.some.inj (hx366_1.symm.trans hx368_1); injection h_)
          obtain rfl : c366_1 = c368_1 := (by have h_ := Option.some.inj (hx366_1.symm.trans hx368_1); injection h_)
          have HR368_0 := qM hi368_0
          have HC368_0 := qM hl368_0
          clear hi368_0 hl368_0
          have HR368_1 := qM hi368_1
          have HC368_1 := qM hl368_1
          clear hi368_1 hl368_1
          replace p368 := eq_true p368
          replace q368 := eq_true q368
          refine start_ (n := 18) (S := fun w' => w'.cell? ⟨gb364, 0, none⟩ = some (.slice A0_0 l0_0.length c0_0) ∧ w'.cell? ⟨gb364, 1, none⟩ = some (.slice A0_1 l0_1.length c0_1) ∧ w'.cell? (ad366.add ((x5_2).toNat * 2)) = some (.slice A366_0 ((rd_T95 l1 x5_2).f0).length c366_0) ∧ w'.cell? ⟨(ad366.add ((x5_2).toNat * 2)).block, (ad366.add ((x5_2).toNat * 2)).off + 1, none⟩ = some (.slice A366_1 ((rd_T95 l1 x5_2).f1).length c366_1) ∧ w'.cell? (ad366.add ((x5_2).toNat * 2)) = some (.slice A366_0 ((rd_T95 l1 x5_2).f0).length c366_0) ∧ w'.cell? ⟨(ad366.add ((x5_2).toNat * 2)).block, (ad366.add ((x5_2).toNat * 2)).off + 1, none⟩ = some (.slice A366_1 ((rd_T95 l1 x5_2).f1).length c366_1)) (ds := []) #[false, false, false, false, false, false, false, false, false, false, false, false, false, false, false, false, false, false] (by kernel_rfl) rfl rfl ⟨(qC BK364.out 0).trans rfl, (qC BK364.out 1).trans rfl, ((HB.out.cell (qL w _ hw366_0)).trans hw366_0), ((HB.out.cell (qL w _ hw366_1)).trans hw366_1), ((HB.out.cell (qL w _ hw368_0)).trans hw368_0), ((HB.out.cell (qL w _ hw368_1)).trans hw368_1)⟩ (fun hHeld => ?_); refine with_tabW spec_RowOk.tab6 spec_RowOk.bits6 (fun HT_ HW_ => ?_)
          generalize wr.drew = w16 at BK364 HB HR366_0 HR366_1 HR368_0 HR368_1 hx366_0 hx366_1 hx368_0 hx368_1 hHeld ⊢
          refine pure_ (i := 1) (N := some 21) (v := ?_) (a' := ?_) #[false, true, false, false, false, false, false, false, false, false, false, false, false, false, false, false, false, false] rfl rfl (any_of HT_.out (by kernel_rfl)) (fun _ _ _ h => h) (Or.inl ⟨by rfl, ?_⟩) ?_ ?_
          rotate_left
          · intro w'
            go_simp
            with_reducible rfl
          rotate_left
          · simp only [Act.put, List.setIfInBounds_toArray, List.set_cons_zero, List.set_cons_succ, i64_w, i32_w]
            rfl
          refine pure_ (i := 2) (N := some 22) (v := ?_) (a' := ?_) #[false, true, true, false, false, false, false, false, false, false, false, false, false, false, false, false, false, false] rfl rfl (any_of HT_.out (by kernel_rfl)) (fun _ _ _ h => h) (Or.inl ⟨by rfl, ?_⟩) ?_ ?_
          rotate_left
          · intro w'
            go_simp
            with_reducible rfl
          rotate_left
          · simp only [Act.put, List.setIfInBounds_toArray, List.set_cons_zero, List.set_cons_succ, i64_w, i32_w]
            rfl
          refine pure_ (i := 3) (N := some 23) (v := ?_) (a' := ?_) #[false, true, true, true, false, false, false, false, false, false, false, false, false, false, false, false, false, false] rfl rfl (any_of HT_.out (by kernel_rfl)) (fun _ _ _ h => h) (Or.inl ⟨by rfl, ?_⟩) ?_ ?_
          rotate_left
          · intro w'
            go_simp
            with_reducible rfl
          rotate_left
          · simp only [Act.put, List.setIfInBounds_toArray, List.set_cons_zero, List.set_cons_succ, i64_w, i32_w]
            rfl
          refine pure_ (i := 4) (N := some 24) (v := ?_) (a' := ?_) #[false, true, true, true, true, false, false, false, false, false, false, false, false, false, false, false, false, false] rfl rfl (any_of HT_.out (by kernel_rfl)) (fun _ _ _ h => h) (Or.inl ⟨by rfl, ?_⟩) ?_ ?_
          rotate_left
          · intro w'
            go_simp
            with_reducible rfl
          rotate_left
          · simp only [Act.put, List.setIfInBounds_toArray, List.set_cons_zero, List.set_cons_succ, i64_w, i32_w]
            rfl
          refine take_ (i := 0) (N := some 20) (v := ?_) (a' := ?_) #[true, true, true, true, true, false, false, false, false, false, false, false, false, false, false, false, false, false] rfl rfl (take_ofW HT_.out HW_.out (by kernel_rfl)) (fun _ _ _ h => h) (Or.inl ⟨by rfl, ?_⟩) hHeld ?_ ?_
          rotate_left
          · rintro w' ⟨s0, s1, s2, s3, s4, s5⟩
            go_simp
            with_reducible rfl
          rotate_left
          · simp only [Act.put, List.setIfInBounds_toArray, List.set_cons_zero, List.set_cons_succ, i64_w, i32_w]
            rfl
          refine take_ (i := 5) (N := some 25) (v := ?_) (a' := ?_) #[true, true, true, true, true, true, false, false, false, false, false, false, false, false, false, false, false, false] rfl rfl (take_ofW HT_.out HW_.out (by kernel_rfl)) (fun _ _ _ h => h) (Or.inl ⟨by rfl, ?_⟩) hHeld ?_ ?_
          rotate_left
          · rintro w' ⟨s0, s1, s2, s3, s4, s5⟩
            go_simp
            with_reducible rfl
          rotate_left
          · simp only [Act.put, List.setIfInBounds_toArray, List.set_cons_zero, List.set_cons_succ, i64_w, i32_w]
            rfl
          refine one_ (i := 6) (N := some 26) #[true, true, true, true, true, true, true, false, false, false, false, false, false, false, false, false, false, false] rfl rfl (one_of HT_.out (by kernel_rfl)) (by decide) (fun K hK => ?_)
          refine goes_ Try.func75 (by kernel_rfl) rfl #[.agg #[.slice A0_0 l0_0.length c0_0, .slice A0_1 l0_1.length c0_1], .slice A366_0 ((rd_T95 l1 x5_2).f0).length c366_0] (by rfl) rfl rfl (by (try simp only [List.map_toArray, List.map_cons, List.map_nil]); first | done | rfl | (simp only [List.length_drop, List.length_take]; rfl)) ?_
          with_reducible refine (spec_l3Inputs.calls k2 _ _ l0_0 _ _ l0_1 _ _ ((rd_T95 l1 x5_2).f0) true _ ?side1 ?side2 ?side3 ?side4 ?side5 ?side6 A12.out).mono ?_
          (case side1 => repeat (first | exact (qB HR0_0.out HB.out) | (with_reducible refine qc ?_ _) | (with_reducible refine qe ?_ _) | (with_reducible refine qf ?_)))
          (case side2 => exact HC0_0.out)
          (case side3 => repeat (first | exact (qB HR0_1.out HB.out) | (with_reducible refine qc ?_ _) | (with_reducible refine qe ?_ _) | (with_reducible refine qf ?_)))
          (case side4 => exact HC0_1.out)
          (case side5 => repeat (first | exact (qB HR366_0.out HB.out) | (with_reducible refine qc ?_ _) | (with_reducible refine qe ?_ _) | (with_reducible refine qf ?_)))
          (case side6 => exact HC366_0.out)
          rintro e w17 ⟨rfl, hb⟩
          refine ⟨_, rfl, ?_⟩
          have n0_ := qM (blk_below (g := gb364) (o := .cells #[.slice A0_0 l0_0.length c0_0, .slice A0_1 l0_1.length c0_1] 30 (0, 0)) (by (with_reducible repeat (first | refine qn ?_ _ | refine qd ?_ | refine qa ?_ _)); exact BK364.out) hb)
          have n1_ := qM (qs (by repeat (first | (with_reducible first | exact HB.out | apply qA | apply qN | apply qD | refine qS ?_ GE364.out) | exact HB.out)) hb)
          clear BK364
          clear HB
          have BK364 := n0_
          have HB := n1_
          clear n0_ n1_
          (try clear hb)
          (try clear hb2)
          (try clear hk)
          (try clear hi)
          refine hK.out _ _ ⟨(qC BK364.out 0).trans rfl, (qC BK364.out 1).trans rfl, ((HB.out.cell (qL w _ hw366_0)).trans hw366_0), ((HB.out.cell (qL w _ hw366_1)).trans hw366_1), ((HB.out.cell (qL w _ hw368_0)).trans hw368_0), ((HB.out.cell (qL w _ hw368_1)).trans hw368_1)⟩ (fun hHeld => ?_)
          clear hK K
          refine norm_ (a' := ?_) ?_ ?_
          rotate_left
          · show Act.put _ (some 26) _ = _
            simp only [Act.put, List.setIfInBounds_toArray, List.set_cons_zero, List.set_cons_succ, i64_w, i32_w]
            rfl
          refine pure_ (i := 7) (N := some 27) (v := ?_) (a' := ?_) #[true, true, true, true, true, true, true, true, false, false, false, false, false, false, false, false, false, false] rfl rfl (any_of HT_.out (by kernel_rfl)) (fun _ _ _ h => h) (Or.inl ⟨by rfl, ?_⟩) ?_ ?_
          rotate_left
          · intro w'
            go_simp
            with_reducible rfl
          rotate_left
          · simp only [Act.put, List.setIfInBounds_toArray, List.set_cons_zero, List.set_cons_succ, i64_w, i32_w]
            rfl
          refine pure_ (i := 8) (N := some 28) (v := ?_) (a' := ?_) #[true, true, true, true, true, true, true, true, true, false, false, false, false, false, false, false, false, false] rfl rfl (any_of HT_.out (by kernel_rfl)) (fun _ _ _ h => h) (Or.inl ⟨by rfl, ?_⟩) ?_ ?_
          rotate_left
          · intro w'
            go_simp
            with_reducible rfl
          rotate_left
          · simp only [Act.put, List.setIfInBounds_toArray, List.set_cons_zero, List.set_cons_succ, i64_w, i32_w]
            rfl
          refine pure_ (i := 10) (N := some 30) (v := ?_) (a' := ?_) #[true, true, true, true, true, true, true, true, true, false, true, false, false, false, false, false, false, false] rfl rfl (any_of HT_.out (by kernel_rfl)) (fun _ _ _ h => h) (Or.inl ⟨by rfl, ?_⟩) ?_ ?_
          rotate_left
          · intro w'
            go_simp
            with_reducible rfl
          rotate_left
          · simp only [Act.put, List.setIfInBounds_toArray, List.set_cons_zero, List.set_cons_succ, i64_w, i32_w]
            rfl
          refine pure_ (i := 11) (N := some 31) (v := ?_) (a' := ?_) #[true, true, true, true, true, true, true, true, true, false, true, true, false, false, false, false, false, false] rfl rfl (any_of HT_.out (by kernel_rfl)) (fun _ _ _ h => h) (Or.inl ⟨by rfl, ?_⟩) ?_ ?_
          rotate_left
          · intro w'
            go_simp
            with_reducible rfl
          rotate_left
          · simp only [Act.put, List.setIfInBounds_toArray, List.set_cons_zero, List.set_cons_succ, i64_w, i32_w]
            rfl
          refine pure_ (i := 12) (N := some 32) (v := ?_) (a' := ?_) #[true, true, true, true, true, true, true, true, true, false, true, true, true, false, false, false, false, false] rfl rfl (any_of HT_.out (by kernel_rfl)) (fun _ _ _ h => h) (Or.inl ⟨by rfl, ?_⟩) ?_ ?_
          rotate_left
          · intro w'
            go_simp
            with_reducible rfl
          rotate_left
          · simp only [Act.put, List.setIfInBounds_toArray, List.set_cons_zero, List.set_cons_succ, i64_w, i32_w]
            rfl
          refine pure_ (i := 13) (N := some 33) (v := ?_) (a' := ?_) #[true, true, true, true, true, true, true, true, true, false, true, true, true, true, false, false, false, false] rfl rfl (any_of HT_.out (by kernel_rfl)) (fun _ _ _ h => h) (Or.inl ⟨by rfl, ?_⟩) ?_ ?_
          rotate_left
          · intro w'
            go_simp
            with_reducible rfl
          rotate_left
          · simp only [Act.put, List.setIfInBounds_toArray, List.set_cons_zero, List.set_cons_succ, i64_w, i32_w]
            rfl
          refine take_ (i := 9) (N := some 29) (v := ?_) (a' := ?_) #[true, true, true, true, true, true, true, true, true, true, true, true, true, true, false, false, false, false] rfl rfl (take_ofW HT_.out HW_.out (by kernel_rfl)) (fun _ _ _ h => h) (Or.inl ⟨by rfl, ?_⟩) hHeld ?_ ?_
          rotate_left
          · rintro w' ⟨s0, s1, s2, s3, s4, s5⟩
            go_simp
            with_reducible rfl
          rotate_left
          · simp only [Act.put, List.setIfInBounds_toArray, List.set_cons_zero, List.set_cons_succ, i64_w, i32_w]
            rfl
          refine take_ (i := 14) (N := some 34) (v := ?_) (a' := ?_) #[true, true, true, true, true, true, true, true, true, true, true, true, true, true, true, false, false, false] rfl rfl (take_ofW HT_.out HW_.out (by kernel_rfl)) (fun _ _ _ h => h) (Or.inl ⟨by rfl, ?_⟩) hHeld ?_ ?_
          rotate_left
          · rintro w' ⟨s0, s1, s2, s3, s4, s5⟩
            go_simp
            with_reducible rfl
          rotate_left
          · simp only [Act.put, List.setIfInBounds_toArray, List.set_cons_zero, List.set_cons_succ, i64_w, i32_w]
            rfl
          refine one_ (i := 15) (N := some 35) #[true, true, true, true, true, true, true, true, true, true, true, true, true, true, true, true, false, false] rfl rfl (one_of HT_.out (by kernel_rfl)) (by decide) (fun K hK => ?_)
          refine goes_ Try.func67 (by kernel_rfl) rfl #[.agg #[.slice A0_0 l0_0.length c0_0, .slice A0_1 l0_1.length c0_1], .slice A366_1 ((rd_T95 l1 x5_2).f1).length c366_1] (by rfl) rfl rfl (by (try simp only [List.map_toArray, List.map_cons, List.map_nil]); first | done | rfl | (simp only [List.length_drop, List.length_take]; rfl)) ?_
          with_reducible refine (spec_l4Keys.calls k2 _ _ l0_0 _ _ l0_1 _ _ ((rd_T95 l1 x5_2).f1) true _ ?side1 ?side2 ?side3 ?side4 ?side5 ?side6 A14.out).mono ?_
          (case side1 => repeat (first | exact (qB HR0_0.out HB.out) | (with_reducible refine qc ?_ _) | (with_reducible refine qe ?_ _) | (with_reducible refine qf ?_)))
          (case side2 => exact HC0_0.out)
          (case side3 => repeat (first | exact (qB HR0_1.out HB.out) | (with_reducible refine qc ?_ _) | (with_reducible refine qe ?_ _) | (with_reducible refine qf ?_)))
          (case side4 => exact HC0_1.out)
          (case side5 => repeat (first | exact (qB HR368_1.out HB.out) | (with_reducible refine qc ?_ _) | (with_reducible refine qe ?_ _) | (with_reducible refine qf ?_)))
          (case side6 => exact HC368_1.out)
          rintro e w18 ⟨rfl, hb⟩
          refine ⟨_, rfl, ?_⟩
          have n0_ := qM (blk_below (g := gb364) (o := .cells #[.slice A0_0 l0_0.length c0_0, .slice A0_1 l0_1.length c0_1] 30 (0, 0)) (by (with_reducible repeat (first | refine qn ?_ _ | refine qd ?_ | refine qa ?_ _)); exact BK364.out) hb)
          have n1_ := qM (qs (by repeat (first | (with_reducible first | exact HB.out | apply qA | apply qN | apply qD | refine qS ?_ GE364.out) | exact HB.out)) hb)
          clear BK364
          clear HB
          have BK364 := n0_
          have HB := n1_
          clear n0_ n1_
          (try clear hb)
          (try clear hb2)
          (try clear hk)
          (try clear hi)
          refine hK.out _ _ ⟨(qC BK364.out 0).trans rfl, (qC BK364.out 1).trans rfl, ((HB.out.cell (qL w _ hw366_0)).trans hw366_0), ((HB.out.cell (qL w _ hw366_1)).trans hw366_1), ((HB.out.cell (qL w _ hw368_0)).trans hw368_0), ((HB.out.cell (qL w _ hw368_1)).trans hw368_1)⟩ (fun hHeld => ?_)
          clear hK K
          refine norm_ (a' := ?_) ?_ ?_
          rotate_left
          · show Act.put _ (some 35) _ = _
            simp only [Act.put, List.setIfInBounds_toArray, List.set_cons_zero, List.set_cons_succ, i64_w, i32_w]
            rfl
          refine pure_ (i := 16) (N := some 36) (v := ?_) (a' := ?_) #[true, true, true, true, true, true, true, true, true, true, true, true, true, true, true, true, true, false] rfl rfl (any_of HT_.out (by kernel_rfl)) (fun _ _ _ h => h) (Or.inl ⟨by rfl, ?_⟩) ?_ ?_
          rotate_left
          · intro w'
            go_simp
            with_reducible rfl
          rotate_left
          · simp only [Act.put, List.setIfInBounds_toArray, List.set_cons_zero, List.set_cons_succ, i64_w, i32_w]
            rfl
          refine pure_ (i := 17) (N := some 37) (v := ?_) (a' := ?_) #[true, true, true, true, true, true, true, true, true, true, true, true, true, true, true, true, true, true] rfl rfl (any_of HT_.out (by kernel_rfl)) (fun _ _ _ h => h) (Or.inl ⟨by rfl, ?_⟩) ?_ ?_
          rotate_left
          · intro w'
            go_simp
            with_reducible rfl
          rotate_left
          · simp only [Act.put, List.setIfInBounds_toArray, List.set_cons_zero, List.set_cons_succ, i64_w, i32_w]
            rfl
          refine done_ (done_of HT_.out (by kernel_rfl)) ?_
          try go_wp2
          go_roundg k2
          case measure => have := HJ2.out; have := HK2.out; omega
          case rel => exact ⟨(wrap64 (x5_2 + 1)), (by first | rfl | (simp; done) | (simp [*]; done)), H', ⟨by have := HJ2.out; have := HK2.out; omega⟩, ⟨by (with_reducible repeat (first | refine qn ?_ _ | refine qd ?_ | refine qa ?_ _)); exact BK364.out⟩, ⟨by repeat (first | (with_reducible first | exact HB.out | apply qA | apply qN | apply qD | refine qS ?_ GE364.out) | exact HB.out)⟩⟩
end Go.Proofs.Ythfemojaabejiaa.G
end
section
namespace Go.Proofs.Ythfemojaabejiaa.G
open Go.RowKit Go.Proofs.YthfemojaabejiaaW.PrintWords Go.Proofs.YthfemojaabejiaaW.PrintLast Go.Proofs.YthfemojaabejiaaW.PrintMore
attribute [local go_sem] max2_int min2_int max_two min_two max_three min_three max_four min_four
set_option linter.unusedVariables false
set_option linter.unusedSimpArgs false
def laws_toIntS.l0 : Nat → List Int → List Int → Int → Option (List Int)
  | 0, _, _, _ => none
  | k + 1, x0, x3, x4 => if x4 < (x0.length : Int) then (if 0 ≤ x4 then (if x4 < (x3.length : Int) then (laws_toIntS.l0 k x0 (x3.set (x4 : Int).toNat (rd x0 x4)) (wrap64 (x4 + 1))) else (none)) else (none)) else (some x3)
def laws_toIntS.f (k : Nat) (l0 : List Int) : Option (List Int) := if 0 ≤ (l0.length : Int) then (if ((l0.length : Int) : Int).toNat ≤ 35184372088832 then (laws_toIntS.l0 k l0 (List.replicate ((l0.length : Int) : Int).toNat 0) 0) else (none)) else (none)
set_option maxHeartbeats 8000000 in
set_option maxRecDepth 100000 in
theorem laws_toIntS.calls (k : Nat) (A0 : Option Addr) (c0 : Nat) (l0 : List Int) (r : List Int) (w : World) (hr0 : Kd.C (Kd.int .i64) w A0 l0.length l0) (hc0 : l0.length ≤ c0) (h : laws_toIntS.f k l0 = some r) :
    Calls Try.prog 20 #[.slice A0 l0.length c0] w fun e w' => ∃ v0_ : Value, e = .returned (v0_) ∧ Kd.R (Kd.int .i64) 3 w' w.heap.size (fun _ => True) v0_ r ∧ Below w.heap.size w w' := by
  have HR0 := qM hr0
  have HC0 := qM hc0
  clear hr0 hc0
  have HB := qM (Below.refl w.heap.size w)
  have H : (if 0 ≤ (l0.length : Int) then (if ((l0.length : Int) : Int).toNat ≤ 35184372088832 then (laws_toIntS.l0 k l0 (List.replicate ((l0.length : Int) : Int).toNat 0) 0) else (none)) else (none)) = some r := h
  clear h
  by_cases c2 : 0 ≤ (l0.length : Int)
  rotate_left
  · rw [if_neg c2] at H
    exact absurd H (by simp)
  rw [if_pos c2] at H
  have c2b0 := eq_true c2
  have c2b1 : decide (0 ≤ (l0.length : Int)) = true := decide_eq_true c2
  clear c2
  by_cases c3 : ((l0.length : Int) : Int).toNat ≤ 35184372088832
  rotate_left
  · rw [if_neg c3] at H
    exact absurd H (by simp)
  rw [if_pos c3] at H
  have c3b0 := eq_true c3
  have c3b1 : decide (((l0.length : Int) : Int).toNat ≤ 35184372088832) = true := decide_eq_true c3
  clear c3
  obtain ⟨y311, hy311⟩ : ∃ y_ : List Int, y_ = (List.replicate ((l0.length : Int) : Int).toNat 0) := ⟨_, rfl⟩
  replace H : (laws_toIntS.l0 k l0 y311 0) = some r := by first | (rw [hy311]; with_reducible exact H) | (have H2_ := (Option.bind_some _ _).symm.trans H; rw [hy311]; with_reducible exact H2_) | (have H2_ := (Option.bind_some _ _).symm.trans H; with_reducible exact H2_) | with_reducible exact H | (rw [hy311]; exact H) | exact H
  have Ny311 := qM hy311
  clear hy311
  have H' := qM H
  clear H
  go_enter Try.func20, Try.ntmps20
  go_wp2_with (first | ((with_reducible refine gate_dst (N := 7) rfl ?_); refine Kd.R_make (Kd.int .i64) _ 3 rfl (N := 7) rfl 34 _ _ rfl (l0.length : Int) rfl rfl Try.underlying34 (.int .i64 0) 8 info3 rfl (by decide) (by omega) 0 (ok := fun _ => True) (okp := fun _ => True) rfl (fun _ hk => hk) trivial (qO (by first | (with_reducible assumption) | assumption)) (Nat.le_trans (Nat.mul_le_mul_right _ (qO (by first | (with_reducible assumption) | assumption) : (l0.length : Int).toNat ≤ 35184372088832)) (by omega)) (Below.refl _ _) (Nat.le_refl _) ?_; intro v312 w4 ho5 hb hg_ hnew_; clear hg_ hnew_; (first | rw [← Ny311.out] at ho5 | (simp only [Int.reduceToNat] at ho5; rw [← Ny311.out] at ho5)); have n0_ := qM (Kd.R_lower ho5 (qz (by repeat (first | (with_reducible first | exact HB.out | apply qA | apply qN | apply qD) | exact HB.out)))); have n1_ := qM (qs (by repeat (first | (with_reducible first | exact HB.out | apply qA | apply qN | apply qD) | exact HB.out)) hb); clear HB; have HO313 := n0_; have HB := n1_; clear n0_ n1_; clear hb ho5))
  go_loopg [4] k (fun kq v4 w' => ∃ (x3_1 : List Int) (x4_1 : Int), v4 = .int .i64 x4_1 ∧ Aside0 (laws_toIntS.l0 kq l0 x3_1 x4_1 = some r) ∧ Aside0 (kq ≤ k) ∧ Aside0 (Kd.R (Kd.int .i64) 3 w' w.heap.size (fun _ => True) v312 x3_1) ∧ Aside0 (Below w.heap.size w w'))
  case atStart => exact ⟨(y311), (0), (by first | rfl | (simp; done) | (simp [*]; done)), H', ⟨Nat.le_refl _⟩, ⟨by (with_reducible repeat (first | apply Kd.R_alloc | apply Kd.R_drewN | apply Kd.R_drew)); exact HO313.out⟩, ⟨by repeat (first | (with_reducible first | exact HB.out | apply qA | apply qN | apply qD) | exact HB.out)⟩⟩
  case round =>
    clear H'
    try clear c2
    try clear c2b0
    try clear c2b1
    try clear p2
    try clear c3
    try clear c3b0
    try clear c3b1
    obtain ⟨x3_1, x4_1, rfl, HA, HK1, HO_3, HB⟩ := hrel
    cases gk with
    | zero => exact absurd HA.out (by simp [laws_toIntS.l0])
    | succ k1 =>
      have H := HA.out
      clear HA
      simp only [laws_toIntS.l0] at H
      by_cases c6 : x4_1 < (l0.length : Int)
      rotate_left
      · rw [if_neg c6] at H
        have c6b0 : decide (x4_1 < (l0.length : Int)) = false := decide_eq_false c6
        clear c6
        obtain rfl := Option.some.inj H
        go_wp2
        go_ret
        exact ⟨_, by first | rfl | (simp [errW_none, errW_some] <;> rfl) | (simp [*, errW_none, errW_some] <;> rfl), by (with_reducible repeat (first | apply Kd.R_alloc | apply Kd.R_drewN | apply Kd.R_drew)); exact HO_3.out, by repeat (first | (with_reducible first | exact HB.out | apply qA | apply qN | apply qD) | exact HB.out)⟩
      rw [if_pos c6] at H
      have c6b0 : decide (x4_1 < (l0.length : Int)) = true := decide_eq_true c6
      clear c6
      by_cases c7 : 0 ≤ x4_1
      rotate_left
      · rw [if_neg c7] at H
        exact absurd H (by simp)
      rw [if_pos c7] at H
      have c7b0 : decide (0 ≤ x4_1) = true := decide_eq_true c7
      clear c7
      by_cases c8 : x4_1 < (x3_1.length : Int)
      rotate_left
      · rw [if_neg c8] at H
        exact absurd H (by simp)
      rw [if_pos c8] at H
      have c8b0 : decide (x4_1 < (x3_1.length : Int)) = true := decide_eq_true c8
      clear c8
      obtain ⟨y315, hy315⟩ : ∃ y_ : List Int, y_ = (x3_1.set (x4_1 : Int).toNat (rd l0 x4_1)) := ⟨_, rfl⟩
      replace H : (laws_toIntS.l0 k1 l0 y315 (wrap64 (x4_1 + 1))) = some r := by first | (rw [hy315]; with_reducible exact H) | (have H2_ := (Option.bind_some _ _).symm.trans H; rw [hy315]; with_reducible exact H2_) | (have H2_ := (Option.bind_some _ _).symm.trans H; with_reducible exact H2_) | with_reducible exact H | (rw [hy315]; exact H) | exact H
      have Ny315 := qM hy315
      clear hy315
      have H' := qM H
      clear H
      have p314 : 0 ≤ (x4_1 : Int) := qO (by first | (with_reducible assumption) | assumption)
      have q314 : x4_1 < (l0.length : Int) := qO (by first | (with_reducible assumption) | assumption)
      obtain ⟨ad314, e314, hx314_0⟩ := Kd.at_int HR0.out x4_1 p314 q314
      cases e314
      replace hx314_0 := (HB.out.cell (qL w _ hx314_0)).trans hx314_0
      replace p314 := eq_true p314
      replace q314 := eq_true q314
      have p9 : 0 ≤ (x4_1 : Int) := qO (by first | (with_reducible assumption) | assumption)
      have q9 : (x4_1 : Int) < ((x3_1.length : Int) : Int) := qO (by first | (with_reducible assumption) | assumption)
      obtain ⟨go9, co9, eo9, gb9, gl9, cl9, HG9⟩ := Kd.R_form HO_3.out (by omega)
      (first | cases eo9 | (injection eo9 with ea_ en_ ec_; (first | subst ea_ | (injection ea_ with ea_; subst ea_)); subst ec_; clear en_))
      have GB9 := qM gb9
      have GG9 := qM HG9
      clear gb9 gl9 HG9
      obtain ⟨hx9_0, hf9_0⟩ := Kd.R_celln 0 HO_3.out (x4_1 : Int) p9 q9
      replace p9 := eq_true p9
      replace q9 := eq_true q9
      have HP10 := Kd.R_putg HO_3.out (x4_1 : Int) (rd l0 x4_1)
      go_wp2_with (first | ((with_reducible refine gate_store (t := 3) (p := 20) rfl ?_); refine store_event (t := 3) (p := 20) (v := ?vo_w11) (w1 := (wr.setCell ⟨go9, (x4_1 : Int).toNat, none⟩ (.int .i64 (rd l0 x4_1)))) ?hg ?ho ?hn ?hr ?_; (case ho => rfl); (case hg => rfl); (case hn => rfl); (case hr => first | (go_simp; done) | (go_simp; rfl)); intro w11 hw; have hg : wr.grownBy w11 (some go9) := (by rw [hw]; exact HP10.2); have hp_ : Kd.R (Kd.int .i64) 3 w11 w.heap.size (fun _ => True) (.slice (some ⟨go9, 0, none⟩) x3_1.length co9) y315 := (by rw [hw, Ny315.out]; exact HP10.1); clear HP10; have n0_ := qM (hp_); have n1_ := qM ((by rw [hw]; exact qS (HB.out) GB9.out : Below w.heap.size w w11)); clear HO_3; clear HB; have HO_3 := n0_; have HB := n1_; clear n0_ n1_; clear hg hw hp_))
      go_roundg k1
      case measure => have := HK1.out; omega
      case rel => exact ⟨(y315), (wrap64 (x4_1 + 1)), (by first | rfl | (simp; done) | (simp [*]; done)), H', ⟨by have := HK1.out; omega⟩, ⟨by (with_reducible repeat (first | apply Kd.R_alloc | apply Kd.R_drewN | apply Kd.R_drew)); exact HO_3.out⟩, ⟨by repeat (first | (with_reducible first | exact HB.out | apply qA | apply qN | apply qD) | exact HB.out)⟩⟩
end Go.Proofs.Ythfemojaabejiaa.G
end
section
namespace Go.Proofs.Ythfemojaabejiaa.G
open Go.RowKit Go.Proofs.YthfemojaabejiaaW.PrintWords Go.Proofs.YthfemojaabejiaaW.PrintLast Go.Proofs.YthfemojaabejiaaW.PrintMore
attribute [local go_sem] max2_int min2_int max_two min_two max_three min_three max_four min_four
set_option linter.unusedVariables false
set_option linter.unusedSimpArgs false
def laws_toOrder.f (k : Nat) (l0_0 : List Int) (l0_1 : List Int) : Option (List Int × List Int) := (laws_toIntS.f k l0_0).bind fun t373 => ((laws_toIntS.f k l0_1).bind fun t376 => (some (t373, t376)))
set_option maxHeartbeats 8000000 in
set_option maxRecDepth 100000 in
theorem laws_toOrder.calls (k : Nat) (A0_0 : Option Addr) (c0_0 : Nat) (l0_0 : List Int) (A0_1 : Option Addr) (c0_1 : Nat) (l0_1 : List Int) (r1 : List Int) (r2 : List Int) (w : World) (hr0_0 : Kd.C (Kd.int .i64) w A0_0 l0_0.length l0_0) (hc0_0 : l0_0.length ≤ c0_0) (hr0_1 : Kd.C (Kd.int .i64) w A0_1 l0_1.length l0_1) (hc0_1 : l0_1.length ≤ c0_1) (h : laws_toOrder.f k l0_0 l0_1 = some (r1, r2)) :
    Calls Try.prog 76 #[.agg #[.slice A0_0 l0_0.length c0_0, .slice A0_1 l0_1.length c0_1]] w fun e w' => ∃ v0_ v1_ : Value, e = .returned (.agg #[v0_, v1_]) ∧ Kd.R (Kd.int .i64) 3 w' w.heap.size (fun k_ => some k_ ≠ (v1_ : Value).ownBlock) v0_ r1 ∧ Kd.R (Kd.int .i64) 3 w' w.heap.size (fun k_ => some k_ ≠ (v0_ : Value).ownBlock) v1_ r2 ∧ Below w.heap.size w w' := by
  have hu94 := Try.underlying94
  have hu95 := Try.underlying95
  have HR0_0 := qM hr0_0
  have HC0_0 := qM hc0_0
  clear hr0_0 hc0_0
  have HR0_1 := qM hr0_1
  have HC0_1 := qM hc0_1
  clear hr0_1 hc0_1
  have HB := qM (Below.refl w.heap.size w)
  have H : ((laws_toIntS.f k l0_0).bind fun t373 => ((laws_toIntS.f k l0_1).bind fun t376 => (some (t373, t376)))) = some (r1, r2) := h
  clear h
  replace H := Option.bind_eq_some_iff.mp H
  obtain ⟨t373, A20, H⟩ := H
  replace H : ((laws_toIntS.f k l0_1).bind fun t376 => (some (t373, t376))) = some (r1, r2) := H
  have A2 := qM A20
  clear A20
  replace H := Option.bind_eq_some_iff.mp H
  obtain ⟨t376, A30, H⟩ := H
  replace H : (some (t373, t376)) = some (r1, r2) := H
  have A3 := qM A30
  clear A30
  simp only [Option.some.injEq, Prod.mk.injEq] at H
  obtain ⟨rfl, rfl⟩ := H
  go_enter Try.func76, Try.ntmps76
  go_wp2_with (first | ((with_reducible refine gate_dst (N := 1) rfl ?_); refine box_event ?hg (N := 1) ?hd (cs := #[.slice A0_0 l0_0.length c0_0, .slice A0_1 l0_1.length c0_1]) (t := 94) ?hr ?_; (case hd => rfl); (case hg => rfl); (case hr => first | (go_simp; done) | (go_simp; rfl)); intro gb370 hg w4 hbox hb; have n0_ := qM (qs (by repeat (first | (with_reducible first | exact HB.out | apply qA | apply qN | apply qD) | exact HB.out)) hb); have n1_ := qM (hbox); have n2_ := qM ((by rw [hg]; exact (qz (by repeat (first | (with_reducible first | exact HB.out | apply qA | apply qN | apply qD) | exact HB.out))) : w.heap.size ≤ gb370)); have n3_ := qM ((by rw [hg]; exact (qz (by repeat (first | (with_reducible first | exact HB.out | apply qA | apply qN | apply qD) | exact HB.out))) : w.heap.size ≤ gb370)); clear HB; have HB := n0_; have BK370 := n1_; have GW370 := n2_; have GE370 := n3_; clear n0_ n1_ n2_ n3_; clear hb hbox hg) | ((with_reducible refine gate_dst (N := 2) rfl ?_); refine box_event ?hg (N := 2) ?hd (cs := #[.slice none 0 0, .slice none 0 0]) (t := 95) ?hr ?_; (case hd => rfl); (case hg => rfl); (case hr => first | (go_simp; done) | (go_simp; rfl)); intro gb371 hg w5 hbox hb; have n0_ := qM (blk_below (g := gb370) (o := .cells #[.slice A0_0 l0_0.length c0_0, .slice A0_1 l0_1.length c0_1] 94 (0, 0)) (by (with_reducible repeat (first | refine qn ?_ _ | refine qd ?_ | refine qa ?_ _)); exact BK370.out) hb); have n1_ := qM (qs (by repeat (first | (with_reducible first | exact HB.out | apply qA | apply qN | apply qD | refine qS ?_ GE370.out) | exact HB.out)) hb); have n2_ := qM (hbox); have n3_ := qM ((by rw [hg]; exact (qz (by repeat (first | (with_reducible first | exact HB.out | apply qA | apply qN | apply qD | refine qS ?_ GE370.out) | exact HB.out))) : w.heap.size ≤ gb371)); have n4_ := qM ((by rw [hg]; exact (qz (by repeat (first | (with_reducible first | exact HB.out | apply qA | apply qN | apply qD | refine qS ?_ GE370.out) | exact HB.out))) : w.heap.size ≤ gb371)); have n5_ := qM ((by rw [hg]; exact Nat.ne_of_lt (blk_lt (g := gb370) (o := .cells #[.slice A0_0 l0_0.length c0_0, .slice A0_1 l0_1.length c0_1] 94 (0, 0)) (by (with_reducible repeat (first | refine qn ?_ _ | refine qd ?_ | refine qa ?_ _)); exact BK370.out)) : gb370 ≠ gb371)); have n6_ := qM ((by rw [hg]; exact Nat.ne_of_gt (blk_lt (g := gb370) (o := .cells #[.slice A0_0 l0_0.length c0_0, .slice A0_1 l0_1.length c0_1] 94 (0, 0)) (by (with_reducible repeat (first | refine qn ?_ _ | refine qd ?_ | refine qa ?_ _)); exact BK370.out)) : gb371 ≠ gb370)); clear BK370; clear HB; have BK370 := n0_; have HB := n1_; have BK371 := n2_; have GW371 := n3_; have GE371 := n4_; have NB370_371 := n5_; have NB371_370 := n6_; clear n0_ n1_ n2_ n3_ n4_ n5_ n6_; clear hb hbox hg) | ((with_reducible refine gate_dst (N := 3) rfl ?_); refine box_event ?hg (N := 3) ?hd (cs := #[.slice none 0 0, .slice none 0 0]) (t := 95) ?hr ?_; (case hd => rfl); (case hg => rfl); (case hr => first | (go_simp; done) | (go_simp; rfl)); intro gb372 hg w6 hbox hb; have n0_ := qM (blk_below (g := gb370) (o := .cells #[.slice A0_0 l0_0.length c0_0, .slice A0_1 l0_1.length c0_1] 94 (0, 0)) (by (with_reducible repeat (first | refine qn ?_ _ | refine qd ?_ | refine qa ?_ _)); exact BK370.out) hb); have n1_ := qM (blk_below (g := gb371) (o := .cells #[.slice none 0 0, .slice none 0 0] 95 (0, 0)) (by (with_reducible repeat (first | refine qn ?_ _ | refine qd ?_ | refine qa ?_ _)); exact BK371.out) hb); have n2_ := qM (qs (by repeat (first | (with_reducible first | exact HB.out | apply qA | apply qN | apply qD | refine qS ?_ GE370.out | refine qS ?_ GE371.out) | exact HB.out)) hb); have n3_ := qM (hbox); have n4_ := qM ((by rw [hg]; exact (qz (by repeat (first | (with_reducible first | exact HB.out | apply qA | apply qN | apply qD | refine qS ?_ GE370.out | refine qS ?_ GE371.out) | exact HB.out))) : w.heap.size ≤ gb372)); have n5_ := qM ((by rw [hg]; exact (qz (by repeat (first | (with_reducible first | exact HB.out | apply qA | apply qN | apply qD | refine qS ?_ GE370.out | refine qS ?_ GE371.out) | exact HB.out))) : w.heap.size ≤ gb372)); have n6_ := qM ((by rw [hg]; exact Nat.ne_of_lt (blk_lt (g := gb370) (o := .cells #[.slice A0_0 l0_0.length c0_0, .slice A0_1 l0_1.length c0_1] 94 (0, 0)) (by (with_reducible repeat (first | refine qn ?_ _ | refine qd ?_ | refine qa ?_ _)); exact BK370.out)) : gb370 ≠ gb372)); have n7_ := qM ((by rw [hg]; exact Nat.ne_of_gt (blk_lt (g := gb370) (o := .cells #[.slice A0_0 l0_0.length c0_0, .slice A0_1 l0_1.length c0_1] 94 (0, 0)) (by (with_reducible repeat (first | refine qn ?_ _ | refine qd ?_ | refine qa ?_ _)); exact BK370.out)) : gb372 ≠ gb370)); have n8_ := qM ((by rw [hg]; exact Nat.ne_of_lt (blk_lt (g := gb371) (o := .cells #[.slice none 0 0, .slice none 0 0] 95 (0, 0)) (by (with_reducible repeat (first | refine qn ?_ _ | refine qd ?_ | refine qa ?_ _)); exact BK371.out)) : gb371 ≠ gb372)); have n9_ := qM ((by rw [hg]; exact Nat.ne_of_gt (blk_lt (g := gb371) (o := .cells #[.slice none 0 0, .slice none 0 0] 95 (0, 0)) (by (with_reducible repeat (first | refine qn ?_ _ | refine qd ?_ | refine qa ?_ _)); exact BK371.out)) : gb372 ≠ gb371)); clear BK370; clear BK371; clear HB; have BK370 := n0_; have BK371 := n1_; have HB := n2_; have BK372 := n3_; have GW372 := n4_; have GE372 := n5_; have NB370_372 := n6_; have NB372_370 := n7_; have NB371_372 := n8_; have NB372_371 := n9_; clear n0_ n1_ n2_ n3_ n4_ n5_ n6_ n7_ n8_ n9_; clear hb hbox hg; have hnb7 := NB370_371.out; have hnc7 := NB371_370.out; have hnb8 := NB370_372.out; have hnc8 := NB372_370.out; have hcz9_0 : w6.cell? ⟨gb370, 0, none⟩ = some (.slice A0_0 l0_0.length c0_0) := (qC BK370.out 0).trans rfl; have hcz9_1 : w6.cell? ⟨gb370, 1, none⟩ = some (.slice A0_1 l0_1.length c0_1) := (qC BK370.out 1).trans rfl; have hfz9_0 := qF BK370.out 0; have hfz9_1 := qF BK370.out 1) | ((with_reducible refine gate_callee (f := 20) rfl ?_); refine goesL_ (some 6) rfl rfl Try.func20 (by kernel_rfl) rfl #[.slice A0_0 l0_0.length c0_0] rfl (by (try simp only [List.map_toArray, List.map_cons, List.map_nil]); first | done | rfl | (simp only [List.length_drop, List.length_take]; rfl)) ?_; (with_reducible refine (laws_toIntS.calls k _ _ l0_0 t373 _ ?side1 ?side2 A2.out).mono ?_); (case side1 => repeat (first | exact (qB HR0_0.out HB.out) | (with_reducible refine qc ?_ _) | (with_reducible refine qe ?_ _) | (with_reducible refine qf ?_))); (case side2 => exact HC0_0.out); rintro e w10 ⟨v374, rfl, ho0, hb⟩; refine ⟨_, rfl, ?_⟩; have n0_ := qM (Kd.R_lower ho0 (qz (by repeat (first | (with_reducible first | exact HB.out | apply qA | apply qN | apply qD | refine qS ?_ GE370.out | refine qS ?_ GE371.out | refine qS ?_ GE372.out) | exact HB.out)))); have n1_ := qM (blk_below (g := gb370) (o := .cells #[.slice A0_0 l0_0.length c0_0, .slice A0_1 l0_1.length c0_1] 94 (0, 0)) (by (with_reducible repeat (first | refine qn ?_ _ | refine qd ?_ | refine qa ?_ _)); exact BK370.out) hb); have n2_ := qM (blk_below (g := gb371) (o := .cells #[.slice none 0 0, .slice none 0 0] 95 (0, 0)) (by (with_reducible repeat (first | refine qn ?_ _ | refine qd ?_ | refine qa ?_ _)); exact BK371.out) hb); have n3_ := qM (blk_below (g := gb372) (o := .cells #[.slice none 0 0, .slice none 0 0] 95 (0, 0)) (by (with_reducible repeat (first | refine qn ?_ _ | refine qd ?_ | refine qa ?_ _)); exact BK372.out) hb); have n4_ := qM (qs (by repeat (first | (with_reducible first | exact HB.out | apply qA | apply qN | apply qD | refine qS ?_ GE370.out | refine qS ?_ GE371.out | refine qS ?_ GE372.out) | exact HB.out)) hb); clear BK370; clear BK371; clear BK372; clear HB; have HO375 := n0_; have BK370 := n1_; have BK371 := n2_; have BK372 := n3_; have HB := n4_; clear n0_ n1_ n2_ n3_ n4_; (try clear hb); (try clear hb2); (try clear hk); (try clear hi); (try clear ho0); obtain ⟨Ao11, co11, eo11⟩ := Kd.R_slice HO375.out; subst eo11; have hnb12 := NB372_371.out; have hnc12 := NB371_372.out; have hcz13_0 : w10.cell? ⟨gb372, 0, none⟩ = some (.slice none 0 0) := (qC BK372.out 0).trans rfl; have hcz13_1 : w10.cell? ⟨gb372, 1, none⟩ = some (.slice none 0 0) := (qC BK372.out 1).trans rfl; have hfz13_0 := qF BK372.out 0; have hfz13_1 := qF BK372.out 1; have hcz14_0 : w10.cell? ⟨gb370, 0, none⟩ = some (.slice A0_0 l0_0.length c0_0) := (qC BK370.out 0).trans rfl; have hcz14_1 : w10.cell? ⟨gb370, 1, none⟩ = some (.slice A0_1 l0_1.length c0_1) := (qC BK370.out 1).trans rfl; have hfz14_0 := qF BK370.out 0; have hfz14_1 := qF BK370.out 1) | ((with_reducible refine gate_callee (f := 20) rfl ?_); refine goesL_ (some 10) rfl rfl Try.func20 (by kernel_rfl) rfl #[.slice A0_1 l0_1.length c0_1] rfl (by (try simp only [List.map_toArray, List.map_cons, List.map_nil]); first | done | rfl | (simp only [List.length_drop, List.length_take]; rfl)) ?_; (with_reducible refine (laws_toIntS.calls k _ _ l0_1 t376 _ ?side1 ?side2 A3.out).mono ?_); (case side1 => exact qB HR0_1.out (by repeat (first | (with_reducible first | exact HB.out | apply qA | apply qN | apply qD | refine qS ?_ GE370.out | refine qS ?_ GE371.out | refine qS ?_ GE372.out) | exact HB.out))); (case side2 => exact HC0_1.out); rintro e w15 ⟨v377, rfl, ho0, hb⟩; refine ⟨_, rfl, ?_⟩; have n0_ := qM (Kd.R_elder' (by (with_reducible repeat (first | apply Kd.R_alloc | apply Kd.R_drewN | apply Kd.R_drew)); exact (Kd.R_mono (Kd.R_far (p := ⟨gb372, 0, none⟩) (Kd.R_types HO375.out BK372.out (by decide)) (fun _ hk => hk.2) (.slice Ao11 t373.length co11)) (fun _ h_ => h_.1))) (Kd.R_base ho0) hb); have n1_ := qM (Kd.R_lower (Kd.R_new' ho0 (Kd.R_lt (by (with_reducible repeat (first | apply Kd.R_alloc | apply Kd.R_drewN | apply Kd.R_drew)); exact (Kd.R_mono (Kd.R_far (p := ⟨gb372, 0, none⟩) (Kd.R_types HO375.out BK372.out (by decide)) (fun _ hk => hk.2) (.slice Ao11 t373.length co11)) (fun _ h_ => h_.1))))) (qz (by repeat (first | (with_reducible first | exact HB.out | apply qA | apply qN | apply qD | refine qS ?_ GE370.out | refine qS ?_ GE371.out | refine qS ?_ GE372.out) | exact HB.out)))); have n2_ := qM (blk_below (g := gb370) (o := .cells #[.slice A0_0 l0_0.length c0_0, .slice A0_1 l0_1.length c0_1] 94 (0, 0)) (by (with_reducible repeat (first | refine qn ?_ _ | refine qd ?_ | refine qa ?_ _)); refine blk_far ?_ NB370_372.out _; (with_reducible repeat (first | refine qn ?_ _ | refine qd ?_ | refine qa ?_ _)); exact BK370.out) hb); have n3_ := qM (blk_below (g := gb371) (o := .cells #[.slice none 0 0, .slice none 0 0] 95 (0, 0)) (by (with_reducible repeat (first | refine qn ?_ _ | refine qd ?_ | refine qa ?_ _)); refine blk_far ?_ NB371_372.out _; (with_reducible repeat (first | refine qn ?_ _ | refine qd ?_ | refine qa ?_ _)); exact BK371.out) hb); have n4_ := qM (blk_below (g := gb372) (o := .cells #[.slice Ao11 t373.length co11, .slice none 0 0] 95 (0, 0)) (by (with_reducible repeat (first | refine qn ?_ _ | refine qd ?_ | refine qa ?_ _)); refine blk_put (cs := #[.slice none 0 0, .slice none 0 0]) ?_ 0 _ rfl; (with_reducible repeat (first | refine qn ?_ _ | refine qd ?_ | refine qa ?_ _)); exact BK372.out) hb); have n5_ := qM (qs (by repeat (first | (with_reducible first | exact HB.out | apply qA | apply qN | apply qD | refine qS ?_ GE370.out | refine qS ?_ GE371.out | refine qS ?_ GE372.out) | exact HB.out)) hb); clear HO375; clear BK370; clear BK371; clear BK372; clear HB; have HO375 := n0_; have HO378 := n1_; have BK370 := n2_; have BK371 := n3_; have BK372 := n4_; have HB := n5_; clear n0_ n1_ n2_ n3_ n4_ n5_; (try clear hb); (try clear hb2); (try clear hk); (try clear hi); (try clear ho0); obtain ⟨Ao16, co16, eo16⟩ := Kd.R_slice HO378.out; subst eo16; have hcz17_0 : w15.cell? ⟨gb372, 0, none⟩ = some (.slice Ao11 t373.length co11) := (qC BK372.out 0).trans rfl; have hcz17_1 : w15.cell? ⟨gb372, 1, none⟩ = some (.slice none 0 0) := (qC BK372.out 1).trans rfl; have hfz17_0 := qF BK372.out 0; have hfz17_1 := qF BK372.out 1; have hcz18_0 : w15.cell? ⟨gb371, 0, none⟩ = some (.slice none 0 0) := (qC BK371.out 0).trans rfl; have hcz18_1 : w15.cell? ⟨gb371, 1, none⟩ = some (.slice none 0 0) := (qC BK371.out 1).trans rfl; have hfz18_0 := qF BK371.out 0; have hfz18_1 := qF BK371.out 1))
  refine bodyPost_ret (results_cell_row rfl _ _ gb371 95 #[.slice Ao11 t373.length co11, .slice Ao16 t376.length co16] (0, 0) _ rfl (by (with_reducible repeat (first | refine qn ?_ _ | refine qd ?_ | refine qa ?_ _)); refine blk_put (cs := #[.slice Ao11 t373.length co11, .slice none 0 0]) ?_ 1 _ rfl; (with_reducible repeat (first | refine qn ?_ _ | refine qd ?_ | refine qa ?_ _)); refine blk_put (cs := #[.slice none 0 0, .slice none 0 0]) ?_ 0 _ rfl; (with_reducible repeat (first | refine qn ?_ _ | refine qd ?_ | refine qa ?_ _)); refine blk_far ?_ NB371_372.out _; (with_reducible repeat (first | refine qn ?_ _ | refine qd ?_ | refine qa ?_ _)); exact BK371.out) Try.underlying95 rfl (by kernel_rfl)) rfl ?_
  exact ⟨_, _, by first | rfl | (simp [errW_none, errW_some] <;> rfl) | (simp [*, errW_none, errW_some] <;> rfl), by (with_reducible repeat (first | apply Kd.R_alloc | apply Kd.R_drewN | apply Kd.R_drew)); exact Kd.R_mono (Kd.R_far (p := ⟨gb371, 1, none⟩) (Kd.R_far (p := ⟨gb371, 0, none⟩) (Kd.R_far (p := ⟨gb372, 1, none⟩) (Kd.R_types (Kd.R_types HO375.out BK372.out (by decide)) BK371.out (by decide)) (fun _ hk => hk.1.2) (.slice Ao16 t376.length co16)) (fun _ hk => hk.2) (.slice Ao11 t373.length co11)) (fun _ hk => hk.2) (.slice Ao16 t376.length co16)) (fun _ hk => hk.1.1.2), by (with_reducible repeat (first | apply Kd.R_alloc | apply Kd.R_drewN | apply Kd.R_drew)); exact Kd.R_mono (Kd.R_far (p := ⟨gb371, 1, none⟩) (Kd.R_far (p := ⟨gb371, 0, none⟩) (Kd.R_far (p := ⟨gb372, 1, none⟩) (Kd.R_types (Kd.R_types HO378.out BK372.out (by decide)) BK371.out (by decide)) (fun _ hk => hk.1.2) (.slice Ao16 t376.length co16)) (fun _ hk => hk.2) (.slice Ao11 t373.length co11)) (fun _ hk => hk.2) (.slice Ao16 t376.length co16)) (fun _ hk => hk.1.1.2), by repeat (first | (with_reducible first | exact HB.out | apply qA | apply qN | apply qD | refine qS ?_ GE370.out | refine qS ?_ GE371.out | refine qS ?_ GE372.out) | exact HB.out)⟩
end Go.Proofs.Ythfemojaabejiaa.G
end
section
namespace Go.Proofs.Ythfemojaabejiaa.G
open Go.RowKit Go.Proofs.YthfemojaabejiaaW.PrintWords Go.Proofs.YthfemojaabejiaaW.PrintLast Go.Proofs.YthfemojaabejiaaW.PrintMore
set_option linter.unusedVariables false
set_option linter.unusedSimpArgs false
theorem isVal_f (n : Int) : impl_isValue.f n = some (isVal n) := by
  unfold impl_isValue.f isVal
  by_cases h : n ≥ 0
  · rw [if_pos h]; simp only [ge_iff_le] at h; simp [h]
  · rw [if_neg h]; simp only [ge_iff_le] at h; simp [h]
def impl_areValues.f (l0 : List Int) : Option Bool := some (l0.all isVal)
theorem areValues1_calls (n : Int) (w : World) : Calls Try.prog 153 #[.int .i64 n] w fun e w' => e = .returned (.bool (!isVal n)) ∧ Below w.heap.size w w' := by
  have H := qM (isVal_f n)
  go_enter Try.func153, Try.ntmps153
  go_wp2_with (go_at_call 154; refine (impl_isValue.calls n _ _ H.out).mono ?_; rintro e w' ⟨rfl, ⟨m, rfl⟩⟩)
  go_ret
  exact ⟨rfl, qN (Below.refl _ _) m⟩
theorem impl_areValues.calls (A0 : Option Addr) (c0 : Nat) (l0 : List Int) (r : Bool) (w : World) (hr0 : Kd.C (Kd.int .i64) w A0 l0.length l0) (hc0 : l0.length ≤ c0) (h : impl_areValues.f l0 = some r) :
    Calls Try.prog 127 #[.slice A0 l0.length c0] w fun e w' => e = .returned (.bool r) ∧ Below w.heap.size w w' := by
  have HR := qM hr0
  clear hr0 hc0
  have hx : (!(l0.any fun n => !isVal n)) = r := by
    unfold impl_areValues.f at h
    injection h with h
    rw [← h, List.all_eq_not_any_not]
  clear h
  have HT : Aside0 (Tells 153 #[] (Value.int .i64) (fun n => !isVal n) w l0) := ⟨fun x _ W _ => areValues1_calls x W⟩
  have HE : Aside0 (∀ (args : Array Value) (W : World), (callFunc 153 args).run Try.prog W = .ok (.enter 153 args) W) := ⟨enters_fn Try.func153 (by kernel_rfl) rfl⟩
  generalize hb : (l0.any fun n => !isVal n) = b at hx
  have HB := qM hb
  have HX := qM hx
  clear hb hx
  go_enter Try.func127, Try.ntmps127
  go_wp2_with (go_at_call 112; refine (containsFunc_int 153 #[] (fun n => !isVal n) A0 c0 l0 _ HR.out HE.out HT.out).mono ?_; rintro e w1 ⟨rfl, hb1⟩; rw [HB.out])
  go_ret
  exact ⟨by rw [← HX.out]; rfl, hb1⟩
end Go.Proofs.Ythfemojaabejiaa.G
end
section
namespace Go.Proofs.Ythfemojaabejiaa.G
open Go.RowKit Go.Proofs.YthfemojaabejiaaW.PrintWords Go.Proofs.YthfemojaabejiaaW.PrintLast Go.Proofs.YthfemojaabejiaaW.PrintMore
attribute [local go_sem] max2_int min2_int max_two min_two max_three min_three max_four min_four
set_option linter.unusedVariables false
set_option linter.unusedSimpArgs false
def impl_Sheet_takes.f (l0_0 : List Bool) (l0_1 : List (S141)) (l1 : List Int) : Option (Bool) := if (l1.length : Int) = (l0_0.length : Int) then ((impl_areValues.f l1).bind fun t392 => (some t392)) else (some false)
set_option maxHeartbeats 8000000 in
set_option maxRecDepth 100000 in
theorem impl_Sheet_takes.calls (A0_0 : Option Addr) (c0_0 : Nat) (l0_0 : List Bool) (A0_1 : Option Addr) (c0_1 : Nat) (l0_1 : List (S141)) (A1 : Option Addr) (c1 : Nat) (l1 : List Int) (r : Bool) (w : World) (hr0_0 : Kd.C Kd.bool w A0_0 l0_0.length l0_0) (hc0_0 : l0_0.length ≤ c0_0) (hr0_1 : Kd.C k141 w A0_1 l0_1.length l0_1) (hc0_1 : l0_1.length ≤ c0_1) (hr1 : Kd.C (Kd.int .i64) w A1 l1.length l1) (hc1 : l1.length ≤ c1) (h : impl_Sheet_takes.f l0_0 l0_1 l1 = some r) :
    Calls Try.prog 93 #[.agg #[.slice A0_0 l0_0.length c0_0, .slice A0_1 l0_1.length c0_1], .slice A1 l1.length c1] w fun e w' => e = .returned (.bool r) ∧ Below w.heap.size w w' := by
  have hu30 := Try.underlying30
  have HR0_0 := qM hr0_0
  have HC0_0 := qM hc0_0
  clear hr0_0 hc0_0
  have HR0_1 := qM hr0_1
  have HC0_1 := qM hc0_1
  clear hr0_1 hc0_1
  have HR1 := qM hr1
  have HC1 := qM hc1
  clear hr1 hc1
  have HB := qM (Below.refl w.heap.size w)
  have H : (if (l1.length : Int) = (l0_0.length : Int) then ((impl_areValues.f l1).bind fun t392 => (some t392)) else (some false)) = some r := h
  clear h
  by_cases c3 : (l1.length : Int) = (l0_0.length : Int)
  rotate_left
  · rw [if_neg c3] at H
    have c3b0 : ((l1.length : Int) == (l0_0.length : Int)) = false := beq_eq_false_iff_ne.mpr c3
    have c3b1 : ((l1.length : Int) != (l0_0.length : Int)) = true := bne_iff_ne.mpr c3
    have c3b2 : (l1.length == l0_0.length) = false := by first | simpa using c3 | (simp at c3 ⊢; omega)
    obtain rfl := Option.some.inj H
    go_enter Try.func93, Try.ntmps93
    go_wp2_with (first | ((with_reducible refine gate_dst (N := 2) rfl ?_); refine box_event ?hg (N := 2) ?hd (cs := #[.slice A0_0 l0_0.length c0_0, .slice A0_1 l0_1.length c0_1]) (t := 30) ?hr ?_; (case hd => rfl); (case hg => rfl); (case hr => first | (go_simp; done) | (go_simp; rfl)); intro gb391 hg w8 hbox hb; have n0_ := qM (qs (by repeat (first | (with_reducible first | exact HB.out | apply qA | apply qN | apply qD) | exact HB.out)) hb); have n1_ := qM (hbox); have n2_ := qM ((by rw [hg]; exact (qz (by repeat (first | (with_reducible first | exact HB.out | apply qA | apply qN | apply qD) | exact HB.out))) : w.heap.size ≤ gb391)); have n3_ := qM ((by rw [hg]; exact (qz (by repeat (first | (with_reducible first | exact HB.out | apply qA | apply qN | apply qD) | exact HB.out))) : w.heap.size ≤ gb391)); clear HB; have HB := n0_; have BK391 := n1_; have GW391 := n2_; have GE391 := n3_; clear n0_ n1_ n2_ n3_; clear hb hbox hg; have hcz9_0 : w8.cell? ⟨gb391, 0, none⟩ = some (.slice A0_0 l0_0.length c0_0) := (qC BK391.out 0).trans rfl; have hcz9_1 : w8.cell? ⟨gb391, 1, none⟩ = some (.slice A0_1 l0_1.length c0_1) := (qC BK391.out 1).trans rfl; have hfz9_0 := qF BK391.out 0; have hfz9_1 := qF BK391.out 1))
    go_ret
    exact ⟨by first | rfl | (simp [errW_none, errW_some] <;> rfl) | (simp [*, errW_none, errW_some] <;> rfl), by repeat (first | (with_reducible first | exact HB.out | apply qA | apply qN | apply qD | refine qS ?_ GE391.out) | exact HB.out)⟩
  rw [if_pos c3] at H
  have c3b0 : ((l1.length : Int) == (l0_0.length : Int)) = true := beq_iff_eq.mpr c3
  have c3b1 : ((l1.length : Int) != (l0_0.length : Int)) = false := bne_eq_false_iff_eq.mpr c3
  have c3b2 : (l1.length == l0_0.length) = true := by first | simpa using c3 | (simp at c3 ⊢; omega)
  clear c3
  replace H := Option.bind_eq_some_iff.mp H
  obtain ⟨t392, A40, H⟩ := H
  replace H : (some t392) = some r := H
  have A4 := qM A40
  clear A40
  obtain rfl := Option.some.inj H
  go_enter Try.func93, Try.ntmps93
  go_wp2_with (first | ((with_reducible refine gate_dst (N := 2) rfl ?_); refine box_event ?hg (N := 2) ?hd (cs := #[.slice A0_0 l0_0.length c0_0, .slice A0_1 l0_1.length c0_1]) (t := 30) ?hr ?_; (case hd => rfl); (case hg => rfl); (case hr => first | (go_simp; done) | (go_simp; rfl)); intro gb391 hg w5 hbox hb; have n0_ := qM (qs (by repeat (first | (with_reducible first | exact HB.out | apply qA | apply qN | apply qD) | exact HB.out)) hb); have n1_ := qM (hbox); have n2_ := qM ((by rw [hg]; exact (qz (by repeat (first | (with_reducible first | exact HB.out | apply qA | apply qN | apply qD) | exact HB.out))) : w.heap.size ≤ gb391)); have n3_ := qM ((by rw [hg]; exact (qz (by repeat (first | (with_reducible first | exact HB.out | apply qA | apply qN | apply qD) | exact HB.out))) : w.heap.size ≤ gb391)); clear HB; have HB := n0_; have BK391 := n1_; have GW391 := n2_; have GE391 := n3_; clear n0_ n1_ n2_ n3_; clear hb hbox hg; have hcz6_0 : w5.cell? ⟨gb391, 0, none⟩ = some (.slice A0_0 l0_0.length c0_0) := (qC BK391.out 0).trans rfl; have hcz6_1 : w5.cell? ⟨gb391, 1, none⟩ = some (.slice A0_1 l0_1.length c0_1) := (qC BK391.out 1).trans rfl; have hfz6_0 := qF BK391.out 0; have hfz6_1 := qF BK391.out 1) | (go_at_call 127; (with_reducible refine (impl_areValues.calls _ _ l1 t392 _ ?side1 ?side2 A4.out).mono ?_); (case side1 => repeat (first | exact (qB HR1.out HB.out) | (with_reducible refine qc ?_ _) | (with_reducible refine qe ?_ _) | (with_reducible refine qf ?_))); (case side2 => exact HC1.out); rintro e w7 ⟨rfl, hb⟩; have n0_ := qM (blk_below (g := gb391) (o := .cells #[.slice A0_0 l0_0.length c0_0, .slice A0_1 l0_1.length c0_1] 30 (0, 0)) (by (with_reducible repeat (first | refine qn ?_ _ | refine qd ?_ | refine qa ?_ _)); exact BK391.out) hb); have n1_ := qM (qs (by repeat (first | (with_reducible first | exact HB.out | apply qA | apply qN | apply qD | refine qS ?_ GE391.out) | exact HB.out)) hb); clear BK391; clear HB; have BK391 := n0_; have HB := n1_; clear n0_ n1_; (try clear hb); (try clear hb2); (try clear hk); (try clear hi)))
  go_ret
  exact ⟨by first | rfl | (simp [errW_none, errW_some] <;> rfl) | (simp [*, errW_none, errW_some] <;> rfl), by repeat (first | (with_reducible first | exact HB.out | apply qA | apply qN | apply qD | refine qS ?_ GE391.out) | exact HB.out)⟩
def impl_Sheet_fits.f (l0_0 : List Bool) (l0_1 : List (S141)) (l1_0 : List Int) (l1_1 : List Int) : Option (Bool) := (impl_Sheet_takes.f l0_0 l0_1 l1_0).bind fun t395 => (if t395 = true then ((impl_Sheet_all.f l0_0 l0_1 l1_1).bind fun t396 => (some t396)) else (some false))
set_option maxHeartbeats 8000000 in
set_option maxRecDepth 100000 in
theorem impl_Sheet_fits.calls (A0_0 : Option Addr) (c0_0 : Nat) (l0_0 : List Bool) (A0_1 : Option Addr) (c0_1 : Nat) (l0_1 : List (S141)) (A1_0 : Option Addr) (c1_0 : Nat) (l1_0 : List Int) (A1_1 : Option Addr) (c1_1 : Nat) (l1_1 : List Int) (r : Bool) (w : World) (hr0_0 : Kd.C Kd.bool w A0_0 l0_0.length l0_0) (hc0_0 : l0_0.length ≤ c0_0) (hr0_1 : Kd.C k141 w A0_1 l0_1.length l0_1) (hc0_1 : l0_1.length ≤ c0_1) (hr1_0 : Kd.C (Kd.int .i64) w A1_0 l1_0.length l1_0) (hc1_0 : l1_0.length ≤ c1_0) (hr1_1 : Kd.C (Kd.int .i64) w A1_1 l1_1.length l1_1) (hc1_1 : l1_1.length ≤ c1_1) (h : impl_Sheet_fits.f l0_0 l0_1 l1_0 l1_1 = some r) :
    Calls Try.prog 79 #[.agg #[.slice A0_0 l0_0.length c0_0, .slice A0_1 l0_1.length c0_1], .agg #[.slice A1_0 l1_0.length c1_0, .slice A1_1 l1_1.length c1_1]] w fun e w' => e = .returned (.bool r) ∧ Below w.heap.size w w' := by
  have hu30 := Try.underlying30
  have hu95 := Try.underlying95
  have HR0_0 := qM hr0_0
  have HC0_0 := qM hc0_0
  clear hr0_0 hc0_0
  have HR0_1 := qM hr0_1
  have HC0_1 := qM hc0_1
  clear hr0_1 hc0_1
  have HR1_0 := qM hr1_0
  have HC1_0 := qM hc1_0
  clear hr1_0 hc1_0
  have HR1_1 := qM hr1_1
  have HC1_1 := qM hc1_1
  clear hr1_1 hc1_1
  have HB := qM (Below.refl w.heap.size w)
  have H : ((impl_Sheet_takes.f l0_0 l0_1 l1_0).bind fun t395 => (if t395 = true then ((impl_Sheet_all.f l0_0 l0_1 l1_1).bind fun t396 => (some t396)) else (some false))) = some r := h
  clear h
  replace H := Option.bind_eq_some_iff.mp H
  obtain ⟨t395, A30, H⟩ := H
  replace H : (if t395 = true then ((impl_Sheet_all.f l0_0 l0_1 l1_1).bind fun t396 => (some t396)) else (some false)) = some r := H
  have A3 := qM A30
  clear A30
  by_cases c4 : t395 = true
  rotate_left
  · replace c4 := Bool.eq_false_iff.mpr c4
    subst c4
    have H1 : (some false) = some r := by rw [if_neg (show ¬ (false = true) by decide)] at H; exact H
    clear H
    have H := H1
    clear H1
    obtain rfl := Option.some.inj H
    go_enter Try.func79, Try.ntmps79
    go_wp2_with (first | ((with_reducible refine gate_dst (N := 2) rfl ?_); refine box_event ?hg (N := 2) ?hd (cs := #[.slice A0_0 l0_0.length c0_0, .slice A0_1 l0_1.length c0_1]) (t := 30) ?hr ?_; (case hd => rfl); (case hg => rfl); (case hr => first | (go_simp; done) | (go_simp; rfl)); intro gb393 hg w15 hbox hb; have n0_ := qM (qs (by repeat (first | (with_reducible first | exact HB.out | apply qA | apply qN | apply qD) | exact HB.out)) hb); have n1_ := qM (hbox); have n2_ := qM ((by rw [hg]; exact (qz (by repeat (first | (with_reducible first | exact HB.out | apply qA | apply qN | apply qD) | exact HB.out))) : w.heap.size ≤ gb393)); have n3_ := qM ((by rw [hg]; exact (qz (by repeat (first | (with_reducible first | exact HB.out | apply qA | apply qN | apply qD) | exact HB.out))) : w.heap.size ≤ gb393)); clear HB; have HB := n0_; have BK393 := n1_; have GW393 := n2_; have GE393 := n3_; clear n0_ n1_ n2_ n3_; clear hb hbox hg) | ((with_reducible refine gate_dst (N := 3) rfl ?_); refine box_event ?hg (N := 3) ?hd (cs := #[.slice A1_0 l1_0.length c1_0, .slice A1_1 l1_1.length c1_1]) (t := 95) ?hr ?_; (case hd => rfl); (case hg => rfl); (case hr => first | (go_simp; done) | (go_simp; rfl)); intro gb394 hg w16 hbox hb; have n0_ := qM (blk_below (g := gb393) (o := .cells #[.slice A0_0 l0_0.length c0_0, .slice A0_1 l0_1.length c0_1] 30 (0, 0)) (by (with_reducible repeat (first | refine qn ?_ _ | refine qd ?_ | refine qa ?_ _)); exact BK393.out) hb); have n1_ := qM (qs (by repeat (first | (with_reducible first | exact HB.out | apply qA | apply qN | apply qD | refine qS ?_ GE393.out) | exact HB.out)) hb); have n2_ := qM (hbox); have n3_ := qM ((by rw [hg]; exact (qz (by repeat (first | (with_reducible first | exact HB.out | apply qA | apply qN | apply qD | refine qS ?_ GE393.out) | exact HB.out))) : w.heap.size ≤ gb394)); have n4_ := qM ((by rw [hg]; exact (qz (by repeat (first | (with_reducible first | exact HB.out | apply qA | apply qN | apply qD | refine qS ?_ GE393.out) | exact HB.out))) : w.heap.size ≤ gb394)); have n5_ := qM ((by rw [hg]; exact Nat.ne_of_lt (blk_lt (g := gb393) (o := .cells #[.slice A0_0 l0_0.length c0_0, .slice A0_1 l0_1.length c0_1] 30 (0, 0)) (by (with_reducible repeat (first | refine qn ?_ _ | refine qd ?_ | refine qa ?_ _)); exact BK393.out)) : gb393 ≠ gb394)); have n6_ := qM ((by rw [hg]; exact Nat.ne_of_gt (blk_lt (g := gb393) (o := .cells #[.slice A0_0 l0_0.length c0_0, .slice A0_1 l0_1.length c0_1] 30 (0, 0)) (by (with_reducible repeat (first | refine qn ?_ _ | refine qd ?_ | refine qa ?_ _)); exact BK393.out)) : gb394 ≠ gb393)); clear BK393; clear HB; have BK393 := n0_; have HB := n1_; have BK394 := n2_; have GW394 := n3_; have GE394 := n4_; have NB393_394 := n5_; have NB394_393 := n6_; clear n0_ n1_ n2_ n3_ n4_ n5_ n6_; clear hb hbox hg; have hnb17 := NB393_394.out; have hnc17 := NB394_393.out; have hcz18_0 : w16.cell? ⟨gb393, 0, none⟩ = some (.slice A0_0 l0_0.length c0_0) := (qC BK393.out 0).trans rfl; have hcz18_1 : w16.cell? ⟨gb393, 1, none⟩ = some (.slice A0_1 l0_1.length c0_1) := (qC BK393.out 1).trans rfl; have hfz18_0 := qF BK393.out 0; have hfz18_1 := qF BK393.out 1; have hcz19_0 : w16.cell? ⟨gb394, 0, none⟩ = some (.slice A1_0 l1_0.length c1_0) := (qC BK394.out 0).trans rfl; have hcz19_1 : w16.cell? ⟨gb394, 1, none⟩ = some (.slice A1_1 l1_1.length c1_1) := (qC BK394.out 1).trans rfl; have hfz19_0 := qF BK394.out 0; have hfz19_1 := qF BK394.out 1) | ((with_reducible refine gate_callee (f := 93) rfl ?_); refine goesL_ (some 8) rfl rfl Try.func93 (by kernel_rfl) rfl #[.agg #[.slice A0_0 l0_0.length c0_0, .slice A0_1 l0_1.length c0_1], .slice A1_0 l1_0.length c1_0] rfl (by (try simp only [List.map_toArray, List.map_cons, List.map_nil]); first | done | rfl | (simp only [List.length_drop, List.length_take]; rfl)) ?_; (with_reducible refine (impl_Sheet_takes.calls _ _ l0_0 _ _ l0_1 _ _ l1_0 false _ ?side1 ?side2 ?side3 ?side4 ?side5 ?side6 A3.out).mono ?_); (case side1 => repeat (first | exact (qB HR0_0.out HB.out) | (with_reducible refine qc ?_ _) | (with_reducible refine qe ?_ _) | (with_reducible refine qf ?_))); (case side2 => exact HC0_0.out); (case side3 => repeat (first | exact (qB HR0_1.out HB.out) | (with_reducible refine qc ?_ _) | (with_reducible refine qe ?_ _) | (with_reducible refine qf ?_))); (case side4 => exact HC0_1.out); (case side5 => repeat (first | exact (qB HR1_0.out HB.out) | (with_reducible refine qc ?_ _) | (with_reducible refine qe ?_ _) | (with_reducible refine qf ?_))); (case side6 => exact HC1_0.out); rintro e w20 ⟨rfl, hb⟩; refine ⟨_, rfl, ?_⟩; have n0_ := qM (blk_below (g := gb393) (o := .cells #[.slice A0_0 l0_0.length c0_0, .slice A0_1 l0_1.length c0_1] 30 (0, 0)) (by (with_reducible repeat (first | refine qn ?_ _ | refine qd ?_ | refine qa ?_ _)); exact BK393.out) hb); have n1_ := qM (blk_below (g := gb394) (o := .cells #[.slice A1_0 l1_0.length c1_0, .slice A1_1 l1_1.length c1_1] 95 (0, 0)) (by (with_reducible repeat (first | refine qn ?_ _ | refine qd ?_ | refine qa ?_ _)); exact BK394.out) hb); have n2_ := qM (qs (by repeat (first | (with_reducible first | exact HB.out | apply qA | apply qN | apply qD | refine qS ?_ GE393.out | refine qS ?_ GE394.out) | exact HB.out)) hb); clear BK393; clear BK394; clear HB; have BK393 := n0_; have BK394 := n1_; have HB := n2_; clear n0_ n1_ n2_; (try clear hb); (try clear hb2); (try clear hk); (try clear hi)))
    go_ret
    exact ⟨by first | rfl | (simp [errW_none, errW_some] <;> rfl) | (simp [*, errW_none, errW_some] <;> rfl), by repeat (first | (with_reducible first | exact HB.out | apply qA | apply qN | apply qD | refine qS ?_ GE393.out | refine qS ?_ GE394.out) | exact HB.out)⟩
  subst c4
  have H1 : ((impl_Sheet_all.f l0_0 l0_1 l1_1).bind fun t396 => (some t396)) = some r := by rw [if_pos rfl] at H; exact H
  clear H
  have H := H1
  clear H1
  replace H := Option.bind_eq_some_iff.mp H
  obtain ⟨t396, A50, H⟩ := H
  replace H : (some t396) = some r := H
  have A5 := qM A50
  clear A50
  obtain rfl := Option.some.inj H
  go_enter Try.func79, Try.ntmps79
  go_wp2_with (first | ((with_reducible refine gate_dst (N := 2) rfl ?_); refine box_event ?hg (N := 2) ?hd (cs := #[.slice A0_0 l0_0.length c0_0, .slice A0_1 l0_1.length c0_1]) (t := 30) ?hr ?_; (case hd => rfl); (case hg => rfl); (case hr => first | (go_simp; done) | (go_simp; rfl)); intro gb393 hg w6 hbox hb; have n0_ := qM (qs (by repeat (first | (with_reducible first | exact HB.out | apply qA | apply qN | apply qD) | exact HB.out)) hb); have n1_ := qM (hbox); have n2_ := qM ((by rw [hg]; exact (qz (by repeat (first | (with_reducible first | exact HB.out | apply qA | apply qN | apply qD) | exact HB.out))) : w.heap.size ≤ gb393)); have n3_ := qM ((by rw [hg]; exact (qz (by repeat (first | (with_reducible first | exact HB.out | apply qA | apply qN | apply qD) | exact HB.out))) : w.heap.size ≤ gb393)); clear HB; have HB := n0_; have BK393 := n1_; have GW393 := n2_; have GE393 := n3_; clear n0_ n1_ n2_ n3_; clear hb hbox hg) | ((with_reducible refine gate_dst (N := 3) rfl ?_); refine box_event ?hg (N := 3) ?hd (cs := #[.slice A1_0 l1_0.length c1_0, .slice A1_1 l1_1.length c1_1]) (t := 95) ?hr ?_; (case hd => rfl); (case hg => rfl); (case hr => first | (go_simp; done) | (go_simp; rfl)); intro gb394 hg w7 hbox hb; have n0_ := qM (blk_below (g := gb393) (o := .cells #[.slice A0_0 l0_0.length c0_0, .slice A0_1 l0_1.length c0_1] 30 (0, 0)) (by (with_reducible repeat (first | refine qn ?_ _ | refine qd ?_ | refine qa ?_ _)); exact BK393.out) hb); have n1_ := qM (qs (by repeat (first | (with_reducible first | exact HB.out | apply qA | apply qN | apply qD | refine qS ?_ GE393.out) | exact HB.out)) hb); have n2_ := qM (hbox); have n3_ := qM ((by rw [hg]; exact (qz (by repeat (first | (with_reducible first | exact HB.out | apply qA | apply qN | apply qD | refine qS ?_ GE393.out) | exact HB.out))) : w.heap.size ≤ gb394)); have n4_ := qM ((by rw [hg]; exact (qz (by repeat (first | (with_reducible first | exact HB.out | apply qA | apply qN | apply qD | refine qS ?_ GE393.out) | exact HB.out))) : w.heap.size ≤ gb394)); have n5_ := qM ((by rw [hg]; exact Nat.ne_of_lt (blk_lt (g := gb393) (o := .cells #[.slice A0_0 l0_0.length c0_0, .slice A0_1 l0_1.length c0_1] 30 (0, 0)) (by (with_reducible repeat (first | refine qn ?_ _ | refine qd ?_ | refine qa ?_ _)); exact BK393.out)) : gb393 ≠ gb394)); have n6_ := qM ((by rw [hg]; exact Nat.ne_of_gt (blk_lt (g := gb393) (o := .cells #[.slice A0_0 l0_0.length c0_0, .slice A0_1 l0_1.length c0_1] 30 (0, 0)) (by (with_reducible repeat (first | refine qn ?_ _ | refine qd ?_ | refine qa ?_ _)); exact BK393.out)) : gb394 ≠ gb393)); clear BK393; clear HB; have BK393 := n0_; have HB := n1_; have BK394 := n2_; have GW394 := n3_; have GE394 := n4_; have NB393_394 := n5_; have NB394_393 := n6_; clear n0_ n1_ n2_ n3_ n4_ n5_ n6_; clear hb hbox hg; have hnb8 := NB393_394.out; have hnc8 := NB394_393.out; have hcz9_0 : w7.cell? ⟨gb393, 0, none⟩ = some (.slice A0_0 l0_0.length c0_0) := (qC BK393.out 0).trans rfl; have hcz9_1 : w7.cell? ⟨gb393, 1, none⟩ = some (.slice A0_1 l0_1.length c0_1) := (qC BK393.out 1).trans rfl; have hfz9_0 := qF BK393.out 0; have hfz9_1 := qF BK393.out 1; have hcz10_0 : w7.cell? ⟨gb394, 0, none⟩ = some (.slice A1_0 l1_0.length c1_0) := (qC BK394.out 0).trans rfl; have hcz10_1 : w7.cell? ⟨gb394, 1, none⟩ = some (.slice A1_1 l1_1.length c1_1) := (qC BK394.out 1).trans rfl; have hfz10_0 := qF BK394.out 0; have hfz10_1 := qF BK394.out 1) | ((with_reducible refine gate_callee (f := 93) rfl ?_); refine goesL_ (some 8) rfl rfl Try.func93 (by kernel_rfl) rfl #[.agg #[.slice A0_0 l0_0.length c0_0, .slice A0_1 l0_1.length c0_1], .slice A1_0 l1_0.length c1_0] rfl (by (try simp only [List.map_toArray, List.map_cons, List.map_nil]); first | done | rfl | (simp only [List.length_drop, List.length_take]; rfl)) ?_; (with_reducible refine (impl_Sheet_takes.calls _ _ l0_0 _ _ l0_1 _ _ l1_0 true _ ?side1 ?side2 ?side3 ?side4 ?side5 ?side6 A3.out).mono ?_); (case side1 => repeat (first | exact (qB HR0_0.out HB.out) | (with_reducible refine qc ?_ _) | (with_reducible refine qe ?_ _) | (with_reducible refine qf ?_))); (case side2 => exact HC0_0.out); (case side3 => repeat (first | exact (qB HR0_1.out HB.out) | (with_reducible refine qc ?_ _) | (with_reducible refine qe ?_ _) | (with_reducible refine qf ?_))); (case side4 => exact HC0_1.out); (case side5 => repeat (first | exact (qB HR1_0.out HB.out) | (with_reducible refine qc ?_ _) | (with_reducible refine qe ?_ _) | (with_reducible refine qf ?_))); (case side6 => exact HC1_0.out); rintro e w11 ⟨rfl, hb⟩; refine ⟨_, rfl, ?_⟩; have n0_ := qM (blk_below (g := gb393) (o := .cells #[.slice A0_0 l0_0.length c0_0, .slice A0_1 l0_1.length c0_1] 30 (0, 0)) (by (with_reducible repeat (first | refine qn ?_ _ | refine qd ?_ | refine qa ?_ _)); exact BK393.out) hb); have n1_ := qM (blk_below (g := gb394) (o := .cells #[.slice A1_0 l1_0.length c1_0, .slice A1_1 l1_1.length c1_1] 95 (0, 0)) (by (with_reducible repeat (first | refine qn ?_ _ | refine qd ?_ | refine qa ?_ _)); exact BK394.out) hb); have n2_ := qM (qs (by repeat (first | (with_reducible first | exact HB.out | apply qA | apply qN | apply qD | refine qS ?_ GE393.out | refine qS ?_ GE394.out) | exact HB.out)) hb); clear BK393; clear BK394; clear HB; have BK393 := n0_; have BK394 := n1_; have HB := n2_; clear n0_ n1_ n2_; (try clear hb); (try clear hb2); (try clear hk); (try clear hi); have hcz12_0 : w11.cell? ⟨gb393, 0, none⟩ = some (.slice A0_0 l0_0.length c0_0) := (qC BK393.out 0).trans rfl; have hcz12_1 : w11.cell? ⟨gb393, 1, none⟩ = some (.slice A0_1 l0_1.length c0_1) := (qC BK393.out 1).trans rfl; have hfz12_0 := qF BK393.out 0; have hfz12_1 := qF BK393.out 1; have hcz13_0 : w11.cell? ⟨gb394, 0, none⟩ = some (.slice A1_0 l1_0.length c1_0) := (qC BK394.out 0).trans rfl; have hcz13_1 : w11.cell? ⟨gb394, 1, none⟩ = some (.slice A1_1 l1_1.length c1_1) := (qC BK394.out 1).trans rfl; have hfz13_0 := qF BK394.out 0; have hfz13_1 := qF BK394.out 1) | (go_at_call 71; (with_reducible refine (impl_Sheet_all.calls _ _ l0_0 _ _ l0_1 _ _ l1_1 t396 _ ?side1 ?side2 ?side3 ?side4 ?side5 ?side6 A5.out).mono ?_); (case side1 => repeat (first | exact (qB HR0_0.out HB.out) | (with_reducible refine qc ?_ _) | (with_reducible refine qe ?_ _) | (with_reducible refine qf ?_))); (case side2 => exact HC0_0.out); (case side3 => repeat (first | exact (qB HR0_1.out HB.out) | (with_reducible refine qc ?_ _) | (with_reducible refine qe ?_ _) | (with_reducible refine qf ?_))); (case side4 => exact HC0_1.out); (case side5 => repeat (first | exact (qB HR1_1.out HB.out) | (with_reducible refine qc ?_ _) | (with_reducible refine qe ?_ _) | (with_reducible refine qf ?_))); (case side6 => exact HC1_1.out); rintro e w14 ⟨rfl, hb⟩; have n0_ := qM (blk_below (g := gb393) (o := .cells #[.slice A0_0 l0_0.length c0_0, .slice A0_1 l0_1.length c0_1] 30 (0, 0)) (by (with_reducible repeat (first | refine qn ?_ _ | refine qd ?_ | refine qa ?_ _)); exact BK393.out) hb); have n1_ := qM (blk_below (g := gb394) (o := .cells #[.slice A1_0 l1_0.length c1_0, .slice A1_1 l1_1.length c1_1] 95 (0, 0)) (by (with_reducible repeat (first | refine qn ?_ _ | refine qd ?_ | refine qa ?_ _)); exact BK394.out) hb); have n2_ := qM (qs (by repeat (first | (with_reducible first | exact HB.out | apply qA | apply qN | apply qD | refine qS ?_ GE393.out | refine qS ?_ GE394.out) | exact HB.out)) hb); clear BK393; clear BK394; clear HB; have BK393 := n0_; have BK394 := n1_; have HB := n2_; clear n0_ n1_ n2_; (try clear hb); (try clear hb2); (try clear hk); (try clear hi)))
  go_ret
  exact ⟨by first | rfl | (simp [errW_none, errW_some] <;> rfl) | (simp [*, errW_none, errW_some] <;> rfl), by repeat (first | (with_reducible first | exact HB.out | apply qA | apply qN | apply qD | refine qS ?_ GE393.out | refine qS ?_ GE394.out) | exact HB.out)⟩
end Go.Proofs.Ythfemojaabejiaa.G
end
section
namespace Go.Proofs.Ythfemojaabejiaa.G
open Go.RowKit Go.Proofs.YthfemojaabejiaaW.PrintWords Go.Proofs.YthfemojaabejiaaW.PrintLast Go.Proofs.YthfemojaabejiaaW.PrintMore
attribute [local go_sem] max2_int min2_int max_two min_two max_three min_three max_four min_four
set_option linter.unusedVariables false
set_option linter.unusedSimpArgs false
def laws_eqOrder.f (k : Nat) (l0_0 : List Int) (l0_1 : List Int) (l1_0 : List Int) (l1_1 : List Int) : Option (Bool) := (laws_eqIntS.f k l0_0 l1_0).bind fun t402 => (if t402 = true then ((laws_eqIntS.f k l0_1 l1_1).bind fun t403 => (if t403 = true then (some true) else (some false))) else (some false))
set_option maxHeartbeats 8000000 in
set_option maxRecDepth 100000 in
theorem laws_eqOrder.calls (k : Nat) (A0_0 : Option Addr) (c0_0 : Nat) (l0_0 : List Int) (A0_1 : Option Addr) (c0_1 : Nat) (l0_1 : List Int) (A1_0 : Option Addr) (c1_0 : Nat) (l1_0 : List Int) (A1_1 : Option Addr) (c1_1 : Nat) (l1_1 : List Int) (r : Bool) (w : World) (hr0_0 : Kd.C (Kd.int .i64) w A0_0 l0_0.length l0_0) (hc0_0 : l0_0.length ≤ c0_0) (hr0_1 : Kd.C (Kd.int .i64) w A0_1 l0_1.length l0_1) (hc0_1 : l0_1.length ≤ c0_1) (hr1_0 : Kd.C (Kd.int .i64) w A1_0 l1_0.length l1_0) (hc1_0 : l1_0.length ≤ c1_0) (hr1_1 : Kd.C (Kd.int .i64) w A1_1 l1_1.length l1_1) (hc1_1 : l1_1.length ≤ c1_1) (h : laws_eqOrder.f k l0_0 l0_1 l1_0 l1_1 = some r) :
    Calls Try.prog 80 #[.agg #[.slice A0_0 l0_0.length c0_0, .slice A0_1 l0_1.length c0_1], .agg #[.slice A1_0 l1_0.length c1_0, .slice A1_1 l1_1.length c1_1]] w fun e w' => e = .returned (.bool r) ∧ Below w.heap.size w w' := by
  have hu95 := Try.underlying95
  have HR0_0 := qM hr0_0
  have HC0_0 := qM hc0_0
  clear hr0_0 hc0_0
  have HR0_1 := qM hr0_1
  have HC0_1 := qM hc0_1
  clear hr0_1 hc0_1
  have HR1_0 := qM hr1_0
  have HC1_0 := qM hc1_0
  clear hr1_0 hc1_0
  have HR1_1 := qM hr1_1
  have HC1_1 := qM hc1_1
  clear hr1_1 hc1_1
  have HB := qM (Below.refl w.heap.size w)
  have H : ((laws_eqIntS.f k l0_0 l1_0).bind fun t402 => (if t402 = true then ((laws_eqIntS.f k l0_1 l1_1).bind fun t403 => (if t403 = true then (some true) else (some false))) else (some false))) = some r := h
  clear h
  replace H := Option.bind_eq_some_iff.mp H
  obtain ⟨t402, A30, H⟩ := H
  replace H : (if t402 = true then ((laws_eqIntS.f k l0_1 l1_1).bind fun t403 => (if t403 = true then (some true) else (some false))) else (some false)) = some r := H
  have A3 := qM A30
  clear A30
  by_cases c4 : t402 = true
  rotate_left
  · replace c4 := Bool.eq_false_iff.mpr c4
    subst c4
    have H1 : (some false) = some r := by rw [if_neg (show ¬ (false = true) by decide)] at H; exact H
    clear H
    have H := H1
    clear H1
    obtain rfl := Option.some.inj H
    go_enter Try.func80, Try.ntmps80
    go_wp2_with (first | ((with_reducible refine gate_dst (N := 2) rfl ?_); refine box_event ?hg (N := 2) ?hd (cs := #[.slice A0_0 l0_0.length c0_0, .slice A0_1 l0_1.length c0_1]) (t := 95) ?hr ?_; (case hd => rfl); (case hg => rfl); (case hr => first | (go_simp; done) | (go_simp; rfl)); intro gb400 hg w17 hbox hb; have n0_ := qM (qs (by repeat (first | (with_reducible first | exact HB.out | apply qA | apply qN | apply qD) | exact HB.out)) hb); have n1_ := qM (hbox); have n2_ := qM ((by rw [hg]; exact (qz (by repeat (first | (with_reducible first | exact HB.out | apply qA | apply qN | apply qD) | exact HB.out))) : w.heap.size ≤ gb400)); have n3_ := qM ((by rw [hg]; exact (qz (by repeat (first | (with_reducible first | exact HB.out | apply qA | apply qN | apply qD) | exact HB.out))) : w.heap.size ≤ gb400)); clear HB; have HB := n0_; have BK400 := n1_; have GW400 := n2_; have GE400 := n3_; clear n0_ n1_ n2_ n3_; clear hb hbox hg) | ((with_reducible refine gate_dst (N := 3) rfl ?_); refine box_event ?hg (N := 3) ?hd (cs := #[.slice A1_0 l1_0.length c1_0, .slice A1_1 l1_1.length c1_1]) (t := 95) ?hr ?_; (case hd => rfl); (case hg => rfl); (case hr => first | (go_simp; done) | (go_simp; rfl)); intro gb401 hg w18 hbox hb; have n0_ := qM (blk_below (g := gb400) (o := .cells #[.slice A0_0 l0_0.length c0_0, .slice A0_1 l0_1.length c0_1] 95 (0, 0)) (by (with_reducible repeat (first | refine qn ?_ _ | refine qd ?_ | refine qa ?_ _)); exact BK400.out) hb); have n1_ := qM (qs (by repeat (first | (with_reducible first | exact HB.out | apply qA | apply qN | apply qD | refine qS ?_ GE400.out) | exact HB.out)) hb); have n2_ := qM (hbox); have n3_ := qM ((by rw [hg]; exact (qz (by repeat (first | (with_reducible first | exact HB.out | apply qA | apply qN | apply qD | refine qS ?_ GE400.out) | exact HB.out))) : w.heap.size ≤ gb401)); have n4_ := qM ((by rw [hg]; exact (qz (by repeat (first | (with_reducible first | exact HB.out | apply qA | apply qN | apply qD | refine qS ?_ GE400.out) | exact HB.out))) : w.heap.size ≤ gb401)); have n5_ := qM ((by rw [hg]; exact Nat.ne_of_lt (blk_lt (g := gb400) (o := .cells #[.slice A0_0 l0_0.length c0_0, .slice A0_1 l0_1.length c0_1] 95 (0, 0)) (by (with_reducible repeat (first | refine qn ?_ _ | refine qd ?_ | refine qa ?_ _)); exact BK400.out)) : gb400 ≠ gb401)); have n6_ := qM ((by rw [hg]; exact Nat.ne_of_gt (blk_lt (g := gb400) (o := .cells #[.slice A0_0 l0_0.length c0_0, .slice A0_1 l0_1.length c0_1] 95 (0, 0)) (by (with_reducible repeat (first | refine qn ?_ _ | refine qd ?_ | refine qa ?_ _)); exact BK400.out)) : gb401 ≠ gb400)); clear BK400; clear HB; have BK400 := n0_; have HB := n1_; have BK401 := n2_; have GW401 := n3_; have GE401 := n4_; have NB400_401 := n5_; have NB401_400 := n6_; clear n0_ n1_ n2_ n3_ n4_ n5_ n6_; clear hb hbox hg; have hnb19 := NB400_401.out; have hnc19 := NB401_400.out; have hcz20_0 : w18.cell? ⟨gb400, 0, none⟩ = some (.slice A0_0 l0_0.length c0_0) := (qC BK400.out 0).trans rfl; have hcz20_1 : w18.cell? ⟨gb400, 1, none⟩ = some (.slice A0_1 l0_1.length c0_1) := (qC BK400.out 1).trans rfl; have hfz20_0 := qF BK400.out 0; have hfz20_1 := qF BK400.out 1; have hcz21_0 : w18.cell? ⟨gb401, 0, none⟩ = some (.slice A1_0 l1_0.length c1_0) := (qC BK401.out 0).trans rfl; have hcz21_1 : w18.cell? ⟨gb401, 1, none⟩ = some (.slice A1_1 l1_1.length c1_1) := (qC BK401.out 1).trans rfl; have hfz21_0 := qF BK401.out 0; have hfz21_1 := qF BK401.out 1) | ((with_reducible refine gate_callee (f := 22) rfl ?_); refine goesL_ (some 9) rfl rfl Try.func22 (by kernel_rfl) rfl #[.slice A0_0 l0_0.length c0_0, .slice A1_0 l1_0.length c1_0] rfl (by (try simp only [List.map_toArray, List.map_cons, List.map_nil]); first | done | rfl | (simp only [List.length_drop, List.length_take]; rfl)) ?_; (with_reducible refine (laws_eqIntS.calls k _ _ l0_0 _ _ l1_0 false _ ?side1 ?side2 ?side3 ?side4 A3.out).mono ?_); (case side1 => repeat (first | exact (qB HR0_0.out HB.out) | (with_reducible refine qc ?_ _) | (with_reducible refine qe ?_ _) | (with_reducible refine qf ?_))); (case side2 => exact HC0_0.out); (case side3 => repeat (first | exact (qB HR1_0.out HB.out) | (with_reducible refine qc ?_ _) | (with_reducible refine qe ?_ _) | (with_reducible refine qf ?_))); (case side4 => exact HC1_0.out); rintro e w' ⟨rfl, ⟨nd, rfl⟩⟩; refine ⟨_, rfl, ?_⟩))
    go_ret
    exact ⟨by first | rfl | (simp [errW_none, errW_some] <;> rfl) | (simp [*, errW_none, errW_some] <;> rfl), by repeat (first | (with_reducible first | exact HB.out | apply qA | apply qN | apply qD | refine qS ?_ GE400.out | refine qS ?_ GE401.out) | exact HB.out)⟩
  subst c4
  have H1 : ((laws_eqIntS.f k l0_1 l1_1).bind fun t403 => (if t403 = true then (some true) else (some false))) = some r := by rw [if_pos rfl] at H; exact H
  clear H
  have H := H1
  clear H1
  replace H := Option.bind_eq_some_iff.mp H
  obtain ⟨t403, A50, H⟩ := H
  replace H : (if t403 = true then (some true) else (some false)) = some r := H
  have A5 := qM A50
  clear A50
  by_cases c6 : t403 = true
  · subst c6
    have H1 : (some true) = some r := by rw [if_pos rfl] at H; exact H
    clear H
    have H := H1
    clear H1
    obtain rfl := Option.some.inj H
    go_enter Try.func80, Try.ntmps80
    go_wp2_with (first | ((with_reducible refine gate_dst (N := 2) rfl ?_); refine box_event ?hg (N := 2) ?hd (cs := #[.slice A0_0 l0_0.length c0_0, .slice A0_1 l0_1.length c0_1]) (t := 95) ?hr ?_; (case hd => rfl); (case hg => rfl); (case hr => first | (go_simp; done) | (go_simp; rfl)); intro gb400 hg w7 hbox hb; have n0_ := qM (qs (by repeat (first | (with_reducible first | exact HB.out | apply qA | apply qN | apply qD) | exact HB.out)) hb); have n1_ := qM (hbox); have n2_ := qM ((by rw [hg]; exact (qz (by repeat (first | (with_reducible first | exact HB.out | apply qA | apply qN | apply qD) | exact HB.out))) : w.heap.size ≤ gb400)); have n3_ := qM ((by rw [hg]; exact (qz (by repeat (first | (with_reducible first | exact HB.out | apply qA | apply qN | apply qD) | exact HB.out))) : w.heap.size ≤ gb400)); clear HB; have HB := n0_; have BK400 := n1_; have GW400 := n2_; have GE400 := n3_; clear n0_ n1_ n2_ n3_; clear hb hbox hg) | ((with_reducible refine gate_dst (N := 3) rfl ?_); refine box_event ?hg (N := 3) ?hd (cs := #[.slice A1_0 l1_0.length c1_0, .slice A1_1 l1_1.length c1_1]) (t := 95) ?hr ?_; (case hd => rfl); (case hg => rfl); (case hr => first | (go_simp; done) | (go_simp; rfl)); intro gb401 hg w8 hbox hb; have n0_ := qM (blk_below (g := gb400) (o := .cells #[.slice A0_0 l0_0.length c0_0, .slice A0_1 l0_1.length c0_1] 95 (0, 0)) (by (with_reducible repeat (first | refine qn ?_ _ | refine qd ?_ | refine qa ?_ _)); exact BK400.out) hb); have n1_ := qM (qs (by repeat (first | (with_reducible first | exact HB.out | apply qA | apply qN | apply qD | refine qS ?_ GE400.out) | exact HB.out)) hb); have n2_ := qM (hbox); have n3_ := qM ((by rw [hg]; exact (qz (by repeat (first | (with_reducible first | exact HB.out | apply qA | apply qN | apply qD | refine qS ?_ GE400.out) | exact HB.out))) : w.heap.size ≤ gb401)); have n4_ := qM ((by rw [hg]; exact (qz (by repeat (first | (with_reducible first | exact HB.out | apply qA | apply qN | apply qD | refine qS ?_ GE400.out) | exact HB.out))) : w.heap.size ≤ gb401)); have n5_ := qM ((by rw [hg]; exact Nat.ne_of_lt (blk_lt (g := gb400) (o := .cells #[.slice A0_0 l0_0.length c0_0, .slice A0_1 l0_1.length c0_1] 95 (0, 0)) (by (with_reducible repeat (first | refine qn ?_ _ | refine qd ?_ | refine qa ?_ _)); exact BK400.out)) : gb400 ≠ gb401)); have n6_ := qM ((by rw [hg]; exact Nat.ne_of_gt (blk_lt (g := gb400) (o := .cells #[.slice A0_0 l0_0.length c0_0, .slice A0_1 l0_1.length c0_1] 95 (0, 0)) (by (with_reducible repeat (first | refine qn ?_ _ | refine qd ?_ | refine qa ?_ _)); exact BK400.out)) : gb401 ≠ gb400)); clear BK400; clear HB; have BK400 := n0_; have HB := n1_; have BK401 := n2_; have GW401 := n3_; have GE401 := n4_; have NB400_401 := n5_; have NB401_400 := n6_; clear n0_ n1_ n2_ n3_ n4_ n5_ n6_; clear hb hbox hg; have hnb9 := NB400_401.out; have hnc9 := NB401_400.out; have hcz10_0 : w8.cell? ⟨gb400, 0, none⟩ = some (.slice A0_0 l0_0.length c0_0) := (qC BK400.out 0).trans rfl; have hcz10_1 : w8.cell? ⟨gb400, 1, none⟩ = some (.slice A0_1 l0_1.length c0_1) := (qC BK400.out 1).trans rfl; have hfz10_0 := qF BK400.out 0; have hfz10_1 := qF BK400.out 1; have hcz11_0 : w8.cell? ⟨gb401, 0, none⟩ = some (.slice A1_0 l1_0.length c1_0) := (qC BK401.out 0).trans rfl; have hcz11_1 : w8.cell? ⟨gb401, 1, none⟩ = some (.slice A1_1 l1_1.length c1_1) := (qC BK401.out 1).trans rfl; have hfz11_0 := qF BK401.out 0; have hfz11_1 := qF BK401.out 1) | ((with_reducible refine gate_callee (f := 22) rfl ?_); refine goesL_ (some 9) rfl rfl Try.func22 (by kernel_rfl) rfl #[.slice A0_0 l0_0.length c0_0, .slice A1_0 l1_0.length c1_0] rfl (by (try simp only [List.map_toArray, List.map_cons, List.map_nil]); first | done | rfl | (simp only [List.length_drop, List.length_take]; rfl)) ?_; (with_reducible refine (laws_eqIntS.calls k _ _ l0_0 _ _ l1_0 true _ ?side1 ?side2 ?side3 ?side4 A3.out).mono ?_); (case side1 => repeat (first | exact (qB HR0_0.out HB.out) | (with_reducible refine qc ?_ _) | (with_reducible refine qe ?_ _) | (with_reducible refine qf ?_))); (case side2 => exact HC0_0.out); (case side3 => repeat (first | exact (qB HR1_0.out HB.out) | (with_reducible refine qc ?_ _) | (with_reducible refine qe ?_ _) | (with_reducible refine qf ?_))); (case side4 => exact HC1_0.out); rintro e w' ⟨rfl, ⟨nd, rfl⟩⟩; refine ⟨_, rfl, ?_⟩) | ((with_reducible refine gate_callee (f := 22) rfl ?_); refine goesL_ (some 15) rfl rfl Try.func22 (by kernel_rfl) rfl #[.slice A0_1 l0_1.length c0_1, .slice A1_1 l1_1.length c1_1] rfl (by (try simp only [List.map_toArray, List.map_cons, List.map_nil]); first | done | rfl | (simp only [List.length_drop, List.length_take]; rfl)) ?_; (with_reducible refine (laws_eqIntS.calls k _ _ l0_1 _ _ l1_1 true _ ?side1 ?side2 ?side3 ?side4 A5.out).mono ?_); (case side1 => repeat (first | exact (qB HR0_1.out (by repeat (first | (with_reducible first | exact HB.out | apply qA | apply qN | apply qD | refine qS ?_ GE400.out | refine qS ?_ GE401.out) | exact HB.out))) | (with_reducible refine qc ?_ _) | (with_reducible refine qe ?_ _) | (with_reducible refine qf ?_))); (case side2 => exact HC0_1.out); (case side3 => repeat (first | exact (qB HR1_1.out (by repeat (first | (with_reducible first | exact HB.out | apply qA | apply qN | apply qD | refine qS ?_ GE400.out | refine qS ?_ GE401.out) | exact HB.out))) | (with_reducible refine qc ?_ _) | (with_reducible refine qe ?_ _) | (with_reducible refine qf ?_))); (case side4 => exact HC1_1.out); rintro e w' ⟨rfl, ⟨nd, rfl⟩⟩; refine ⟨_, rfl, ?_⟩))
    go_ret
    exact ⟨by first | rfl | (simp [errW_none, errW_some] <;> rfl) | (simp [*, errW_none, errW_some] <;> rfl), by repeat (first | (with_reducible first | exact HB.out | apply qA | apply qN | apply qD | refine qS ?_ GE400.out | refine qS ?_ GE401.out) | exact HB.out)⟩
  replace c6 := Bool.eq_false_iff.mpr c6
  subst c6
  have H1 : (some false) = some r := by rw [if_neg (show ¬ (false = true) by decide)] at H; exact H
  clear H
  have H := H1
  clear H1
  obtain rfl := Option.some.inj H
  go_enter Try.func80, Try.ntmps80
  go_wp2_with (first | ((with_reducible refine gate_dst (N := 2) rfl ?_); refine box_event ?hg (N := 2) ?hd (cs := #[.slice A0_0 l0_0.length c0_0, .slice A0_1 l0_1.length c0_1]) (t := 95) ?hr ?_; (case hd => rfl); (case hg => rfl); (case hr => first | (go_simp; done) | (go_simp; rfl)); intro gb400 hg w12 hbox hb; have n0_ := qM (qs (by repeat (first | (with_reducible first | exact HB.out | apply qA | apply qN | apply qD) | exact HB.out)) hb); have n1_ := qM (hbox); have n2_ := qM ((by rw [hg]; exact (qz (by repeat (first | (with_reducible first | exact HB.out | apply qA | apply qN | apply qD) | exact HB.out))) : w.heap.size ≤ gb400)); have n3_ := qM ((by rw [hg]; exact (qz (by repeat (first | (with_reducible first | exact HB.out | apply qA | apply qN | apply qD) | exact HB.out))) : w.heap.size ≤ gb400)); clear HB; have HB := n0_; have BK400 := n1_; have GW400 := n2_; have GE400 := n3_; clear n0_ n1_ n2_ n3_; clear hb hbox hg) | ((with_reducible refine gate_dst (N := 3) rfl ?_); refine box_event ?hg (N := 3) ?hd (cs := #[.slice A1_0 l1_0.length c1_0, .slice A1_1 l1_1.length c1_1]) (t := 95) ?hr ?_; (case hd => rfl); (case hg => rfl); (case hr => first | (go_simp; done) | (go_simp; rfl)); intro gb401 hg w13 hbox hb; have n0_ := qM (blk_below (g := gb400) (o := .cells #[.slice A0_0 l0_0.length c0_0, .slice A0_1 l0_1.length c0_1] 95 (0, 0)) (by (with_reducible repeat (first | refine qn ?_ _ | refine qd ?_ | refine qa ?_ _)); exact BK400.out) hb); have n1_ := qM (qs (by repeat (first | (with_reducible first | exact HB.out | apply qA | apply qN | apply qD | refine qS ?_ GE400.out) | exact HB.out)) hb); have n2_ := qM (hbox); have n3_ := qM ((by rw [hg]; exact (qz (by repeat (first | (with_reducible first | exact HB.out | apply qA | apply qN | apply qD | refine qS ?_ GE400.out) | exact HB.out))) : w.heap.size ≤ gb401)); have n4_ := qM ((by rw [hg]; exact (qz (by repeat (first | (with_reducible first | exact HB.out | apply qA | apply qN | apply qD | refine qS ?_ GE400.out) | exact HB.out))) : w.heap.size ≤ gb401)); have n5_ := qM ((by rw [hg]; exact Nat.ne_of_lt (blk_lt (g := gb400) (o := .cells #[.slice A0_0 l0_0.length c0_0, .slice A0_1 l0_1.length c0_1] 95 (0, 0)) (by (with_reducible repeat (first | refine qn ?_ _ | refine qd ?_ | refine qa ?_ _)); exact BK400.out)) : gb400 ≠ gb401)); have n6_ := qM ((by rw [hg]; exact Nat.ne_of_gt (blk_lt (g := gb400) (o := .cells #[.slice A0_0 l0_0.length c0_0, .slice A0_1 l0_1.length c0_1] 95 (0, 0)) (by (with_reducible repeat (first | refine qn ?_ _ | refine qd ?_ | refine qa ?_ _)); exact BK400.out)) : gb401 ≠ gb400)); clear BK400; clear HB; have BK400 := n0_; have HB := n1_; have BK401 := n2_; have GW401 := n3_; have GE401 := n4_; have NB400_401 := n5_; have NB401_400 := n6_; clear n0_ n1_ n2_ n3_ n4_ n5_ n6_; clear hb hbox hg; have hnb14 := NB400_401.out; have hnc14 := NB401_400.out; have hcz15_0 : w13.cell? ⟨gb400, 0, none⟩ = some (.slice A0_0 l0_0.length c0_0) := (qC BK400.out 0).trans rfl; have hcz15_1 : w13.cell? ⟨gb400, 1, none⟩ = some (.slice A0_1 l0_1.length c0_1) := (qC BK400.out 1).trans rfl; have hfz15_0 := qF BK400.out 0; have hfz15_1 := qF BK400.out 1; have hcz16_0 : w13.cell? ⟨gb401, 0, none⟩ = some (.slice A1_0 l1_0.length c1_0) := (qC BK401.out 0).trans rfl; have hcz16_1 : w13.cell? ⟨gb401, 1, none⟩ = some (.slice A1_1 l1_1.length c1_1) := (qC BK401.out 1).trans rfl; have hfz16_0 := qF BK401.out 0; have hfz16_1 := qF BK401.out 1) | ((with_reducible refine gate_callee (f := 22) rfl ?_); refine goesL_ (some 9) rfl rfl Try.func22 (by kernel_rfl) rfl #[.slice A0_0 l0_0.length c0_0, .slice A1_0 l1_0.length c1_0] rfl (by (try simp only [List.map_toArray, List.map_cons, List.map_nil]); first | done | rfl | (simp only [List.length_drop, List.length_take]; rfl)) ?_; (with_reducible refine (laws_eqIntS.calls k _ _ l0_0 _ _ l1_0 true _ ?side1 ?side2 ?side3 ?side4 A3.out).mono ?_); (case side1 => repeat (first | exact (qB HR0_0.out HB.out) | (with_reducible refine qc ?_ _) | (with_reducible refine qe ?_ _) | (with_reducible refine qf ?_))); (case side2 => exact HC0_0.out); (case side3 => repeat (first | exact (qB HR1_0.out HB.out) | (with_reducible refine qc ?_ _) | (with_reducible refine qe ?_ _) | (with_reducible refine qf ?_))); (case side4 => exact HC1_0.out); rintro e w' ⟨rfl, ⟨nd, rfl⟩⟩; refine ⟨_, rfl, ?_⟩) | ((with_reducible refine gate_callee (f := 22) rfl ?_); refine goesL_ (some 15) rfl rfl Try.func22 (by kernel_rfl) rfl #[.slice A0_1 l0_1.length c0_1, .slice A1_1 l1_1.length c1_1] rfl (by (try simp only [List.map_toArray, List.map_cons, List.map_nil]); first | done | rfl | (simp only [List.length_drop, List.length_take]; rfl)) ?_; (with_reducible refine (laws_eqIntS.calls k _ _ l0_1 _ _ l1_1 false _ ?side1 ?side2 ?side3 ?side4 A5.out).mono ?_); (case side1 => repeat (first | exact (qB HR0_1.out (by repeat (first | (with_reducible first | exact HB.out | apply qA | apply qN | apply qD | refine qS ?_ GE400.out | refine qS ?_ GE401.out) | exact HB.out))) | (with_reducible refine qc ?_ _) | (with_reducible refine qe ?_ _) | (with_reducible refine qf ?_))); (case side2 => exact HC0_1.out); (case side3 => repeat (first | exact (qB HR1_1.out (by repeat (first | (with_reducible first | exact HB.out | apply qA | apply qN | apply qD | refine qS ?_ GE400.out | refine qS ?_ GE401.out) | exact HB.out))) | (with_reducible refine qc ?_ _) | (with_reducible refine qe ?_ _) | (with_reducible refine qf ?_))); (case side4 => exact HC1_1.out); rintro e w' ⟨rfl, ⟨nd, rfl⟩⟩; refine ⟨_, rfl, ?_⟩))
  go_ret
  exact ⟨by first | rfl | (simp [errW_none, errW_some] <;> rfl) | (simp [*, errW_none, errW_some] <;> rfl), by repeat (first | (with_reducible first | exact HB.out | apply qA | apply qN | apply qD | refine qS ?_ GE400.out | refine qS ?_ GE401.out) | exact HB.out)⟩
end Go.Proofs.Ythfemojaabejiaa.G
end
