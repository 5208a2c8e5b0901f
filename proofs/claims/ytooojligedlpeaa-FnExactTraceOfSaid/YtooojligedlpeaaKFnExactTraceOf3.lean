-- Written by pack.py (ours): the claim's texts, cut down to what its theorem reaches.
import Derived.Test.YtooojligedlpeaaProg
import Derived.Test.YtooojligedlpeaaKFnExactTraceOf2
section
namespace Go.Proofs.Ytooojligedlpeaa.G
open Go.RowKit Go.Proofs.YtooojligedlpeaaW.PrintWords Go.Proofs.YtooojligedlpeaaW.PrintLast Go.Proofs.YtooojligedlpeaaW.PrintMore
attribute [local go_sem] max2_int min2_int max_two min_two max_three min_three max_four min_four
set_option linter.unusedVariables false
set_option linter.unusedSimpArgs false
def errW : Option Int → Value
  | none => .nilIface
  | some c => .iface 0 (.int .i64 c)
theorem errW_none : errW none = .nilIface := rfl
theorem errW_some (c : Int) : errW (some c) = .iface 0 (.int .i64 c) := rfl
theorem info3 : (Try.prog.info? 3).map (fun i => (i.zero, i.size, i.bytes)) = some (some (.int .i64 0), 1, 8) := by kernel_rfl
theorem info25 : (Try.prog.info? 25).map (fun i => (i.zero, i.size, i.bytes)) = some (some (.agg #[(.int .i64 0), (.int .i64 0), (.slice none 0 0)]), 3, 40) := by kernel_rfl
theorem info49 : (Try.prog.info? 49).map (fun i => (i.zero, i.size, i.bytes)) = some (some (.agg #[(.int .i64 0), (.int .i64 0)]), 2, 16) := by kernel_rfl
structure S25 where
  f0 : Int
  f1 : Int
  f2 : (List S25)
def z25 : S25 := ⟨(0 : Int), (0 : Int), ([] : List S25)⟩
def F25 (d : Kd S25) : Kd S25 := Kd.iso (Kd.pair (Kd.int .i64) (Kd.pair (Kd.int .i64) (Kd.slice 25 d))) (fun x : S25 => (x.f0, x.f1, x.f2))
theorem mono25 : Kd.Mono F25 := Kd.mono_iso _ (Kd.mono_pair (Kd.mono_const _) (Kd.mono_pair (Kd.mono_const _) (Kd.mono_slice 25 Kd.mono_id)))
theorem sub25 : Kd.Sub F25 [25] := Kd.sub_iso _ (Kd.sub_pair (Kd.sub_const _ (by decide)) (Kd.sub_pair (Kd.sub_const _ (by decide)) (Kd.sub_slice 25 (by decide) Kd.sub_id)))
theorem sz25 : ∀ n, (Kd.upto F25 3 [25] n).sz = 3 := Kd.upto_sz (fun _ => rfl)
def k25 : Kd S25 := Kd.fix F25 3 [25] sz25 (Kd.upto_E sub25)
theorem k25_open {w : World} {x : S25} {cs : List Value} (h : k25.K w x cs) : ∃ A2 c2, cs = [.int .i64 x.f0, .int .i64 x.f1, .slice A2 x.f2.length c2] ∧ x.f2.length ≤ c2 ∧ k25.C w A2 x.f2.length x.f2 := by
  obtain ⟨n, h⟩ := h
  cases n with
  | zero => exact h.elim
  | succ n =>
    obtain ⟨_, _, rfl, rfl, ⟨_, _, rfl, rfl, ⟨A2, c2, rfl, l2, g2⟩⟩⟩ := h
    exact ⟨A2, c2, rfl, l2, Kd.fix_C g2⟩
theorem k25_openM {w : World} {base : Nat} {ok : Nat → Prop} {x : S25} {cs : List Value} (h : k25.M w base ok x cs) : ∃ v2, cs = [.int .i64 x.f0, .int .i64 x.f1, v2] ∧ k25.R 25 w base ok v2 x.f2 := by
  obtain ⟨n, h⟩ := h
  cases n with
  | zero => exact h.elim
  | succ n =>
    obtain ⟨_, _, rfl, rfl, ⟨_, _, rfl, rfl, ⟨v2, rfl, g2⟩⟩⟩ := h
    exact ⟨v2, rfl, Kd.fix_R g2⟩
theorem k25_mkM (w : World) (base : Nat) (ok : Nat → Prop) (x : S25) {v2 : Value} (g2 : k25.R 25 w base ok v2 x.f2) : k25.M w base ok x [.int .i64 x.f0, .int .i64 x.f1, v2] := by
  obtain ⟨n2, q2⟩ := Kd.fix_R_back mono25 g2
  have r2 := Kd.upto_R_le mono25 sz25 (show n2 ≤ n2 by omega) q2
  exact ⟨n2 + 1, ⟨[.int .i64 x.f0], [.int .i64 x.f1, v2], rfl, rfl, ⟨[.int .i64 x.f1], [v2], rfl, rfl, ⟨v2, rfl, r2⟩⟩⟩⟩
def rd_T25 (xs : List S25) (i : Int) : S25 := xs.getD i.toNat z25
theorem at_T25 {w : World} {A : Option Addr} {n : Nat} {xs : List S25} (h : Kd.C k25 w A n xs) (i : Int) (h0 : 0 ≤ i) (h1 : i < n) : ∃ ad A2 c2, A = some ad ∧ w.cell? (ad.add (i.toNat * 3)) = some (.int .i64 (rd_T25 xs i).f0) ∧ w.cell? ⟨(ad.add (i.toNat * 3)).block, (ad.add (i.toNat * 3)).off + 1, none⟩ = some (.int .i64 (rd_T25 xs i).f1) ∧ w.cell? ⟨(ad.add (i.toNat * 3)).block, (ad.add (i.toNat * 3)).off + 2, none⟩ = some (.slice A2 (rd_T25 xs i).f2.length c2) ∧ (rd_T25 xs i).f2.length ≤ c2 ∧ k25.C w A2 (rd_T25 xs i).f2.length (rd_T25 xs i).f2 := by
  obtain ⟨ad, c, e, _, hK, hc0⟩ := Kd.C_get h z25 i h0 h1
  have hc : ∀ j u, c[j]? = some u → w.cell? (ad.add (i.toNat * 3 + j)) = some u := hc0
  obtain ⟨A2, c2, rfl, l2, g2⟩ := k25_open hK
  exact ⟨ad, A2, c2, e, hc 0 _ rfl, by rw [← add_field _ _ 1 (by omega)]; exact hc 1 _ rfl, by rw [← add_field _ _ 2 (by omega)]; exact hc 2 _ rfl, l2, g2⟩
structure S49 where
  f0 : Int
  f1 : Int
def z49 : S49 := ⟨(0 : Int), (0 : Int)⟩
def k49 : Kd S49 := Kd.iso (Kd.pair (Kd.int .i64) (Kd.int .i64)) (fun x : S49 => (x.f0, x.f1))
theorem k49_open {w : World} {x : S49} {cs : List Value} (h : k49.K w x cs) : cs = [.int .i64 x.f0, .int .i64 x.f1] := by
  obtain ⟨_, _, rfl, rfl, rfl⟩ := h
  exact rfl
theorem k49_openM {w : World} {base : Nat} {ok : Nat → Prop} {x : S49} {cs : List Value} (h : k49.M w base ok x cs) : cs = [.int .i64 x.f0, .int .i64 x.f1] := by
  obtain ⟨_, _, rfl, rfl, rfl⟩ := h
  exact rfl
theorem k49_mk (w : World) (x : S49)  : k49.K w x [.int .i64 x.f0, .int .i64 x.f1] := ⟨[.int .i64 x.f0], [.int .i64 x.f1], rfl, rfl, rfl⟩
theorem k49_mkM (w : World) (base : Nat) (ok : Nat → Prop) (x : S49)  : k49.M w base ok x [.int .i64 x.f0, .int .i64 x.f1] := ⟨[.int .i64 x.f0], [.int .i64 x.f1], rfl, rfl, rfl⟩
def rd_T49 (xs : List S49) (i : Int) : S49 := xs.getD i.toNat z49
theorem at_T49 {w : World} {A : Option Addr} {n : Nat} {xs : List S49} (h : Kd.C k49 w A n xs) (i : Int) (h0 : 0 ≤ i) (h1 : i < n) : ∃ ad , A = some ad ∧ w.cell? (ad.add (i.toNat * 2)) = some (.int .i64 (rd_T49 xs i).f0) ∧ w.cell? ⟨(ad.add (i.toNat * 2)).block, (ad.add (i.toNat * 2)).off + 1, none⟩ = some (.int .i64 (rd_T49 xs i).f1) := by
  obtain ⟨ad, c, e, _, hK, hc0⟩ := Kd.C_get h z49 i h0 h1
  have hc : ∀ j u, c[j]? = some u → w.cell? (ad.add (i.toNat * 2 + j)) = some u := hc0
  obtain rfl := k49_open hK
  exact ⟨ad, e, hc 0 _ rfl, by rw [← add_field _ _ 1 (by omega)]; exact hc 1 _ rfl⟩
structure S35 where
  f0 : Int
  f1 : Int
  f2 : (List S35)
def z35 : S35 := ⟨(0 : Int), (0 : Int), ([] : List S35)⟩
def F35 (d : Kd S35) : Kd S35 := Kd.iso (Kd.pair (Kd.int .i64) (Kd.pair (Kd.int .i64) (Kd.slice 35 d))) (fun x : S35 => (x.f0, x.f1, x.f2))
theorem sub35 : Kd.Sub F35 [35] := Kd.sub_iso _ (Kd.sub_pair (Kd.sub_const _ (by decide)) (Kd.sub_pair (Kd.sub_const _ (by decide)) (Kd.sub_slice 35 (by decide) Kd.sub_id)))
theorem sz35 : ∀ n, (Kd.upto F35 3 [35] n).sz = 3 := Kd.upto_sz (fun _ => rfl)
def k35 : Kd S35 := Kd.fix F35 3 [35] sz35 (Kd.upto_E sub35)
theorem k35_open {w : World} {x : S35} {cs : List Value} (h : k35.K w x cs) : ∃ A2 c2, cs = [.int .i64 x.f0, .int .i64 x.f1, .slice A2 x.f2.length c2] ∧ x.f2.length ≤ c2 ∧ k35.C w A2 x.f2.length x.f2 := by
  obtain ⟨n, h⟩ := h
  cases n with
  | zero => exact h.elim
  | succ n =>
    obtain ⟨_, _, rfl, rfl, ⟨_, _, rfl, rfl, ⟨A2, c2, rfl, l2, g2⟩⟩⟩ := h
    exact ⟨A2, c2, rfl, l2, Kd.fix_C g2⟩
def rd_T35 (xs : List S35) (i : Int) : S35 := xs.getD i.toNat z35
theorem at_T35 {w : World} {A : Option Addr} {n : Nat} {xs : List S35} (h : Kd.C k35 w A n xs) (i : Int) (h0 : 0 ≤ i) (h1 : i < n) : ∃ ad A2 c2, A = some ad ∧ w.cell? (ad.add (i.toNat * 3)) = some (.int .i64 (rd_T35 xs i).f0) ∧ w.cell? ⟨(ad.add (i.toNat * 3)).block, (ad.add (i.toNat * 3)).off + 1, none⟩ = some (.int .i64 (rd_T35 xs i).f1) ∧ w.cell? ⟨(ad.add (i.toNat * 3)).block, (ad.add (i.toNat * 3)).off + 2, none⟩ = some (.slice A2 (rd_T35 xs i).f2.length c2) ∧ (rd_T35 xs i).f2.length ≤ c2 ∧ k35.C w A2 (rd_T35 xs i).f2.length (rd_T35 xs i).f2 := by
  obtain ⟨ad, c, e, _, hK, hc0⟩ := Kd.C_get h z35 i h0 h1
  have hc : ∀ j u, c[j]? = some u → w.cell? (ad.add (i.toNat * 3 + j)) = some u := hc0
  obtain ⟨A2, c2, rfl, l2, g2⟩ := k35_open hK
  exact ⟨ad, A2, c2, e, hc 0 _ rfl, by rw [← add_field _ _ 1 (by omega)]; exact hc 1 _ rfl, by rw [← add_field _ _ 2 (by omega)]; exact hc 2 _ rfl, l2, g2⟩
structure S63 where
  f0 : Int
  f1 : (List S49)
  f2 : Int
def z63 : S63 := ⟨(0 : Int), ([] : List S49), (0 : Int)⟩
def k63 : Kd S63 := Kd.iso (Kd.pair (Kd.int .i64) (Kd.pair (Kd.slice 49 k49) (Kd.int .i64))) (fun x : S63 => (x.f0, x.f1, x.f2))
theorem k63_open {w : World} {x : S63} {cs : List Value} (h : k63.K w x cs) : ∃ A1 c1, cs = [.int .i64 x.f0, .slice A1 x.f1.length c1, .int .i64 x.f2] ∧ x.f1.length ≤ c1 ∧ k49.C w A1 x.f1.length x.f1 := by
  obtain ⟨_, _, rfl, rfl, ⟨_, _, rfl, ⟨A1, c1, rfl, l1, g1⟩, rfl⟩⟩ := h
  exact ⟨A1, c1, rfl, l1, g1⟩
theorem k63_mk (w : World) (x : S63) {A1 : Option Addr} {c1 : Nat} (l1 : x.f1.length ≤ c1) (g1 : k49.C w A1 x.f1.length x.f1) : k63.K w x [.int .i64 x.f0, .slice A1 x.f1.length c1, .int .i64 x.f2] := ⟨[.int .i64 x.f0], [.slice A1 x.f1.length c1, .int .i64 x.f2], rfl, rfl, ⟨[.slice A1 x.f1.length c1], [.int .i64 x.f2], rfl, ⟨A1, c1, rfl, l1, g1⟩, rfl⟩⟩
def rd_T63 (xs : List S63) (i : Int) : S63 := xs.getD i.toNat z63
theorem at_T63 {w : World} {A : Option Addr} {n : Nat} {xs : List S63} (h : Kd.C k63 w A n xs) (i : Int) (h0 : 0 ≤ i) (h1 : i < n) : ∃ ad A1 c1, A = some ad ∧ w.cell? (ad.add (i.toNat * 3)) = some (.int .i64 (rd_T63 xs i).f0) ∧ w.cell? ⟨(ad.add (i.toNat * 3)).block, (ad.add (i.toNat * 3)).off + 1, none⟩ = some (.slice A1 (rd_T63 xs i).f1.length c1) ∧ w.cell? ⟨(ad.add (i.toNat * 3)).block, (ad.add (i.toNat * 3)).off + 2, none⟩ = some (.int .i64 (rd_T63 xs i).f2) ∧ (rd_T63 xs i).f1.length ≤ c1 ∧ k49.C w A1 (rd_T63 xs i).f1.length (rd_T63 xs i).f1 := by
  obtain ⟨ad, c, e, _, hK, hc0⟩ := Kd.C_get h z63 i h0 h1
  have hc : ∀ j u, c[j]? = some u → w.cell? (ad.add (i.toNat * 3 + j)) = some u := hc0
  obtain ⟨A1, c1, rfl, l1, g1⟩ := k63_open hK
  exact ⟨ad, A1, c1, e, hc 0 _ rfl, by rw [← add_field _ _ 1 (by omega)]; exact hc 1 _ rfl, by rw [← add_field _ _ 2 (by omega)]; exact hc 2 _ rfl, l1, g1⟩
end Go.Proofs.Ytooojligedlpeaa.G
end
section
namespace Go.Proofs.Ytooojligedlpeaa.G
open Go.RowKit Go.Proofs.YtooojligedlpeaaW.PrintWords Go.Proofs.YtooojligedlpeaaW.PrintLast Go.Proofs.YtooojligedlpeaaW.PrintMore
attribute [local go_sem] max2_int min2_int max_two min_two max_three min_three max_four min_four
set_option linter.unusedVariables false
set_option linter.unusedSimpArgs false
def IsS125 (w0 W : World) (g : Nat) (f0 : List Int) (f1 : Int) : Prop := ∃ A0 c0, W.heap[g]? = some (.cells #[.slice A0 f0.length c0, .int .i64 f1] 125 (0, 0)) ∧ w0.heap.size ≤ g ∧ Kd.C (Kd.int .u8) w0 A0 f0.length f0
theorem IsS125.grown {w0 W : World} {g : Nat} {f0 : List Int} {f1 : Int} {W1 : World} {row : Option Nat} (h : IsS125 w0 W g f0 f1) (hw : W.grownBy W1 row) (hne : some g ≠ row) : IsS125 w0 W1 g f0 f1 := by
  obtain ⟨A0, c0, hb, hg, hr0⟩ := h
  exact ⟨A0, c0, blk_grown hb hw hne, hg, hr0⟩
theorem IsS125.kept {w0 W : World} {g : Nat} {f0 : List Int} {f1 : Int} {W1 : World} {S : Nat → Prop} (h : IsS125 w0 W g f0 f1) (hk : Kept W W1 S) (hne : ¬ S g) : IsS125 w0 W1 g f0 f1 := by
  obtain ⟨A0, c0, hb, hg, hr0⟩ := h
  exact ⟨A0, c0, blk_kept hb hk hne, hg, hr0⟩
theorem IsS125.below {w0 W : World} {g : Nat} {f0 : List Int} {f1 : Int} {W1 : World} (h : IsS125 w0 W g f0 f1) (hw : Below W.heap.size W W1) : IsS125 w0 W1 g f0 f1 := h.grown (grown_of_below hw none) (by simp)
theorem IsS125.alloc {w0 W : World} {g : Nat} {f0 : List Int} {f1 : Int} (h : IsS125 w0 W g f0 f1) (o : Obj) : IsS125 w0 (W.alloc o) g f0 f1 := h.below (below_alloc (Below.refl _ _) o)
theorem IsS125.drewN {w0 W : World} {g : Nat} {f0 : List Int} {f1 : Int} (h : IsS125 w0 W g f0 f1) (m : Nat) : IsS125 w0 (W.drewN m) g f0 f1 := h
theorem IsS125.drew {w0 W : World} {g : Nat} {f0 : List Int} {f1 : Int} (h : IsS125 w0 W g f0 f1) : IsS125 w0 W.drew g f0 f1 := h
theorem IsS125.at_ {w0 W : World} {g : Nat} {f0 : List Int} {f1 : Int} {w' : World} {m : Nat} (hq : W.drewN m = w') (h : IsS125 w0 W g f0 f1) : IsS125 w0 w' g f0 f1 := by subst hq; exact IsS125.drewN h m
theorem IsS125.apart {w0 W : World} {g : Nat} {f0 : List Int} {f1 : Int} {α : Type} {d : Kd α} {e : Nat} {base : Nat} {ok : Nat → Prop} {v : Value} {xs : List α} (h : IsS125 w0 W g f0 f1) (ho : d.R e W base ok v xs) (ht : ∀ q, q ∈ e :: d.E → q ≠ 125) : d.R e W base (fun k => ok k ∧ k ≠ g) v xs := by
  obtain ⟨A0, c0, hb, hg, hr0⟩ := h
  exact Kd.R_types ho hb ht
theorem IsS125.own_ne {w0 W : World} {g : Nat} {f0 : List Int} {f1 : Int} {α : Type} {d : Kd α} {e : Nat} {base : Nat} {ok : Nat → Prop} {v : Value} {xs : List α} (h : IsS125 w0 W g f0 f1) (ho : d.R e W base ok v xs) (ht : e ≠ 125) : some g ≠ v.ownBlock := by
  obtain ⟨A0, c0, hb, hg, hr0⟩ := h
  exact Kd.R_ne ho hb ht
theorem IsS125.lt {w0 W : World} {g : Nat} {f0 : List Int} {f1 : Int} (h : IsS125 w0 W g f0 f1) : g < W.heap.size := by
  obtain ⟨A0, c0, hb, hg, hr0⟩ := h
  exact blk_lt hb
theorem IsS125.ge {w0 W : World} {g : Nat} {f0 : List Int} {f1 : Int} (h : IsS125 w0 W g f0 f1) : w0.heap.size ≤ g := by
  obtain ⟨A0, c0, hb, hg, hr0⟩ := h
  exact hg
theorem IsS125.set_1 {w0 W : World} {g : Nat} {f0 : List Int} {f1 : Int} (h : IsS125 w0 W g f0 f1) (x : Int) : IsS125 w0 (W.setCell ⟨g, 1, none⟩ (.int .i64 x)) g f0 x := by
  obtain ⟨A0, c0, hb, hg, hr0⟩ := h
  exact ⟨A0, c0, by simpa using blk_set hb 1 (.int .i64 x), hg, hr0⟩
theorem IsS125.new (w0 W : World) (A0 : Option Addr) (c0 : Nat) (f0 : List Int) (f1 : Int) (hB : Below w0.heap.size w0 W) (hr0 : Kd.C (Kd.int .u8) w0 A0 f0.length f0) : IsS125 w0 (W.alloc (.cells #[.slice A0 f0.length c0, .int .i64 f1] 125)) W.heap.size f0 f1 := ⟨A0, c0, by simpa using heap_alloc_new W _, hB.size, hr0⟩
def spec_l6In.f (a0 : Int) (a1 : Int) (a2 : Int) : Option (Bool) := if a0 ≥ a1 then (some (decide (a0 ≤ a2))) else (some false)
set_option maxHeartbeats 8000000 in
set_option maxRecDepth 100000 in
theorem spec_l6In.calls (a0 : Int) (a1 : Int) (a2 : Int) (r : Bool) (w : World) (h : spec_l6In.f a0 a1 a2 = some r) :
    Calls Try.prog 88 #[.int .i64 a0, .int .i64 a1, .int .i64 a2] w fun e w' => e = .returned (.bool r) ∧ Drawn0 w w' := by
  have H : (if a0 ≥ a1 then (some (decide (a0 ≤ a2))) else (some false)) = some r := h
  clear h
  by_cases c4 : a0 ≥ a1
  · rw [if_pos c4] at H
    have c4b0 : decide (a1 ≤ a0) = true := decide_eq_true c4
    clear c4
    obtain rfl := Option.some.inj H
    go_enter Try.func88, Try.ntmps88
    go_wp2
    go_ret
    exact ⟨by first | rfl | (simp; done) | (simp [*]; done), by repeat (first | exact Drawn0.refl _ | apply Drawn0.step)⟩
  · rw [if_neg c4] at H
    have c4b0 : decide (a1 ≤ a0) = false := decide_eq_false c4
    clear c4
    obtain rfl := Option.some.inj H
    go_enter Try.func88, Try.ntmps88
    go_wp2
    go_ret
    exact ⟨by first | rfl | (simp; done) | (simp [*]; done), by repeat (first | exact Drawn0.refl _ | apply Drawn0.step)⟩
def spec_l1Shape.j0 : Nat → Int → Bool → Option (Int × Int × Bool)
  | 0, _, _ => none
  | k + 1, x5, x10 => if x10 = true then (some (2, 0, true)) else (if x5 = 4 then (some (3, 0, true)) else (if x5 = 5 then (some (1, 9, true)) else (some (0, 0, false))))
def spec_l1Shape.f (k : Nat) (a0 : Int) : Option (Int × Int × Bool) := if a0 = 0 then (some (0, 96, true)) else (if a0 = 1 then (some (0, 9, true)) else (if a0 = 2 then (spec_l1Shape.j0 k a0 (a0 == 2)) else (spec_l1Shape.j0 k a0 (a0 == 3))))
set_option maxHeartbeats 8000000 in
set_option maxRecDepth 100000 in
theorem spec_l1Shape.calls (k : Nat) (a0 : Int) (r1 : Int) (r2 : Int) (r3 : Bool) (w : World) (h : spec_l1Shape.f k a0 = some (r1, r2, r3)) :
    Calls Try.prog 134 #[.int .i64 a0] w fun e w' => e = .returned (.tuple #[.int .i64 r1, .int .i64 r2, .bool r3]) ∧ Drawn0 w w' := by
  have H : (if a0 = 0 then (some (0, 96, true)) else (if a0 = 1 then (some (0, 9, true)) else (if a0 = 2 then (spec_l1Shape.j0 k a0 (a0 == 2)) else (spec_l1Shape.j0 k a0 (a0 == 3))))) = some (r1, r2, r3) := h
  clear h
  by_cases c2 : a0 = 0
  · rw [if_pos c2] at H
    have c2b0 : (a0 == 0) = true := beq_iff_eq.mpr c2
    have c2b1 : (a0 != 0) = false := bne_eq_false_iff_eq.mpr c2
    clear c2
    simp only [Option.some.injEq, Prod.mk.injEq] at H
    obtain ⟨rfl, rfl, rfl⟩ := H
    go_enter Try.func134, Try.ntmps134
    go_wp2
    go_ret3
    exact ⟨by first | rfl | (simp; done) | (simp [*]; done), by repeat (first | exact Drawn0.refl _ | apply Drawn0.step)⟩
  · rw [if_neg c2] at H
    have c2b0 : (a0 == 0) = false := beq_eq_false_iff_ne.mpr c2
    have c2b1 : (a0 != 0) = true := bne_iff_ne.mpr c2
    by_cases c3 : a0 = 1
    · rw [if_pos c3] at H
      have c3b0 : (a0 == 1) = true := beq_iff_eq.mpr c3
      have c3b1 : (a0 != 1) = false := bne_eq_false_iff_eq.mpr c3
      clear c3
      simp only [Option.some.injEq, Prod.mk.injEq] at H
      obtain ⟨rfl, rfl, rfl⟩ := H
      go_enter Try.func134, Try.ntmps134
      go_wp2
      go_ret3
      exact ⟨by first | rfl | (simp; done) | (simp [*]; done), by repeat (first | exact Drawn0.refl _ | apply Drawn0.step)⟩
    · rw [if_neg c3] at H
      have c3b0 : (a0 == 1) = false := beq_eq_false_iff_ne.mpr c3
      have c3b1 : (a0 != 1) = true := bne_iff_ne.mpr c3
      have HC4 := Aside0.mk H
      clear H
      go_enter Try.func134, Try.ntmps134
      go_upto_if 10 with (fail)
      go_cut [10] (fun v10 wc => ∃ (kq : Nat) (x10_3 : Bool), v10 = .bool x10_3 ∧ Aside0 (spec_l1Shape.j0 kq a0 x10_3 = some (r1, r2, r3)) ∧ Aside0 (kq ≤ k) ∧ Drawn0 w wc)
      case first =>
        have H := HC4.out
        clear HC4
        by_cases c5 : a0 = 2
        · rw [if_pos c5] at H
          have c5b0 : (a0 == 2) = true := beq_iff_eq.mpr c5
          have c5b1 : (a0 != 2) = false := bne_eq_false_iff_eq.mpr c5
          clear c5
          (first | rw [c5b0] | (simp only [i64_w, i32_w]; rw [c5b0]) | skip)
          have H' := Aside0.mk H
          clear H
          go_wp2
          go_meet
          case rel => exact ⟨_, ((a0 == 2)), (by first | rfl | (simp; done) | (simp [*]; done)), H', ⟨by first | omega | exact Nat.le_refl _⟩, by repeat (first | exact Drawn0.refl _ | apply Drawn0.step)⟩
        · rw [if_neg c5] at H
          have c5b0 : (a0 == 2) = false := beq_eq_false_iff_ne.mpr c5
          have c5b1 : (a0 != 2) = true := bne_iff_ne.mpr c5
          (first | rw [c5b0] | (simp only [i64_w, i32_w]; rw [c5b0]) | skip)
          have H' := Aside0.mk H
          clear H
          go_wp2
          go_meet
          case rel => exact ⟨_, ((a0 == 3)), (by first | rfl | (simp; done) | (simp [*]; done)), H', ⟨by first | omega | exact Nat.le_refl _⟩, by repeat (first | exact Drawn0.refl _ | apply Drawn0.step)⟩
      case rest =>
        clear HC4
        try clear c1
        try clear c2
        try clear c2b0
        try clear c2b1
        try clear p2
        try clear c3
        try clear c3b0
        try clear c3b1
        try clear c5
        try clear c5b0
        try clear c5b1
        obtain ⟨kq, x10_3, rfl, HA, HJ3, ⟨mc3, rfl⟩⟩ := hcut
        cases kq with
        | zero => exact absurd HA.out (by simp [spec_l1Shape.j0])
        | succ kj3 =>
          have H := HA.out
          clear HA
          simp only [spec_l1Shape.j0] at H
          by_cases c6 : x10_3 = true
          · subst c6
            have H1 : (some (2, 0, true)) = some (r1, r2, r3) := by rw [if_pos rfl] at H; exact H
            clear H
            have H := H1
            clear H1
            simp only [Option.some.injEq, Prod.mk.injEq] at H
            obtain ⟨rfl, rfl, rfl⟩ := H
            go_wp2
            go_ret3
            exact ⟨by first | rfl | (simp; done) | (simp [*]; done), by repeat (first | exact Drawn0.refl _ | apply Drawn0.step)⟩
          · replace c6 := Bool.eq_false_iff.mpr c6
            subst c6
            have H1 : (if a0 = 4 then (some (3, 0, true)) else (if a0 = 5 then (some (1, 9, true)) else (some (0, 0, false)))) = some (r1, r2, r3) := by rw [if_neg (show ¬ (false = true) by decide)] at H; exact H
            clear H
            have H := H1
            clear H1
            by_cases c7 : a0 = 4
            · rw [if_pos c7] at H
              have c7b0 : (a0 == 4) = true := beq_iff_eq.mpr c7
              have c7b1 : (a0 != 4) = false := bne_eq_false_iff_eq.mpr c7
              clear c7
              simp only [Option.some.injEq, Prod.mk.injEq] at H
              obtain ⟨rfl, rfl, rfl⟩ := H
              go_wp2
              go_ret3
              exact ⟨by first | rfl | (simp; done) | (simp [*]; done), by repeat (first | exact Drawn0.refl _ | apply Drawn0.step)⟩
            · rw [if_neg c7] at H
              have c7b0 : (a0 == 4) = false := beq_eq_false_iff_ne.mpr c7
              have c7b1 : (a0 != 4) = true := bne_iff_ne.mpr c7
              by_cases c8 : a0 = 5
              · rw [if_pos c8] at H
                have c8b0 : (a0 == 5) = true := beq_iff_eq.mpr c8
                have c8b1 : (a0 != 5) = false := bne_eq_false_iff_eq.mpr c8
                clear c8
                simp only [Option.some.injEq, Prod.mk.injEq] at H
                obtain ⟨rfl, rfl, rfl⟩ := H
                go_wp2
                go_ret3
                exact ⟨by first | rfl | (simp; done) | (simp [*]; done), by repeat (first | exact Drawn0.refl _ | apply Drawn0.step)⟩
              · rw [if_neg c8] at H
                have c8b0 : (a0 == 5) = false := beq_eq_false_iff_ne.mpr c8
                have c8b1 : (a0 != 5) = true := bne_iff_ne.mpr c8
                simp only [Option.some.injEq, Prod.mk.injEq] at H
                obtain ⟨rfl, rfl, rfl⟩ := H
                go_wp2
                go_ret3
                exact ⟨by first | rfl | (simp; done) | (simp [*]; done), by repeat (first | exact Drawn0.refl _ | apply Drawn0.step)⟩
mutual
def spec_l1Fit.j0 : Nat → Bool → Int → Int → List (S25) → Option (Bool)
  | 0, _, _, _, _ => none
  | k + 1, x29, x108000, x108001, x108002 => if x29 = true then (some false) else (spec_l1Fit.l0 k 0 x108000 x108001 x108002)
def spec_l1Fit.l0 : Nat → Int → Int → Int → List (S25) → Option (Bool)
  | 0, _, _, _, _ => none
  | k + 1, x6, x108000, x108001, x108002 => if x6 < (x108002.length : Int) then (if 0 ≤ x6 then ((spec_l1Fit.f k ((rd_T25 x108002 x6).f0) ((rd_T25 x108002 x6).f1) ((rd_T25 x108002 x6).f2)).bind fun t113 => (if t113 = true then (spec_l1Fit.l0 k (wrap64 (x6 + 1)) x108000 x108001 x108002) else (some false))) else (none)) else (some true)
def spec_l1Fit.f : Nat → Int → Int → List (S25) → Option (Bool)
  | 0, _, _, _ => none
  | k + 1, a0_0, a0_1, l0_2 => (spec_l1Shape.f k a0_0).bind fun bt108 => (if bt108.2.2 = true then (if (l0_2.length : Int) = bt108.1 then ((spec_l6In.f a0_1 0 bt108.2.1).bind fun t111 => (spec_l1Fit.j0 k (!t111) a0_0 a0_1 l0_2)) else (spec_l1Fit.j0 k true a0_0 a0_1 l0_2)) else (spec_l1Fit.j0 k true a0_0 a0_1 l0_2))
end
set_option maxHeartbeats 8000000 in
set_option maxRecDepth 100000 in
theorem spec_l1Fit.calls (k : Nat) : ∀ (a0_0 : Int) (a0_1 : Int) (A0_2 : Option Addr) (c0_2 : Nat) (l0_2 : List (S25)) (r : Bool) (w : World) (hr0_2 : Kd.C k25 w A0_2 l0_2.length l0_2) (hc0_2 : l0_2.length ≤ c0_2) (h : spec_l1Fit.f k a0_0 a0_1 l0_2 = some r),
    Calls Try.prog 110 #[.agg #[.int .i64 a0_0, .int .i64 a0_1, .slice A0_2 l0_2.length c0_2]] w fun e w' => e = .returned (.bool r) ∧ Below w.heap.size w w' := by
  induction k using Nat.strongRecOn with
  | _ k ih =>
  intro a0_0 a0_1 A0_2 c0_2 l0_2 r w hr0_2 hc0_2 h
  cases k with
  | zero => exact absurd h (by simp [spec_l1Fit.f])
  | succ k =>
  simp only [spec_l1Fit.f] at h
  have hu25 := Try.underlying25
  have HR0_2 := Aside0.mk hr0_2
  have HC0_2 := Aside0.mk hc0_2
  clear hr0_2 hc0_2
  have HB := Aside0.mk (Below.refl w.heap.size w)
  have H : ((spec_l1Shape.f k a0_0).bind fun bt108 => (if bt108.2.2 = true then (if (l0_2.length : Int) = bt108.1 then ((spec_l6In.f a0_1 0 bt108.2.1).bind fun t111 => (spec_l1Fit.j0 k (!t111) a0_0 a0_1 l0_2)) else (spec_l1Fit.j0 k true a0_0 a0_1 l0_2)) else (spec_l1Fit.j0 k true a0_0 a0_1 l0_2))) = some r := h
  clear h
  replace H := Option.bind_eq_some_iff.mp H
  obtain ⟨⟨t108, t109, t110⟩, A20, H⟩ := H
  replace H : (if t110 = true then (if (l0_2.length : Int) = t108 then ((spec_l6In.f a0_1 0 t109).bind fun t111 => (spec_l1Fit.j0 k (!t111) a0_0 a0_1 l0_2)) else (spec_l1Fit.j0 k true a0_0 a0_1 l0_2)) else (spec_l1Fit.j0 k true a0_0 a0_1 l0_2)) = some r := H
  have A2 := Aside0.mk A20
  clear A20
  have HC3 := Aside0.mk H
  clear H
  go_enter Try.func110, Try.ntmps110
  go_upto_region 2 with (first | ((with_reducible refine gate_dst (N := 1) rfl ?_); (try (refine gate_guard (by rfl) ?_; dsimp only)); refine box_event ?hg (N := 1) ?hd (cs := #[.int .i64 a0_0, .int .i64 a0_1, .slice A0_2 l0_2.length c0_2]) (t := 25) ?hr ?_; (case hd => rfl); (case hg => rfl); (case hr => first | (go_simp; done) | (go_simp; rfl)); intro gb107 hg w4 hbox hb; have n0_ := Aside0.mk (below_step (by repeat (first | (with_reducible first | exact HB.out | apply below_alloc | apply pw_below_drewN | apply below_drew1) | exact HB.out)) hb); have n1_ := Aside0.mk (hbox); have n2_ := Aside0.mk ((by rw [hg]; exact (below_size (by repeat (first | (with_reducible first | exact HB.out | apply below_alloc | apply pw_below_drewN | apply below_drew1) | exact HB.out))) : w.heap.size ≤ gb107)); have n3_ := Aside0.mk ((by rw [hg]; exact (below_size (by repeat (first | (with_reducible first | exact HB.out | apply below_alloc | apply pw_below_drewN | apply below_drew1) | exact HB.out))) : w.heap.size ≤ gb107)); clear HB; have HB := n0_; have BK107 := n1_; have GW107 := n2_; have GE107 := n3_; clear n0_ n1_ n2_ n3_; clear hb hbox hg; have hcz5_0 : w4.cell? ⟨gb107, 0, none⟩ = some (.int .i64 a0_0) := (blk_cell BK107.out 0).trans rfl; have hcz5_1 : w4.cell? ⟨gb107, 1, none⟩ = some (.int .i64 a0_1) := (blk_cell BK107.out 1).trans rfl; have hcz5_2 : w4.cell? ⟨gb107, 2, none⟩ = some (.slice A0_2 l0_2.length c0_2) := (blk_cell BK107.out 2).trans rfl; have hfz5_0 := blk_frozen BK107.out 0; have hfz5_1 := blk_frozen BK107.out 1; have hfz5_2 := blk_frozen BK107.out 2) | ((with_reducible refine gate_callee (f := 134) rfl ?_); refine goesL_ (some 10) rfl rfl Try.func134 (by kernel_rfl) rfl #[.int .i64 a0_0] rfl (by (try simp only [List.map_toArray, List.map_cons, List.map_nil]); first | done | rfl | (simp only [List.length_drop, List.length_take]; rfl)) ?_; (with_reducible refine (spec_l1Shape.calls k a0_0 t108 t109 t110 _ A2.out).mono ?_); rintro e w' ⟨rfl, ⟨nd, rfl⟩⟩; refine ⟨_, rfl, ?_⟩))
  (try simp only [Act.put, List.setIfInBounds_toArray, List.set_cons_zero, List.set_cons_succ])
  go_cut [29] (fun v29 wc => ∃ (kq : Nat) (x29_2 : Bool), v29 = .bool x29_2 ∧ Aside0 (spec_l1Fit.j0 kq x29_2 a0_0 a0_1 l0_2 = some r) ∧ Aside0 (kq ≤ k) ∧ Aside0 (wc.heap[gb107]? = some (.cells #[.int .i64 a0_0, .int .i64 a0_1, (.slice A0_2 l0_2.length c0_2)] 25 (0, 0))) ∧ Aside0 (Below w.heap.size w wc))
  case first =>
    have H := HC3.out
    clear HC3
    by_cases c6 : t110 = true
    · subst c6
      have H1 : (if (l0_2.length : Int) = t108 then ((spec_l6In.f a0_1 0 t109).bind fun t111 => (spec_l1Fit.j0 k (!t111) a0_0 a0_1 l0_2)) else (spec_l1Fit.j0 k true a0_0 a0_1 l0_2)) = some r := by rw [if_pos rfl] at H; exact H
      clear H
      have H := H1
      clear H1
      by_cases c7 : (l0_2.length : Int) = t108
      · rw [if_pos c7] at H
        have c7b0 : ((l0_2.length : Int) == t108) = true := beq_iff_eq.mpr c7
        have c7b1 : ((l0_2.length : Int) != t108) = false := bne_eq_false_iff_eq.mpr c7
        clear c7
        (first | rw [c7b0] | (simp only [i64_w, i32_w]; rw [c7b0]) | skip)
        replace H := Option.bind_eq_some_iff.mp H
        obtain ⟨t111, A80, H⟩ := H
        replace H : (spec_l1Fit.j0 k (!t111) a0_0 a0_1 l0_2) = some r := H
        have A8 := Aside0.mk A80
        clear A80
        have H' := Aside0.mk H
        clear H
        have hcz9_0 : w4.cell? ⟨gb107, 0, none⟩ = some (.int .i64 a0_0) := (blk_cell BK107.out 0).trans rfl
        have hcz9_1 : w4.cell? ⟨gb107, 1, none⟩ = some (.int .i64 a0_1) := (blk_cell BK107.out 1).trans rfl
        have hcz9_2 : w4.cell? ⟨gb107, 2, none⟩ = some (.slice A0_2 l0_2.length c0_2) := (blk_cell BK107.out 2).trans rfl
        have hfz9_0 := blk_frozen BK107.out 0
        have hfz9_1 := blk_frozen BK107.out 1
        have hfz9_2 := blk_frozen BK107.out 2
        go_wp2_with (first | (go_at_call 88; (with_reducible refine (spec_l6In.calls a0_1 0 t109 t111 _ A8.out).mono ?_); rintro e w' ⟨rfl, ⟨nd, rfl⟩⟩))
        go_meet
        case rel => exact ⟨_, (!t111), (by first | rfl | (simp; done) | (simp [*]; done)), H', ⟨by first | omega | exact Nat.le_refl _⟩, ⟨by (with_reducible repeat (first | refine blk_drewN ?_ _ | refine blk_drew ?_ | refine blk_alloc ?_ _)); exact BK107.out⟩, ⟨by repeat (first | (with_reducible first | exact HB.out | apply below_alloc | apply pw_below_drewN | apply below_drew1 | refine below_set ?_ GE107.out) | exact HB.out)⟩⟩
      · rw [if_neg c7] at H
        have c7b0 : ((l0_2.length : Int) == t108) = false := beq_eq_false_iff_ne.mpr c7
        have c7b1 : ((l0_2.length : Int) != t108) = true := bne_iff_ne.mpr c7
        (first | rw [c7b0] | (simp only [i64_w, i32_w]; rw [c7b0]) | skip)
        have H' := Aside0.mk H
        clear H
        have hcz10_0 : w4.cell? ⟨gb107, 0, none⟩ = some (.int .i64 a0_0) := (blk_cell BK107.out 0).trans rfl
        have hcz10_1 : w4.cell? ⟨gb107, 1, none⟩ = some (.int .i64 a0_1) := (blk_cell BK107.out 1).trans rfl
        have hcz10_2 : w4.cell? ⟨gb107, 2, none⟩ = some (.slice A0_2 l0_2.length c0_2) := (blk_cell BK107.out 2).trans rfl
        have hfz10_0 := blk_frozen BK107.out 0
        have hfz10_1 := blk_frozen BK107.out 1
        have hfz10_2 := blk_frozen BK107.out 2
        go_wp2
        go_meet
        case rel => exact ⟨_, (true), (by first | rfl | (simp; done) | (simp [*]; done)), H', ⟨by first | omega | exact Nat.le_refl _⟩, ⟨by (with_reducible repeat (first | refine blk_drewN ?_ _ | refine blk_drew ?_ | refine blk_alloc ?_ _)); exact BK107.out⟩, ⟨by repeat (first | (with_reducible first | exact HB.out | apply below_alloc | apply pw_below_drewN | apply below_drew1 | refine below_set ?_ GE107.out) | exact HB.out)⟩⟩
    · replace c6 := Bool.eq_false_iff.mpr c6
      subst c6
      have H1 : (spec_l1Fit.j0 k true a0_0 a0_1 l0_2) = some r := by rw [if_neg (show ¬ (false = true) by decide)] at H; exact H
      clear H
      have H := H1
      clear H1
      have H' := Aside0.mk H
      clear H
      go_wp2
      go_meet
      case rel => exact ⟨_, (true), (by first | rfl | (simp; done) | (simp [*]; done)), H', ⟨by first | omega | exact Nat.le_refl _⟩, ⟨by (with_reducible repeat (first | refine blk_drewN ?_ _ | refine blk_drew ?_ | refine blk_alloc ?_ _)); exact BK107.out⟩, ⟨by repeat (first | (with_reducible first | exact HB.out | apply below_alloc | apply pw_below_drewN | apply below_drew1 | refine below_set ?_ GE107.out) | exact HB.out)⟩⟩
  case rest =>
    clear HC3
    try clear c1
    try clear p2
    try clear c6
    try clear c7
    try clear c7b0
    try clear c7b1
    try clear hcz10_0
    try clear hcz10_1
    try clear hcz10_2
    try clear hcz5_0
    try clear hcz5_1
    try clear hcz5_2
    try clear hcz9_0
    try clear hcz9_1
    try clear hcz9_2
    try clear hfz10_0
    try clear hfz10_1
    try clear hfz10_2
    try clear hfz5_0
    try clear hfz5_1
    try clear hfz5_2
    try clear hfz9_0
    try clear hfz9_1
    try clear hfz9_2
    obtain ⟨kq, x29_2, rfl, HA, HJ2, BK107, HB⟩ := hcut
    cases kq with
    | zero => exact absurd HA.out (by simp [spec_l1Fit.j0])
    | succ kj2 =>
      have H := HA.out
      clear HA
      simp only [spec_l1Fit.j0] at H
      by_cases c11 : x29_2 = true
      · subst c11
        have H1 : (some false) = some r := by rw [if_pos rfl] at H; exact H
        clear H
        have H := H1
        clear H1
        obtain rfl := Option.some.inj H
        go_wp2
        go_ret
        exact ⟨by first | rfl | (simp [errW_none, errW_some] <;> rfl) | (simp [*, errW_none, errW_some] <;> rfl), by repeat (first | (with_reducible first | exact HB.out | apply below_alloc | apply pw_below_drewN | apply below_drew1 | refine below_set ?_ GE107.out) | exact HB.out)⟩
      · replace c11 := Bool.eq_false_iff.mpr c11
        subst c11
        have H1 : (spec_l1Fit.l0 kj2 0 a0_0 a0_1 l0_2) = some r := by rw [if_neg (show ¬ (false = true) by decide)] at H; exact H
        clear H
        have H := H1
        clear H1
        have H' := Aside0.mk H
        clear H
        go_wp2
        go_loopg [6] kj2 (fun kq v6 w' => ∃ (x6_2 : Int), v6 = .int .i64 x6_2 ∧ Aside0 (spec_l1Fit.l0 kq x6_2 a0_0 a0_1 l0_2 = some r) ∧ Aside0 (kq ≤ kj2) ∧ Aside0 (w'.heap[gb107]? = some (.cells #[.int .i64 a0_0, .int .i64 a0_1, (.slice A0_2 l0_2.length c0_2)] 25 (0, 0))) ∧ Aside0 (Below w.heap.size w w'))
        case atStart => exact ⟨(0), (by first | rfl | (simp; done) | (simp [*]; done)), H', ⟨Nat.le_refl _⟩, ⟨by (with_reducible repeat (first | refine blk_drewN ?_ _ | refine blk_drew ?_ | refine blk_alloc ?_ _)); exact BK107.out⟩, ⟨by repeat (first | (with_reducible first | exact HB.out | apply below_alloc | apply pw_below_drewN | apply below_drew1 | refine below_set ?_ GE107.out) | exact HB.out)⟩⟩
        case round =>
          clear H'
          try clear c1
          try clear p2
          try clear c6
          try clear c7
          try clear c7b0
          try clear c7b1
          try clear c11
          try clear hcz10_0
          try clear hcz10_1
          try clear hcz10_2
          try clear hcz5_0
          try clear hcz5_1
          try clear hcz5_2
          try clear hcz9_0
          try clear hcz9_1
          try clear hcz9_2
          try clear hfz10_0
          try clear hfz10_1
          try clear hfz10_2
          try clear hfz5_0
          try clear hfz5_1
          try clear hfz5_2
          try clear hfz9_0
          try clear hfz9_1
          try clear hfz9_2
          try clear p2
          obtain ⟨x6_2, rfl, HA, HK2, BK107, HB⟩ := hrel
          cases gk with
          | zero => exact absurd HA.out (by simp [spec_l1Fit.l0])
          | succ k2 =>
            have H := HA.out
            clear HA
            simp only [spec_l1Fit.l0] at H
            by_cases c12 : x6_2 < (l0_2.length : Int)
            · rw [if_pos c12] at H
              have c12b0 : decide (x6_2 < (l0_2.length : Int)) = true := decide_eq_true c12
              clear c12
              by_cases c13 : 0 ≤ x6_2
              · rw [if_pos c13] at H
                have c13b0 : decide (0 ≤ x6_2) = true := decide_eq_true c13
                clear c13
                replace H := Option.bind_eq_some_iff.mp H
                obtain ⟨t113, A140, H⟩ := H
                replace H : (if t113 = true then (spec_l1Fit.l0 k2 (wrap64 (x6_2 + 1)) a0_0 a0_1 l0_2) else (some false)) = some r := H
                have A14 := Aside0.mk A140
                clear A140
                by_cases c15 : t113 = true
                · subst c15
                  have H1 : (spec_l1Fit.l0 k2 (wrap64 (x6_2 + 1)) a0_0 a0_1 l0_2) = some r := by rw [if_pos rfl] at H; exact H
                  clear H
                  have H := H1
                  clear H1
                  have H' := Aside0.mk H
                  clear H
                  have hcz16_0 : wr.cell? ⟨gb107, 0, none⟩ = some (.int .i64 a0_0) := (blk_cell BK107.out 0).trans rfl
                  have hcz16_1 : wr.cell? ⟨gb107, 1, none⟩ = some (.int .i64 a0_1) := (blk_cell BK107.out 1).trans rfl
                  have hcz16_2 : wr.cell? ⟨gb107, 2, none⟩ = some (.slice A0_2 l0_2.length c0_2) := (blk_cell BK107.out 2).trans rfl
                  have hfz16_0 := blk_frozen BK107.out 0
                  have hfz16_1 := blk_frozen BK107.out 1
                  have hfz16_2 := blk_frozen BK107.out 2
                  have p112 : 0 ≤ (x6_2 : Int) := of_decide_eq_true (by first | (with_reducible assumption) | assumption)
                  have q112 : x6_2 < (l0_2.length : Int) := of_decide_eq_true (by first | (with_reducible assumption) | assumption)
                  obtain ⟨ad112, A112_2, c112_2, e112, hx112_0, hx112_1, hx112_2, hl112_2, hi112_2⟩ := at_T25 HR0_2.out x6_2 p112 q112
                  cases e112
                  replace hx112_0 := (HB.out.cell (World.block_lt_of_cell? w _ hx112_0)).trans hx112_0
                  replace hx112_1 := (HB.out.cell (World.block_lt_of_cell? w _ hx112_1)).trans hx112_1
                  replace hx112_2 := (HB.out.cell (World.block_lt_of_cell? w _ hx112_2)).trans hx112_2
                  have HR112_2 := Aside0.mk hi112_2
                  have HC112_2 := Aside0.mk hl112_2
                  clear hi112_2 hl112_2
                  replace p112 := eq_true p112
                  replace q112 := eq_true q112
                  go_wp2_with (first | ((with_reducible refine gate_callee (f := 110) rfl ?_); refine goesL_ (some 42) rfl rfl Try.func110 (by kernel_rfl) rfl #[.agg #[.int .i64 ((rd_T25 l0_2 x6_2).f0), .int .i64 ((rd_T25 l0_2 x6_2).f1), .slice A112_2 ((rd_T25 l0_2 x6_2).f2).length c112_2]] rfl (by (try simp only [List.map_toArray, List.map_cons, List.map_nil]); first | done | rfl | (simp only [List.length_drop, List.length_take]; rfl)) ?_; (with_reducible refine (ih k2 (by have := HJ2.out; have := HK2.out; omega) ((rd_T25 l0_2 x6_2).f0) ((rd_T25 l0_2 x6_2).f1) _ _ ((rd_T25 l0_2 x6_2).f2) true _ ?side1 ?side2 A14.out).mono ?_); (case side1 => repeat (first | exact (Kd.C_below HR112_2.out HB.out) | (with_reducible refine Kd.C_alloc ?_ _) | (with_reducible refine Kd.C_drewN ?_ _) | (with_reducible refine Kd.C_drew ?_))); (case side2 => exact HC112_2.out); rintro e w17 ⟨rfl, hb⟩; refine ⟨_, rfl, ?_⟩; have n0_ := Aside0.mk (blk_below (g := gb107) (o := .cells #[.int .i64 a0_0, .int .i64 a0_1, .slice (some ad112) l0_2.length c0_2] 25 (0, 0)) (by (with_reducible repeat (first | refine blk_drewN ?_ _ | refine blk_drew ?_ | refine blk_alloc ?_ _)); exact BK107.out) hb); have n1_ := Aside0.mk (below_step (by repeat (first | (with_reducible first | exact HB.out | apply below_alloc | apply pw_below_drewN | apply below_drew1 | refine below_set ?_ GE107.out) | exact HB.out)) hb); clear BK107; clear HB; have BK107 := n0_; have HB := n1_; clear n0_ n1_; (try clear hb); (try clear hb2); (try clear hk); (try clear hi)))
                  go_roundg k2
                  case measure => have := HJ2.out; have := HK2.out; omega
                  case rel => exact ⟨(wrap64 (x6_2 + 1)), (by first | rfl | (simp; done) | (simp [*]; done)), H', ⟨by have := HJ2.out; have := HK2.out; omega⟩, ⟨by (with_reducible repeat (first | refine blk_drewN ?_ _ | refine blk_drew ?_ | refine blk_alloc ?_ _)); exact BK107.out⟩, ⟨by repeat (first | (with_reducible first | exact HB.out | apply below_alloc | apply pw_below_drewN | apply below_drew1 | refine below_set ?_ GE107.out) | exact HB.out)⟩⟩
                · replace c15 := Bool.eq_false_iff.mpr c15
                  subst c15
                  have H1 : (some false) = some r := by rw [if_neg (show ¬ (false = true) by decide)] at H; exact H
                  clear H
                  have H := H1
                  clear H1
                  obtain rfl := Option.some.inj H
                  have hcz18_0 : wr.cell? ⟨gb107, 0, none⟩ = some (.int .i64 a0_0) := (blk_cell BK107.out 0).trans rfl
                  have hcz18_1 : wr.cell? ⟨gb107, 1, none⟩ = some (.int .i64 a0_1) := (blk_cell BK107.out 1).trans rfl
                  have hcz18_2 : wr.cell? ⟨gb107, 2, none⟩ = some (.slice A0_2 l0_2.length c0_2) := (blk_cell BK107.out 2).trans rfl
                  have hfz18_0 := blk_frozen BK107.out 0
                  have hfz18_1 := blk_frozen BK107.out 1
                  have hfz18_2 := blk_frozen BK107.out 2
                  have p112 : 0 ≤ (x6_2 : Int) := of_decide_eq_true (by first | (with_reducible assumption) | assumption)
                  have q112 : x6_2 < (l0_2.length : Int) := of_decide_eq_true (by first | (with_reducible assumption) | assumption)
                  obtain ⟨ad112, A112_2, c112_2, e112, hx112_0, hx112_1, hx112_2, hl112_2, hi112_2⟩ := at_T25 HR0_2.out x6_2 p112 q112
                  cases e112
                  replace hx112_0 := (HB.out.cell (World.block_lt_of_cell? w _ hx112_0)).trans hx112_0
                  replace hx112_1 := (HB.out.cell (World.block_lt_of_cell? w _ hx112_1)).trans hx112_1
                  replace hx112_2 := (HB.out.cell (World.block_lt_of_cell? w _ hx112_2)).trans hx112_2
                  have HR112_2 := Aside0.mk hi112_2
                  have HC112_2 := Aside0.mk hl112_2
                  clear hi112_2 hl112_2
                  replace p112 := eq_true p112
                  replace q112 := eq_true q112
                  go_wp2_with (first | ((with_reducible refine gate_callee (f := 110) rfl ?_); refine goesL_ (some 42) rfl rfl Try.func110 (by kernel_rfl) rfl #[.agg #[.int .i64 ((rd_T25 l0_2 x6_2).f0), .int .i64 ((rd_T25 l0_2 x6_2).f1), .slice A112_2 ((rd_T25 l0_2 x6_2).f2).length c112_2]] rfl (by (try simp only [List.map_toArray, List.map_cons, List.map_nil]); first | done | rfl | (simp only [List.length_drop, List.length_take]; rfl)) ?_; (with_reducible refine (ih k2 (by have := HJ2.out; have := HK2.out; omega) ((rd_T25 l0_2 x6_2).f0) ((rd_T25 l0_2 x6_2).f1) _ _ ((rd_T25 l0_2 x6_2).f2) false _ ?side1 ?side2 A14.out).mono ?_); (case side1 => repeat (first | exact (Kd.C_below HR112_2.out HB.out) | (with_reducible refine Kd.C_alloc ?_ _) | (with_reducible refine Kd.C_drewN ?_ _) | (with_reducible refine Kd.C_drew ?_))); (case side2 => exact HC112_2.out); rintro e w19 ⟨rfl, hb⟩; refine ⟨_, rfl, ?_⟩; have n0_ := Aside0.mk (blk_below (g := gb107) (o := .cells #[.int .i64 a0_0, .int .i64 a0_1, .slice (some ad112) l0_2.length c0_2] 25 (0, 0)) (by (with_reducible repeat (first | refine blk_drewN ?_ _ | refine blk_drew ?_ | refine blk_alloc ?_ _)); exact BK107.out) hb); have n1_ := Aside0.mk (below_step (by repeat (first | (with_reducible first | exact HB.out | apply below_alloc | apply pw_below_drewN | apply below_drew1 | refine below_set ?_ GE107.out) | exact HB.out)) hb); clear BK107; clear HB; have BK107 := n0_; have HB := n1_; clear n0_ n1_; (try clear hb); (try clear hb2); (try clear hk); (try clear hi)))
                  go_ret
                  exact ⟨by first | rfl | (simp [errW_none, errW_some] <;> rfl) | (simp [*, errW_none, errW_some] <;> rfl), by repeat (first | (with_reducible first | exact HB.out | apply below_alloc | apply pw_below_drewN | apply below_drew1 | refine below_set ?_ GE107.out) | exact HB.out)⟩
              · rw [if_neg c13] at H
                exact absurd H (by simp)
            · rw [if_neg c12] at H
              have c12b0 : decide (x6_2 < (l0_2.length : Int)) = false := decide_eq_false c12
              clear c12
              obtain rfl := Option.some.inj H
              have hcz20_0 : wr.cell? ⟨gb107, 0, none⟩ = some (.int .i64 a0_0) := (blk_cell BK107.out 0).trans rfl
              have hcz20_1 : wr.cell? ⟨gb107, 1, none⟩ = some (.int .i64 a0_1) := (blk_cell BK107.out 1).trans rfl
              have hcz20_2 : wr.cell? ⟨gb107, 2, none⟩ = some (.slice A0_2 l0_2.length c0_2) := (blk_cell BK107.out 2).trans rfl
              have hfz20_0 := blk_frozen BK107.out 0
              have hfz20_1 := blk_frozen BK107.out 1
              have hfz20_2 := blk_frozen BK107.out 2
              go_wp2
              go_ret
              exact ⟨by first | rfl | (simp [errW_none, errW_some] <;> rfl) | (simp [*, errW_none, errW_some] <;> rfl), by repeat (first | (with_reducible first | exact HB.out | apply below_alloc | apply pw_below_drewN | apply below_drew1 | refine below_set ?_ GE107.out) | exact HB.out)⟩
end Go.Proofs.Ytooojligedlpeaa.G
end
section
namespace Go.Proofs.Ytooojligedlpeaa.G
open Go.RowKit Go.Proofs.YtooojligedlpeaaW.PrintWords Go.Proofs.YtooojligedlpeaaW.PrintLast Go.Proofs.YtooojligedlpeaaW.PrintMore
attribute [local go_sem] max2_int min2_int max_two min_two max_three min_three max_four min_four
set_option linter.unusedVariables false
set_option linter.unusedSimpArgs false
mutual
def spec_l1Nodes.l0 : Nat → Int → Int → Int → Int → List (S25) → Option (Int)
  | 0, _, _, _, _, _ => none
  | k + 1, x3, x4, x115000, x115001, x115002 => if x4 < (x115002.length : Int) then (if 0 ≤ x4 then ((spec_l1Nodes.f k ((rd_T25 x115002 x4).f0) ((rd_T25 x115002 x4).f1) ((rd_T25 x115002 x4).f2)).bind fun t116 => (spec_l1Nodes.l0 k (wrap64 (x3 + t116)) (wrap64 (x4 + 1)) x115000 x115001 x115002)) else (none)) else (some x3)
def spec_l1Nodes.f : Nat → Int → Int → List (S25) → Option (Int)
  | 0, _, _, _ => none
  | k + 1, a0_0, a0_1, l0_2 => spec_l1Nodes.l0 k 1 0 a0_0 a0_1 l0_2
end
set_option maxHeartbeats 8000000 in
set_option maxRecDepth 100000 in
theorem spec_l1Nodes.calls (k : Nat) : ∀ (a0_0 : Int) (a0_1 : Int) (A0_2 : Option Addr) (c0_2 : Nat) (l0_2 : List (S25)) (r : Int) (w : World) (hr0_2 : Kd.C k25 w A0_2 l0_2.length l0_2) (hc0_2 : l0_2.length ≤ c0_2) (h : spec_l1Nodes.f k a0_0 a0_1 l0_2 = some r),
    Calls Try.prog 111 #[.agg #[.int .i64 a0_0, .int .i64 a0_1, .slice A0_2 l0_2.length c0_2]] w fun e w' => e = .returned (.int .i64 r) ∧ Below w.heap.size w w' := by
  induction k using Nat.strongRecOn with
  | _ k ih =>
  intro a0_0 a0_1 A0_2 c0_2 l0_2 r w hr0_2 hc0_2 h
  cases k with
  | zero => exact absurd h (by simp [spec_l1Nodes.f])
  | succ k =>
  simp only [spec_l1Nodes.f] at h
  have hu25 := Try.underlying25
  have HR0_2 := Aside0.mk hr0_2
  have HC0_2 := Aside0.mk hc0_2
  clear hr0_2 hc0_2
  have HB := Aside0.mk (Below.refl w.heap.size w)
  have H : (spec_l1Nodes.l0 k 1 0 a0_0 a0_1 l0_2) = some r := h
  clear h
  have H' := Aside0.mk H
  clear H
  go_enter Try.func111, Try.ntmps111
  go_wp2_with (first | ((with_reducible refine gate_dst (N := 1) rfl ?_); refine box_event ?hg (N := 1) ?hd (cs := #[.int .i64 a0_0, .int .i64 a0_1, .slice A0_2 l0_2.length c0_2]) (t := 25) ?hr ?_; (case hd => rfl); (case hg => rfl); (case hr => first | (go_simp; done) | (go_simp; rfl)); intro gb114 hg w2 hbox hb; have n0_ := Aside0.mk (below_step (by repeat (first | (with_reducible first | exact HB.out | apply below_alloc | apply pw_below_drewN | apply below_drew1) | exact HB.out)) hb); have n1_ := Aside0.mk (hbox); have n2_ := Aside0.mk ((by rw [hg]; exact (below_size (by repeat (first | (with_reducible first | exact HB.out | apply below_alloc | apply pw_below_drewN | apply below_drew1) | exact HB.out))) : w.heap.size ≤ gb114)); have n3_ := Aside0.mk ((by rw [hg]; exact (below_size (by repeat (first | (with_reducible first | exact HB.out | apply below_alloc | apply pw_below_drewN | apply below_drew1) | exact HB.out))) : w.heap.size ≤ gb114)); clear HB; have HB := n0_; have BK114 := n1_; have GW114 := n2_; have GE114 := n3_; clear n0_ n1_ n2_ n3_; clear hb hbox hg))
  go_loopg [3, 4] k (fun kq v3 v4 w' => ∃ (x3_1 : Int) (x4_1 : Int), v3 = .int .i64 x3_1 ∧ v4 = .int .i64 x4_1 ∧ Aside0 (spec_l1Nodes.l0 kq x3_1 x4_1 a0_0 a0_1 l0_2 = some r) ∧ Aside0 (kq ≤ k) ∧ Aside0 (w'.heap[gb114]? = some (.cells #[.int .i64 a0_0, .int .i64 a0_1, (.slice A0_2 l0_2.length c0_2)] 25 (0, 0))) ∧ Aside0 (Below w.heap.size w w'))
  case atStart => exact ⟨(1), (0), (by first | rfl | (simp; done) | (simp [*]; done)), (by first | rfl | (simp; done) | (simp [*]; done)), H', ⟨Nat.le_refl _⟩, ⟨by (with_reducible repeat (first | refine blk_drewN ?_ _ | refine blk_drew ?_ | refine blk_alloc ?_ _)); exact BK114.out⟩, ⟨by repeat (first | (with_reducible first | exact HB.out | apply below_alloc | apply pw_below_drewN | apply below_drew1 | refine below_set ?_ GE114.out) | exact HB.out)⟩⟩
  case round =>
    clear H'
    try clear c1
    try clear p2
    obtain ⟨x3_1, x4_1, rfl, rfl, HA, HK1, BK114, HB⟩ := hrel
    cases gk with
    | zero => exact absurd HA.out (by simp [spec_l1Nodes.l0])
    | succ k1 =>
      have H := HA.out
      clear HA
      simp only [spec_l1Nodes.l0] at H
      by_cases c3 : x4_1 < (l0_2.length : Int)
      · rw [if_pos c3] at H
        have c3b0 : decide (x4_1 < (l0_2.length : Int)) = true := decide_eq_true c3
        clear c3
        by_cases c4 : 0 ≤ x4_1
        · rw [if_pos c4] at H
          have c4b0 : decide (0 ≤ x4_1) = true := decide_eq_true c4
          clear c4
          replace H := Option.bind_eq_some_iff.mp H
          obtain ⟨t116, A50, H⟩ := H
          replace H : (spec_l1Nodes.l0 k1 (wrap64 (x3_1 + t116)) (wrap64 (x4_1 + 1)) a0_0 a0_1 l0_2) = some r := H
          have A5 := Aside0.mk A50
          clear A50
          have H' := Aside0.mk H
          clear H
          have hcz6_0 : wr.cell? ⟨gb114, 0, none⟩ = some (.int .i64 a0_0) := (blk_cell BK114.out 0).trans rfl
          have hcz6_1 : wr.cell? ⟨gb114, 1, none⟩ = some (.int .i64 a0_1) := (blk_cell BK114.out 1).trans rfl
          have hcz6_2 : wr.cell? ⟨gb114, 2, none⟩ = some (.slice A0_2 l0_2.length c0_2) := (blk_cell BK114.out 2).trans rfl
          have hfz6_0 := blk_frozen BK114.out 0
          have hfz6_1 := blk_frozen BK114.out 1
          have hfz6_2 := blk_frozen BK114.out 2
          have p115 : 0 ≤ (x4_1 : Int) := of_decide_eq_true (by first | (with_reducible assumption) | assumption)
          have q115 : x4_1 < (l0_2.length : Int) := of_decide_eq_true (by first | (with_reducible assumption) | assumption)
          obtain ⟨ad115, A115_2, c115_2, e115, hx115_0, hx115_1, hx115_2, hl115_2, hi115_2⟩ := at_T25 HR0_2.out x4_1 p115 q115
          cases e115
          replace hx115_0 := (HB.out.cell (World.block_lt_of_cell? w _ hx115_0)).trans hx115_0
          replace hx115_1 := (HB.out.cell (World.block_lt_of_cell? w _ hx115_1)).trans hx115_1
          replace hx115_2 := (HB.out.cell (World.block_lt_of_cell? w _ hx115_2)).trans hx115_2
          have HR115_2 := Aside0.mk hi115_2
          have HC115_2 := Aside0.mk hl115_2
          clear hi115_2 hl115_2
          replace p115 := eq_true p115
          replace q115 := eq_true q115
          go_wp2_with (first | ((with_reducible refine gate_callee (f := 111) rfl ?_); refine goesL_ (some 18) rfl rfl Try.func111 (by kernel_rfl) rfl #[.agg #[.int .i64 ((rd_T25 l0_2 x4_1).f0), .int .i64 ((rd_T25 l0_2 x4_1).f1), .slice A115_2 ((rd_T25 l0_2 x4_1).f2).length c115_2]] rfl (by (try simp only [List.map_toArray, List.map_cons, List.map_nil]); first | done | rfl | (simp only [List.length_drop, List.length_take]; rfl)) ?_; (with_reducible refine (ih k1 (by have := HK1.out; omega) ((rd_T25 l0_2 x4_1).f0) ((rd_T25 l0_2 x4_1).f1) _ _ ((rd_T25 l0_2 x4_1).f2) t116 _ ?side1 ?side2 A5.out).mono ?_); (case side1 => repeat (first | exact (Kd.C_below HR115_2.out HB.out) | (with_reducible refine Kd.C_alloc ?_ _) | (with_reducible refine Kd.C_drewN ?_ _) | (with_reducible refine Kd.C_drew ?_))); (case side2 => exact HC115_2.out); rintro e w7 ⟨rfl, hb⟩; refine ⟨_, rfl, ?_⟩; have n0_ := Aside0.mk (blk_below (g := gb114) (o := .cells #[.int .i64 a0_0, .int .i64 a0_1, .slice (some ad115) l0_2.length c0_2] 25 (0, 0)) (by (with_reducible repeat (first | refine blk_drewN ?_ _ | refine blk_drew ?_ | refine blk_alloc ?_ _)); exact BK114.out) hb); have n1_ := Aside0.mk (below_step (by repeat (first | (with_reducible first | exact HB.out | apply below_alloc | apply pw_below_drewN | apply below_drew1 | refine below_set ?_ GE114.out) | exact HB.out)) hb); clear BK114; clear HB; have BK114 := n0_; have HB := n1_; clear n0_ n1_; (try clear hb); (try clear hb2); (try clear hk); (try clear hi)))
          go_roundg k1
          case measure => have := HK1.out; omega
          case rel => exact ⟨(wrap64 (x3_1 + t116)), (wrap64 (x4_1 + 1)), (by first | rfl | (simp; done) | (simp [*]; done)), (by first | rfl | (simp; done) | (simp [*]; done)), H', ⟨by have := HK1.out; omega⟩, ⟨by (with_reducible repeat (first | refine blk_drewN ?_ _ | refine blk_drew ?_ | refine blk_alloc ?_ _)); exact BK114.out⟩, ⟨by repeat (first | (with_reducible first | exact HB.out | apply below_alloc | apply pw_below_drewN | apply below_drew1 | refine below_set ?_ GE114.out) | exact HB.out)⟩⟩
        · rw [if_neg c4] at H
          exact absurd H (by simp)
      · rw [if_neg c3] at H
        have c3b0 : decide (x4_1 < (l0_2.length : Int)) = false := decide_eq_false c3
        clear c3
        obtain rfl := Option.some.inj H
        have hcz8_0 : wr.cell? ⟨gb114, 0, none⟩ = some (.int .i64 a0_0) := (blk_cell BK114.out 0).trans rfl
        have hcz8_1 : wr.cell? ⟨gb114, 1, none⟩ = some (.int .i64 a0_1) := (blk_cell BK114.out 1).trans rfl
        have hcz8_2 : wr.cell? ⟨gb114, 2, none⟩ = some (.slice A0_2 l0_2.length c0_2) := (blk_cell BK114.out 2).trans rfl
        have hfz8_0 := blk_frozen BK114.out 0
        have hfz8_1 := blk_frozen BK114.out 1
        have hfz8_2 := blk_frozen BK114.out 2
        go_wp2
        go_ret
        exact ⟨by first | rfl | (simp [errW_none, errW_some] <;> rfl) | (simp [*, errW_none, errW_some] <;> rfl), by repeat (first | (with_reducible first | exact HB.out | apply below_alloc | apply pw_below_drewN | apply below_drew1 | refine below_set ?_ GE114.out) | exact HB.out)⟩
def spec_TaskOk.f (k : Nat) (a0_0 : Int) (a0_1 : Int) (l0_2 : List (S25)) : Option (Bool) := (spec_l1Fit.f k a0_0 a0_1 l0_2).bind fun t118 => (if t118 = true then ((spec_l1Nodes.f k a0_0 a0_1 l0_2).bind fun t119 => (some (decide (t119 ≤ 15)))) else (some false))
set_option maxHeartbeats 8000000 in
set_option maxRecDepth 100000 in
theorem spec_TaskOk.calls (k : Nat) (a0_0 : Int) (a0_1 : Int) (A0_2 : Option Addr) (c0_2 : Nat) (l0_2 : List (S25)) (r : Bool) (w : World) (hr0_2 : Kd.C k25 w A0_2 l0_2.length l0_2) (hc0_2 : l0_2.length ≤ c0_2) (h : spec_TaskOk.f k a0_0 a0_1 l0_2 = some r) :
    Calls Try.prog 66 #[.agg #[.int .i64 a0_0, .int .i64 a0_1, .slice A0_2 l0_2.length c0_2]] w fun e w' => e = .returned (.bool r) ∧ Below w.heap.size w w' := by
  have hu25 := Try.underlying25
  have HR0_2 := Aside0.mk hr0_2
  have HC0_2 := Aside0.mk hc0_2
  clear hr0_2 hc0_2
  have HB := Aside0.mk (Below.refl w.heap.size w)
  have H : ((spec_l1Fit.f k a0_0 a0_1 l0_2).bind fun t118 => (if t118 = true then ((spec_l1Nodes.f k a0_0 a0_1 l0_2).bind fun t119 => (some (decide (t119 ≤ 15)))) else (some false))) = some r := h
  clear h
  replace H := Option.bind_eq_some_iff.mp H
  obtain ⟨t118, A20, H⟩ := H
  replace H : (if t118 = true then ((spec_l1Nodes.f k a0_0 a0_1 l0_2).bind fun t119 => (some (decide (t119 ≤ 15)))) else (some false)) = some r := H
  have A2 := Aside0.mk A20
  clear A20
  by_cases c3 : t118 = true
  · subst c3
    have H1 : ((spec_l1Nodes.f k a0_0 a0_1 l0_2).bind fun t119 => (some (decide (t119 ≤ 15)))) = some r := by rw [if_pos rfl] at H; exact H
    clear H
    have H := H1
    clear H1
    replace H := Option.bind_eq_some_iff.mp H
    obtain ⟨t119, A40, H⟩ := H
    replace H : (some (decide (t119 ≤ 15))) = some r := H
    have A4 := Aside0.mk A40
    clear A40
    obtain rfl := Option.some.inj H
    go_enter Try.func66, Try.ntmps66
    go_wp2_with (first | ((with_reducible refine gate_dst (N := 1) rfl ?_); refine box_event ?hg (N := 1) ?hd (cs := #[.int .i64 a0_0, .int .i64 a0_1, .slice A0_2 l0_2.length c0_2]) (t := 25) ?hr ?_; (case hd => rfl); (case hg => rfl); (case hr => first | (go_simp; done) | (go_simp; rfl)); intro gb117 hg w5 hbox hb; have n0_ := Aside0.mk (below_step (by repeat (first | (with_reducible first | exact HB.out | apply below_alloc | apply pw_below_drewN | apply below_drew1) | exact HB.out)) hb); have n1_ := Aside0.mk (hbox); have n2_ := Aside0.mk ((by rw [hg]; exact (below_size (by repeat (first | (with_reducible first | exact HB.out | apply below_alloc | apply pw_below_drewN | apply below_drew1) | exact HB.out))) : w.heap.size ≤ gb117)); have n3_ := Aside0.mk ((by rw [hg]; exact (below_size (by repeat (first | (with_reducible first | exact HB.out | apply below_alloc | apply pw_below_drewN | apply below_drew1) | exact HB.out))) : w.heap.size ≤ gb117)); clear HB; have HB := n0_; have BK117 := n1_; have GW117 := n2_; have GE117 := n3_; clear n0_ n1_ n2_ n3_; clear hb hbox hg; have hcz6_0 : w5.cell? ⟨gb117, 0, none⟩ = some (.int .i64 a0_0) := (blk_cell BK117.out 0).trans rfl; have hcz6_1 : w5.cell? ⟨gb117, 1, none⟩ = some (.int .i64 a0_1) := (blk_cell BK117.out 1).trans rfl; have hcz6_2 : w5.cell? ⟨gb117, 2, none⟩ = some (.slice A0_2 l0_2.length c0_2) := (blk_cell BK117.out 2).trans rfl; have hfz6_0 := blk_frozen BK117.out 0; have hfz6_1 := blk_frozen BK117.out 1; have hfz6_2 := blk_frozen BK117.out 2) | ((with_reducible refine gate_callee (f := 110) rfl ?_); refine goesL_ (some 4) rfl rfl Try.func110 (by kernel_rfl) rfl #[.agg #[.int .i64 a0_0, .int .i64 a0_1, .slice A0_2 l0_2.length c0_2]] rfl (by (try simp only [List.map_toArray, List.map_cons, List.map_nil]); first | done | rfl | (simp only [List.length_drop, List.length_take]; rfl)) ?_; (with_reducible refine (spec_l1Fit.calls k a0_0 a0_1 _ _ l0_2 true _ ?side1 ?side2 A2.out).mono ?_); (case side1 => repeat (first | exact (Kd.C_below HR0_2.out HB.out) | (with_reducible refine Kd.C_alloc ?_ _) | (with_reducible refine Kd.C_drewN ?_ _) | (with_reducible refine Kd.C_drew ?_))); (case side2 => exact HC0_2.out); rintro e w7 ⟨rfl, hb⟩; refine ⟨_, rfl, ?_⟩; have n0_ := Aside0.mk (blk_below (g := gb117) (o := .cells #[.int .i64 a0_0, .int .i64 a0_1, .slice A0_2 l0_2.length c0_2] 25 (0, 0)) (by (with_reducible repeat (first | refine blk_drewN ?_ _ | refine blk_drew ?_ | refine blk_alloc ?_ _)); exact BK117.out) hb); have n1_ := Aside0.mk (below_step (by repeat (first | (with_reducible first | exact HB.out | apply below_alloc | apply pw_below_drewN | apply below_drew1 | refine below_set ?_ GE117.out) | exact HB.out)) hb); clear BK117; clear HB; have BK117 := n0_; have HB := n1_; clear n0_ n1_; (try clear hb); (try clear hb2); (try clear hk); (try clear hi); have hcz8_0 : w7.cell? ⟨gb117, 0, none⟩ = some (.int .i64 a0_0) := (blk_cell BK117.out 0).trans rfl; have hcz8_1 : w7.cell? ⟨gb117, 1, none⟩ = some (.int .i64 a0_1) := (blk_cell BK117.out 1).trans rfl; have hcz8_2 : w7.cell? ⟨gb117, 2, none⟩ = some (.slice A0_2 l0_2.length c0_2) := (blk_cell BK117.out 2).trans rfl; have hfz8_0 := blk_frozen BK117.out 0; have hfz8_1 := blk_frozen BK117.out 1; have hfz8_2 := blk_frozen BK117.out 2) | (go_at_call 111; (with_reducible refine (spec_l1Nodes.calls k a0_0 a0_1 _ _ l0_2 t119 _ ?side1 ?side2 A4.out).mono ?_); (case side1 => repeat (first | exact (Kd.C_below HR0_2.out HB.out) | (with_reducible refine Kd.C_alloc ?_ _) | (with_reducible refine Kd.C_drewN ?_ _) | (with_reducible refine Kd.C_drew ?_))); (case side2 => exact HC0_2.out); rintro e w9 ⟨rfl, hb⟩; have n0_ := Aside0.mk (blk_below (g := gb117) (o := .cells #[.int .i64 a0_0, .int .i64 a0_1, .slice A0_2 l0_2.length c0_2] 25 (0, 0)) (by (with_reducible repeat (first | refine blk_drewN ?_ _ | refine blk_drew ?_ | refine blk_alloc ?_ _)); exact BK117.out) hb); have n1_ := Aside0.mk (below_step (by repeat (first | (with_reducible first | exact HB.out | apply below_alloc | apply pw_below_drewN | apply below_drew1 | refine below_set ?_ GE117.out) | exact HB.out)) hb); clear BK117; clear HB; have BK117 := n0_; have HB := n1_; clear n0_ n1_; (try clear hb); (try clear hb2); (try clear hk); (try clear hi)))
    go_ret
    exact ⟨by first | rfl | (simp [errW_none, errW_some] <;> rfl) | (simp [*, errW_none, errW_some] <;> rfl), by repeat (first | (with_reducible first | exact HB.out | apply below_alloc | apply pw_below_drewN | apply below_drew1 | refine below_set ?_ GE117.out) | exact HB.out)⟩
  · replace c3 := Bool.eq_false_iff.mpr c3
    subst c3
    have H1 : (some false) = some r := by rw [if_neg (show ¬ (false = true) by decide)] at H; exact H
    clear H
    have H := H1
    clear H1
    obtain rfl := Option.some.inj H
    go_enter Try.func66, Try.ntmps66
    go_wp2_with (first | ((with_reducible refine gate_dst (N := 1) rfl ?_); refine box_event ?hg (N := 1) ?hd (cs := #[.int .i64 a0_0, .int .i64 a0_1, .slice A0_2 l0_2.length c0_2]) (t := 25) ?hr ?_; (case hd => rfl); (case hg => rfl); (case hr => first | (go_simp; done) | (go_simp; rfl)); intro gb117 hg w10 hbox hb; have n0_ := Aside0.mk (below_step (by repeat (first | (with_reducible first | exact HB.out | apply below_alloc | apply pw_below_drewN | apply below_drew1) | exact HB.out)) hb); have n1_ := Aside0.mk (hbox); have n2_ := Aside0.mk ((by rw [hg]; exact (below_size (by repeat (first | (with_reducible first | exact HB.out | apply below_alloc | apply pw_below_drewN | apply below_drew1) | exact HB.out))) : w.heap.size ≤ gb117)); have n3_ := Aside0.mk ((by rw [hg]; exact (below_size (by repeat (first | (with_reducible first | exact HB.out | apply below_alloc | apply pw_below_drewN | apply below_drew1) | exact HB.out))) : w.heap.size ≤ gb117)); clear HB; have HB := n0_; have BK117 := n1_; have GW117 := n2_; have GE117 := n3_; clear n0_ n1_ n2_ n3_; clear hb hbox hg; have hcz11_0 : w10.cell? ⟨gb117, 0, none⟩ = some (.int .i64 a0_0) := (blk_cell BK117.out 0).trans rfl; have hcz11_1 : w10.cell? ⟨gb117, 1, none⟩ = some (.int .i64 a0_1) := (blk_cell BK117.out 1).trans rfl; have hcz11_2 : w10.cell? ⟨gb117, 2, none⟩ = some (.slice A0_2 l0_2.length c0_2) := (blk_cell BK117.out 2).trans rfl; have hfz11_0 := blk_frozen BK117.out 0; have hfz11_1 := blk_frozen BK117.out 1; have hfz11_2 := blk_frozen BK117.out 2) | ((with_reducible refine gate_callee (f := 110) rfl ?_); refine goesL_ (some 4) rfl rfl Try.func110 (by kernel_rfl) rfl #[.agg #[.int .i64 a0_0, .int .i64 a0_1, .slice A0_2 l0_2.length c0_2]] rfl (by (try simp only [List.map_toArray, List.map_cons, List.map_nil]); first | done | rfl | (simp only [List.length_drop, List.length_take]; rfl)) ?_; (with_reducible refine (spec_l1Fit.calls k a0_0 a0_1 _ _ l0_2 false _ ?side1 ?side2 A2.out).mono ?_); (case side1 => repeat (first | exact (Kd.C_below HR0_2.out HB.out) | (with_reducible refine Kd.C_alloc ?_ _) | (with_reducible refine Kd.C_drewN ?_ _) | (with_reducible refine Kd.C_drew ?_))); (case side2 => exact HC0_2.out); rintro e w12 ⟨rfl, hb⟩; refine ⟨_, rfl, ?_⟩; have n0_ := Aside0.mk (blk_below (g := gb117) (o := .cells #[.int .i64 a0_0, .int .i64 a0_1, .slice A0_2 l0_2.length c0_2] 25 (0, 0)) (by (with_reducible repeat (first | refine blk_drewN ?_ _ | refine blk_drew ?_ | refine blk_alloc ?_ _)); exact BK117.out) hb); have n1_ := Aside0.mk (below_step (by repeat (first | (with_reducible first | exact HB.out | apply below_alloc | apply pw_below_drewN | apply below_drew1 | refine below_set ?_ GE117.out) | exact HB.out)) hb); clear BK117; clear HB; have BK117 := n0_; have HB := n1_; clear n0_ n1_; (try clear hb); (try clear hb2); (try clear hk); (try clear hi)))
    go_ret
    exact ⟨by first | rfl | (simp [errW_none, errW_some] <;> rfl) | (simp [*, errW_none, errW_some] <;> rfl), by repeat (first | (with_reducible first | exact HB.out | apply below_alloc | apply pw_below_drewN | apply below_drew1 | refine below_set ?_ GE117.out) | exact HB.out)⟩
end Go.Proofs.Ytooojligedlpeaa.G
end
section
namespace Go.Proofs.Ytooojligedlpeaa.G
open Go.RowKit Go.Proofs.YtooojligedlpeaaW.PrintWords Go.Proofs.YtooojligedlpeaaW.PrintLast Go.Proofs.YtooojligedlpeaaW.PrintMore
attribute [local go_sem] max2_int min2_int max_two min_two max_three min_three max_four min_four
set_option linter.unusedVariables false
set_option linter.unusedSimpArgs false
def impl_isKey.f (a0 : Int) : Option (Bool) := if a0 ≥ 0 then (some (decide (a0 < 10))) else (some false)
set_option maxHeartbeats 8000000 in
set_option maxRecDepth 100000 in
theorem impl_isKey.calls (a0 : Int) (r : Bool) (w : World) (h : impl_isKey.f a0 = some r) :
    Calls Try.prog 87 #[.int .i64 a0] w fun e w' => e = .returned (.bool r) ∧ Drawn0 w w' := by
  have H : (if a0 ≥ 0 then (some (decide (a0 < 10))) else (some false)) = some r := h
  clear h
  by_cases c2 : a0 ≥ 0
  · rw [if_pos c2] at H
    have c2b0 : decide (0 ≤ a0) = true := decide_eq_true c2
    clear c2
    obtain rfl := Option.some.inj H
    go_enter Try.func87, Try.ntmps87
    go_wp2
    go_ret
    exact ⟨by first | rfl | (simp; done) | (simp [*]; done), by repeat (first | exact Drawn0.refl _ | apply Drawn0.step)⟩
  · rw [if_neg c2] at H
    have c2b0 : decide (0 ≤ a0) = false := decide_eq_false c2
    clear c2
    obtain rfl := Option.some.inj H
    go_enter Try.func87, Try.ntmps87
    go_wp2
    go_ret
    exact ⟨by first | rfl | (simp; done) | (simp [*]; done), by repeat (first | exact Drawn0.refl _ | apply Drawn0.step)⟩
def impl_isValue.f (a0 : Int) : Option (Bool) := if a0 ≥ 0 then (some (decide (a0 ≤ 96))) else (some false)
set_option maxHeartbeats 8000000 in
set_option maxRecDepth 100000 in
theorem impl_isValue.calls (a0 : Int) (r : Bool) (w : World) (h : impl_isValue.f a0 = some r) :
    Calls Try.prog 120 #[.int .i64 a0] w fun e w' => e = .returned (.bool r) ∧ Drawn0 w w' := by
  have H : (if a0 ≥ 0 then (some (decide (a0 ≤ 96))) else (some false)) = some r := h
  clear h
  by_cases c2 : a0 ≥ 0
  · rw [if_pos c2] at H
    have c2b0 : decide (0 ≤ a0) = true := decide_eq_true c2
    clear c2
    obtain rfl := Option.some.inj H
    go_enter Try.func120, Try.ntmps120
    go_wp2
    go_ret
    exact ⟨by first | rfl | (simp; done) | (simp [*]; done), by repeat (first | exact Drawn0.refl _ | apply Drawn0.step)⟩
  · rw [if_neg c2] at H
    have c2b0 : decide (0 ≤ a0) = false := decide_eq_false c2
    clear c2
    obtain rfl := Option.some.inj H
    go_enter Try.func120, Try.ntmps120
    go_wp2
    go_ret
    exact ⟨by first | rfl | (simp; done) | (simp [*]; done), by repeat (first | exact Drawn0.refl _ | apply Drawn0.step)⟩
def impl_Task_fits.j0 : Nat → Int → Bool → Int → Int → List (S25) → Option (Bool)
  | 0, _, _, _, _, _ => none
  | k + 1, x4, x27, x261000, x261001, x261002 => if x27 = true then (if x261001 = 0 then (some ((x261002.length : Int) == 2)) else (some false)) else (if x4 = 4 then (if x261001 = 0 then (some ((x261002.length : Int) == 3)) else (some false)) else (if x4 = 5 then ((impl_isKey.f x261001).bind fun t263 => (if t263 = true then (some ((x261002.length : Int) == 1)) else (some false))) else (some false)))
def impl_Task_fits.f (k : Nat) (a0_0 : Int) (a0_1 : Int) (l0_2 : List (S25)) : Option (Bool) := if a0_0 = 0 then ((impl_isValue.f a0_1).bind fun t261 => (if t261 = true then (some ((l0_2.length : Int) == 0)) else (some false))) else (if a0_0 = 1 then ((impl_isKey.f a0_1).bind fun t262 => (if t262 = true then (some ((l0_2.length : Int) == 0)) else (some false))) else (if a0_0 = 2 then (impl_Task_fits.j0 k a0_0 (a0_0 == 2) a0_0 a0_1 l0_2) else (impl_Task_fits.j0 k a0_0 (a0_0 == 3) a0_0 a0_1 l0_2)))
theorem impl_Task_fits.mono_l : ∀ k, (∀ y0 y1 y2 y3 y4, LeO (impl_Task_fits.j0 k y0 y1 y2 y3 y4) (impl_Task_fits.j0 (k + 1) y0 y1 y2 y3 y4))
  | 0 => fun _ _ _ _ _ r h => by simp [impl_Task_fits.j0] at h
  | k + 1 => by
    have ih0 := impl_Task_fits.mono_l k
    · intro y0 y1 y2 y3 y4
      unfold impl_Task_fits.j0
      repeat' first
      | (with_reducible exact ih0 _ _ _ _ _)
      | (with_reducible exact LeO.refl _)
      | (with_reducible exact LeO.none _)
      | (with_reducible refine LeO.ite ?_ ?_)
      | (with_reducible refine LeO.bind ?_ (fun _ => ?_))
      | exact ih0 _ _ _ _ _
      | exact LeO.none _
      | refine LeO.ite ?_ ?_
      | refine LeO.bind ?_ (fun _ => ?_)
theorem impl_Task_fits.mono : ∀ a0 a1 a2 k, LeO (impl_Task_fits.f k a0 a1 a2) (impl_Task_fits.f (k + 1) a0 a1 a2) := by
  intro a0 a1 a2 k
  have ih0 := impl_Task_fits.mono_l k
  unfold impl_Task_fits.f
  repeat' first
      | (with_reducible exact ih0 _ _ _ _ _)
      | (with_reducible exact LeO.refl _)
      | (with_reducible exact LeO.none _)
      | (with_reducible refine LeO.ite ?_ ?_)
      | (with_reducible refine LeO.bind ?_ (fun _ => ?_))
      | exact ih0 _ _ _ _ _
      | exact LeO.none _
      | refine LeO.ite ?_ ?_
      | refine LeO.bind ?_ (fun _ => ?_)
set_option maxHeartbeats 8000000 in
set_option maxRecDepth 100000 in
theorem impl_Task_fits.calls (k : Nat) (a0_0 : Int) (a0_1 : Int) (A0_2 : Option Addr) (c0_2 : Nat) (l0_2 : List (S25)) (r : Bool) (w : World) (hr0_2 : Kd.C k25 w A0_2 l0_2.length l0_2) (hc0_2 : l0_2.length ≤ c0_2) (h : impl_Task_fits.f k a0_0 a0_1 l0_2 = some r) :
    Calls Try.prog 132 #[.agg #[.int .i64 a0_0, .int .i64 a0_1, .slice A0_2 l0_2.length c0_2]] w fun e w' => e = .returned (.bool r) ∧ Below w.heap.size w w' := by
  have hu25 := Try.underlying25
  have HR0_2 := Aside0.mk hr0_2
  have HC0_2 := Aside0.mk hc0_2
  clear hr0_2 hc0_2
  have HB := Aside0.mk (Below.refl w.heap.size w)
  have H : (if a0_0 = 0 then ((impl_isValue.f a0_1).bind fun t261 => (if t261 = true then (some ((l0_2.length : Int) == 0)) else (some false))) else (if a0_0 = 1 then ((impl_isKey.f a0_1).bind fun t262 => (if t262 = true then (some ((l0_2.length : Int) == 0)) else (some false))) else (if a0_0 = 2 then (impl_Task_fits.j0 k a0_0 (a0_0 == 2) a0_0 a0_1 l0_2) else (impl_Task_fits.j0 k a0_0 (a0_0 == 3) a0_0 a0_1 l0_2)))) = some r := h
  clear h
  by_cases c2 : a0_0 = 0
  · rw [if_pos c2] at H
    have c2b0 : (a0_0 == 0) = true := beq_iff_eq.mpr c2
    have c2b1 : (a0_0 != 0) = false := bne_eq_false_iff_eq.mpr c2
    clear c2
    replace H := Option.bind_eq_some_iff.mp H
    obtain ⟨t261, A30, H⟩ := H
    replace H : (if t261 = true then (some ((l0_2.length : Int) == 0)) else (some false)) = some r := H
    have A3 := Aside0.mk A30
    clear A30
    by_cases c4 : t261 = true
    · subst c4
      have H1 : (some ((l0_2.length : Int) == 0)) = some r := by rw [if_pos rfl] at H; exact H
      clear H
      have H := H1
      clear H1
      obtain rfl := Option.some.inj H
      go_enter Try.func132, Try.ntmps132
      go_wp2_with (first | ((with_reducible refine gate_dst (N := 1) rfl ?_); (try (refine gate_guard (by rfl) ?_; dsimp only)); refine box_event ?hg (N := 1) ?hd (cs := #[.int .i64 a0_0, .int .i64 a0_1, .slice A0_2 l0_2.length c0_2]) (t := 25) ?hr ?_; (case hd => rfl); (case hg => rfl); (case hr => first | (go_simp; done) | (go_simp; rfl)); intro gb260 hg w5 hbox hb; have n0_ := Aside0.mk (below_step (by repeat (first | (with_reducible first | exact HB.out | apply below_alloc | apply pw_below_drewN | apply below_drew1) | exact HB.out)) hb); have n1_ := Aside0.mk (hbox); have n2_ := Aside0.mk ((by rw [hg]; exact (below_size (by repeat (first | (with_reducible first | exact HB.out | apply below_alloc | apply pw_below_drewN | apply below_drew1) | exact HB.out))) : w.heap.size ≤ gb260)); have n3_ := Aside0.mk ((by rw [hg]; exact (below_size (by repeat (first | (with_reducible first | exact HB.out | apply below_alloc | apply pw_below_drewN | apply below_drew1) | exact HB.out))) : w.heap.size ≤ gb260)); clear HB; have HB := n0_; have BK260 := n1_; have GW260 := n2_; have GE260 := n3_; clear n0_ n1_ n2_ n3_; clear hb hbox hg; have hcz6_0 : w5.cell? ⟨gb260, 0, none⟩ = some (.int .i64 a0_0) := (blk_cell BK260.out 0).trans rfl; have hcz6_1 : w5.cell? ⟨gb260, 1, none⟩ = some (.int .i64 a0_1) := (blk_cell BK260.out 1).trans rfl; have hcz6_2 : w5.cell? ⟨gb260, 2, none⟩ = some (.slice A0_2 l0_2.length c0_2) := (blk_cell BK260.out 2).trans rfl; have hfz6_0 := blk_frozen BK260.out 0; have hfz6_1 := blk_frozen BK260.out 1; have hfz6_2 := blk_frozen BK260.out 2) | ((with_reducible refine gate_callee (f := 120) rfl ?_); refine goesL_ (some 9) rfl rfl Try.func120 (by kernel_rfl) rfl #[.int .i64 a0_1] rfl (by (try simp only [List.map_toArray, List.map_cons, List.map_nil]); first | done | rfl | (simp only [List.length_drop, List.length_take]; rfl)) ?_; (with_reducible refine (impl_isValue.calls a0_1 true _ A3.out).mono ?_); rintro e w' ⟨rfl, ⟨nd, rfl⟩⟩; refine ⟨_, rfl, ?_⟩))
      go_ret
      exact ⟨by first | rfl | (simp [errW_none, errW_some] <;> rfl) | (simp [*, errW_none, errW_some] <;> rfl), by repeat (first | (with_reducible first | exact HB.out | apply below_alloc | apply pw_below_drewN | apply below_drew1 | refine below_set ?_ GE260.out) | exact HB.out)⟩
    · replace c4 := Bool.eq_false_iff.mpr c4
      subst c4
      have H1 : (some false) = some r := by rw [if_neg (show ¬ (false = true) by decide)] at H; exact H
      clear H
      have H := H1
      clear H1
      obtain rfl := Option.some.inj H
      go_enter Try.func132, Try.ntmps132
      go_wp2_with (first | ((with_reducible refine gate_dst (N := 1) rfl ?_); (try (refine gate_guard (by rfl) ?_; dsimp only)); refine box_event ?hg (N := 1) ?hd (cs := #[.int .i64 a0_0, .int .i64 a0_1, .slice A0_2 l0_2.length c0_2]) (t := 25) ?hr ?_; (case hd => rfl); (case hg => rfl); (case hr => first | (go_simp; done) | (go_simp; rfl)); intro gb260 hg w7 hbox hb; have n0_ := Aside0.mk (below_step (by repeat (first | (with_reducible first | exact HB.out | apply below_alloc | apply pw_below_drewN | apply below_drew1) | exact HB.out)) hb); have n1_ := Aside0.mk (hbox); have n2_ := Aside0.mk ((by rw [hg]; exact (below_size (by repeat (first | (with_reducible first | exact HB.out | apply below_alloc | apply pw_below_drewN | apply below_drew1) | exact HB.out))) : w.heap.size ≤ gb260)); have n3_ := Aside0.mk ((by rw [hg]; exact (below_size (by repeat (first | (with_reducible first | exact HB.out | apply below_alloc | apply pw_below_drewN | apply below_drew1) | exact HB.out))) : w.heap.size ≤ gb260)); clear HB; have HB := n0_; have BK260 := n1_; have GW260 := n2_; have GE260 := n3_; clear n0_ n1_ n2_ n3_; clear hb hbox hg; have hcz8_0 : w7.cell? ⟨gb260, 0, none⟩ = some (.int .i64 a0_0) := (blk_cell BK260.out 0).trans rfl; have hcz8_1 : w7.cell? ⟨gb260, 1, none⟩ = some (.int .i64 a0_1) := (blk_cell BK260.out 1).trans rfl; have hcz8_2 : w7.cell? ⟨gb260, 2, none⟩ = some (.slice A0_2 l0_2.length c0_2) := (blk_cell BK260.out 2).trans rfl; have hfz8_0 := blk_frozen BK260.out 0; have hfz8_1 := blk_frozen BK260.out 1; have hfz8_2 := blk_frozen BK260.out 2) | ((with_reducible refine gate_callee (f := 120) rfl ?_); refine goesL_ (some 9) rfl rfl Try.func120 (by kernel_rfl) rfl #[.int .i64 a0_1] rfl (by (try simp only [List.map_toArray, List.map_cons, List.map_nil]); first | done | rfl | (simp only [List.length_drop, List.length_take]; rfl)) ?_; (with_reducible refine (impl_isValue.calls a0_1 false _ A3.out).mono ?_); rintro e w' ⟨rfl, ⟨nd, rfl⟩⟩; refine ⟨_, rfl, ?_⟩))
      go_ret
      exact ⟨by first | rfl | (simp [errW_none, errW_some] <;> rfl) | (simp [*, errW_none, errW_some] <;> rfl), by repeat (first | (with_reducible first | exact HB.out | apply below_alloc | apply pw_below_drewN | apply below_drew1 | refine below_set ?_ GE260.out) | exact HB.out)⟩
  · rw [if_neg c2] at H
    have c2b0 : (a0_0 == 0) = false := beq_eq_false_iff_ne.mpr c2
    have c2b1 : (a0_0 != 0) = true := bne_iff_ne.mpr c2
    by_cases c9 : a0_0 = 1
    · rw [if_pos c9] at H
      have c9b0 : (a0_0 == 1) = true := beq_iff_eq.mpr c9
      have c9b1 : (a0_0 != 1) = false := bne_eq_false_iff_eq.mpr c9
      clear c9
      replace H := Option.bind_eq_some_iff.mp H
      obtain ⟨t262, A100, H⟩ := H
      replace H : (if t262 = true then (some ((l0_2.length : Int) == 0)) else (some false)) = some r := H
      have A10 := Aside0.mk A100
      clear A100
      by_cases c11 : t262 = true
      · subst c11
        have H1 : (some ((l0_2.length : Int) == 0)) = some r := by rw [if_pos rfl] at H; exact H
        clear H
        have H := H1
        clear H1
        obtain rfl := Option.some.inj H
        go_enter Try.func132, Try.ntmps132
        go_wp2_with (first | ((with_reducible refine gate_dst (N := 1) rfl ?_); (try (refine gate_guard (by rfl) ?_; dsimp only)); refine box_event ?hg (N := 1) ?hd (cs := #[.int .i64 a0_0, .int .i64 a0_1, .slice A0_2 l0_2.length c0_2]) (t := 25) ?hr ?_; (case hd => rfl); (case hg => rfl); (case hr => first | (go_simp; done) | (go_simp; rfl)); intro gb260 hg w12 hbox hb; have n0_ := Aside0.mk (below_step (by repeat (first | (with_reducible first | exact HB.out | apply below_alloc | apply pw_below_drewN | apply below_drew1) | exact HB.out)) hb); have n1_ := Aside0.mk (hbox); have n2_ := Aside0.mk ((by rw [hg]; exact (below_size (by repeat (first | (with_reducible first | exact HB.out | apply below_alloc | apply pw_below_drewN | apply below_drew1) | exact HB.out))) : w.heap.size ≤ gb260)); have n3_ := Aside0.mk ((by rw [hg]; exact (below_size (by repeat (first | (with_reducible first | exact HB.out | apply below_alloc | apply pw_below_drewN | apply below_drew1) | exact HB.out))) : w.heap.size ≤ gb260)); clear HB; have HB := n0_; have BK260 := n1_; have GW260 := n2_; have GE260 := n3_; clear n0_ n1_ n2_ n3_; clear hb hbox hg; have hcz13_0 : w12.cell? ⟨gb260, 0, none⟩ = some (.int .i64 a0_0) := (blk_cell BK260.out 0).trans rfl; have hcz13_1 : w12.cell? ⟨gb260, 1, none⟩ = some (.int .i64 a0_1) := (blk_cell BK260.out 1).trans rfl; have hcz13_2 : w12.cell? ⟨gb260, 2, none⟩ = some (.slice A0_2 l0_2.length c0_2) := (blk_cell BK260.out 2).trans rfl; have hfz13_0 := blk_frozen BK260.out 0; have hfz13_1 := blk_frozen BK260.out 1; have hfz13_2 := blk_frozen BK260.out 2) | ((with_reducible refine gate_callee (f := 87) rfl ?_); refine goesL_ (some 20) rfl rfl Try.func87 (by kernel_rfl) rfl #[.int .i64 a0_1] rfl (by (try simp only [List.map_toArray, List.map_cons, List.map_nil]); first | done | rfl | (simp only [List.length_drop, List.length_take]; rfl)) ?_; (with_reducible refine (impl_isKey.calls a0_1 true _ A10.out).mono ?_); rintro e w' ⟨rfl, ⟨nd, rfl⟩⟩; refine ⟨_, rfl, ?_⟩))
        go_ret
        exact ⟨by first | rfl | (simp [errW_none, errW_some] <;> rfl) | (simp [*, errW_none, errW_some] <;> rfl), by repeat (first | (with_reducible first | exact HB.out | apply below_alloc | apply pw_below_drewN | apply below_drew1 | refine below_set ?_ GE260.out) | exact HB.out)⟩
      · replace c11 := Bool.eq_false_iff.mpr c11
        subst c11
        have H1 : (some false) = some r := by rw [if_neg (show ¬ (false = true) by decide)] at H; exact H
        clear H
        have H := H1
        clear H1
        obtain rfl := Option.some.inj H
        go_enter Try.func132, Try.ntmps132
        go_wp2_with (first | ((with_reducible refine gate_dst (N := 1) rfl ?_); (try (refine gate_guard (by rfl) ?_; dsimp only)); refine box_event ?hg (N := 1) ?hd (cs := #[.int .i64 a0_0, .int .i64 a0_1, .slice A0_2 l0_2.length c0_2]) (t := 25) ?hr ?_; (case hd => rfl); (case hg => rfl); (case hr => first | (go_simp; done) | (go_simp; rfl)); intro gb260 hg w14 hbox hb; have n0_ := Aside0.mk (below_step (by repeat (first | (with_reducible first | exact HB.out | apply below_alloc | apply pw_below_drewN | apply below_drew1) | exact HB.out)) hb); have n1_ := Aside0.mk (hbox); have n2_ := Aside0.mk ((by rw [hg]; exact (below_size (by repeat (first | (with_reducible first | exact HB.out | apply below_alloc | apply pw_below_drewN | apply below_drew1) | exact HB.out))) : w.heap.size ≤ gb260)); have n3_ := Aside0.mk ((by rw [hg]; exact (below_size (by repeat (first | (with_reducible first | exact HB.out | apply below_alloc | apply pw_below_drewN | apply below_drew1) | exact HB.out))) : w.heap.size ≤ gb260)); clear HB; have HB := n0_; have BK260 := n1_; have GW260 := n2_; have GE260 := n3_; clear n0_ n1_ n2_ n3_; clear hb hbox hg; have hcz15_0 : w14.cell? ⟨gb260, 0, none⟩ = some (.int .i64 a0_0) := (blk_cell BK260.out 0).trans rfl; have hcz15_1 : w14.cell? ⟨gb260, 1, none⟩ = some (.int .i64 a0_1) := (blk_cell BK260.out 1).trans rfl; have hcz15_2 : w14.cell? ⟨gb260, 2, none⟩ = some (.slice A0_2 l0_2.length c0_2) := (blk_cell BK260.out 2).trans rfl; have hfz15_0 := blk_frozen BK260.out 0; have hfz15_1 := blk_frozen BK260.out 1; have hfz15_2 := blk_frozen BK260.out 2) | ((with_reducible refine gate_callee (f := 87) rfl ?_); refine goesL_ (some 20) rfl rfl Try.func87 (by kernel_rfl) rfl #[.int .i64 a0_1] rfl (by (try simp only [List.map_toArray, List.map_cons, List.map_nil]); first | done | rfl | (simp only [List.length_drop, List.length_take]; rfl)) ?_; (with_reducible refine (impl_isKey.calls a0_1 false _ A10.out).mono ?_); rintro e w' ⟨rfl, ⟨nd, rfl⟩⟩; refine ⟨_, rfl, ?_⟩))
        go_ret
        exact ⟨by first | rfl | (simp [errW_none, errW_some] <;> rfl) | (simp [*, errW_none, errW_some] <;> rfl), by repeat (first | (with_reducible first | exact HB.out | apply below_alloc | apply pw_below_drewN | apply below_drew1 | refine below_set ?_ GE260.out) | exact HB.out)⟩
    · rw [if_neg c9] at H
      have c9b0 : (a0_0 == 1) = false := beq_eq_false_iff_ne.mpr c9
      have c9b1 : (a0_0 != 1) = true := bne_iff_ne.mpr c9
      have HC16 := Aside0.mk H
      clear H
      go_enter Try.func132, Try.ntmps132
      go_upto_if 27 with (first | ((with_reducible refine gate_dst (N := 1) rfl ?_); (try (refine gate_guard (by rfl) ?_; dsimp only)); refine box_event ?hg (N := 1) ?hd (cs := #[.int .i64 a0_0, .int .i64 a0_1, .slice A0_2 l0_2.length c0_2]) (t := 25) ?hr ?_; (case hd => rfl); (case hg => rfl); (case hr => first | (go_simp; done) | (go_simp; rfl)); intro gb260 hg w17 hbox hb; have n0_ := Aside0.mk (below_step (by repeat (first | (with_reducible first | exact HB.out | apply below_alloc | apply pw_below_drewN | apply below_drew1) | exact HB.out)) hb); have n1_ := Aside0.mk (hbox); have n2_ := Aside0.mk ((by rw [hg]; exact (below_size (by repeat (first | (with_reducible first | exact HB.out | apply below_alloc | apply pw_below_drewN | apply below_drew1) | exact HB.out))) : w.heap.size ≤ gb260)); have n3_ := Aside0.mk ((by rw [hg]; exact (below_size (by repeat (first | (with_reducible first | exact HB.out | apply below_alloc | apply pw_below_drewN | apply below_drew1) | exact HB.out))) : w.heap.size ≤ gb260)); clear HB; have HB := n0_; have BK260 := n1_; have GW260 := n2_; have GE260 := n3_; clear n0_ n1_ n2_ n3_; clear hb hbox hg; have hcz18_0 : w17.cell? ⟨gb260, 0, none⟩ = some (.int .i64 a0_0) := (blk_cell BK260.out 0).trans rfl; have hcz18_1 : w17.cell? ⟨gb260, 1, none⟩ = some (.int .i64 a0_1) := (blk_cell BK260.out 1).trans rfl; have hcz18_2 : w17.cell? ⟨gb260, 2, none⟩ = some (.slice A0_2 l0_2.length c0_2) := (blk_cell BK260.out 2).trans rfl; have hfz18_0 := blk_frozen BK260.out 0; have hfz18_1 := blk_frozen BK260.out 1; have hfz18_2 := blk_frozen BK260.out 2))
      (try simp only [Act.put, List.setIfInBounds_toArray, List.set_cons_zero, List.set_cons_succ])
      go_cut [27] (fun v27 wc => ∃ (kq : Nat) (x27_15 : Bool), v27 = .bool x27_15 ∧ Aside0 (impl_Task_fits.j0 kq a0_0 x27_15 a0_0 a0_1 l0_2 = some r) ∧ Aside0 (kq ≤ k) ∧ Aside0 (wc.heap[gb260]? = some (.cells #[.int .i64 a0_0, .int .i64 a0_1, (.slice A0_2 l0_2.length c0_2)] 25 (0, 0))) ∧ Aside0 (Below w.heap.size w wc))
      case first =>
        have H := HC16.out
        clear HC16
        by_cases c19 : a0_0 = 2
        · rw [if_pos c19] at H
          have c19b0 : (a0_0 == 2) = true := beq_iff_eq.mpr c19
          have c19b1 : (a0_0 != 2) = false := bne_eq_false_iff_eq.mpr c19
          clear c19
          (first | rw [c19b0] | (simp only [i64_w, i32_w]; rw [c19b0]) | skip)
          have H' := Aside0.mk H
          clear H
          go_wp2
          go_meet
          case rel => exact ⟨_, ((a0_0 == 2)), (by first | rfl | (simp; done) | (simp [*]; done)), H', ⟨by first | omega | exact Nat.le_refl _⟩, ⟨by (with_reducible repeat (first | refine blk_drewN ?_ _ | refine blk_drew ?_ | refine blk_alloc ?_ _)); exact BK260.out⟩, ⟨by repeat (first | (with_reducible first | exact HB.out | apply below_alloc | apply pw_below_drewN | apply below_drew1 | refine below_set ?_ GE260.out) | exact HB.out)⟩⟩
        · rw [if_neg c19] at H
          have c19b0 : (a0_0 == 2) = false := beq_eq_false_iff_ne.mpr c19
          have c19b1 : (a0_0 != 2) = true := bne_iff_ne.mpr c19
          (first | rw [c19b0] | (simp only [i64_w, i32_w]; rw [c19b0]) | skip)
          have H' := Aside0.mk H
          clear H
          go_wp2
          go_meet
          case rel => exact ⟨_, ((a0_0 == 3)), (by first | rfl | (simp; done) | (simp [*]; done)), H', ⟨by first | omega | exact Nat.le_refl _⟩, ⟨by (with_reducible repeat (first | refine blk_drewN ?_ _ | refine blk_drew ?_ | refine blk_alloc ?_ _)); exact BK260.out⟩, ⟨by repeat (first | (with_reducible first | exact HB.out | apply below_alloc | apply pw_below_drewN | apply below_drew1 | refine below_set ?_ GE260.out) | exact HB.out)⟩⟩
      case rest =>
        clear HC16
        try clear c1
        try clear c2
        try clear c2b0
        try clear c2b1
        try clear p2
        try clear c4
        try clear c8
        try clear c9
        try clear c9b0
        try clear c9b1
        try clear c11
        try clear c12
        try clear c13
        try clear c19
        try clear c19b0
        try clear c19b1
        try clear hcz13_0
        try clear hcz13_1
        try clear hcz13_2
        try clear hcz15_0
        try clear hcz15_1
        try clear hcz15_2
        try clear hcz18_0
        try clear hcz18_1
        try clear hcz18_2
        try clear hcz6_0
        try clear hcz6_1
        try clear hcz6_2
        try clear hcz8_0
        try clear hcz8_1
        try clear hcz8_2
        try clear hfz13_0
        try clear hfz13_1
        try clear hfz13_2
        try clear hfz15_0
        try clear hfz15_1
        try clear hfz15_2
        try clear hfz18_0
        try clear hfz18_1
        try clear hfz18_2
        try clear hfz6_0
        try clear hfz6_1
        try clear hfz6_2
        try clear hfz8_0
        try clear hfz8_1
        try clear hfz8_2
        obtain ⟨kq, x27_15, rfl, HA, HJ15, BK260, HB⟩ := hcut
        cases kq with
        | zero => exact absurd HA.out (by simp [impl_Task_fits.j0])
        | succ kj15 =>
          have H := HA.out
          clear HA
          simp only [impl_Task_fits.j0] at H
          by_cases c20 : x27_15 = true
          · subst c20
            have H1 : (if a0_1 = 0 then (some ((l0_2.length : Int) == 2)) else (some false)) = some r := by rw [if_pos rfl] at H; exact H
            clear H
            have H := H1
            clear H1
            by_cases c21 : a0_1 = 0
            · rw [if_pos c21] at H
              have c21b0 : (a0_1 == 0) = true := beq_iff_eq.mpr c21
              have c21b1 : (a0_1 != 0) = false := bne_eq_false_iff_eq.mpr c21
              clear c21
              obtain rfl := Option.some.inj H
              have hcz22_0 : wc.cell? ⟨gb260, 0, none⟩ = some (.int .i64 a0_0) := (blk_cell BK260.out 0).trans rfl
              have hcz22_1 : wc.cell? ⟨gb260, 1, none⟩ = some (.int .i64 a0_1) := (blk_cell BK260.out 1).trans rfl
              have hcz22_2 : wc.cell? ⟨gb260, 2, none⟩ = some (.slice A0_2 l0_2.length c0_2) := (blk_cell BK260.out 2).trans rfl
              have hfz22_0 := blk_frozen BK260.out 0
              have hfz22_1 := blk_frozen BK260.out 1
              have hfz22_2 := blk_frozen BK260.out 2
              go_wp2
              go_ret
              exact ⟨by first | rfl | (simp [errW_none, errW_some] <;> rfl) | (simp [*, errW_none, errW_some] <;> rfl), by repeat (first | (with_reducible first | exact HB.out | apply below_alloc | apply pw_below_drewN | apply below_drew1 | refine below_set ?_ GE260.out) | exact HB.out)⟩
            · rw [if_neg c21] at H
              have c21b0 : (a0_1 == 0) = false := beq_eq_false_iff_ne.mpr c21
              have c21b1 : (a0_1 != 0) = true := bne_iff_ne.mpr c21
              obtain rfl := Option.some.inj H
              have hcz23_0 : wc.cell? ⟨gb260, 0, none⟩ = some (.int .i64 a0_0) := (blk_cell BK260.out 0).trans rfl
              have hcz23_1 : wc.cell? ⟨gb260, 1, none⟩ = some (.int .i64 a0_1) := (blk_cell BK260.out 1).trans rfl
              have hcz23_2 : wc.cell? ⟨gb260, 2, none⟩ = some (.slice A0_2 l0_2.length c0_2) := (blk_cell BK260.out 2).trans rfl
              have hfz23_0 := blk_frozen BK260.out 0
              have hfz23_1 := blk_frozen BK260.out 1
              have hfz23_2 := blk_frozen BK260.out 2
              go_wp2
              go_ret
              exact ⟨by first | rfl | (simp [errW_none, errW_some] <;> rfl) | (simp [*, errW_none, errW_some] <;> rfl), by repeat (first | (with_reducible first | exact HB.out | apply below_alloc | apply pw_below_drewN | apply below_drew1 | refine below_set ?_ GE260.out) | exact HB.out)⟩
          · replace c20 := Bool.eq_false_iff.mpr c20
            subst c20
            have H1 : (if a0_0 = 4 then (if a0_1 = 0 then (some ((l0_2.length : Int) == 3)) else (some false)) else (if a0_0 = 5 then ((impl_isKey.f a0_1).bind fun t263 => (if t263 = true then (some ((l0_2.length : Int) == 1)) else (some false))) else (some false))) = some r := by rw [if_neg (show ¬ (false = true) by decide)] at H; exact H
            clear H
            have H := H1
            clear H1
            by_cases c24 : a0_0 = 4
            · rw [if_pos c24] at H
              have c24b0 : (a0_0 == 4) = true := beq_iff_eq.mpr c24
              have c24b1 : (a0_0 != 4) = false := bne_eq_false_iff_eq.mpr c24
              clear c24
              by_cases c25 : a0_1 = 0
              · rw [if_pos c25] at H
                have c25b0 : (a0_1 == 0) = true := beq_iff_eq.mpr c25
                have c25b1 : (a0_1 != 0) = false := bne_eq_false_iff_eq.mpr c25
                clear c25
                obtain rfl := Option.some.inj H
                have hcz26_0 : wc.cell? ⟨gb260, 0, none⟩ = some (.int .i64 a0_0) := (blk_cell BK260.out 0).trans rfl
                have hcz26_1 : wc.cell? ⟨gb260, 1, none⟩ = some (.int .i64 a0_1) := (blk_cell BK260.out 1).trans rfl
                have hcz26_2 : wc.cell? ⟨gb260, 2, none⟩ = some (.slice A0_2 l0_2.length c0_2) := (blk_cell BK260.out 2).trans rfl
                have hfz26_0 := blk_frozen BK260.out 0
                have hfz26_1 := blk_frozen BK260.out 1
                have hfz26_2 := blk_frozen BK260.out 2
                go_wp2
                go_ret
                exact ⟨by first | rfl | (simp [errW_none, errW_some] <;> rfl) | (simp [*, errW_none, errW_some] <;> rfl), by repeat (first | (with_reducible first | exact HB.out | apply below_alloc | apply pw_below_drewN | apply below_drew1 | refine below_set ?_ GE260.out) | exact HB.out)⟩
              · rw [if_neg c25] at H
                have c25b0 : (a0_1 == 0) = false := beq_eq_false_iff_ne.mpr c25
                have c25b1 : (a0_1 != 0) = true := bne_iff_ne.mpr c25
                obtain rfl := Option.some.inj H
                have hcz27_0 : wc.cell? ⟨gb260, 0, none⟩ = some (.int .i64 a0_0) := (blk_cell BK260.out 0).trans rfl
                have hcz27_1 : wc.cell? ⟨gb260, 1, none⟩ = some (.int .i64 a0_1) := (blk_cell BK260.out 1).trans rfl
                have hcz27_2 : wc.cell? ⟨gb260, 2, none⟩ = some (.slice A0_2 l0_2.length c0_2) := (blk_cell BK260.out 2).trans rfl
                have hfz27_0 := blk_frozen BK260.out 0
                have hfz27_1 := blk_frozen BK260.out 1
                have hfz27_2 := blk_frozen BK260.out 2
                go_wp2
                go_ret
                exact ⟨by first | rfl | (simp [errW_none, errW_some] <;> rfl) | (simp [*, errW_none, errW_some] <;> rfl), by repeat (first | (with_reducible first | exact HB.out | apply below_alloc | apply pw_below_drewN | apply below_drew1 | refine below_set ?_ GE260.out) | exact HB.out)⟩
            · rw [if_neg c24] at H
              have c24b0 : (a0_0 == 4) = false := beq_eq_false_iff_ne.mpr c24
              have c24b1 : (a0_0 != 4) = true := bne_iff_ne.mpr c24
              by_cases c28 : a0_0 = 5
              · rw [if_pos c28] at H
                have c28b0 : (a0_0 == 5) = true := beq_iff_eq.mpr c28
                have c28b1 : (a0_0 != 5) = false := bne_eq_false_iff_eq.mpr c28
                clear c28
                replace H := Option.bind_eq_some_iff.mp H
                obtain ⟨t263, A290, H⟩ := H
                replace H : (if t263 = true then (some ((l0_2.length : Int) == 1)) else (some false)) = some r := H
                have A29 := Aside0.mk A290
                clear A290
                by_cases c30 : t263 = true
                · subst c30
                  have H1 : (some ((l0_2.length : Int) == 1)) = some r := by rw [if_pos rfl] at H; exact H
                  clear H
                  have H := H1
                  clear H1
                  obtain rfl := Option.some.inj H
                  have hcz31_0 : wc.cell? ⟨gb260, 0, none⟩ = some (.int .i64 a0_0) := (blk_cell BK260.out 0).trans rfl
                  have hcz31_1 : wc.cell? ⟨gb260, 1, none⟩ = some (.int .i64 a0_1) := (blk_cell BK260.out 1).trans rfl
                  have hcz31_2 : wc.cell? ⟨gb260, 2, none⟩ = some (.slice A0_2 l0_2.length c0_2) := (blk_cell BK260.out 2).trans rfl
                  have hfz31_0 := blk_frozen BK260.out 0
                  have hfz31_1 := blk_frozen BK260.out 1
                  have hfz31_2 := blk_frozen BK260.out 2
                  go_wp2_with (first | ((with_reducible refine gate_callee (f := 87) rfl ?_); refine goesL_ (some 54) rfl rfl Try.func87 (by kernel_rfl) rfl #[.int .i64 a0_1] rfl (by (try simp only [List.map_toArray, List.map_cons, List.map_nil]); first | done | rfl | (simp only [List.length_drop, List.length_take]; rfl)) ?_; (with_reducible refine (impl_isKey.calls a0_1 true _ A29.out).mono ?_); rintro e w' ⟨rfl, ⟨nd, rfl⟩⟩; refine ⟨_, rfl, ?_⟩))
                  go_ret
                  exact ⟨by first | rfl | (simp [errW_none, errW_some] <;> rfl) | (simp [*, errW_none, errW_some] <;> rfl), by repeat (first | (with_reducible first | exact HB.out | apply below_alloc | apply pw_below_drewN | apply below_drew1 | refine below_set ?_ GE260.out) | exact HB.out)⟩
                · replace c30 := Bool.eq_false_iff.mpr c30
                  subst c30
                  have H1 : (some false) = some r := by rw [if_neg (show ¬ (false = true) by decide)] at H; exact H
                  clear H
                  have H := H1
                  clear H1
                  obtain rfl := Option.some.inj H
                  have hcz32_0 : wc.cell? ⟨gb260, 0, none⟩ = some (.int .i64 a0_0) := (blk_cell BK260.out 0).trans rfl
                  have hcz32_1 : wc.cell? ⟨gb260, 1, none⟩ = some (.int .i64 a0_1) := (blk_cell BK260.out 1).trans rfl
                  have hcz32_2 : wc.cell? ⟨gb260, 2, none⟩ = some (.slice A0_2 l0_2.length c0_2) := (blk_cell BK260.out 2).trans rfl
                  have hfz32_0 := blk_frozen BK260.out 0
                  have hfz32_1 := blk_frozen BK260.out 1
                  have hfz32_2 := blk_frozen BK260.out 2
                  go_wp2_with (first | ((with_reducible refine gate_callee (f := 87) rfl ?_); refine goesL_ (some 54) rfl rfl Try.func87 (by kernel_rfl) rfl #[.int .i64 a0_1] rfl (by (try simp only [List.map_toArray, List.map_cons, List.map_nil]); first | done | rfl | (simp only [List.length_drop, List.length_take]; rfl)) ?_; (with_reducible refine (impl_isKey.calls a0_1 false _ A29.out).mono ?_); rintro e w' ⟨rfl, ⟨nd, rfl⟩⟩; refine ⟨_, rfl, ?_⟩))
                  go_ret
                  exact ⟨by first | rfl | (simp [errW_none, errW_some] <;> rfl) | (simp [*, errW_none, errW_some] <;> rfl), by repeat (first | (with_reducible first | exact HB.out | apply below_alloc | apply pw_below_drewN | apply below_drew1 | refine below_set ?_ GE260.out) | exact HB.out)⟩
              · rw [if_neg c28] at H
                have c28b0 : (a0_0 == 5) = false := beq_eq_false_iff_ne.mpr c28
                have c28b1 : (a0_0 != 5) = true := bne_iff_ne.mpr c28
                obtain rfl := Option.some.inj H
                go_wp2
                go_ret
                exact ⟨by first | rfl | (simp [errW_none, errW_some] <;> rfl) | (simp [*, errW_none, errW_some] <;> rfl), by repeat (first | (with_reducible first | exact HB.out | apply below_alloc | apply pw_below_drewN | apply below_drew1 | refine below_set ?_ GE260.out) | exact HB.out)⟩
mutual
def impl_Task_countTo.j0 : Nat → Int → Bool → Int → Int → List (S25) → Option (Int)
  | 0, _, _, _, _, _ => none
  | k + 1, x1, x14, x265000, x265001, x265002 => if x14 = true then (some 16) else (impl_Task_countTo.l0 k x1 1 x265002 (x265002.length : Int) 0)
def impl_Task_countTo.l0 : Nat → Int → Int → List (S25) → Int → Int → Option (Int)
  | 0, _, _, _, _, _ => none
  | k + 1, x1, x5, x16, x17, x18 => if x18 < x17 then (if 0 ≤ x18 then (if x18 < (x16.length : Int) then (if x5 > x1 then (some 16) else ((impl_Task_countTo.f k ((rd_T25 x16 x18).f0) ((rd_T25 x16 x18).f1) ((rd_T25 x16 x18).f2) (wrap64 (x1 - x5))).bind fun t268 => (impl_Task_countTo.l0 k x1 (wrap64 (x5 + t268)) x16 x17 (wrap64 (x18 + 1))))) else (none)) else (none)) else (some x5)
def impl_Task_countTo.f : Nat → Int → Int → List (S25) → Int → Option (Int)
  | 0, _, _, _, _ => none
  | k + 1, a0_0, a0_1, l0_2, a1 => if a1 < 1 then (impl_Task_countTo.j0 k a1 true a0_0 a0_1 l0_2) else ((impl_Task_fits.f k a0_0 a0_1 l0_2).bind fun t265 => (impl_Task_countTo.j0 k a1 (!t265) a0_0 a0_1 l0_2))
end
theorem impl_Task_countTo.mono_l : ∀ k, (∀ y0 y1 y2 y3, LeO (impl_Task_countTo.f k y0 y1 y2 y3) (impl_Task_countTo.f (k + 1) y0 y1 y2 y3)) ∧ (∀ y0 y1 y2 y3 y4, LeO (impl_Task_countTo.j0 k y0 y1 y2 y3 y4) (impl_Task_countTo.j0 (k + 1) y0 y1 y2 y3 y4)) ∧ (∀ y0 y1 y2 y3 y4, LeO (impl_Task_countTo.l0 k y0 y1 y2 y3 y4) (impl_Task_countTo.l0 (k + 1) y0 y1 y2 y3 y4))
  | 0 => ⟨fun _ _ _ _ r h => by simp [impl_Task_countTo.f] at h, fun _ _ _ _ _ r h => by simp [impl_Task_countTo.j0] at h, fun _ _ _ _ _ r h => by simp [impl_Task_countTo.l0] at h⟩
  | k + 1 => by
    obtain ⟨ih0, ih1, ih2⟩ := impl_Task_countTo.mono_l k
    refine ⟨?_, ?_, ?_⟩
    · intro y0 y1 y2 y3
      unfold impl_Task_countTo.f
      repeat' first
      | (with_reducible exact ih0 _ _ _ _)
      | (with_reducible exact ih1 _ _ _ _ _)
      | (with_reducible exact ih2 _ _ _ _ _)
      | (with_reducible exact impl_Task_fits.mono _ _ _ _)
      | (with_reducible exact LeO.refl _)
      | (with_reducible exact LeO.none _)
      | (with_reducible refine LeO.ite ?_ ?_)
      | (with_reducible refine LeO.bind ?_ (fun _ => ?_))
      | exact ih0 _ _ _ _
      | exact ih1 _ _ _ _ _
      | exact ih2 _ _ _ _ _
      | exact impl_Task_fits.mono _ _ _ _
      | exact LeO.none _
      | refine LeO.ite ?_ ?_
      | refine LeO.bind ?_ (fun _ => ?_)
    · intro y0 y1 y2 y3 y4
      unfold impl_Task_countTo.j0
      repeat' first
      | (with_reducible exact ih0 _ _ _ _)
      | (with_reducible exact ih1 _ _ _ _ _)
      | (with_reducible exact ih2 _ _ _ _ _)
      | (with_reducible exact impl_Task_fits.mono _ _ _ _)
      | (with_reducible exact LeO.refl _)
      | (with_reducible exact LeO.none _)
      | (with_reducible refine LeO.ite ?_ ?_)
      | (with_reducible refine LeO.bind ?_ (fun _ => ?_))
      | exact ih0 _ _ _ _
      | exact ih1 _ _ _ _ _
      | exact ih2 _ _ _ _ _
      | exact impl_Task_fits.mono _ _ _ _
      | exact LeO.none _
      | refine LeO.ite ?_ ?_
      | refine LeO.bind ?_ (fun _ => ?_)
    · intro y0 y1 y2 y3 y4
      unfold impl_Task_countTo.l0
      repeat' first
      | (with_reducible exact ih0 _ _ _ _)
      | (with_reducible exact ih1 _ _ _ _ _)
      | (with_reducible exact ih2 _ _ _ _ _)
      | (with_reducible exact impl_Task_fits.mono _ _ _ _)
      | (with_reducible exact LeO.refl _)
      | (with_reducible exact LeO.none _)
      | (with_reducible refine LeO.ite ?_ ?_)
      | (with_reducible refine LeO.bind ?_ (fun _ => ?_))
      | exact ih0 _ _ _ _
      | exact ih1 _ _ _ _ _
      | exact ih2 _ _ _ _ _
      | exact impl_Task_fits.mono _ _ _ _
      | exact LeO.none _
      | refine LeO.ite ?_ ?_
      | refine LeO.bind ?_ (fun _ => ?_)
theorem impl_Task_countTo.mono : ∀ a0 a1 a2 a3 k, LeO (impl_Task_countTo.f k a0 a1 a2 a3) (impl_Task_countTo.f (k + 1) a0 a1 a2 a3) := by
  intro a0 a1 a2 a3 k
  obtain ⟨ih0, ih1, ih2⟩ := impl_Task_countTo.mono_l k
  exact ih0 a0 a1 a2 a3
set_option maxHeartbeats 8000000 in
set_option maxRecDepth 100000 in
theorem impl_Task_countTo.calls (k : Nat) : ∀ (a0_0 : Int) (a0_1 : Int) (A0_2 : Option Addr) (c0_2 : Nat) (l0_2 : List (S25)) (a1 : Int) (r : Int) (w : World) (hr0_2 : Kd.C k25 w A0_2 l0_2.length l0_2) (hc0_2 : l0_2.length ≤ c0_2) (h : impl_Task_countTo.f k a0_0 a0_1 l0_2 a1 = some r),
    Calls Try.prog 133 #[.agg #[.int .i64 a0_0, .int .i64 a0_1, .slice A0_2 l0_2.length c0_2], .int .i64 a1] w fun e w' => e = .returned (.int .i64 r) ∧ Below w.heap.size w w' := by
  induction k using Nat.strongRecOn with
  | _ k ih =>
  intro a0_0 a0_1 A0_2 c0_2 l0_2 a1 r w hr0_2 hc0_2 h
  cases k with
  | zero => exact absurd h (by simp [impl_Task_countTo.f])
  | succ k =>
  simp only [impl_Task_countTo.f] at h
  have hu25 := Try.underlying25
  have HR0_2 := Aside0.mk hr0_2
  have HC0_2 := Aside0.mk hc0_2
  clear hr0_2 hc0_2
  have HB := Aside0.mk (Below.refl w.heap.size w)
  have H : (if a1 < 1 then (impl_Task_countTo.j0 k a1 true a0_0 a0_1 l0_2) else ((impl_Task_fits.f k a0_0 a0_1 l0_2).bind fun t265 => (impl_Task_countTo.j0 k a1 (!t265) a0_0 a0_1 l0_2))) = some r := h
  clear h
  have HC3 := Aside0.mk H
  clear H
  go_enter Try.func133, Try.ntmps133
  go_upto_region 1 with (first | ((with_reducible refine gate_dst (N := 2) rfl ?_); refine box_event ?hg (N := 2) ?hd (cs := #[.int .i64 a0_0, .int .i64 a0_1, .slice A0_2 l0_2.length c0_2]) (t := 25) ?hr ?_; (case hd => rfl); (case hg => rfl); (case hr => first | (go_simp; done) | (go_simp; rfl)); intro gb264 hg w4 hbox hb; have n0_ := Aside0.mk (below_step (by repeat (first | (with_reducible first | exact HB.out | apply below_alloc | apply pw_below_drewN | apply below_drew1) | exact HB.out)) hb); have n1_ := Aside0.mk (hbox); have n2_ := Aside0.mk ((by rw [hg]; exact (below_size (by repeat (first | (with_reducible first | exact HB.out | apply below_alloc | apply pw_below_drewN | apply below_drew1) | exact HB.out))) : w.heap.size ≤ gb264)); have n3_ := Aside0.mk ((by rw [hg]; exact (below_size (by repeat (first | (with_reducible first | exact HB.out | apply below_alloc | apply pw_below_drewN | apply below_drew1) | exact HB.out))) : w.heap.size ≤ gb264)); clear HB; have HB := n0_; have BK264 := n1_; have GW264 := n2_; have GE264 := n3_; clear n0_ n1_ n2_ n3_; clear hb hbox hg))
  (try simp only [Act.put, List.setIfInBounds_toArray, List.set_cons_zero, List.set_cons_succ])
  go_cut [14] (fun v14 wc => ∃ (kq : Nat) (x14_2 : Bool), v14 = .bool x14_2 ∧ Aside0 (impl_Task_countTo.j0 kq a1 x14_2 a0_0 a0_1 l0_2 = some r) ∧ Aside0 (kq ≤ k) ∧ Aside0 (wc.heap[gb264]? = some (.cells #[.int .i64 a0_0, .int .i64 a0_1, (.slice A0_2 l0_2.length c0_2)] 25 (0, 0))) ∧ Aside0 (Below w.heap.size w wc))
  case first =>
    have H := HC3.out
    clear HC3
    by_cases c5 : a1 < 1
    · rw [if_pos c5] at H
      have c5b0 : decide (a1 < 1) = true := decide_eq_true c5
      clear c5
      (first | rw [c5b0] | (simp only [i64_w, i32_w]; rw [c5b0]) | skip)
      have H' := Aside0.mk H
      clear H
      go_wp2
      go_meet
      case rel => exact ⟨_, (true), (by first | rfl | (simp; done) | (simp [*]; done)), H', ⟨by first | omega | exact Nat.le_refl _⟩, ⟨by (with_reducible repeat (first | refine blk_drewN ?_ _ | refine blk_drew ?_ | refine blk_alloc ?_ _)); exact BK264.out⟩, ⟨by repeat (first | (with_reducible first | exact HB.out | apply below_alloc | apply pw_below_drewN | apply below_drew1 | refine below_set ?_ GE264.out) | exact HB.out)⟩⟩
    · rw [if_neg c5] at H
      have c5b0 : decide (a1 < 1) = false := decide_eq_false c5
      clear c5
      (first | rw [c5b0] | (simp only [i64_w, i32_w]; rw [c5b0]) | skip)
      replace H := Option.bind_eq_some_iff.mp H
      obtain ⟨t265, A60, H⟩ := H
      replace H : (impl_Task_countTo.j0 k a1 (!t265) a0_0 a0_1 l0_2) = some r := H
      have A6 := Aside0.mk A60
      clear A60
      have H' := Aside0.mk H
      clear H
      have hcz7_0 : w4.cell? ⟨gb264, 0, none⟩ = some (.int .i64 a0_0) := (blk_cell BK264.out 0).trans rfl
      have hcz7_1 : w4.cell? ⟨gb264, 1, none⟩ = some (.int .i64 a0_1) := (blk_cell BK264.out 1).trans rfl
      have hcz7_2 : w4.cell? ⟨gb264, 2, none⟩ = some (.slice A0_2 l0_2.length c0_2) := (blk_cell BK264.out 2).trans rfl
      have hfz7_0 := blk_frozen BK264.out 0
      have hfz7_1 := blk_frozen BK264.out 1
      have hfz7_2 := blk_frozen BK264.out 2
      go_wp2_with (first | (go_at_call 132; (with_reducible refine (impl_Task_fits.calls k a0_0 a0_1 _ _ l0_2 t265 _ ?side1 ?side2 A6.out).mono ?_); (case side1 => repeat (first | exact (Kd.C_below HR0_2.out HB.out) | (with_reducible refine Kd.C_alloc ?_ _) | (with_reducible refine Kd.C_drewN ?_ _) | (with_reducible refine Kd.C_drew ?_))); (case side2 => exact HC0_2.out); rintro e w8 ⟨rfl, hb⟩; have n0_ := Aside0.mk (blk_below (g := gb264) (o := .cells #[.int .i64 a0_0, .int .i64 a0_1, .slice A0_2 l0_2.length c0_2] 25 (0, 0)) (by (with_reducible repeat (first | refine blk_drewN ?_ _ | refine blk_drew ?_ | refine blk_alloc ?_ _)); exact BK264.out) hb); have n1_ := Aside0.mk (below_step (by repeat (first | (with_reducible first | exact HB.out | apply below_alloc | apply pw_below_drewN | apply below_drew1 | refine below_set ?_ GE264.out) | exact HB.out)) hb); clear BK264; clear HB; have BK264 := n0_; have HB := n1_; clear n0_ n1_; (try clear hb); (try clear hb2); (try clear hk); (try clear hi)))
      go_meet
      case rel => exact ⟨_, (!t265), (by first | rfl | (simp; done) | (simp [*]; done)), H', ⟨by first | omega | exact Nat.le_refl _⟩, ⟨by (with_reducible repeat (first | refine blk_drewN ?_ _ | refine blk_drew ?_ | refine blk_alloc ?_ _)); exact BK264.out⟩, ⟨by repeat (first | (with_reducible first | exact HB.out | apply below_alloc | apply pw_below_drewN | apply below_drew1 | refine below_set ?_ GE264.out) | exact HB.out)⟩⟩
  case rest =>
    clear HC3
    try clear c1
    try clear p2
    try clear c5
    try clear c5b0
    try clear hcz7_0
    try clear hcz7_1
    try clear hcz7_2
    try clear hfz7_0
    try clear hfz7_1
    try clear hfz7_2
    obtain ⟨kq, x14_2, rfl, HA, HJ2, BK264, HB⟩ := hcut
    cases kq with
    | zero => exact absurd HA.out (by simp [impl_Task_countTo.j0])
    | succ kj2 =>
      have H := HA.out
      clear HA
      simp only [impl_Task_countTo.j0] at H
      by_cases c9 : x14_2 = true
      · subst c9
        have H1 : (some 16) = some r := by rw [if_pos rfl] at H; exact H
        clear H
        have H := H1
        clear H1
        obtain rfl := Option.some.inj H
        go_wp2
        go_ret
        exact ⟨by first | rfl | (simp [errW_none, errW_some] <;> rfl) | (simp [*, errW_none, errW_some] <;> rfl), by repeat (first | (with_reducible first | exact HB.out | apply below_alloc | apply pw_below_drewN | apply below_drew1 | refine below_set ?_ GE264.out) | exact HB.out)⟩
      · replace c9 := Bool.eq_false_iff.mpr c9
        subst c9
        have H1 : (impl_Task_countTo.l0 kj2 a1 1 l0_2 (l0_2.length : Int) 0) = some r := by rw [if_neg (show ¬ (false = true) by decide)] at H; exact H
        clear H
        have H := H1
        clear H1
        have H' := Aside0.mk H
        clear H
        have hcz10_0 : wc.cell? ⟨gb264, 0, none⟩ = some (.int .i64 a0_0) := (blk_cell BK264.out 0).trans rfl
        have hcz10_1 : wc.cell? ⟨gb264, 1, none⟩ = some (.int .i64 a0_1) := (blk_cell BK264.out 1).trans rfl
        have hcz10_2 : wc.cell? ⟨gb264, 2, none⟩ = some (.slice A0_2 l0_2.length c0_2) := (blk_cell BK264.out 2).trans rfl
        have hfz10_0 := blk_frozen BK264.out 0
        have hfz10_1 := blk_frozen BK264.out 1
        have hfz10_2 := blk_frozen BK264.out 2
        go_wp2
        go_loopg [5, 18] kj2 (fun kq v5 v18 w' => ∃ (x5_2 : Int) (x18_2 : Int), v5 = .int .i64 x5_2 ∧ v18 = .int .i64 x18_2 ∧ Aside0 (impl_Task_countTo.l0 kq a1 x5_2 l0_2 (l0_2.length : Int) x18_2 = some r) ∧ Aside0 (kq ≤ kj2) ∧ Aside0 (w'.heap[gb264]? = some (.cells #[.int .i64 a0_0, .int .i64 a0_1, (.slice A0_2 l0_2.length c0_2)] 25 (0, 0))) ∧ Aside0 (Below w.heap.size w w'))
        case atStart => exact ⟨(1), (0), (by first | rfl | (simp; done) | (simp [*]; done)), (by first | rfl | (simp; done) | (simp [*]; done)), H', ⟨Nat.le_refl _⟩, ⟨by (with_reducible repeat (first | refine blk_drewN ?_ _ | refine blk_drew ?_ | refine blk_alloc ?_ _)); exact BK264.out⟩, ⟨by repeat (first | (with_reducible first | exact HB.out | apply below_alloc | apply pw_below_drewN | apply below_drew1 | refine below_set ?_ GE264.out) | exact HB.out)⟩⟩
        case round =>
          clear H'
          try clear c1
          try clear p2
          try clear c5
          try clear c5b0
          try clear c9
          try clear hcz10_0
          try clear hcz10_1
          try clear hcz10_2
          try clear hcz7_0
          try clear hcz7_1
          try clear hcz7_2
          try clear hfz10_0
          try clear hfz10_1
          try clear hfz10_2
          try clear hfz7_0
          try clear hfz7_1
          try clear hfz7_2
          try clear p2
          obtain ⟨x5_2, x18_2, rfl, rfl, HA, HK2, BK264, HB⟩ := hrel
          cases gk with
          | zero => exact absurd HA.out (by simp [impl_Task_countTo.l0])
          | succ k2 =>
            have H := HA.out
            clear HA
            simp only [impl_Task_countTo.l0] at H
            by_cases c11 : x18_2 < (l0_2.length : Int)
            · rw [if_pos c11] at H
              have c11b0 : decide (x18_2 < (l0_2.length : Int)) = true := decide_eq_true c11
              clear c11
              by_cases c12 : 0 ≤ x18_2
              · rw [if_pos c12] at H
                have c12b0 : decide (0 ≤ x18_2) = true := decide_eq_true c12
                clear c12
                by_cases c13 : x18_2 < (l0_2.length : Int)
                · rw [if_pos c13] at H
                  have c13b0 : decide (x18_2 < (l0_2.length : Int)) = true := decide_eq_true c13
                  clear c13
                  by_cases c14 : x5_2 > a1
                  · rw [if_pos c14] at H
                    have c14b0 : decide (a1 < x5_2) = true := decide_eq_true c14
                    clear c14
                    obtain rfl := Option.some.inj H
                    have p266 : 0 ≤ (x18_2 : Int) := of_decide_eq_true (by first | (with_reducible assumption) | assumption)
                    have q266 : x18_2 < (l0_2.length : Int) := of_decide_eq_true (by first | (with_reducible assumption) | assumption)
                    obtain ⟨ad266, A266_2, c266_2, e266, hx266_0, hx266_1, hx266_2, hl266_2, hi266_2⟩ := at_T25 HR0_2.out x18_2 p266 q266
                    cases e266
                    replace hx266_0 := (HB.out.cell (World.block_lt_of_cell? w _ hx266_0)).trans hx266_0
                    replace hx266_1 := (HB.out.cell (World.block_lt_of_cell? w _ hx266_1)).trans hx266_1
                    replace hx266_2 := (HB.out.cell (World.block_lt_of_cell? w _ hx266_2)).trans hx266_2
                    have HR266_2 := Aside0.mk hi266_2
                    have HC266_2 := Aside0.mk hl266_2
                    clear hi266_2 hl266_2
                    replace p266 := eq_true p266
                    replace q266 := eq_true q266
                    go_wp2_with (first | ((with_reducible refine gate_dst (N := 7) rfl ?_); refine box_event ?hg (N := 7) ?hd (cs := #[.int .i64 0, .int .i64 0, .slice none 0 0]) (t := 25) ?hr ?_; (case hd => rfl); (case hg => rfl); (case hr => first | (go_simp; done) | (go_simp; rfl)); intro gb267 hg w15 hbox hb; have n0_ := Aside0.mk (blk_below (g := gb264) (o := .cells #[.int .i64 a0_0, .int .i64 a0_1, .slice (some ad266) l0_2.length c0_2] 25 (0, 0)) (by (with_reducible repeat (first | refine blk_drewN ?_ _ | refine blk_drew ?_ | refine blk_alloc ?_ _)); exact BK264.out) hb); have n1_ := Aside0.mk (below_step (by repeat (first | (with_reducible first | exact HB.out | apply below_alloc | apply pw_below_drewN | apply below_drew1 | refine below_set ?_ GE264.out) | exact HB.out)) hb); have n2_ := Aside0.mk (hbox); have n3_ := Aside0.mk ((by rw [hg]; exact (below_size (by repeat (first | (with_reducible first | exact HB.out | apply below_alloc | apply pw_below_drewN | apply below_drew1 | refine below_set ?_ GE264.out) | exact HB.out))) : w.heap.size ≤ gb267)); have n4_ := Aside0.mk ((by rw [hg]; exact (below_size (by repeat (first | (with_reducible first | exact HB.out | apply below_alloc | apply pw_below_drewN | apply below_drew1 | refine below_set ?_ GE264.out) | exact HB.out))) : w.heap.size ≤ gb267)); have n5_ := Aside0.mk ((by rw [hg]; exact Nat.ne_of_lt (blk_lt (g := gb264) (o := .cells #[.int .i64 a0_0, .int .i64 a0_1, .slice (some ad266) l0_2.length c0_2] 25 (0, 0)) (by (with_reducible repeat (first | refine blk_drewN ?_ _ | refine blk_drew ?_ | refine blk_alloc ?_ _)); exact BK264.out)) : gb264 ≠ gb267)); have n6_ := Aside0.mk ((by rw [hg]; exact Nat.ne_of_gt (blk_lt (g := gb264) (o := .cells #[.int .i64 a0_0, .int .i64 a0_1, .slice (some ad266) l0_2.length c0_2] 25 (0, 0)) (by (with_reducible repeat (first | refine blk_drewN ?_ _ | refine blk_drew ?_ | refine blk_alloc ?_ _)); exact BK264.out)) : gb267 ≠ gb264)); clear BK264; clear HB; have BK264 := n0_; have HB := n1_; have BK267 := n2_; have GW267 := n3_; have GE267 := n4_; have NB264_267 := n5_; have NB267_264 := n6_; clear n0_ n1_ n2_ n3_ n4_ n5_ n6_; clear hb hbox hg; have hnb16 := NB267_264.out; have hnc16 := NB264_267.out; have hcz17_0 : w15.cell? ⟨gb267, 0, none⟩ = some (.int .i64 0) := (blk_cell BK267.out 0).trans rfl; have hcz17_1 : w15.cell? ⟨gb267, 1, none⟩ = some (.int .i64 0) := (blk_cell BK267.out 1).trans rfl; have hcz17_2 : w15.cell? ⟨gb267, 2, none⟩ = some (.slice none 0 0) := (blk_cell BK267.out 2).trans rfl; have hfz17_0 := blk_frozen BK267.out 0; have hfz17_1 := blk_frozen BK267.out 1; have hfz17_2 := blk_frozen BK267.out 2))
                    go_ret
                    exact ⟨by first | rfl | (simp [errW_none, errW_some] <;> rfl) | (simp [*, errW_none, errW_some] <;> rfl), by repeat (first | (with_reducible first | exact HB.out | apply below_alloc | apply pw_below_drewN | apply below_drew1 | refine below_set ?_ GE264.out | refine below_set ?_ GE267.out) | exact HB.out)⟩
                  · rw [if_neg c14] at H
                    have c14b0 : decide (a1 < x5_2) = false := decide_eq_false c14
                    clear c14
                    replace H := Option.bind_eq_some_iff.mp H
                    obtain ⟨t268, A180, H⟩ := H
                    replace H : (impl_Task_countTo.l0 k2 a1 (wrap64 (x5_2 + t268)) l0_2 (l0_2.length : Int) (wrap64 (x18_2 + 1))) = some r := H
                    have A18 := Aside0.mk A180
                    clear A180
                    have H' := Aside0.mk H
                    clear H
                    have p266 : 0 ≤ (x18_2 : Int) := of_decide_eq_true (by first | (with_reducible assumption) | assumption)
                    have q266 : x18_2 < (l0_2.length : Int) := of_decide_eq_true (by first | (with_reducible assumption) | assumption)
                    obtain ⟨ad266, A266_2, c266_2, e266, hx266_0, hx266_1, hx266_2, hl266_2, hi266_2⟩ := at_T25 HR0_2.out x18_2 p266 q266
                    cases e266
                    replace hx266_0 := (HB.out.cell (World.block_lt_of_cell? w _ hx266_0)).trans hx266_0
                    replace hx266_1 := (HB.out.cell (World.block_lt_of_cell? w _ hx266_1)).trans hx266_1
                    replace hx266_2 := (HB.out.cell (World.block_lt_of_cell? w _ hx266_2)).trans hx266_2
                    have HR266_2 := Aside0.mk hi266_2
                    have HC266_2 := Aside0.mk hl266_2
                    clear hi266_2 hl266_2
                    replace p266 := eq_true p266
                    replace q266 := eq_true q266
                    go_wp2_with (first | ((with_reducible refine gate_dst (N := 7) rfl ?_); refine box_event ?hg (N := 7) ?hd (cs := #[.int .i64 0, .int .i64 0, .slice none 0 0]) (t := 25) ?hr ?_; (case hd => rfl); (case hg => rfl); (case hr => first | (go_simp; done) | (go_simp; rfl)); intro gb267 hg w19 hbox hb; have n0_ := Aside0.mk (blk_below (g := gb264) (o := .cells #[.int .i64 a0_0, .int .i64 a0_1, .slice (some ad266) l0_2.length c0_2] 25 (0, 0)) (by (with_reducible repeat (first | refine blk_drewN ?_ _ | refine blk_drew ?_ | refine blk_alloc ?_ _)); exact BK264.out) hb); have n1_ := Aside0.mk (below_step (by repeat (first | (with_reducible first | exact HB.out | apply below_alloc | apply pw_below_drewN | apply below_drew1 | refine below_set ?_ GE264.out) | exact HB.out)) hb); have n2_ := Aside0.mk (hbox); have n3_ := Aside0.mk ((by rw [hg]; exact (below_size (by repeat (first | (with_reducible first | exact HB.out | apply below_alloc | apply pw_below_drewN | apply below_drew1 | refine below_set ?_ GE264.out) | exact HB.out))) : w.heap.size ≤ gb267)); have n4_ := Aside0.mk ((by rw [hg]; exact (below_size (by repeat (first | (with_reducible first | exact HB.out | apply below_alloc | apply pw_below_drewN | apply below_drew1 | refine below_set ?_ GE264.out) | exact HB.out))) : w.heap.size ≤ gb267)); have n5_ := Aside0.mk ((by rw [hg]; exact Nat.ne_of_lt (blk_lt (g := gb264) (o := .cells #[.int .i64 a0_0, .int .i64 a0_1, .slice (some ad266) l0_2.length c0_2] 25 (0, 0)) (by (with_reducible repeat (first | refine blk_drewN ?_ _ | refine blk_drew ?_ | refine blk_alloc ?_ _)); exact BK264.out)) : gb264 ≠ gb267)); have n6_ := Aside0.mk ((by rw [hg]; exact Nat.ne_of_gt (blk_lt (g := gb264) (o := .cells #[.int .i64 a0_0, .int .i64 a0_1, .slice (some ad266) l0_2.length c0_2] 25 (0, 0)) (by (with_reducible repeat (first | refine blk_drewN ?_ _ | refine blk_drew ?_ | refine blk_alloc ?_ _)); exact BK264.out)) : gb267 ≠ gb264)); clear BK264; clear HB; have BK264 := n0_; have HB := n1_; have BK267 := n2_; have GW267 := n3_; have GE267 := n4_; have NB264_267 := n5_; have NB267_264 := n6_; clear n0_ n1_ n2_ n3_ n4_ n5_ n6_; clear hb hbox hg; have hnb20 := NB267_264.out; have hnc20 := NB264_267.out; have hcz21_0 : w19.cell? ⟨gb267, 0, none⟩ = some (.int .i64 0) := (blk_cell BK267.out 0).trans rfl; have hcz21_1 : w19.cell? ⟨gb267, 1, none⟩ = some (.int .i64 0) := (blk_cell BK267.out 1).trans rfl; have hcz21_2 : w19.cell? ⟨gb267, 2, none⟩ = some (.slice none 0 0) := (blk_cell BK267.out 2).trans rfl; have hfz21_0 := blk_frozen BK267.out 0; have hfz21_1 := blk_frozen BK267.out 1; have hfz21_2 := blk_frozen BK267.out 2) | ((with_reducible refine gate_callee (f := 133) rfl ?_); refine goesL_ (some 30) rfl rfl Try.func133 (by kernel_rfl) rfl #[.agg #[.int .i64 ((rd_T25 l0_2 x18_2).f0), .int .i64 ((rd_T25 l0_2 x18_2).f1), .slice A266_2 ((rd_T25 l0_2 x18_2).f2).length c266_2], .int .i64 (wrap64 (a1 - x5_2))] rfl (by (try simp only [List.map_toArray, List.map_cons, List.map_nil]); first | done | rfl | (simp only [List.length_drop, List.length_take]; rfl)) ?_; (with_reducible refine (ih k2 (by have := HJ2.out; have := HK2.out; omega) ((rd_T25 l0_2 x18_2).f0) ((rd_T25 l0_2 x18_2).f1) _ _ ((rd_T25 l0_2 x18_2).f2) (wrap64 (a1 - x5_2)) t268 _ ?side1 ?side2 A18.out).mono ?_); (case side1 => exact Kd.C_below HR266_2.out (by repeat (first | (with_reducible first | exact HB.out | apply below_alloc | apply pw_below_drewN | apply below_drew1 | refine below_set ?_ GE264.out | refine below_set ?_ GE267.out) | exact HB.out))); (case side2 => exact HC266_2.out); rintro e w22 ⟨rfl, hb⟩; refine ⟨_, rfl, ?_⟩; have n0_ := Aside0.mk (blk_below (g := gb264) (o := .cells #[.int .i64 a0_0, .int .i64 a0_1, .slice (some ad266) l0_2.length c0_2] 25 (0, 0)) (by (with_reducible repeat (first | refine blk_drewN ?_ _ | refine blk_drew ?_ | refine blk_alloc ?_ _)); refine blk_far ?_ NB264_267.out _; (with_reducible repeat (first | refine blk_drewN ?_ _ | refine blk_drew ?_ | refine blk_alloc ?_ _)); refine blk_far ?_ NB264_267.out _; (with_reducible repeat (first | refine blk_drewN ?_ _ | refine blk_drew ?_ | refine blk_alloc ?_ _)); refine blk_far ?_ NB264_267.out _; (with_reducible repeat (first | refine blk_drewN ?_ _ | refine blk_drew ?_ | refine blk_alloc ?_ _)); exact BK264.out) hb); have n1_ := Aside0.mk (blk_below (g := gb267) (o := .cells #[.int .i64 ((rd_T25 l0_2 x18_2).f0), .int .i64 ((rd_T25 l0_2 x18_2).f1), .slice A266_2 ((rd_T25 l0_2 x18_2).f2).length c266_2] 25 (0, 0)) (by (with_reducible repeat (first | refine blk_drewN ?_ _ | refine blk_drew ?_ | refine blk_alloc ?_ _)); refine blk_put (cs := #[.int .i64 ((rd_T25 l0_2 x18_2).f0), .int .i64 ((rd_T25 l0_2 x18_2).f1), .slice none 0 0]) ?_ 2 _ rfl; (with_reducible repeat (first | refine blk_drewN ?_ _ | refine blk_drew ?_ | refine blk_alloc ?_ _)); refine blk_put (cs := #[.int .i64 ((rd_T25 l0_2 x18_2).f0), .int .i64 0, .slice none 0 0]) ?_ 1 _ rfl; (with_reducible repeat (first | refine blk_drewN ?_ _ | refine blk_drew ?_ | refine blk_alloc ?_ _)); refine blk_put (cs := #[.int .i64 0, .int .i64 0, .slice none 0 0]) ?_ 0 _ rfl; (with_reducible repeat (first | refine blk_drewN ?_ _ | refine blk_drew ?_ | refine blk_alloc ?_ _)); exact BK267.out) hb); have n2_ := Aside0.mk (below_step (by repeat (first | (with_reducible first | exact HB.out | apply below_alloc | apply pw_below_drewN | apply below_drew1 | refine below_set ?_ GE264.out | refine below_set ?_ GE267.out) | exact HB.out)) hb); clear BK264; clear BK267; clear HB; have BK264 := n0_; have BK267 := n1_; have HB := n2_; clear n0_ n1_ n2_; (try clear hb); (try clear hb2); (try clear hk); (try clear hi)))
                    go_roundg k2
                    case measure => have := HJ2.out; have := HK2.out; omega
                    case rel => exact ⟨(wrap64 (x5_2 + t268)), (wrap64 (x18_2 + 1)), (by first | rfl | (simp; done) | (simp [*]; done)), (by first | rfl | (simp; done) | (simp [*]; done)), H', ⟨by have := HJ2.out; have := HK2.out; omega⟩, ⟨by (with_reducible repeat (first | refine blk_drewN ?_ _ | refine blk_drew ?_ | refine blk_alloc ?_ _)); exact BK264.out⟩, ⟨by repeat (first | (with_reducible first | exact HB.out | apply below_alloc | apply pw_below_drewN | apply below_drew1 | refine below_set ?_ GE264.out | refine below_set ?_ GE267.out) | exact HB.out)⟩⟩
                · rw [if_neg c13] at H
                  exact absurd H (by simp)
              · rw [if_neg c12] at H
                exact absurd H (by simp)
            · rw [if_neg c11] at H
              have c11b0 : decide (x18_2 < (l0_2.length : Int)) = false := decide_eq_false c11
              clear c11
              obtain rfl := Option.some.inj H
              go_wp2
              go_ret
              exact ⟨by first | rfl | (simp [errW_none, errW_some] <;> rfl) | (simp [*, errW_none, errW_some] <;> rfl), by repeat (first | (with_reducible first | exact HB.out | apply below_alloc | apply pw_below_drewN | apply below_drew1 | refine below_set ?_ GE264.out) | exact HB.out)⟩
end Go.Proofs.Ytooojligedlpeaa.G
end
section
namespace Go.Proofs.Ytooojligedlpeaa.G
open Go.RowKit Go.Proofs.YtooojligedlpeaaW.PrintWords Go.Proofs.YtooojligedlpeaaW.PrintLast Go.Proofs.YtooojligedlpeaaW.PrintMore
set_option linter.unusedVariables false
set_option linter.unusedSimpArgs false
def idxFrom {α : Type} (P : α → Bool) : List α → Nat → Int
  | [], _ => -1
  | x :: xs, i => if P x = true then (i : Int) else idxFrom P xs (i + 1)
theorem idx_any {α : Type} (P : α → Bool) : ∀ (l : List α) (i : Nat), decide (0 ≤ idxFrom P l i) = l.any P
  | [], i => rfl
  | x :: xs, i => by
    unfold idxFrom
    by_cases h : P x = true
    · rw [if_pos h]; simp [h]
    · rw [if_neg h, idx_any P xs (i + 1)]; simp [h]
theorem enters_fn {P : Program} {f : FuncId} {fn : Func} {c : Code} (hf : P.funcs[f]? = some fn) (hname : (fn.name == "runtime.NumGoroutine") = false) (hb : fn.body = some c) : ∀ (args : Array Value) (W : World), (callFunc f args).run P W = .ok (.enter f args) W := by
  intro args w
  have h1 : fn.name ≠ "runtime.NumGoroutine" := by simpa using hname
  simp [callFunc, hf, h1, hb, mark]
def Tells (c : Nat) (lb : Array Value) {α : Type} (enc : α → Value) (P : α → Bool) (w : World) (l : List α) : Prop :=
  ∀ x ∈ l, ∀ W, Below w.heap.size w W → Calls Try.prog c (#[enc x] ++ lb) W fun e W' => e = .returned (.bool (P x)) ∧ Below W.heap.size W W'
set_option maxHeartbeats 8000000 in
set_option maxRecDepth 100000 in
theorem indexFunc_int (c : Nat) (lb : Array Value) (P : Int → Bool) (A : Option Addr) (cap : Nat) (l : List Int) (w : World) (hr : Kd.C (Kd.int .i64) w A l.length l) (hrun : ∀ (args : Array Value) (W : World), (callFunc c args).run Try.prog W = .ok (.enter c args) W) (hT : Tells c lb (Value.int .i64) P w l) :
    Calls Try.prog 142 #[.slice A l.length cap, .func (.func c) #[] lb] w fun e w' => e = .returned (.int .i64 (idxFrom P l 0)) ∧ Below w.heap.size w w' := by
  have HR := Aside0.mk hr
  have HT := Aside0.mk hT
  have hE := hrun
  clear hr hT hrun
  go_enter Try.func142, Try.ntmps142
  go_wp2
  go_loopg [8] l.length (fun kq v8 w' => ∃ i : Nat, v8 = .int .i64 (i : Int) ∧ Aside0 (i + kq = l.length) ∧ Aside0 (idxFrom P l 0 = idxFrom P (l.drop i) i) ∧ Aside0 (Below w.heap.size w w'))
  case atStart => exact ⟨0, by simp, ⟨by omega⟩, ⟨by simp⟩, ⟨Below.refl _ _⟩⟩
  case round =>
    obtain ⟨i, rfl, HI, HP, HB⟩ := hrel
    cases gk with
    | zero =>
      have hi : i = l.length := by have := HI.out; omega
      subst hi
      have hb : decide ((l.length : Int) < (l.length : Int)) = false := decide_eq_false (by omega)
      have hres : idxFrom P l 0 = -1 := by rw [HP.out, List.drop_length]; rfl
      have HRes := Aside0.mk hres
      clear hres HP
      go_wp2
      go_ret
      exact ⟨by rw [HRes.out]; rfl, HB.out⟩
    | succ gk =>
      have hlt : i < l.length := by have := HI.out; omega
      have hb : decide ((i : Int) < (l.length : Int)) = true := decide_eq_true (by omega)
      obtain ⟨ad, e, hx⟩ := Kd.at_int HR.out (i : Int) (by omega) (by omega)
      cases e
      have hlen := HR.out.2.1
      have hmax : (i : Int) + 1 ≤ 9223372036854775807 := by omega
      have hcell : wr.cell? (ad.add i) = some (.int .i64 (rd l (i : Int))) := by
        have h1 := (HB.out.cell (World.block_lt_of_cell? w _ hx)).trans hx
        simpa using h1
      have p0 : (0 ≤ (i : Int)) = True := eq_true (by omega)
      have q0 : ((i : Int) < (l.length : Int)) = True := eq_true (by omega)
      clear hx
      have hstep : idxFrom P l 0 = if P (rd l (i : Int)) = true then (i : Int) else idxFrom P (l.drop (i + 1)) (i + 1) := by
        rw [HP.out, List.drop_eq_getElem_cons hlt, idxFrom]
        simp [rd, List.getElem?_eq_getElem hlt]
      have HS := Aside0.mk hstep
      clear hstep HP
      go_wp2_with fail
      refine (HT.out _ (by simp only [rd, Int.toNat_natCast, List.getD_eq_getElem?_getD, List.getElem?_eq_getElem hlt, Option.getD_some]; exact List.getElem_mem hlt) wr HB.out).mono ?_
      rintro e w1 ⟨rfl, hb1⟩
      have HB1 := Aside0.mk (HB.out.trans (hb1.mono HB.out.size))
      clear hb1 HB hcell
      by_cases hP : P (rd l (i : Int)) = true
      · have HR1 := Aside0.mk (HS.out.trans (if_pos hP))
        go_wp2
        go_ret
        exact ⟨by rw [HR1.out]; rfl, HB1.out⟩
      · have HR1 := Aside0.mk (HS.out.trans (if_neg hP))
        have hP' : P (rd l (i : Int)) = false := by simpa using hP
        clear hP
        go_wp2
        go_roundg gk
        case measure => omega
        case rel => exact ⟨i + 1, by go_num, ⟨by have := HI.out; omega⟩, ⟨HR1.out⟩, HB1⟩
set_option maxHeartbeats 8000000 in
set_option maxRecDepth 100000 in
theorem containsFunc_int (c : Nat) (lb : Array Value) (P : Int → Bool) (A : Option Addr) (cap : Nat) (l : List Int) (w : World) (hr : Kd.C (Kd.int .i64) w A l.length l) (hrun : ∀ (args : Array Value) (W : World), (callFunc c args).run Try.prog W = .ok (.enter c args) W) (hT : Tells c lb (Value.int .i64) P w l) :
    Calls Try.prog 136 #[.slice A l.length cap, .func (.func c) #[] lb] w fun e w' => e = .returned (.bool (l.any P)) ∧ Below w.heap.size w w' := by
  have HR := Aside0.mk hr
  have HT := Aside0.mk hT
  have HE := Aside0.mk hrun
  clear hr hT hrun
  have hany : decide (0 ≤ idxFrom P l 0) = l.any P := idx_any P l 0
  have HA := Aside0.mk hany
  clear hany
  generalize hx : l.any P = b at HA ⊢
  clear hx
  go_enter Try.func136, Try.ntmps136
  go_wp2_with (go_at_call 142; refine (indexFunc_int c lb P A cap l _ HR.out HE.out HT.out).mono ?_; rintro e w1 ⟨rfl, hb1⟩)
  go_ret
  exact ⟨by rw [← HA.out]; rfl, hb1⟩
end Go.Proofs.Ytooojligedlpeaa.G
end
section
namespace Go.Proofs.Ytooojligedlpeaa.G
open Go.RowKit Go.Proofs.YtooojligedlpeaaW.PrintWords
set_option linter.unusedVariables false
set_option linter.unusedSimpArgs false
abbrev Fk := S49
def isVal (n : Int) : Bool := decide (0 ≤ n ∧ n ≤ 96)
def atV (l : List Int) (k : Int) : Int := if 0 ≤ k ∧ k < (l.length : Int) then rd l k else 0
end Go.Proofs.Ytooojligedlpeaa.G
end
section
namespace Go.Proofs.Ytooojligedlpeaa.G
open Go.RowKit Go.Proofs.YtooojligedlpeaaW.PrintWords Go.Proofs.YtooojligedlpeaaW.PrintLast Go.Proofs.YtooojligedlpeaaW.PrintMore
set_option linter.unusedVariables false
set_option linter.unusedSimpArgs false
theorem isVal_f (n : Int) : impl_isValue.f n = some (isVal n) := by
  unfold impl_isValue.f isVal
  by_cases h : n ≥ 0
  · rw [if_pos h]; simp only [ge_iff_le] at h; simp [h]
  · rw [if_neg h]; simp only [ge_iff_le] at h; simp [h]
def impl_areValues.f (l0 : List Int) : Option Bool := some (l0.all isVal)
theorem areValues1_calls (n : Int) (w : World) : Calls Try.prog 137 #[.int .i64 n] w fun e w' => e = .returned (.bool (!isVal n)) ∧ Below w.heap.size w w' := by
  have H := Aside0.mk (isVal_f n)
  go_enter Try.func137, Try.ntmps137
  go_wp2_with (go_at_call 120; refine (impl_isValue.calls n _ _ H.out).mono ?_; rintro e w' ⟨rfl, ⟨m, rfl⟩⟩)
  go_ret
  exact ⟨rfl, pw_below_drewN (Below.refl _ _) m⟩
theorem impl_areValues.calls (A0 : Option Addr) (c0 : Nat) (l0 : List Int) (r : Bool) (w : World) (hr0 : Kd.C (Kd.int .i64) w A0 l0.length l0) (hc0 : l0.length ≤ c0) (h : impl_areValues.f l0 = some r) :
    Calls Try.prog 114 #[.slice A0 l0.length c0] w fun e w' => e = .returned (.bool r) ∧ Below w.heap.size w w' := by
  have HR := Aside0.mk hr0
  clear hr0 hc0
  have hx : (!(l0.any fun n => !isVal n)) = r := by
    unfold impl_areValues.f at h
    injection h with h
    rw [← h, List.all_eq_not_any_not]
  clear h
  have HT : Aside0 (Tells 137 #[] (Value.int .i64) (fun n => !isVal n) w l0) := ⟨fun x _ W _ => areValues1_calls x W⟩
  have HE : Aside0 (∀ (args : Array Value) (W : World), (callFunc 137 args).run Try.prog W = .ok (.enter 137 args) W) := ⟨enters_fn Try.func137 (by kernel_rfl) rfl⟩
  generalize hb : (l0.any fun n => !isVal n) = b at hx
  have HB := Aside0.mk hb
  have HX := Aside0.mk hx
  clear hb hx
  go_enter Try.func114, Try.ntmps114
  go_wp2_with (go_at_call 136; refine (containsFunc_int 137 #[] (fun n => !isVal n) A0 c0 l0 _ HR.out HE.out HT.out).mono ?_; rintro e w1 ⟨rfl, hb1⟩; rw [HB.out])
  go_ret
  exact ⟨by rw [← HX.out]; rfl, hb1⟩
end Go.Proofs.Ytooojligedlpeaa.G
end
section
namespace Go.Proofs.Ytooojligedlpeaa.G
open Go.RowKit Go.Proofs.YtooojligedlpeaaW.PrintWords Go.Proofs.YtooojligedlpeaaW.PrintLast Go.Proofs.YtooojligedlpeaaW.PrintMore
attribute [local go_sem] max2_int min2_int max_two min_two max_three min_three max_four min_four
set_option linter.unusedVariables false
set_option linter.unusedSimpArgs false
def impl_valuesOk.f (l0 : List Int) : Option (Bool) := if (l0.length : Int) ≤ 10 then ((impl_areValues.f l0).bind fun t290 => (some t290)) else (some false)
set_option maxHeartbeats 8000000 in
set_option maxRecDepth 100000 in
theorem impl_valuesOk.calls (A0 : Option Addr) (c0 : Nat) (l0 : List Int) (r : Bool) (w : World) (hr0 : Kd.C (Kd.int .i64) w A0 l0.length l0) (hc0 : l0.length ≤ c0) (h : impl_valuesOk.f l0 = some r) :
    Calls Try.prog 73 #[.slice A0 l0.length c0] w fun e w' => e = .returned (.bool r) ∧ Below w.heap.size w w' := by
  have HR0 := Aside0.mk hr0
  have HC0 := Aside0.mk hc0
  clear hr0 hc0
  have HB := Aside0.mk (Below.refl w.heap.size w)
  have H : (if (l0.length : Int) ≤ 10 then ((impl_areValues.f l0).bind fun t290 => (some t290)) else (some false)) = some r := h
  clear h
  by_cases c2 : (l0.length : Int) ≤ 10
  · rw [if_pos c2] at H
    have c2b0 : decide ((l0.length : Int) ≤ 10) = true := decide_eq_true c2
    have c2b1 : decide (l0.length ≤ 10) = true := decide_eq_true (by omega)
    clear c2
    replace H := Option.bind_eq_some_iff.mp H
    obtain ⟨t290, A30, H⟩ := H
    replace H : (some t290) = some r := H
    have A3 := Aside0.mk A30
    clear A30
    obtain rfl := Option.some.inj H
    go_enter Try.func73, Try.ntmps73
    go_wp2_with (first | (go_at_call 114; (with_reducible refine (impl_areValues.calls _ _ l0 t290 _ ?side1 ?side2 A3.out).mono ?_); (case side1 => repeat (first | exact HR0.out | (with_reducible refine Kd.C_alloc ?_ _) | (with_reducible refine Kd.C_drewN ?_ _) | (with_reducible refine Kd.C_drew ?_))); (case side2 => exact HC0.out); rintro e w4 ⟨rfl, hb⟩; have n0_ := Aside0.mk (below_step (by repeat (first | (with_reducible first | exact HB.out | apply below_alloc | apply pw_below_drewN | apply below_drew1) | exact HB.out)) hb); clear HB; have HB := n0_; clear n0_; (try clear hb); (try clear hb2); (try clear hk); (try clear hi)))
    go_ret
    exact ⟨by first | rfl | (simp [errW_none, errW_some] <;> rfl) | (simp [*, errW_none, errW_some] <;> rfl), by repeat (first | (with_reducible first | exact HB.out | apply below_alloc | apply pw_below_drewN | apply below_drew1) | exact HB.out)⟩
  · rw [if_neg c2] at H
    have c2b0 : decide ((l0.length : Int) ≤ 10) = false := decide_eq_false c2
    have c2b1 : decide (l0.length ≤ 10) = false := decide_eq_false (by omega)
    clear c2
    obtain rfl := Option.some.inj H
    go_enter Try.func73, Try.ntmps73
    go_wp2
    go_ret
    exact ⟨by first | rfl | (simp [errW_none, errW_some] <;> rfl) | (simp [*, errW_none, errW_some] <;> rfl), by repeat (first | (with_reducible first | exact HB.out | apply below_alloc | apply pw_below_drewN | apply below_drew1) | exact HB.out)⟩
def impl_at.f (l0 : List Int) (a1 : Int) : Option (Int) := if a1 < 0 then (some 0) else (if a1 ≥ (l0.length : Int) then (some 0) else (if 0 ≤ a1 then (if a1 < (l0.length : Int) then (some (rd l0 a1)) else (none)) else (none)))
set_option maxHeartbeats 8000000 in
set_option maxRecDepth 100000 in
theorem impl_at.calls (A0 : Option Addr) (c0 : Nat) (l0 : List Int) (a1 : Int) (r : Int) (w : World) (hr0 : Kd.C (Kd.int .i64) w A0 l0.length l0) (hc0 : l0.length ≤ c0) (h : impl_at.f l0 a1 = some r) :
    Calls Try.prog 80 #[.slice A0 l0.length c0, .int .i64 a1] w fun e w' => e = .returned (.int .i64 r) ∧ Drawn0 w w' := by
  have HR0 := Aside0.mk hr0
  have HC0 := Aside0.mk hc0
  clear hr0 hc0
  have H : (if a1 < 0 then (some 0) else (if a1 ≥ (l0.length : Int) then (some 0) else (if 0 ≤ a1 then (if a1 < (l0.length : Int) then (some (rd l0 a1)) else (none)) else (none)))) = some r := h
  clear h
  by_cases c3 : a1 < 0
  · rw [if_pos c3] at H
    have c3b0 : decide (a1 < 0) = true := decide_eq_true c3
    clear c3
    obtain rfl := Option.some.inj H
    go_enter Try.func80, Try.ntmps80
    go_wp2
    go_ret
    exact ⟨by first | rfl | (simp; done) | (simp [*]; done), by repeat (first | exact Drawn0.refl _ | apply Drawn0.step)⟩
  · rw [if_neg c3] at H
    have c3b0 : decide (a1 < 0) = false := decide_eq_false c3
    clear c3
    by_cases c4 : a1 ≥ (l0.length : Int)
    · rw [if_pos c4] at H
      have c4b0 : decide ((l0.length : Int) ≤ a1) = true := decide_eq_true c4
      clear c4
      obtain rfl := Option.some.inj H
      go_enter Try.func80, Try.ntmps80
      go_wp2
      go_ret
      exact ⟨by first | rfl | (simp; done) | (simp [*]; done), by repeat (first | exact Drawn0.refl _ | apply Drawn0.step)⟩
    · rw [if_neg c4] at H
      have c4b0 : decide ((l0.length : Int) ≤ a1) = false := decide_eq_false c4
      clear c4
      by_cases c5 : 0 ≤ a1
      · rw [if_pos c5] at H
        have c5b0 : decide (0 ≤ a1) = true := decide_eq_true c5
        clear c5
        by_cases c6 : a1 < (l0.length : Int)
        · rw [if_pos c6] at H
          have c6b0 : decide (a1 < (l0.length : Int)) = true := decide_eq_true c6
          clear c6
          obtain rfl := Option.some.inj H
          have p291 : 0 ≤ (a1 : Int) := of_decide_eq_true (by first | (with_reducible assumption) | assumption)
          have q291 : a1 < (l0.length : Int) := of_decide_eq_true (by first | (with_reducible assumption) | assumption)
          obtain ⟨ad291, e291, hx291_0⟩ := Kd.at_int HR0.out a1 p291 q291
          cases e291
          replace p291 := eq_true p291
          replace q291 := eq_true q291
          go_enter Try.func80, Try.ntmps80
          go_wp2
          go_ret
          exact ⟨by first | rfl | (simp; done) | (simp [*]; done), by repeat (first | exact Drawn0.refl _ | apply Drawn0.step)⟩
        · rw [if_neg c6] at H
          exact absurd H (by simp)
      · rw [if_neg c5] at H
        exact absurd H (by simp)
end Go.Proofs.Ytooojligedlpeaa.G
end
section
namespace Go.Proofs.Ytooojligedlpeaa.G
open Go.RowKit Go.Proofs.YtooojligedlpeaaW.PrintWords Go.Proofs.YtooojligedlpeaaW.PrintLast Go.Proofs.YtooojligedlpeaaW.PrintMore
set_option linter.unusedVariables false
set_option linter.unusedSimpArgs false
def TellsFetch (c : Nat) (lb : Array Value) (P : S49 → Bool) (w : World) (l : List (S49)) : Prop :=
  ∀ x ∈ l, ∀ (cs : List Value) (W : World), Below w.heap.size w W → k49.K W x cs → Calls Try.prog c (#[.agg cs.toArray] ++ lb) W fun e W' => e = .returned (.bool (P x)) ∧ Below W.heap.size W W'
theorem rd_atFetch (l : List S49) (i : Nat) (h : i < l.length) : rd_T49 l (i : Int) = l[i] := by
  simp only [rd_T49, Int.toNat_natCast, List.getD_eq_getElem?_getD, List.getElem?_eq_getElem h, Option.getD_some]
set_option maxHeartbeats 8000000 in
set_option maxRecDepth 100000 in
theorem indexFuncFetch (c : Nat) (lb : Array Value) (P : S49 → Bool) (A : Option Addr) (cap : Nat) (l : List S49) (w : World) (hr : Kd.C k49 w A l.length l) (hrun : ∀ (args : Array Value) (W : World), (callFunc c args).run Try.prog W = .ok (.enter c args) W) (hT : TellsFetch c lb P w l) :
    Calls Try.prog 117 #[.slice A l.length cap, .func (.func c) #[] lb] w fun e w' => e = .returned (.int .i64 (idxFrom P l 0)) ∧ Below w.heap.size w w' := by
  have hu := Try.underlying49
  have HR := Aside0.mk hr
  have HT := Aside0.mk hT
  have hE := hrun
  clear hr hT hrun
  go_enter Try.func117, Try.ntmps117
  go_wp2
  go_loopg [8] l.length (fun kq v8 w' => ∃ i : Nat, v8 = .int .i64 (i : Int) ∧ Aside0 (i + kq = l.length) ∧ Aside0 (idxFrom P l 0 = idxFrom P (l.drop i) i) ∧ Aside0 (Below w.heap.size w w'))
  case atStart => exact ⟨0, by simp, ⟨by omega⟩, ⟨by simp⟩, ⟨Below.refl _ _⟩⟩
  case round =>
    obtain ⟨i, rfl, HI, HP, HB⟩ := hrel
    cases gk with
    | zero =>
      have hi : i = l.length := by have := HI.out; omega
      subst hi
      have hb : decide ((l.length : Int) < (l.length : Int)) = false := decide_eq_false (by omega)
      have hres : idxFrom P l 0 = -1 := by rw [HP.out, List.drop_length]; rfl
      have HRes := Aside0.mk hres
      clear hres HP
      go_wp2
      go_ret
      exact ⟨by rw [HRes.out]; rfl, HB.out⟩
    | succ gk =>
      have hlt : i < l.length := by have := HI.out; omega
      have hb : decide ((i : Int) < (l.length : Int)) = true := decide_eq_true (by omega)
      obtain ⟨ad, e, hx0, hx1⟩ := at_T49 HR.out (i : Int) (by omega) (by omega)
      cases e
      have hlen := HR.out.2.1
      have hmax : (i : Int) + 1 ≤ 9223372036854775807 := by omega
      have hc0 : wr.cell? (ad.add (i * 2)) = some (.int .i64 (rd_T49 l (i : Int)).f0) := by
        have h1 := (HB.out.cell (World.block_lt_of_cell? w _ hx0)).trans hx0
        simpa only [Int.toNat_natCast] using h1
      have hc1 : wr.cell? (⟨(ad.add (i * 2)).block, (ad.add (i * 2)).off + 1, none⟩) = some (.int .i64 (rd_T49 l (i : Int)).f1) := by
        have h1 := (HB.out.cell (World.block_lt_of_cell? w _ hx1)).trans hx1
        simpa only [Int.toNat_natCast] using h1
      have HK := Aside0.mk (k49_mk wr (rd_T49 l (i : Int)))
      clear hx0 hx1
      have p0 : (0 ≤ (i : Int)) = True := eq_true (by omega)
      have q0 : ((i : Int) < (l.length : Int)) = True := eq_true (by omega)
      have hstep : idxFrom P l 0 = if P (rd_T49 l (i : Int)) = true then (i : Int) else idxFrom P (l.drop (i + 1)) (i + 1) := by
        rw [HP.out, List.drop_eq_getElem_cons hlt, idxFrom, rd_atFetch l i hlt]
      have HS := Aside0.mk hstep
      clear hstep HP
      go_wp2_with fail
      refine (HT.out _ (by rw [rd_atFetch l i hlt]; exact List.getElem_mem hlt) _ wr HB.out HK.out).mono ?_
      rintro e w1 ⟨rfl, hb1⟩
      have HB1 := Aside0.mk (HB.out.trans (hb1.mono HB.out.size))
      clear hb1 HB hc0 hc1 HK
      by_cases hP : P (rd_T49 l (i : Int)) = true
      · have HR1 := Aside0.mk (HS.out.trans (if_pos hP))
        go_wp2
        go_ret
        exact ⟨by rw [HR1.out]; rfl, HB1.out⟩
      · have HR1 := Aside0.mk (HS.out.trans (if_neg hP))
        have hP' : P (rd_T49 l (i : Int)) = false := by simpa using hP
        clear hP
        go_wp2
        go_roundg gk
        case measure => omega
        case rel => exact ⟨i + 1, by go_num, ⟨by have := HI.out; omega⟩, ⟨HR1.out⟩, HB1⟩
set_option maxHeartbeats 8000000 in
set_option maxRecDepth 100000 in
theorem containsFuncFetch (c : Nat) (lb : Array Value) (P : S49 → Bool) (A : Option Addr) (cap : Nat) (l : List S49) (w : World) (hr : Kd.C k49 w A l.length l) (hrun : ∀ (args : Array Value) (W : World), (callFunc c args).run Try.prog W = .ok (.enter c args) W) (hT : TellsFetch c lb P w l) :
    Calls Try.prog 78 #[.slice A l.length cap, .func (.func c) #[] lb] w fun e w' => e = .returned (.bool (l.any P)) ∧ Below w.heap.size w w' := by
  have HR := Aside0.mk hr
  have HT := Aside0.mk hT
  have HE := Aside0.mk hrun
  clear hr hT hrun
  have hany : decide (0 ≤ idxFrom P l 0) = l.any P := idx_any P l 0
  have HA := Aside0.mk hany
  clear hany
  generalize hx : l.any P = b at HA ⊢
  clear hx
  go_enter Try.func78, Try.ntmps78
  go_wp2_with (go_at_call 117; refine (indexFuncFetch c lb P A cap l _ HR.out HE.out HT.out).mono ?_; rintro e w1 ⟨rfl, hb1⟩)
  go_ret
  exact ⟨by rw [← HA.out]; rfl, hb1⟩
end Go.Proofs.Ytooojligedlpeaa.G
end
section
namespace Go.Proofs.Ytooojligedlpeaa.G
open Go.RowKit Go.Proofs.YtooojligedlpeaaW.PrintWords Go.Proofs.YtooojligedlpeaaW.PrintLast Go.Proofs.YtooojligedlpeaaW.PrintMore
set_option linter.unusedVariables false
set_option linter.unusedSimpArgs false
def onceF (out : List Fk) (f : Fk) : List Fk := if (out.any fun g => g.f0 == f.f0) = true then out else out ++ [f]
def onceL (l : List Fk) : List Fk := l.foldl onceF []
def impl_once.f (l0 : List Fk) : Option (List Fk) := if l0.length < 8796093022208 then some (onceL l0) else none
theorem onceF_length (out : List Fk) (f : Fk) : (onceF out f).length ≤ out.length + 1 := by
  unfold onceF
  split
  · omega
  · simp
theorem onceL_take (l : List Fk) (i : Nat) (h : i < l.length) : (l.take (i + 1)).foldl onceF [] = onceF ((l.take i).foldl onceF []) l[i] := by
  rw [List.take_succ_eq_append_getElem h, List.foldl_append]
  rfl
theorem onceL_len (l : List Fk) : ∀ i, i ≤ l.length → ((l.take i).foldl onceF []).length ≤ i := by
  intro i
  induction i with
  | zero => intro _; simp
  | succ i ih =>
    intro h
    rw [onceL_take l i (by omega)]
    have := onceF_length ((l.take i).foldl onceF []) l[i]
    have := ih (by omega)
    omega
theorem infoF : (Try.prog.info? 49).map (fun i => (i.zero, i.size, i.bytes)) = some (some (.agg #[(.int .i64 0), (.int .i64 0)]), 2, 16) := by kernel_rfl
set_option maxHeartbeats 8000000 in
set_option maxRecDepth 100000 in
theorem impl_once_1.calls (g : Fk) (B : Nat) (x : Int) (w : World) (hc : w.cell? ⟨B, 0, none⟩ = some (.int .i64 x)) :
    Calls Try.prog 112 #[.agg #[.int .i64 g.f0, .int .i64 g.f1], .pointer (some ⟨B, 0, none⟩)] w fun e w' => e = .returned (.bool (g.f0 == x)) ∧ Below w.heap.size w w' := by
  have hu := Try.underlying49
  have hc' : (w.alloc (.cells #[.int .i64 g.f0, .int .i64 g.f1] 49)).cell? ⟨B, 0, none⟩ = some (.int .i64 x) := (((Below.refl w.heap.size w).alloc (Nat.le_refl _) _).cell (World.block_lt_of_cell? w _ hc)).trans hc
  go_enter Try.func112, Try.ntmps112
  go_wp2
  go_ret
  exact ⟨rfl, (Below.refl _ _).alloc (Nat.le_refl _) _⟩
set_option maxHeartbeats 8000000 in
set_option maxRecDepth 100000 in
theorem impl_once.calls (A0 : Option Addr) (c0 : Nat) (l0 : List Fk) (r : List Fk) (w : World) (hr0 : Kd.C k49 w A0 l0.length l0) (hc0 : l0.length ≤ c0) (h : impl_once.f l0 = some r) :
    Calls Try.prog 68 #[.slice A0 l0.length c0] w fun e w' => ∃ v0_ : Value, e = .returned (v0_) ∧ Kd.R k49 49 w' w.heap.size (fun _ => True) v0_ r ∧ Below w.heap.size w w' := by
  have hu := Try.underlying49
  have HR := Aside0.mk hr0
  clear hr0 hc0
  unfold impl_once.f at h
  by_cases hl : l0.length < 8796093022208
  · rw [if_pos hl] at h
    obtain rfl := Option.some.inj h
    have HL := Aside0.mk hl
    clear h hl
    have HE : Aside0 (∀ (args : Array Value) (W : World), (callFunc 112 args).run Try.prog W = .ok (.enter 112 args) W) := ⟨enters_fn Try.func112 (by kernel_rfl) rfl⟩
    have hmf : ∀ (fn : Fn) (first cap : Array Value) (W : World), (Instr.makeFunc fn first cap).run Try.prog W = .ok (.func fn first cap) W := fun _ _ _ _ => rfl
    go_enter Try.func68, Try.ntmps68
    go_wp2
    go_loopg [3, 8] l0.length (fun kq v3 v8 w' => ∃ i : Nat, v8 = .int .i64 (i : Int) ∧ Aside0 (i + kq = l0.length) ∧ Aside0 (Kd.R k49 49 w' w.heap.size (fun _ => True) v3 ((l0.take i).foldl onceF [])) ∧ Aside0 (Below w.heap.size w w'))
    case atStart => exact ⟨0, by simp, ⟨by omega⟩, ⟨Kd.R_nil _ _ _ _ _⟩, ⟨Below.refl _ _⟩⟩
    case round =>
      obtain ⟨i, rfl, HI, HO, HB⟩ := hrel
      cases gk with
      | zero =>
        have hi : i = l0.length := by have := HI.out; omega
        subst hi
        have hb : decide ((l0.length : Int) < (l0.length : Int)) = false := decide_eq_false (by omega)
        go_wp2
        go_ret
        exact ⟨_, rfl, by have := HO.out; rwa [List.take_length] at this, HB.out⟩
      | succ gk =>
        have hlt : i < l0.length := by have := HI.out; omega
        have hb : decide ((i : Int) < (l0.length : Int)) = true := decide_eq_true (by omega)
        obtain ⟨ad, e, hx0, hx1⟩ := at_T49 HR.out (i : Int) (by omega) (by omega)
        cases e
        have hmax : (i : Int) + 1 ≤ 9223372036854775807 := by have := HL.out; omega
        have hc0 : wr.cell? (ad.add (i * 2)) = some (.int .i64 (rd_T49 l0 (i : Int)).f0) := by
          have h1 := (HB.out.cell (World.block_lt_of_cell? w _ hx0)).trans hx0
          simpa only [Int.toNat_natCast] using h1
        have hc1 : wr.cell? ⟨(ad.add (i * 2)).block, (ad.add (i * 2)).off + 1, none⟩ = some (.int .i64 (rd_T49 l0 (i : Int)).f1) := by
          have h1 := (HB.out.cell (World.block_lt_of_cell? w _ hx1)).trans hx1
          simpa only [Int.toNat_natCast] using h1
        have hrd := rd_atFetch l0 i hlt
        have HRD := Aside0.mk hrd
        clear hx0 hx1 hrd
        have p0 : (0 ≤ (i : Int)) = True := eq_true (by omega)
        have q0 : ((i : Int) < (l0.length : Int)) = True := eq_true (by omega)
        have hout := onceL_take l0 i hlt
        have hol := onceL_len l0 i (by omega)
        have HOUT := Aside0.mk hout
        have HOL := Aside0.mk hol
        clear hout hol
        generalize (l0.take i).foldl onceF [] = out at HO HOUT HOL
        obtain ⟨Ao, co, eo⟩ := Kd.R_slice HO.out
        subst eo
        go_wp2_with fail
        have hz0 : (wr.alloc (.cells #[.int .i64 (rd_T49 l0 (i : Int)).f0, .int .i64 (rd_T49 l0 (i : Int)).f1] 49)).cell? ⟨wr.heap.size, 0, none⟩ = some (.int .i64 (rd_T49 l0 (i : Int)).f0) := by go_simp
        have hz1 : (wr.alloc (.cells #[.int .i64 (rd_T49 l0 (i : Int)).f0, .int .i64 (rd_T49 l0 (i : Int)).f1] 49)).cell? ⟨wr.heap.size, 1, none⟩ = some (.int .i64 (rd_T49 l0 (i : Int)).f1) := by go_simp
        have HZ0 := Aside0.mk hz0
        have HZ1 := Aside0.mk hz1
        clear hz0 hz1
        refine (containsFuncFetch 112 #[.pointer (some ⟨wr.heap.size, 0, none⟩)] (fun g => g.f0 == (rd_T49 l0 (i : Int)).f0) Ao co out _ (Kd.R_reads' (Kd.R_alloc HO.out _)).2.2 HE.out (fun x _ cs W hb hK => by
          obtain rfl := k49_open hK
          exact impl_once_1.calls x wr.heap.size _ W ((hb.cell (p := ⟨wr.heap.size, 0, none⟩) (by simp)).trans HZ0.out))).mono ?_
        rintro e w1 ⟨rfl, hb1⟩
        have HB0 := Aside0.mk (Below.trans (HB.out.alloc HB.out.size (.cells #[.int .i64 (rd_T49 l0 (i : Int)).f0, .int .i64 (rd_T49 l0 (i : Int)).f1] 49)) (hb1.mono (by have := HB.out.size; simp; omega)))
        have hy0 : w1.cell? ⟨wr.heap.size, 0, none⟩ = some (.int .i64 (rd_T49 l0 (i : Int)).f0) := (hb1.cell (p := ⟨wr.heap.size, 0, none⟩) (by simp)).trans HZ0.out
        have hy1 : w1.cell? ⟨wr.heap.size, 1, none⟩ = some (.int .i64 (rd_T49 l0 (i : Int)).f1) := (hb1.cell (p := ⟨wr.heap.size, 1, none⟩) (by simp)).trans HZ1.out
        have HO1 := Aside0.mk (Kd.R_below (Kd.R_alloc HO.out (.cells #[.int .i64 (rd_T49 l0 (i : Int)).f0, .int .i64 (rd_T49 l0 (i : Int)).f1] 49)) hb1)
        clear hb1 HB HO HZ0 HZ1 hc0 hc1
        rw [← HRD.out] at HOUT
        by_cases hany : (out.any fun g => g.f0 == (rd_T49 l0 (i : Int)).f0) = true
        · have HN : Aside0 (out = (l0.take (i + 1)).foldl onceF []) := ⟨by rw [HOUT.out, onceF, if_pos hany]⟩
          rw [hany]
          clear hany
          go_wp2
          go_roundg gk
          case measure => omega
          case rel => exact ⟨i + 1, by go_num, ⟨by have := HI.out; omega⟩, ⟨by rw [← HN.out]; exact HO1.out⟩, HB0⟩
        · have HN : Aside0 (out ++ [rd_T49 l0 (i : Int)] = (l0.take (i + 1)).foldl onceF []) := ⟨by rw [HOUT.out, onceF, if_neg hany]⟩
          rw [Bool.eq_false_iff.mpr hany]
          clear hany
          go_wp2_with (first | (at_builtin; refine Kd.R_append k49 (w0 := w) w.heap.size rfl (.tmp 16) (.tmp 18) 45 49 (.agg #[(.int .i64 0), (.int .i64 0)]) 16 rfl Try.underlying45 infoF rfl (by decide) (by omega) (.slice Ao out.length co) out (rd_T49 l0 (i : Int)) [.int .i64 (rd_T49 l0 (i : Int)).f0, .int .i64 (rd_T49 l0 (i : Int)).f1] (fun _ => True) (fun _ => False) rfl rfl ?aP (fun _ hk => hk.elim) ?aF ?aO ?aB ?aS ?aL ?_; (case aP => exact k49_mkM _ _ _ _); (case aB => exact HB0.out); (case aF => exact (fun _ _ => trivial)); (case aO => exact HO1.out); (case aS => exact HB0.out.size); (case aL => have := HOL.out; have := HL.out; omega); intro v2 w2 ho hb hg hat; have HO2 := Aside0.mk ho; have HB2 := Aside0.mk hb; clear ho hb hg hat))
          go_roundg gk
          case measure => omega
          case rel => exact ⟨i + 1, by go_num, ⟨by have := HI.out; omega⟩, ⟨by rw [← HN.out]; exact HO2.out⟩, HB2⟩
  · rw [if_neg hl] at h
    cases h
end Go.Proofs.Ytooojligedlpeaa.G
end
section
namespace Go.Proofs.Ytooojligedlpeaa.G
open Go.RowKit Go.Proofs.YtooojligedlpeaaW.PrintWords Go.Proofs.YtooojligedlpeaaW.PrintLast Go.Proofs.YtooojligedlpeaaW.PrintMore
set_option linter.unusedVariables false
set_option linter.unusedSimpArgs false
theorem at_f (l : List Int) (k : Int) : impl_at.f l k = some (atV l k) := by
  unfold impl_at.f atV
  by_cases h1 : k < 0
  · rw [if_pos h1, if_neg (by omega)]
  · rw [if_neg h1]
    by_cases h2 : k ≥ (l.length : Int)
    · rw [if_pos h2, if_neg (by omega)]
    · rw [if_neg h2, if_pos (by omega), if_pos (by omega), if_pos (by omega)]
def holdsL (u : List Fk) (l : List Int) : Bool := !(u.any fun f => atV l f.f0 != f.f1)
def impl_Trace_holds.f (a0 : Int) (l1 : List Fk) (a2 : Int) (l : List Int) : Option Bool := some (holdsL l1 l)
set_option maxHeartbeats 8000000 in
set_option maxRecDepth 100000 in
theorem impl_Trace_holds_1.calls (g : Fk) (B : Nat) (A : Option Addr) (c : Nat) (l : List Int) (w : World) (hc : w.cell? ⟨B, 0, none⟩ = some (.slice A l.length c)) (hr : Kd.C (Kd.int .i64) w A l.length l) (hlc : l.length ≤ c) :
    Calls Try.prog 122 #[.agg #[.int .i64 g.f0, .int .i64 g.f1], .pointer (some ⟨B, 0, none⟩)] w fun e w' => e = .returned (.bool (atV l g.f0 != g.f1)) ∧ Below w.heap.size w w' := by
  have hu := Try.underlying49
  have hc' : (w.alloc (.cells #[.int .i64 g.f0, .int .i64 g.f1] 49)).cell? ⟨B, 0, none⟩ = some (.slice A l.length c) := (((Below.refl w.heap.size w).alloc (Nat.le_refl _) _).cell (World.block_lt_of_cell? w _ hc)).trans hc
  have HR := Aside0.mk (Kd.C_alloc hr (.cells #[.int .i64 g.f0, .int .i64 g.f1] 49))
  have HA := Aside0.mk (at_f l g.f0)
  have HLC := Aside0.mk hlc
  clear hlc
  go_enter Try.func122, Try.ntmps122
  go_wp2_with fail
  go_quiet ((go_at_call 80; refine Calls.quiet_of ((impl_at.calls _ _ _ _ _ _ (Kd.C_drewN HR.out _) HLC.out HA.out).mono fun e w' h => ⟨h.1, h.2.out⟩)))
  go_wp2
  go_ret
  exact ⟨rfl, pw_below_drewN ((Below.refl _ _).alloc (Nat.le_refl _) _) nq⟩
set_option maxHeartbeats 8000000 in
set_option maxRecDepth 100000 in
theorem impl_Trace_holds.calls (a0_0 : Int) (A0_1 : Option Addr) (c0_1 : Nat) (l0_1 : List Fk) (a0_2 : Int) (A1 : Option Addr) (c1 : Nat) (l1 : List Int) (r : Bool) (w : World) (hr0_1 : Kd.C k49 w A0_1 l0_1.length l0_1) (hc0_1 : l0_1.length ≤ c0_1) (hr1 : Kd.C (Kd.int .i64) w A1 l1.length l1) (hc1 : l1.length ≤ c1) (h : impl_Trace_holds.f a0_0 l0_1 a0_2 l1 = some r) :
    Calls Try.prog 91 #[.agg #[.int .i64 a0_0, .slice A0_1 l0_1.length c0_1, .int .i64 a0_2], .slice A1 l1.length c1] w fun e w' => e = .returned (.bool r) ∧ Below w.heap.size w w' := by
  have hu53 := Try.underlying63
  obtain rfl := Option.some.inj h
  clear h
  have HR0 := Aside0.mk hr0_1
  have HR1 := Aside0.mk hr1
  have HC1 := Aside0.mk hc1
  clear hr0_1 hr1 hc1 hc0_1
  have HE : Aside0 (∀ (args : Array Value) (W : World), (callFunc 122 args).run Try.prog W = .ok (.enter 122 args) W) := ⟨enters_fn Try.func122 (by kernel_rfl) rfl⟩
  have hmf : ∀ (fn : Fn) (first cap : Array Value) (W : World), (Instr.makeFunc fn first cap).run Try.prog W = .ok (.func fn first cap) W := fun _ _ _ _ => rfl
  go_enter Try.func91, Try.ntmps91
  go_wp2_with fail
  have hz : ((w.alloc (.cells #[.int .i64 a0_0, .slice A0_1 l0_1.length c0_1, .int .i64 a0_2] 63)).alloc (.cells #[.slice A1 l1.length c1] 28)).cell? ⟨w.heap.size + 1, 0, none⟩ = some (.slice A1 l1.length c1) := by go_simp
  have HZ := Aside0.mk hz
  clear hz
  have HS : Aside0 (((w.alloc (.cells #[.int .i64 a0_0, .slice A0_1 l0_1.length c0_1, .int .i64 a0_2] 63)).alloc (.cells #[.slice A1 l1.length c1] 28)).heap.size = w.heap.size + 2) := ⟨by simp⟩
  have HV := Aside0.mk (Kd.C_alloc (Kd.C_alloc HR1.out (.cells #[.int .i64 a0_0, .slice A0_1 l0_1.length c0_1, .int .i64 a0_2] 63)) (.cells #[.slice A1 l1.length c1] 28))
  refine (containsFuncFetch 122 #[.pointer (some ⟨w.heap.size + 1, 0, none⟩)] (fun f => atV l1 f.f0 != f.f1) A0_1 c0_1 l0_1 _ (Kd.C_alloc (Kd.C_alloc HR0.out _) _) HE.out (fun x _ cs W hb hK => by
    obtain rfl := k49_open hK
    exact impl_Trace_holds_1.calls x (w.heap.size + 1) A1 c1 l1 W ((hb.cell (p := ⟨w.heap.size + 1, 0, none⟩) (by rw [HS.out]; exact Nat.lt_succ_self _)).trans HZ.out) (Kd.C_below HV.out hb) HC1.out)).mono ?_
  rintro e w1 ⟨rfl, hb1⟩
  have HB := Aside0.mk (Below.trans (((Below.refl w.heap.size w).alloc (Nat.le_refl _) (.cells #[.int .i64 a0_0, .slice A0_1 l0_1.length c0_1, .int .i64 a0_2] 63)).alloc (by simp) (.cells #[.slice A1 l1.length c1] 28)) (hb1.mono (by rw [HS.out]; exact Nat.le_add_right _ _)))
  clear hb1
  go_wp2
  go_ret
  exact ⟨rfl, HB.out⟩
end Go.Proofs.Ytooojligedlpeaa.G
end
section
namespace Go.Proofs.Ytooojligedlpeaa.G
open Go.RowKit Go.Proofs.YtooojligedlpeaaW.PrintWords Go.Proofs.YtooojligedlpeaaW.PrintLast Go.Proofs.YtooojligedlpeaaW.PrintMore
set_option linter.unusedVariables false
set_option linter.unusedSimpArgs false
structure RunAt (w0 : World) (B V : Nat) (A : Option Addr) (c : Nat) (vs : List Int) (S : Nat → Prop) (out : List Fk) (W : World) : Prop where
  below : Below w0.heap.size w0 W
  hv : W.heap[V]? = some (.cells #[.slice A vs.length c] 28 (0, 0))
  hr : Kd.C (Kd.int .i64) w0 A vs.length vs
  hc : vs.length ≤ c
  ho : ∃ v, W.heap[B]? = some (.cells #[v] 45 (0, 0)) ∧ Kd.R k49 49 W w0.heap.size (fun k => ¬ S k) v out
  hS : ∀ k, S k → k < W.heap.size
  sB : S B
  ne : V ≠ B
  bB : w0.heap.size ≤ B
theorem RunAt.alloc {w0 W : World} {B V : Nat} {A : Option Addr} {c : Nat} {vs : List Int} {S : Nat → Prop} {out : List Fk} (h : RunAt w0 B V A c vs S out W) (o : Obj) : RunAt w0 B V A c vs (fun k => S k ∨ k = W.heap.size) out (W.alloc o) where
  below := h.below.alloc h.below.size o
  hv := blk_alloc h.hv o
  hr := h.hr
  hc := h.hc
  ho := by
    obtain ⟨v, h1, h2⟩ := h.ho
    exact ⟨v, blk_alloc h1 o, Kd.R_alloc (Kd.R_mono (Kd.R_bound h2) (fun k hk hs => hs.elim hk.1 (fun e => by have := hk.2.2.1; omega))) o⟩
  hS := by
    intro k hk
    have e : (W.alloc o).heap.size = W.heap.size + 1 := by simp
    rw [e]
    rcases hk with hk | hk
    · have := h.hS k hk; omega
    · omega
  sB := .inl h.sB
  ne := h.ne
  bB := h.bB
theorem RunAt.drewN {w0 W : World} {B V : Nat} {A : Option Addr} {c : Nat} {vs : List Int} {S : Nat → Prop} {out : List Fk} (h : RunAt w0 B V A c vs S out W) (m : Nat) : RunAt w0 B V A c vs S out (W.drewN m) where
  below := pw_below_drewN h.below m
  hv := blk_drewN h.hv m
  hr := h.hr
  hc := h.hc
  ho := by
    obtain ⟨v, h1, h2⟩ := h.ho
    exact ⟨v, blk_drewN h1 m, Kd.R_drewN h2 m⟩
  hS := h.hS
  sB := h.sB
  ne := h.ne
  bB := h.bB
theorem RunAt.less {w0 W : World} {B V : Nat} {A : Option Addr} {c : Nat} {vs : List Int} {S S' : Nat → Prop} {out : List Fk} (h : RunAt w0 B V A c vs S out W) (hs : ∀ k, S' k → S k) (hB : S' B) : RunAt w0 B V A c vs S' out W where
  below := h.below
  hv := h.hv
  hr := h.hr
  hc := h.hc
  ho := by
    obtain ⟨v, h1, h2⟩ := h.ho
    exact ⟨v, h1, Kd.R_mono h2 (fun k hk hs' => hk (hs k hs'))⟩
  hS := fun k hk => h.hS k (hs k hk)
  sB := hB
  ne := h.ne
  bB := h.bB
def Stays (S : Nat → Prop) (B : Nat) (W W' : World) : Prop := W.heap.size ≤ W'.heap.size ∧ ∀ k, S k → k ≠ B → W'.heap[k]? = W.heap[k]?
theorem Stays.trans {S : Nat → Prop} {B : Nat} {W W1 W2 : World} (h : Stays S B W W1) (h' : Stays S B W1 W2) : Stays S B W W2 := ⟨Nat.le_trans h.1 h'.1, fun k hk hb => (h'.2 k hk hb).trans (h.2 k hk hb)⟩
theorem Stays.less {S S' : Nat → Prop} {B : Nat} {W W1 : World} (h : Stays S B W W1) (hs : ∀ k, S' k → S k) : Stays S' B W W1 := ⟨h.1, fun k hk hb => h.2 k (hs k hk) hb⟩
def fetch1.T1 : Bool × List (List Nat × List Nat) := (true, [([], []), ([], []), ([], []), ([], []), ([2, 3], [2, 3]), ([1, 4], [1, 4]), ([5], [5]), ([0, 6, 4], [0, 6]), ([7, 7, 0, 1, 2, 3, 4, 5, 6, 7], [7])])
def fetch1.B1 : List Nat := [0, 0, 0, 0, 12, 30, 62, 127, 255]
theorem fetch1.tab1 : rtab .any (opsOf Try.f116 1) = fetch1.T1 := by kernel_rfl
theorem fetch1.bits1 : waitsOk fetch1.T1.2 fetch1.B1 = true := by kernel_rfl
theorem infoFk : (Try.prog.info? 49).map (fun i => (i.zero, i.size, i.bytes)) = some (some (.agg #[(.int .i64 0), (.int .i64 0)]), 2, 16) := by kernel_rfl
set_option maxHeartbeats 8000000 in
set_option maxRecDepth 100000 in
theorem fetched1_calls {w0 : World} {B V : Nat} {A : Option Addr} {c : Nat} {vs : List Int} {S : Nat → Prop} {out : List Fk} (key : Int) (W : World) (h : RunAt w0 B V A c vs S out W) (sV : S V) (hlen : out.length < 8796093022207) :
    Calls Try.prog 116 #[.int .i64 key, .pointer (some ⟨B, 0, none⟩), .pointer (some ⟨V, 0, none⟩)] W fun e W' =>
      e = .returned (.tuple #[.int .i64 (atV vs key), .bool true]) ∧ RunAt w0 B V A c vs S (out ++ [⟨key, atV vs key⟩]) W' ∧ Stays S B W W' := by
  have HH := Aside0.mk h
  have HA := Aside0.mk (at_f vs key)
  have HL := Aside0.mk hlen
  have SV := Aside0.mk sV
  have hu := Try.underlying49
  obtain ⟨v, hB0, hO0⟩ := h.ho
  have HB0 := Aside0.mk hB0
  have HO := Aside0.mk hO0
  have HV := Aside0.mk h.hv
  have HR := Aside0.mk (Kd.C_below h.hr h.below)
  have HC := Aside0.mk h.hc
  have HW := Aside0.mk h.below
  clear h hlen hB0 hO0 sV
  go_enter Try.func116, Try.ntmps116
  go_wp2_with fail
  refine start_ (n := 9) (S := fun w' => w'.cell? ⟨B, 0, none⟩ = some v ∧ w'.cell? ⟨V, 0, none⟩ = some (.slice A vs.length c)) (ds := [8]) #[false, false, false, false, false, false, false, false, false] (by kernel_rfl) rfl rfl ⟨(blk_cell (blk_drew HB0.out) 0).trans rfl, (blk_cell (blk_drew HV.out) 0).trans rfl⟩ (fun hHeld => ?_); refine with_tabW fetch1.tab1 fetch1.bits1 (fun HT_ HW_ => ?_)
  refine pure_ (i := 1) (N := some 7) (v := ?_) (a' := ?_) #[false, true, false, false, false, false, false, false, false] rfl rfl (any_of HT_.out (by kernel_rfl)) (fun _ _ _ h => h) (Or.inl ⟨by rfl, ?_⟩) ?_ ?_
  rotate_left
  · intro w'
    go_simp
    with_reducible rfl
  rotate_left
  · simp only [Act.put, List.setIfInBounds_toArray, List.set_cons_zero, List.set_cons_succ, i64_w, i32_w]
    rfl
  refine pure_ (i := 3) (N := some 9) (v := ?_) (a' := ?_) #[false, true, false, true, false, false, false, false, false] rfl rfl (any_of HT_.out (by kernel_rfl)) (fun _ _ _ h => h) (Or.inl ⟨by rfl, ?_⟩) ?_ ?_
  rotate_left
  · intro w'
    go_simp
    with_reducible rfl
  rotate_left
  · simp only [Act.put, List.setIfInBounds_toArray, List.set_cons_zero, List.set_cons_succ, i64_w, i32_w]
    rfl
  refine take_ (i := 0) (N := some 6) (v := ?_) (a' := ?_) #[true, true, false, true, false, false, false, false, false] rfl rfl (take_ofW HT_.out HW_.out (by kernel_rfl)) (fun _ _ _ h => h) (Or.inl ⟨by rfl, ?_⟩) hHeld ?_ ?_
  rotate_left
  · rintro w' ⟨s0, s1⟩
    go_simp
    with_reducible rfl
  rotate_left
  · simp only [Act.put, List.setIfInBounds_toArray, List.set_cons_zero, List.set_cons_succ, i64_w, i32_w]
    rfl
  refine take_ (i := 2) (N := some 8) (v := ?_) (a' := ?_) #[true, true, true, true, false, false, false, false, false] rfl rfl (take_ofW HT_.out HW_.out (by kernel_rfl)) (fun _ _ _ h => h) (Or.inl ⟨by rfl, ?_⟩) hHeld ?_ ?_
  rotate_left
  · rintro w' ⟨s0, s1⟩
    go_simp
    with_reducible rfl
  rotate_left
  · simp only [Act.put, List.setIfInBounds_toArray, List.set_cons_zero, List.set_cons_succ, i64_w, i32_w]
    rfl
  refine one_ (i := 4) (N := some 10) #[true, true, true, true, true, false, false, false, false] rfl rfl (one_of HT_.out (by kernel_rfl)) (by decide) (fun K hK => ?_)
  refine goes_ Try.func80 (by kernel_rfl) rfl #[.slice A vs.length c, .int .i64 key] (by rfl) rfl rfl (by (try simp only [List.map_toArray, List.map_cons, List.map_nil]); first | done | rfl) ?_
  refine (impl_at.calls _ _ _ _ _ _ (Kd.C_drew HR.out) HC.out HA.out).mono ?_
  rintro e w1 ⟨rfl, ⟨m, rfl⟩⟩
  refine ⟨_, rfl, ?_⟩
  refine hK.out _ _ ⟨(blk_cell (blk_drewN (blk_drew HB0.out) m) 0).trans rfl, (blk_cell (blk_drewN (blk_drew HV.out) m) 0).trans rfl⟩ (fun hHeld => ?_)
  clear hK K
  refine norm_ (a' := ?_) ?_ ?_
  rotate_left
  · show Act.put _ (some 10) _ = _
    simp only [Act.put, List.setIfInBounds_toArray, List.set_cons_zero, List.set_cons_succ, i64_w, i32_w]
    rfl
  have HB1 := Aside0.mk (blk_drewN (blk_drew HB0.out) m)
  have HV1 := Aside0.mk (blk_drewN (blk_drew HV.out) m)
  have HO1 := Aside0.mk (Kd.R_drewN (Kd.R_drew HO.out) m)
  have HH1 : Aside0 (RunAt w0 B V A c vs S out (W.drew.drewN m)) := ⟨(HH.out.drewN 1).drewN m⟩
  have HW1 := Aside0.mk (pw_below_drewN (below_drew HW.out) m)
  have HZ1 : Aside0 (W.heap.size = (W.drew.drewN m).heap.size) := ⟨rfl⟩
  have HQ1 : Aside0 (∀ k : Nat, (W.drew.drewN m).heap[k]? = W.heap[k]?) := ⟨fun _ => rfl⟩
  generalize W.drew.drewN m = W1 at *
  refine pure_ (i := 5) (N := some 11) (v := ?_) (a' := ?_) #[true, true, true, true, true, true, false, false, false] rfl rfl (any_of HT_.out (by kernel_rfl)) (fun _ _ _ h => h) (Or.inl ⟨by rfl, ?_⟩) ?_ ?_
  rotate_left
  · intro w'
    go_simp
    with_reducible rfl
  rotate_left
  · simp only [Act.put, List.setIfInBounds_toArray, List.set_cons_zero, List.set_cons_succ, i64_w, i32_w]
    rfl
  refine one_ (i := 6) (N := some 12) #[true, true, true, true, true, true, true, false, false] rfl rfl (one_of HT_.out (by kernel_rfl)) (by decide) (fun K hK => ?_)
  refine value_ (w1 := ?_) (v := ?_) (by rfl) rfl ?_ ?_
  rotate_left 2
  · go_simp
    constructor
    · rfl
    · rfl
  refine hK.out _ _ ⟨(blk_cell (blk_alloc HB1.out _) 0).trans rfl, (blk_cell (blk_alloc HV1.out _) 0).trans rfl⟩ (fun hHeld => ?_)
  clear hK K
  refine norm_ (a' := ?_) ?_ ?_
  rotate_left
  · show Act.put _ (some 12) _ = _
    simp only [Act.put, List.setIfInBounds_toArray, List.set_cons_zero, List.set_cons_succ, i64_w, i32_w]
    rfl
  refine one_ (i := 7) (N := some 13) #[true, true, true, true, true, true, true, true, false] rfl rfl (one_of HT_.out (by kernel_rfl)) (by decide) (fun K hK => ?_)
  obtain ⟨Ao, co, eo⟩ := Kd.R_slice HO1.out
  subst eo
  refine Kd.R_append_step k49 (w0 := w0) w0.heap.size (by rfl) (.tmp 6) (.tmp 12) 45 49 (.agg #[(.int .i64 0), (.int .i64 0)]) 16 rfl Try.underlying45 infoFk rfl (by decide) (by omega) (.slice Ao out.length co) out (⟨key, atV vs key⟩ : Fk) [.int .i64 key, .int .i64 (atV vs key)] (fun k => ¬ S k) (fun _ => False) rfl rfl (k49_mkM _ _ _ _) (fun _ hk => hk.elim) (fun k hk hs => by have := HH1.out.hS k hs; omega) HO1.out HW1.out HW1.out.size (by have := HL.out; omega) ?_
  intro v2 w2 ho hb hg hat
  have hs1 : w2.cell? ⟨B, 0, none⟩ = some (.slice Ao out.length co) := (blk_cell (blk_grown HB1.out hg (Kd.R_away HO1.out (fun k hk e => hk (e ▸ HH1.out.sB)))) 0).trans rfl
  have hf1 := blk_frozen (blk_grown HB1.out hg (Kd.R_away HO1.out (fun k hk e => hk (e ▸ HH1.out.sB)))) 0
  have HB2 := Aside0.mk (blk_grown HB1.out hg (Kd.R_away HO1.out (fun k hk e => hk (e ▸ HH1.out.sB))))
  have HV2 := Aside0.mk (blk_grown HV1.out hg (Kd.R_away HO1.out (fun k hk e => hk (e ▸ SV.out))))
  have HO2 := Aside0.mk ho
  have HW2 := Aside0.mk hb
  have HST : Aside0 (∀ k, S k → w2.heap[k]? = W1.heap[k]?) := ⟨fun k hk => hg.block k (HH1.out.hS k hk) (Kd.R_away HO1.out (fun k' hk' e => hk' (e ▸ hk)))⟩
  have HSZ : Aside0 (W1.heap.size ≤ w2.heap.size) := ⟨hg.size⟩
  clear ho hb hg hat
  obtain ⟨A2, c2, e2⟩ := Kd.R_slice HO2.out
  subst e2
  refine hK.out _ _ ⟨hs1, (blk_cell HV2.out 0).trans rfl⟩ (fun hHeld => ?_)
  clear hK K
  refine norm_ (a' := ?_) ?_ ?_
  rotate_left
  · show Act.put _ (some 13) _ = _
    simp only [Act.put, List.setIfInBounds_toArray, List.set_cons_zero, List.set_cons_succ, i64_w, i32_w]
    rfl
  refine last_ (i := 8) (N := none) #[true, true, true, true, true, true, true, true, true] rfl rfl (one_of HT_.out (by kernel_rfl)) (by decide) (fun K hK => ?_)
  refine skip_ (w1 := ?_) (by rfl) rfl ?_ ?_
  rotate_left
  · go_simp
    rfl
  refine hK.out _ _ ?_
  clear hK K
  refine done_ (done_of HT_.out (by kernel_rfl)) ?_
  have eL : (out ++ [(⟨key, atV vs key⟩ : Fk)]).length = out.length + 1 := by simp
  have hR2 := HO2.out
  rw [eL] at hR2
  have H3 : Aside0 (RunAt w0 B V A c vs S (out ++ [(⟨key, atV vs key⟩ : Fk)]) (w2.setCell ⟨B, 0, none⟩ (.slice A2 (out.length + 1) c2))) := ⟨{
    below := HW2.out.setCell HH1.out.bB _
    hv := blk_far HV2.out (p := ⟨B, 0, none⟩) HH1.out.ne _
    hr := HH1.out.hr
    hc := HH1.out.hc
    ho := ⟨.slice A2 (out.length + 1) c2, blk_put HB2.out 0 _ rfl, Kd.R_far (p := ⟨B, 0, none⟩) hR2 (fun k hk e => hk (e ▸ HH1.out.sB)) _⟩
    hS := fun k hk => by
      have h1 := HH1.out.hS k hk
      have h2 := HSZ.out
      have h3 : (w2.setCell ⟨B, 0, none⟩ (.slice A2 (out.length + 1) c2)).heap.size = w2.heap.size := by simp
      rw [h3]; omega
    sB := HH1.out.sB
    ne := HH1.out.ne
    bB := HH1.out.bB }⟩
  have HS3 : Aside0 (Stays S B W (w2.setCell ⟨B, 0, none⟩ (.slice A2 (out.length + 1) c2))) := ⟨by
    refine ⟨?_, fun k hk hne => ?_⟩
    · have h2 := HSZ.out
      have h3 : (w2.setCell ⟨B, 0, none⟩ (.slice A2 (out.length + 1) c2)).heap.size = w2.heap.size := by simp
      have h4 := HZ1.out
      rw [h3]; omega
    · rw [Below.heap_setCell w2 ⟨B, 0, none⟩ _ k hne, HST.out k hk]
      exact HQ1.out k⟩
  clear HB2 HV2 HO2 HW2 HST HSZ hR2 hHeld
  generalize w2.setCell ⟨B, 0, none⟩ (.slice A2 (out.length + 1) c2) = w3 at *
  have hv3 : w3.cell? ⟨V, 0, none⟩ = some (.slice A vs.length c) := (blk_cell H3.out.hv 0).trans rfl
  have HR3 := Aside0.mk (Kd.C_below H3.out.hr H3.out.below)
  go_wp2_with (go_at_call 80; refine (impl_at.calls _ _ _ _ _ _ HR3.out HC.out HA.out).mono ?_; rintro e w' ⟨rfl, ⟨m3, rfl⟩⟩)
  go_ret2
  exact ⟨rfl, H3.out.drewN m3, HS3.out.1, HS3.out.2⟩
end Go.Proofs.Ytooojligedlpeaa.G
end
section
namespace Go.Proofs.Ytooojligedlpeaa.G
open Go.RowKit Go.Proofs.YtooojligedlpeaaW.PrintWords
set_option linter.unusedVariables false
set_option linter.unusedSimpArgs false
abbrev Tk := S25
theorem tk_size (t p : Tk) (hp : p ∈ t.f2) : SizeOf.sizeOf p < SizeOf.sizeOf t := by
  have h := List.sizeOf_lt_of_mem hp
  cases t with
  | mk a b c => simp only [S25.mk.sizeOf_spec] at *; omega
theorem tk_ind {P : Tk → Prop} (h : ∀ t : Tk, (∀ p ∈ t.f2, P p) → P t) : ∀ t, P t := by
  intro t
  induction hn : SizeOf.sizeOf t using Nat.strongRecOn generalizing t with
  | _ n ih => exact h t (fun p hp => ih (SizeOf.sizeOf p) (by rw [← hn]; exact tk_size t p hp) p rfl)
def shapeB (k n : Int) (len : Nat) : Bool :=
  if k = 0 then decide (0 ≤ n ∧ n ≤ 96) && decide (len = 0)
  else if k = 1 then decide (0 ≤ n ∧ n < 10) && decide (len = 0)
  else if k = 2 then decide (n = 0) && decide (len = 2)
  else if k = 3 then decide (n = 0) && decide (len = 2)
  else if k = 4 then decide (n = 0) && decide (len = 3)
  else if k = 5 then decide (0 ≤ n ∧ n < 10) && decide (len = 1)
  else false
mutual
def fitT : Tk → Bool
  | ⟨k, n, ps⟩ => shapeB k n ps.length && fitL ps
def fitL : List Tk → Bool
  | [] => true
  | p :: ps => fitT p && fitL ps
end
mutual
def nodT : Tk → Nat
  | ⟨_, _, ps⟩ => 1 + nodL ps
def nodL : List Tk → Nat
  | [] => 0
  | p :: ps => nodT p + nodL ps
end
def okT (t : Tk) : Bool := fitT t && decide (nodT t ≤ 15)
theorem fitT_eq (t : Tk) : fitT t = (shapeB t.f0 t.f1 t.f2.length && fitL t.f2) := by cases t; simp [fitT]
theorem nodT_eq (t : Tk) : nodT t = 1 + nodL t.f2 := by cases t; simp [nodT]
theorem nodT_pos (t : Tk) : 1 ≤ nodT t := by rw [nodT_eq]; omega
theorem fitL_mem {ps : List Tk} (h : fitL ps = true) : ∀ p ∈ ps, fitT p = true := by
  induction ps with
  | nil => intro p hp; cases hp
  | cons q ps ih =>
    simp only [fitL, Bool.and_eq_true] at h
    intro p hp
    rcases List.mem_cons.1 hp with rfl | hp
    · exact h.1
    · exact ih h.2 p hp
theorem nodL_mem {ps : List Tk} : ∀ p ∈ ps, nodT p ≤ nodL ps := by
  induction ps with
  | nil => intro p hp; cases hp
  | cons q ps ih =>
    intro p hp
    simp only [nodL]
    rcases List.mem_cons.1 hp with rfl | hp
    · omega
    · have := ih p hp; omega
theorem nodL_len (ps : List Tk) : ps.length ≤ nodL ps := by
  induction ps with
  | nil => simp
  | cons q ps ih => simp only [nodL, List.length_cons]; have := nodT_pos q; omega
theorem shapeB_len {k n : Int} {len : Nat} (h : shapeB k n len = true) : len ≤ 3 := by
  unfold shapeB at h
  repeat' split at h
  all_goals first | (simp at h; done) | (simp only [Bool.and_eq_true, decide_eq_true_eq] at h; omega)
theorem okT_fit {t : Tk} (h : okT t = true) : fitT t = true := by simp only [okT, Bool.and_eq_true] at h; exact h.1
theorem okT_nod {t : Tk} (h : okT t = true) : nodT t ≤ 15 := by simp only [okT, Bool.and_eq_true, decide_eq_true_eq] at h; exact h.2
theorem rd_tk (ps : List Tk) (i : Nat) (h : i < ps.length) : rd_T25 ps (i : Int) = ps[i] := by
  simp only [rd_T25, Int.toNat_natCast, List.getD_eq_getElem?_getD, List.getElem?_eq_getElem h, Option.getD_some]
theorem drop_tk {α : Type} (ps : List α) (i : Nat) (h : i < ps.length) : ps.drop i = ps[i] :: ps.drop (i + 1) := List.drop_eq_getElem_cons h
theorem wrap_nat (i : Nat) (h : i + 1 ≤ 9223372036854775807) : wrap64 ((i : Int) + 1) = ((i + 1 : Nat) : Int) := by unfold wrap64; omega
theorem wrap_id (x : Int) (h1 : -9223372036854775808 ≤ x) (h2 : x ≤ 9223372036854775807) : wrap64 x = x := by unfold wrap64; omega
end Go.Proofs.Ytooojligedlpeaa.G
end
section
namespace Go.Proofs.Ytooojligedlpeaa.G
open Go.RowKit Go.Proofs.YtooojligedlpeaaW.PrintWords
set_option linter.unusedVariables false
set_option linter.unusedSimpArgs false
def comb (vs : List Int) (k n : Int) (rs : List (Int × List Fk)) : Int × List Fk :=
  if k = 0 then (n, [])
  else if k = 1 then (atV vs n, [⟨n, atV vs n⟩])
  else if k = 5 then (atV vs (((n + (rs.getD 0 (0, [])).1) % 10)), (rs.getD 0 (0, [])).2 ++ [⟨((n + (rs.getD 0 (0, [])).1) % 10), atV vs (((n + (rs.getD 0 (0, [])).1) % 10))⟩])
  else if k = 4 then (if (rs.getD 0 (0, [])).1 = 0 then ((rs.getD 2 (0, [])).1, (rs.getD 0 (0, [])).2 ++ (rs.getD 2 (0, [])).2) else ((rs.getD 1 (0, [])).1, (rs.getD 0 (0, [])).2 ++ (rs.getD 1 (0, [])).2))
  else if k = 3 then (((rs.getD 0 (0, [])).1 * (rs.getD 1 (0, [])).1) % 97, (rs.getD 0 (0, [])).2 ++ (rs.getD 1 (0, [])).2)
  else (((rs.getD 0 (0, [])).1 + (rs.getD 1 (0, [])).1) % 97, (rs.getD 0 (0, [])).2 ++ (rs.getD 1 (0, [])).2)
mutual
def runT (vs : List Int) : Tk → Int × List Fk
  | ⟨k, n, ps⟩ => comb vs k n (runL vs ps)
def runL (vs : List Int) : List Tk → List (Int × List Fk)
  | [] => []
  | p :: ps => runT vs p :: runL vs ps
end
theorem atV_val {vs : List Int} (h : vs.all isVal = true) (k : Int) : 0 ≤ atV vs k ∧ atV vs k ≤ 96 := by
  unfold atV
  split
  · rename_i hk
    have hi : k.toNat < vs.length := by omega
    have h1 := List.all_eq_true.1 h _ (List.getElem_mem hi)
    simp only [isVal, decide_eq_true_eq] at h1
    simp only [rd, List.getD_eq_getElem?_getD, List.getElem?_eq_getElem hi, Option.getD_some]
    exact h1
  · omega
inductive Fits : Tk → Prop
  | num (n : Int) (h0 : 0 ≤ n) (h1 : n ≤ 96) : Fits ⟨0, n, []⟩
  | get (n : Int) (h0 : 0 ≤ n) (h1 : n ≤ 9) : Fits ⟨1, n, []⟩
  | add (a b : Tk) (ha : Fits a) (hb : Fits b) : Fits ⟨2, 0, [a, b]⟩
  | mul (a b : Tk) (ha : Fits a) (hb : Fits b) : Fits ⟨3, 0, [a, b]⟩
  | iff (a b d : Tk) (ha : Fits a) (hb : Fits b) (hd : Fits d) : Fits ⟨4, 0, [a, b, d]⟩
  | at (n : Int) (h0 : 0 ≤ n) (h1 : n ≤ 9) (a : Tk) (ha : Fits a) : Fits ⟨5, n, [a]⟩
theorem fits_of : ∀ t : Tk, fitT t = true → Fits t := by
  refine tk_ind fun t ih h => ?_
  rw [fitT_eq, Bool.and_eq_true] at h
  obtain ⟨h1, h2⟩ := h
  have hp : ∀ p ∈ t.f2, Fits p := fun p hp => ih p hp (fitL_mem h2 p hp)
  obtain ⟨k, n, ps⟩ := t
  simp only at h1 hp
  clear ih h2
  unfold shapeB at h1
  by_cases k0 : k = 0
  · rw [if_pos k0] at h1
    simp only [Bool.and_eq_true, decide_eq_true_eq, List.length_eq_zero_iff] at h1
    obtain ⟨⟨h2, h3⟩, rfl⟩ := h1
    subst k0
    exact .num n h2 h3
  rw [if_neg k0] at h1
  by_cases k1 : k = 1
  · rw [if_pos k1] at h1
    simp only [Bool.and_eq_true, decide_eq_true_eq, List.length_eq_zero_iff] at h1
    obtain ⟨⟨h2, h3⟩, rfl⟩ := h1
    subst k1
    exact .get n h2 (by omega)
  rw [if_neg k1] at h1
  by_cases k2 : k = 2
  · rw [if_pos k2] at h1
    simp only [Bool.and_eq_true, decide_eq_true_eq] at h1
    obtain ⟨rfl, h3⟩ := h1
    subst k2
    match ps, h3 with
    | [a, b], _ => exact .add a b (hp a (by simp)) (hp b (by simp))
  rw [if_neg k2] at h1
  by_cases k3 : k = 3
  · rw [if_pos k3] at h1
    simp only [Bool.and_eq_true, decide_eq_true_eq] at h1
    obtain ⟨rfl, h3⟩ := h1
    subst k3
    match ps, h3 with
    | [a, b], _ => exact .mul a b (hp a (by simp)) (hp b (by simp))
  rw [if_neg k3] at h1
  by_cases k4 : k = 4
  · rw [if_pos k4] at h1
    simp only [Bool.and_eq_true, decide_eq_true_eq] at h1
    obtain ⟨rfl, h3⟩ := h1
    subst k4
    match ps, h3 with
    | [a, b, d], _ => exact .iff a b d (hp a (by simp)) (hp b (by simp)) (hp d (by simp))
  rw [if_neg k4] at h1
  by_cases k5 : k = 5
  · rw [if_pos k5] at h1
    simp only [Bool.and_eq_true, decide_eq_true_eq] at h1
    obtain ⟨⟨h2, h3⟩, h4⟩ := h1
    subst k5
    match ps, h4 with
    | [a], _ => exact .at n h2 (by omega) a (hp a (by simp))
  rw [if_neg k5] at h1
  cases h1
theorem runT_num (vs : List Int) (n : Int) : runT vs ⟨0, n, []⟩ = (n, []) := by simp [runT, comb]
theorem runT_get (vs : List Int) (n : Int) : runT vs ⟨1, n, []⟩ = (atV vs n, [⟨n, atV vs n⟩]) := by simp [runT, comb]
theorem runT_add (vs : List Int) (a b : Tk) : runT vs ⟨2, 0, [a, b]⟩ = (((runT vs a).1 + (runT vs b).1) % 97, (runT vs a).2 ++ (runT vs b).2) := by simp [runT, runL, comb]
theorem runT_mul (vs : List Int) (a b : Tk) : runT vs ⟨3, 0, [a, b]⟩ = (((runT vs a).1 * (runT vs b).1) % 97, (runT vs a).2 ++ (runT vs b).2) := by simp [runT, runL, comb]
theorem runT_if0 (vs : List Int) (a b d : Tk) (h : (runT vs a).1 = 0) : runT vs ⟨4, 0, [a, b, d]⟩ = ((runT vs d).1, (runT vs a).2 ++ (runT vs d).2) := by simp [runT, runL, comb, h]
theorem runT_if1 (vs : List Int) (a b d : Tk) (h : ¬ (runT vs a).1 = 0) : runT vs ⟨4, 0, [a, b, d]⟩ = ((runT vs b).1, (runT vs a).2 ++ (runT vs b).2) := by simp [runT, runL, comb, h]
theorem runT_at (vs : List Int) (n : Int) (a : Tk) : runT vs ⟨5, n, [a]⟩ = (atV vs (((n + (runT vs a).1) % 10)), (runT vs a).2 ++ [⟨((n + (runT vs a).1) % 10), atV vs (((n + (runT vs a).1) % 10))⟩]) := by simp [runT, runL, comb]
theorem runT_len (vs : List Int) {t : Tk} (h : Fits t) : (runT vs t).2.length ≤ nodT t := by
  induction h with
  | num n => rw [runT_num]; simp
  | get n => rw [runT_get]; simp [nodT]
  | add a b _ _ iha ihb => rw [runT_add]; simp only [nodT, nodL, List.length_append]; omega
  | mul a b _ _ iha ihb => rw [runT_mul]; simp only [nodT, nodL, List.length_append]; omega
  | iff a b d _ _ _ iha ihb ihd =>
    by_cases h0 : (runT vs a).1 = 0
    · rw [runT_if0 vs a b d h0]; simp only [nodT, nodL, List.length_append]; omega
    · rw [runT_if1 vs a b d h0]; simp only [nodT, nodL, List.length_append]; omega
  | «at» n _ _ a _ iha => rw [runT_at]; simp only [nodT, nodL, List.length_append, List.length_singleton]; omega
theorem runT_val {vs : List Int} (hv : vs.all isVal = true) {t : Tk} (h : Fits t) : 0 ≤ (runT vs t).1 ∧ (runT vs t).1 ≤ 96 := by
  induction h with
  | num n h0 h1 => rw [runT_num]; exact ⟨h0, h1⟩
  | get n => rw [runT_get]; exact atV_val hv n
  | add a b _ _ iha ihb =>
    rw [runT_add]
    simp only; omega
  | mul a b _ _ iha ihb =>
    rw [runT_mul]
    simp only; have := Int.mul_nonneg iha.1 ihb.1; omega
  | iff a b d _ _ _ iha ihb ihd =>
    by_cases h0 : (runT vs a).1 = 0
    · rw [runT_if0 vs a b d h0]; exact ihd
    · rw [runT_if1 vs a b d h0]; exact ihb
  | «at» n _ _ a _ iha => rw [runT_at]; exact atV_val hv _
end Go.Proofs.Ytooojligedlpeaa.G
end
section
namespace Go.Proofs.Ytooojligedlpeaa.G
open Go.RowKit Go.Proofs.YtooojligedlpeaaW.PrintWords Go.Proofs.YtooojligedlpeaaW.PrintLast Go.Proofs.YtooojligedlpeaaW.PrintMore
set_option linter.unusedVariables false
set_option linter.unusedSimpArgs false
def Runs (w0 : World) (B V : Nat) (A : Option Addr) (c : Nat) (vs : List Int) (t : Tk) : Prop :=
  ∀ (S : Nat → Prop) (out : List Fk) (W : World) (A1 : Option Addr) (c1 : Nat), RunAt w0 B V A c vs S out W → S V → Kd.C k25 w0 A1 t.f2.length t.f2 → t.f2.length ≤ c1 → out.length + nodT t < 8796093022207 →
    Calls Try.prog 115 #[.agg #[.int .i64 t.f0, .int .i64 t.f1, .slice A1 t.f2.length c1], .func (.func 116) #[] #[.pointer (some ⟨B, 0, none⟩), .pointer (some ⟨V, 0, none⟩)]] W fun e W' =>
      e = .returned (.tuple #[.int .i64 (runT vs t).1, .bool true]) ∧ RunAt w0 B V A c vs S (out ++ (runT vs t).2) W' ∧ Stays S B W W'
set_option maxHeartbeats 8000000 in
set_option maxRecDepth 100000 in
theorem runs_num {w0 : World} {B V : Nat} {A : Option Addr} {c : Nat} {vs : List Int} (n : Int) : Runs w0 B V A c vs ⟨0, n, []⟩ := by
  intro S out W A1 c1 h sV hr hc hl
  have HH := Aside0.mk h
  have H1 := Aside0.mk (h.alloc (.cells #[.int .i64 0, .int .i64 n, .slice A1 0 c1] 25 (0, 0)))
  clear h hr hc hl
  have hu := Try.underlying25
  show Calls Try.prog 115 #[.agg #[.int .i64 0, .int .i64 n, .slice A1 0 c1], _] W _
  rw [runT_num]
  go_enter Try.func115, Try.ntmps115
  go_wp2
  go_ret2
  exact ⟨rfl, by rw [List.append_nil]; exact H1.out.less (fun k hk => .inl hk) HH.out.sB, by simp, fun k hk _ => Below.heap_alloc W _ k (HH.out.hS k hk)⟩
set_option maxHeartbeats 8000000 in
set_option maxRecDepth 100000 in
theorem runs_get {w0 : World} {B V : Nat} {A : Option Addr} {c : Nat} {vs : List Int} (n : Int) : Runs w0 B V A c vs ⟨1, n, []⟩ := by
  intro S out W A1 c1 h sV hr hc hl
  have HH := Aside0.mk h
  have H1 := Aside0.mk (h.alloc (.cells #[.int .i64 1, .int .i64 n, .slice A1 0 c1] 25 (0, 0)))
  have HL := Aside0.mk hl
  have SV := Aside0.mk sV
  clear h hr hc hl sV
  have hu := Try.underlying25
  show Calls Try.prog 115 #[.agg #[.int .i64 1, .int .i64 n, .slice A1 0 c1], _] W _
  rw [runT_get]
  go_enter Try.func115, Try.ntmps115
  go_wp2_with (go_at_call 116; refine (fetched1_calls n _ H1.out (.inl SV.out) (by have := HL.out; omega)).mono ?_; rintro e w' ⟨rfl, h2, s2⟩)
  go_ret2
  exact ⟨rfl, h2.less (fun k hk => .inl hk) HH.out.sB, Nat.le_trans (by simp) s2.1, fun k hk hb => (s2.2 k (.inl hk) hb).trans (Below.heap_alloc W _ k (HH.out.hS k hk))⟩
theorem part_at {w0 : World} {A1 : Option Addr} {ps : List Tk} (h : Kd.C k25 w0 A1 ps.length ps) (i : Nat) (p : Tk) (hp : ps[i]? = some p) :
    ∃ ad A2 c2, A1 = some ad ∧ p.f2.length ≤ c2 ∧ Kd.C k25 w0 A2 p.f2.length p.f2 ∧ ∀ W, Below w0.heap.size w0 W → W.cell? (ad.add (i * 3)) = some (.int .i64 p.f0) ∧ W.cell? ⟨(ad.add (i * 3)).block, (ad.add (i * 3)).off + 1, none⟩ = some (.int .i64 p.f1) ∧ W.cell? ⟨(ad.add (i * 3)).block, (ad.add (i * 3)).off + 2, none⟩ = some (.slice A2 p.f2.length c2) := by
  obtain ⟨hi, e⟩ := List.getElem?_eq_some_iff.1 hp
  obtain ⟨ad, A2, c2, e1, hx0, hx1, hx2, hl, hC⟩ := at_T25 h (i : Int) (by omega) (by omega)
  rw [rd_tk ps i hi, e] at hx0 hx1 hx2 hl hC
  rw [Int.toNat_natCast] at hx0 hx1 hx2
  exact ⟨ad, A2, c2, e1, hl, hC, fun W hb => ⟨(hb.cell (World.block_lt_of_cell? w0 _ hx0)).trans hx0, (hb.cell (World.block_lt_of_cell? w0 _ hx1)).trans hx1, (hb.cell (World.block_lt_of_cell? w0 _ hx2)).trans hx2⟩⟩
theorem closing {w0 W W' : World} {B V : Nat} {A : Option Addr} {c : Nat} {vs : List Int} {S : Nat → Prop} {out out' : List Fk} {o : Obj} (HH : RunAt w0 B V A c vs S out W) (h : RunAt w0 B V A c vs (fun k => S k ∨ k = W.heap.size) out' W') (s : Stays (fun k => S k ∨ k = W.heap.size) B (W.alloc o) W') :
    RunAt w0 B V A c vs S out' W' ∧ Stays S B W W' :=
  ⟨h.less (fun k hk => .inl hk) HH.sB, Nat.le_trans (by simp) s.1, fun k hk hb => (s.2 k (.inl hk) hb).trans (Below.heap_alloc W _ k (HH.hS k hk))⟩
end Go.Proofs.Ytooojligedlpeaa.G
end
section
namespace Go.Proofs.Ytooojligedlpeaa.G
open Go.RowKit Go.Proofs.YtooojligedlpeaaW.PrintWords Go.Proofs.YtooojligedlpeaaW.PrintLast Go.Proofs.YtooojligedlpeaaW.PrintMore
set_option linter.unusedVariables false
set_option linter.unusedSimpArgs false
set_option maxHeartbeats 8000000 in
set_option maxRecDepth 100000 in
theorem runs_at {w0 : World} {B V : Nat} {A : Option Addr} {c : Nat} {vs : List Int} (hv : vs.all isVal = true) (n : Int) (h0 : 0 ≤ n) (h1 : n ≤ 9) (a : Tk) (ha : Fits a) (iha : Runs w0 B V A c vs a) : Runs w0 B V A c vs ⟨5, n, [a]⟩ := by
  intro S out W A1 c1 h sV hr hc hl
  have HH := Aside0.mk h
  have hnB : W.heap.size ≠ B := fun e => by have := h.hS B h.sB; omega
  have H1 := Aside0.mk (h.alloc (.cells #[.int .i64 5, .int .i64 n, .slice A1 1 c1] 25 (0, 0)))
  have HL := Aside0.mk hl
  have SV := Aside0.mk sV
  have HNB := Aside0.mk hnB
  obtain ⟨ad, Aa, ca, rfl, hla, hCa, hxa⟩ := part_at hr 0 a rfl
  have HXa := Aside0.mk hxa
  have HCa := Aside0.mk hCa
  have HLa := Aside0.mk hla
  have hvala := runT_val hv ha
  have hlena := runT_len vs ha
  have HENa := Aside0.mk hlena
  clear hxa hCa hla hlena
  obtain ⟨hx0, hx1, hx2⟩ := HXa.out _ H1.out.below
  clear h hr hc hl sV hnB
  simp [go_sem] at hx0 hx1 hx2
  have CA := Aside0.mk (iha _ _ _ _ _ H1.out (.inl SV.out) HCa.out HLa.out (by have := HL.out; simp only [nodT, nodL] at this; omega))
  have hu := Try.underlying25
  show Calls Try.prog 115 #[.agg #[.int .i64 5, .int .i64 n, .slice (some ad) 1 c1], _] W _
  rw [runT_at]
  go_enter Try.func115, Try.ntmps115
  go_wp2_with (first | (go_at_call 115; (with_reducible refine CA.out.mono ?_); rintro e w2 ⟨rfl, h2, s2⟩; have hb2 := (s2.2 W.heap.size (.inr rfl) HNB.out).trans (blk_new W _); have hq0 := (blk_cell hb2 0).trans rfl; have hq1 := (blk_cell hb2 1).trans rfl; have hq2 := (blk_cell hb2 2).trans rfl; have H2 := Aside0.mk h2; have S2 := Aside0.mk s2; clear h2 s2 hx0 hx1 hx2 CA; have HB2 := Aside0.mk hb2; clear hb2) | (go_at_call 116; refine (fetched1_calls _ _ H2.out (.inl SV.out) (by have := HL.out; have := HENa.out; simp only [nodT, nodL, List.length_append] at *; omega)).mono ?_; rintro e w3 ⟨rfl, h3, s3⟩; have H3 := Aside0.mk h3; have S3 := Aside0.mk s3; clear h3 s3))
  go_ret2
  have hc := closing HH.out H3.out (S2.out.trans S3.out)
  rw [List.append_assoc] at hc
  exact ⟨rfl, hc⟩
end Go.Proofs.Ytooojligedlpeaa.G
end
section
namespace Go.Proofs.Ytooojligedlpeaa.G
open Go.RowKit Go.Proofs.YtooojligedlpeaaW.PrintWords Go.Proofs.YtooojligedlpeaaW.PrintLast Go.Proofs.YtooojligedlpeaaW.PrintMore
set_option linter.unusedVariables false
set_option linter.unusedSimpArgs false
set_option maxHeartbeats 8000000 in
set_option maxRecDepth 100000 in
theorem runs_add {w0 : World} {B V : Nat} {A : Option Addr} {c : Nat} {vs : List Int} (hv : vs.all isVal = true) (a b : Tk) (ha : Fits a) (hb : Fits b) (iha : Runs w0 B V A c vs a) (ihb : Runs w0 B V A c vs b) : Runs w0 B V A c vs ⟨2, 0, [a, b]⟩ := by
  intro S out W A1 c1 h sV hr hc hl
  have HH := Aside0.mk h
  have hnB : W.heap.size ≠ B := fun e => by have := h.hS B h.sB; omega
  have H1 := Aside0.mk (h.alloc (.cells #[.int .i64 2, .int .i64 0, .slice A1 2 c1] 25 (0, 0)))
  have HL := Aside0.mk hl
  have SV := Aside0.mk sV
  have HNB := Aside0.mk hnB
  obtain ⟨ad, Aa, ca, rfl, hla, hCa, hxa⟩ := part_at hr 0 a rfl
  have HXa := Aside0.mk hxa
  have HCa := Aside0.mk hCa
  have HLa := Aside0.mk hla
  have hvala := runT_val hv ha
  have hlena := runT_len vs ha
  have HENa := Aside0.mk hlena
  clear hxa hCa hla hlena
  obtain ⟨ad', Ab, cb, eb, hlb, hCb, hxb⟩ := part_at hr 1 b rfl
  obtain rfl : ad = ad' := Option.some.inj eb
  clear eb
  have HXb := Aside0.mk hxb
  have HCb := Aside0.mk hCb
  have HLb := Aside0.mk hlb
  have hvalb := runT_val hv hb
  have hlenb := runT_len vs hb
  have HENb := Aside0.mk hlenb
  clear hxb hCb hlb hlenb
  obtain ⟨hx0, hx1, hx2⟩ := HXa.out _ H1.out.below
  clear h hr hc hl sV hnB
  simp [go_sem] at hx0 hx1 hx2
  have CA := Aside0.mk (iha _ _ _ _ _ H1.out (.inl SV.out) HCa.out HLa.out (by have := HL.out; simp only [nodT, nodL] at this; omega))
  have hu := Try.underlying25
  show Calls Try.prog 115 #[.agg #[.int .i64 2, .int .i64 0, .slice (some ad) 2 c1], _] W _
  rw [runT_add]
  go_enter Try.func115, Try.ntmps115
  go_wp2_with (first | (go_at_call 115; (with_reducible refine CA.out.mono ?_); rintro e w2 ⟨rfl, h2, s2⟩; have hb2 := (s2.2 W.heap.size (.inr rfl) HNB.out).trans (blk_new W _); have hq0 := (blk_cell hb2 0).trans rfl; have hq1 := (blk_cell hb2 1).trans rfl; have hq2 := (blk_cell hb2 2).trans rfl; have H2 := Aside0.mk h2; have S2 := Aside0.mk s2; clear h2 s2 hx0 hx1 hx2 CA; have HB2 := Aside0.mk hb2; clear hb2; obtain ⟨hx0, hx1, hx2⟩ := HXb.out w2 H2.out.below; simp [go_sem] at hx0 hx1 hx2; have CB := Aside0.mk (ihb _ _ _ _ _ H2.out (.inl SV.out) HCb.out HLb.out (by have := HL.out; have := HENa.out; simp only [nodT, nodL, List.length_append] at *; omega))) | (go_at_call 115; (with_reducible refine CB.out.mono ?_); rintro e w3 ⟨rfl, h3, s3⟩; have hb3 := (s3.2 W.heap.size (.inr rfl) HNB.out).trans HB2.out; have hr0 := (blk_cell hb3 0).trans rfl; have hr1 := (blk_cell hb3 1).trans rfl; have hr2 := (blk_cell hb3 2).trans rfl; have H3 := Aside0.mk h3; have S3 := Aside0.mk s3; clear h3 s3 hb3 CB hx0 hx1 hx2 hq0 hq1 hq2))
  go_ret2
  have hc := closing HH.out H3.out (S2.out.trans S3.out)
  rw [List.append_assoc] at hc
  exact ⟨rfl, hc⟩
end Go.Proofs.Ytooojligedlpeaa.G
end
section
namespace Go.Proofs.Ytooojligedlpeaa.G
open Go.RowKit Go.Proofs.YtooojligedlpeaaW.PrintWords Go.Proofs.YtooojligedlpeaaW.PrintLast Go.Proofs.YtooojligedlpeaaW.PrintMore
set_option linter.unusedVariables false
set_option linter.unusedSimpArgs false
set_option maxHeartbeats 8000000 in
set_option maxRecDepth 100000 in
theorem runs_mul {w0 : World} {B V : Nat} {A : Option Addr} {c : Nat} {vs : List Int} (hv : vs.all isVal = true) (a b : Tk) (ha : Fits a) (hb : Fits b) (iha : Runs w0 B V A c vs a) (ihb : Runs w0 B V A c vs b) : Runs w0 B V A c vs ⟨3, 0, [a, b]⟩ := by
  intro S out W A1 c1 h sV hr hc hl
  have HH := Aside0.mk h
  have hnB : W.heap.size ≠ B := fun e => by have := h.hS B h.sB; omega
  have H1 := Aside0.mk (h.alloc (.cells #[.int .i64 3, .int .i64 0, .slice A1 2 c1] 25 (0, 0)))
  have HL := Aside0.mk hl
  have SV := Aside0.mk sV
  have HNB := Aside0.mk hnB
  obtain ⟨ad, Aa, ca, rfl, hla, hCa, hxa⟩ := part_at hr 0 a rfl
  have HXa := Aside0.mk hxa
  have HCa := Aside0.mk hCa
  have HLa := Aside0.mk hla
  have hvala := runT_val hv ha
  have hlena := runT_len vs ha
  have HENa := Aside0.mk hlena
  clear hxa hCa hla hlena
  obtain ⟨ad', Ab, cb, eb, hlb, hCb, hxb⟩ := part_at hr 1 b rfl
  obtain rfl : ad = ad' := Option.some.inj eb
  clear eb
  have HXb := Aside0.mk hxb
  have HCb := Aside0.mk hCb
  have HLb := Aside0.mk hlb
  have hvalb := runT_val hv hb
  have hlenb := runT_len vs hb
  have HENb := Aside0.mk hlenb
  clear hxb hCb hlb hlenb
  obtain ⟨hx0, hx1, hx2⟩ := HXa.out _ H1.out.below
  clear h hr hc hl sV hnB
  simp [go_sem] at hx0 hx1 hx2
  have CA := Aside0.mk (iha _ _ _ _ _ H1.out (.inl SV.out) HCa.out HLa.out (by have := HL.out; simp only [nodT, nodL] at this; omega))
  have hu := Try.underlying25
  show Calls Try.prog 115 #[.agg #[.int .i64 3, .int .i64 0, .slice (some ad) 2 c1], _] W _
  have hm0 : 0 ≤ (runT vs a).1 * (runT vs b).1 := Int.mul_nonneg hvala.1 hvalb.1
  have hm1 : (runT vs a).1 * (runT vs b).1 ≤ 9216 := by
    have h1 := Int.mul_le_mul hvala.2 hvalb.2 hvalb.1 (by omega : (0 : Int) ≤ 96)
    omega
  rw [runT_mul]
  go_enter Try.func115, Try.ntmps115
  go_wp2_with (first | (go_at_call 115; (with_reducible refine CA.out.mono ?_); rintro e w2 ⟨rfl, h2, s2⟩; have hb2 := (s2.2 W.heap.size (.inr rfl) HNB.out).trans (blk_new W _); have hq0 := (blk_cell hb2 0).trans rfl; have hq1 := (blk_cell hb2 1).trans rfl; have hq2 := (blk_cell hb2 2).trans rfl; have H2 := Aside0.mk h2; have S2 := Aside0.mk s2; clear h2 s2 hx0 hx1 hx2 CA; have HB2 := Aside0.mk hb2; clear hb2; obtain ⟨hx0, hx1, hx2⟩ := HXb.out w2 H2.out.below; simp [go_sem] at hx0 hx1 hx2; have CB := Aside0.mk (ihb _ _ _ _ _ H2.out (.inl SV.out) HCb.out HLb.out (by have := HL.out; have := HENa.out; simp only [nodT, nodL, List.length_append] at *; omega))) | (go_at_call 115; (with_reducible refine CB.out.mono ?_); rintro e w3 ⟨rfl, h3, s3⟩; have hb3 := (s3.2 W.heap.size (.inr rfl) HNB.out).trans HB2.out; have hr0 := (blk_cell hb3 0).trans rfl; have hr1 := (blk_cell hb3 1).trans rfl; have hr2 := (blk_cell hb3 2).trans rfl; have H3 := Aside0.mk h3; have S3 := Aside0.mk s3; clear h3 s3 hb3 CB hx0 hx1 hx2 hq0 hq1 hq2))
  go_ret2
  have hc := closing HH.out H3.out (S2.out.trans S3.out)
  rw [List.append_assoc] at hc
  exact ⟨rfl, hc⟩
end Go.Proofs.Ytooojligedlpeaa.G
end
section
namespace Go.Proofs.Ytooojligedlpeaa.G
open Go.RowKit Go.Proofs.YtooojligedlpeaaW.PrintWords Go.Proofs.YtooojligedlpeaaW.PrintLast Go.Proofs.YtooojligedlpeaaW.PrintMore
set_option linter.unusedVariables false
set_option linter.unusedSimpArgs false
set_option maxHeartbeats 8000000 in
set_option maxRecDepth 100000 in
theorem runs_if0 {w0 : World} {B V : Nat} {A : Option Addr} {c : Nat} {vs : List Int} (hv : vs.all isVal = true) (a b d : Tk) (ha : Fits a) (hb : Fits b) (hd : Fits d) (iha : Runs w0 B V A c vs a) (ihb : Runs w0 B V A c vs b) (ihd : Runs w0 B V A c vs d) (hz : (runT vs a).1 = 0) : Runs w0 B V A c vs ⟨4, 0, [a, b, d]⟩ := by
  intro S out W A1 c1 h sV hr hc hl
  have HH := Aside0.mk h
  have hnB : W.heap.size ≠ B := fun e => by have := h.hS B h.sB; omega
  have H1 := Aside0.mk (h.alloc (.cells #[.int .i64 4, .int .i64 0, .slice A1 3 c1] 25 (0, 0)))
  have HL := Aside0.mk hl
  have SV := Aside0.mk sV
  have HNB := Aside0.mk hnB
  obtain ⟨ad, Aa, ca, rfl, hla, hCa, hxa⟩ := part_at hr 0 a rfl
  have HXa := Aside0.mk hxa
  have HCa := Aside0.mk hCa
  have HLa := Aside0.mk hla
  have hvala := runT_val hv ha
  have hlena := runT_len vs ha
  have HENa := Aside0.mk hlena
  clear hxa hCa hla hlena
  obtain ⟨ad', Ab, cb, eb, hlb, hCb, hxb⟩ := part_at hr 1 b rfl
  obtain rfl : ad = ad' := Option.some.inj eb
  clear eb
  have HXb := Aside0.mk hxb
  have HCb := Aside0.mk hCb
  have HLb := Aside0.mk hlb
  have hvalb := runT_val hv hb
  have hlenb := runT_len vs hb
  have HENb := Aside0.mk hlenb
  clear hxb hCb hlb hlenb
  obtain ⟨ad', Ad, cd, ed, hld, hCd, hxd⟩ := part_at hr 2 d rfl
  obtain rfl : ad = ad' := Option.some.inj ed
  clear ed
  have HXd := Aside0.mk hxd
  have HCd := Aside0.mk hCd
  have HLd := Aside0.mk hld
  have hvald := runT_val hv hd
  have hlend := runT_len vs hd
  have HENd := Aside0.mk hlend
  clear hxd hCd hld hlend
  obtain ⟨hx0, hx1, hx2⟩ := HXa.out _ H1.out.below
  clear h hr hc hl sV hnB
  simp [go_sem] at hx0 hx1 hx2
  have CA := Aside0.mk (iha _ _ _ _ _ H1.out (.inl SV.out) HCa.out HLa.out (by have := HL.out; simp only [nodT, nodL] at this; omega))
  have hu := Try.underlying25
  show Calls Try.prog 115 #[.agg #[.int .i64 4, .int .i64 0, .slice (some ad) 3 c1], _] W _
  rw [runT_if0 vs a b d hz]
  have hzb : ((runT vs a).1 != 0) = false := by rw [hz]; rfl
  go_enter Try.func115, Try.ntmps115
  go_wp2_with (first | (go_at_call 115; (with_reducible refine CA.out.mono ?_); rintro e w2 ⟨rfl, h2, s2⟩; have hb2 := (s2.2 W.heap.size (.inr rfl) HNB.out).trans (blk_new W _); have hq0 := (blk_cell hb2 0).trans rfl; have hq1 := (blk_cell hb2 1).trans rfl; have hq2 := (blk_cell hb2 2).trans rfl; have H2 := Aside0.mk h2; have S2 := Aside0.mk s2; clear h2 s2 hx0 hx1 hx2 CA; have HB2 := Aside0.mk hb2; clear hb2; obtain ⟨hx0, hx1, hx2⟩ := HXd.out w2 H2.out.below; simp [go_sem] at hx0 hx1 hx2; have CB := Aside0.mk (ihd _ _ _ _ _ H2.out (.inl SV.out) HCd.out HLd.out (by have := HL.out; have := HENa.out; simp only [nodT, nodL, List.length_append] at *; omega))) | (go_at_call 115; (with_reducible refine CB.out.mono ?_); rintro e w3 ⟨rfl, h3, s3⟩; have hb3 := (s3.2 W.heap.size (.inr rfl) HNB.out).trans HB2.out; have hr0 := (blk_cell hb3 0).trans rfl; have hr1 := (blk_cell hb3 1).trans rfl; have hr2 := (blk_cell hb3 2).trans rfl; have H3 := Aside0.mk h3; have S3 := Aside0.mk s3; clear h3 s3 hb3 CB hx0 hx1 hx2 hq0 hq1 hq2))
  go_ret2
  have hc := closing HH.out H3.out (S2.out.trans S3.out)
  rw [List.append_assoc] at hc
  exact ⟨rfl, hc⟩
end Go.Proofs.Ytooojligedlpeaa.G
end
section
namespace Go.Proofs.Ytooojligedlpeaa.G
open Go.RowKit Go.Proofs.YtooojligedlpeaaW.PrintWords Go.Proofs.YtooojligedlpeaaW.PrintLast Go.Proofs.YtooojligedlpeaaW.PrintMore
set_option linter.unusedVariables false
set_option linter.unusedSimpArgs false
set_option maxHeartbeats 8000000 in
set_option maxRecDepth 100000 in
theorem runs_if1 {w0 : World} {B V : Nat} {A : Option Addr} {c : Nat} {vs : List Int} (hv : vs.all isVal = true) (a b d : Tk) (ha : Fits a) (hb : Fits b) (hd : Fits d) (iha : Runs w0 B V A c vs a) (ihb : Runs w0 B V A c vs b) (ihd : Runs w0 B V A c vs d) (hz : ¬ (runT vs a).1 = 0) : Runs w0 B V A c vs ⟨4, 0, [a, b, d]⟩ := by
  intro S out W A1 c1 h sV hr hc hl
  have HH := Aside0.mk h
  have hnB : W.heap.size ≠ B := fun e => by have := h.hS B h.sB; omega
  have H1 := Aside0.mk (h.alloc (.cells #[.int .i64 4, .int .i64 0, .slice A1 3 c1] 25 (0, 0)))
  have HL := Aside0.mk hl
  have SV := Aside0.mk sV
  have HNB := Aside0.mk hnB
  obtain ⟨ad, Aa, ca, rfl, hla, hCa, hxa⟩ := part_at hr 0 a rfl
  have HXa := Aside0.mk hxa
  have HCa := Aside0.mk hCa
  have HLa := Aside0.mk hla
  have hvala := runT_val hv ha
  have hlena := runT_len vs ha
  have HENa := Aside0.mk hlena
  clear hxa hCa hla hlena
  obtain ⟨ad', Ab, cb, eb, hlb, hCb, hxb⟩ := part_at hr 1 b rfl
  obtain rfl : ad = ad' := Option.some.inj eb
  clear eb
  have HXb := Aside0.mk hxb
  have HCb := Aside0.mk hCb
  have HLb := Aside0.mk hlb
  have hvalb := runT_val hv hb
  have hlenb := runT_len vs hb
  have HENb := Aside0.mk hlenb
  clear hxb hCb hlb hlenb
  obtain ⟨ad', Ad, cd, ed, hld, hCd, hxd⟩ := part_at hr 2 d rfl
  obtain rfl : ad = ad' := Option.some.inj ed
  clear ed
  have HXd := Aside0.mk hxd
  have HCd := Aside0.mk hCd
  have HLd := Aside0.mk hld
  have hvald := runT_val hv hd
  have hlend := runT_len vs hd
  have HENd := Aside0.mk hlend
  clear hxd hCd hld hlend
  obtain ⟨hx0, hx1, hx2⟩ := HXa.out _ H1.out.below
  clear h hr hc hl sV hnB
  simp [go_sem] at hx0 hx1 hx2
  have CA := Aside0.mk (iha _ _ _ _ _ H1.out (.inl SV.out) HCa.out HLa.out (by have := HL.out; simp only [nodT, nodL] at this; omega))
  have hu := Try.underlying25
  show Calls Try.prog 115 #[.agg #[.int .i64 4, .int .i64 0, .slice (some ad) 3 c1], _] W _
  rw [runT_if1 vs a b d hz]
  have hzb : ((runT vs a).1 != 0) = true := bne_iff_ne.mpr hz
  go_enter Try.func115, Try.ntmps115
  go_wp2_with (first | (go_at_call 115; (with_reducible refine CA.out.mono ?_); rintro e w2 ⟨rfl, h2, s2⟩; have hb2 := (s2.2 W.heap.size (.inr rfl) HNB.out).trans (blk_new W _); have hq0 := (blk_cell hb2 0).trans rfl; have hq1 := (blk_cell hb2 1).trans rfl; have hq2 := (blk_cell hb2 2).trans rfl; have H2 := Aside0.mk h2; have S2 := Aside0.mk s2; clear h2 s2 hx0 hx1 hx2 CA; have HB2 := Aside0.mk hb2; clear hb2; obtain ⟨hx0, hx1, hx2⟩ := HXb.out w2 H2.out.below; simp [go_sem] at hx0 hx1 hx2; have CB := Aside0.mk (ihb _ _ _ _ _ H2.out (.inl SV.out) HCb.out HLb.out (by have := HL.out; have := HENa.out; simp only [nodT, nodL, List.length_append] at *; omega))) | (go_at_call 115; (with_reducible refine CB.out.mono ?_); rintro e w3 ⟨rfl, h3, s3⟩; have hb3 := (s3.2 W.heap.size (.inr rfl) HNB.out).trans HB2.out; have hr0 := (blk_cell hb3 0).trans rfl; have hr1 := (blk_cell hb3 1).trans rfl; have hr2 := (blk_cell hb3 2).trans rfl; have H3 := Aside0.mk h3; have S3 := Aside0.mk s3; clear h3 s3 hb3 CB hx0 hx1 hx2 hq0 hq1 hq2))
  go_ret2
  have hc := closing HH.out H3.out (S2.out.trans S3.out)
  rw [List.append_assoc] at hc
  exact ⟨rfl, hc⟩
end Go.Proofs.Ytooojligedlpeaa.G
end
section
namespace Go.Proofs.Ytooojligedlpeaa.G
open Go.RowKit Go.Proofs.YtooojligedlpeaaW.PrintWords Go.Proofs.YtooojligedlpeaaW.PrintLast Go.Proofs.YtooojligedlpeaaW.PrintMore
set_option linter.unusedVariables false
set_option linter.unusedSimpArgs false
theorem runs {w0 : World} {B V : Nat} {A : Option Addr} {c : Nat} {vs : List Int} (hv : vs.all isVal = true) {t : Tk} (h : Fits t) : Runs w0 B V A c vs t := by
  induction h with
  | num n h0 h1 => exact runs_num n
  | get n h0 h1 => exact runs_get n
  | add a b ha hb iha ihb => exact runs_add hv a b ha hb iha ihb
  | mul a b ha hb iha ihb => exact runs_mul hv a b ha hb iha ihb
  | iff a b d ha hb hd iha ihb ihd =>
    by_cases hz : (runT vs a).1 = 0
    · exact runs_if0 hv a b d ha hb hd iha ihb ihd hz
    · exact runs_if1 hv a b d ha hb hd iha ihb ihd hz
  | «at» n h0 h1 a ha iha => exact runs_at hv n h0 h1 a ha iha
end Go.Proofs.Ytooojligedlpeaa.G
end
section
namespace Go.Proofs.Ytooojligedlpeaa.G
open Go.RowKit Go.Proofs.YtooojligedlpeaaW.PrintWords Go.Proofs.YtooojligedlpeaaW.PrintLast Go.Proofs.YtooojligedlpeaaW.PrintMore
set_option linter.unusedVariables false
set_option linter.unusedSimpArgs false
def impl_Task_fetched.f (a0_0 : Int) (a0_1 : Int) (l0_2 : List Tk) (l1 : List Int) : Option (Int × List Fk) :=
  if fitT ⟨a0_0, a0_1, l0_2⟩ = true ∧ l1.all isVal = true ∧ nodT ⟨a0_0, a0_1, l0_2⟩ < 8796093022207 then some (runT l1 ⟨a0_0, a0_1, l0_2⟩) else none
set_option maxHeartbeats 8000000 in
set_option maxRecDepth 100000 in
theorem impl_Task_fetched.calls (a0_0 : Int) (a0_1 : Int) (A0_2 : Option Addr) (c0_2 : Nat) (l0_2 : List Tk) (A1 : Option Addr) (c1 : Nat) (l1 : List Int) (r1 : Int) (r2 : List Fk) (w : World) (hr0_2 : Kd.C k25 w A0_2 l0_2.length l0_2) (hc0_2 : l0_2.length ≤ c0_2) (hr1 : Kd.C (Kd.int .i64) w A1 l1.length l1) (hc1 : l1.length ≤ c1) (h : impl_Task_fetched.f a0_0 a0_1 l0_2 l1 = some (r1, r2)) :
    Calls Try.prog 74 #[.agg #[.int .i64 a0_0, .int .i64 a0_1, .slice A0_2 l0_2.length c0_2], .slice A1 l1.length c1] w fun e w' => ∃ v1_ : Value, e = .returned (.tuple #[.int .i64 r1, v1_]) ∧ Kd.R k49 49 w' w.heap.size (fun _ => True) v1_ r2 ∧ Below w.heap.size w w' := by
  unfold impl_Task_fetched.f at h
  split at h
  case isFalse => cases h
  rename_i hg
  obtain ⟨hf, hv, hn⟩ := hg
  have hR := Option.some.inj h
  obtain rfl : (runT l1 ⟨a0_0, a0_1, l0_2⟩).1 = r1 := by rw [hR]
  obtain rfl : (runT l1 ⟨a0_0, a0_1, l0_2⟩).2 = r2 := by rw [hR]
  have HI : RunAt w (w.heap.size + 2) (w.heap.size + 1) A1 c1 l1 (fun k => k = w.heap.size ∨ k = w.heap.size + 1 ∨ k = w.heap.size + 2) [] (((w.alloc (.cells #[.int .i64 a0_0, .int .i64 a0_1, .slice A0_2 l0_2.length c0_2] 25 (0, 0))).alloc (.cells #[.slice A1 l1.length c1] 28 (0, 0))).alloc (.cells #[.slice none 0 0] 45 (0, 0))) := {
    below := (((Below.refl w.heap.size w).alloc (Nat.le_refl _) _).alloc (by simp) _).alloc (by simp; omega) _
    hv := blk_alloc (by have := blk_new (w.alloc (.cells #[.int .i64 a0_0, .int .i64 a0_1, .slice A0_2 l0_2.length c0_2] 25 (0, 0))) (.cells #[.slice A1 l1.length c1] 28 (0, 0)); simpa using this) _
    hr := hr1
    hc := hc1
    ho := ⟨.slice none 0 0, by have := blk_new ((w.alloc (.cells #[.int .i64 a0_0, .int .i64 a0_1, .slice A0_2 l0_2.length c0_2] 25 (0, 0))).alloc (.cells #[.slice A1 l1.length c1] 28 (0, 0))) (.cells #[.slice none 0 0] 45 (0, 0)); simpa using this, Kd.R_nil _ _ _ _ _⟩
    hS := fun k hk => by simp; omega
    sB := .inr (.inr rfl)
    ne := by omega
    bB := by omega }
  have HA := Aside0.mk (runs hv (fits_of _ hf) _ _ _ A0_2 c0_2 HI (.inr (.inl rfl)) hr0_2 hc0_2 (by simpa using hn))
  have hu := Try.underlying25
  clear h hR HI hf hv hn hr0_2 hc0_2 hr1 hc1
  have hmf : ∀ (fn : Fn) (first cap : Array Value) (W : World), (Instr.makeFunc fn first cap).run Try.prog W = .ok (.func fn first cap) W := fun _ _ _ _ => rfl
  go_enter Try.func74, Try.ntmps74
  go_wp2_with ((go_at_call 115; (with_reducible refine HA.out.mono ?_); rintro e w2 ⟨rfl, h2, s2⟩; obtain ⟨vo, hb2, ho2⟩ := h2.ho; obtain ⟨Ao, co, eo⟩ := Kd.R_slice ho2; subst eo; have hq0 : w2.cell? ⟨w.heap.size + 1 + 1, 0, none⟩ = _ := (blk_cell hb2 0).trans rfl; have H2 := Aside0.mk h2; have HO2 := Aside0.mk ho2; clear h2 s2 ho2 HA))
  go_quiet (fail)
  go_wp2
  go_ret2
  refine ⟨.slice Ao (runT l1 ⟨a0_0, a0_1, l0_2⟩).2.length co, rfl, ?_, pw_below_drewN H2.out.below nq⟩
  have h3 := Kd.R_drewN HO2.out nq
  simp only [List.nil_append] at h3
  exact Kd.R_mono h3 (fun _ _ => trivial)
end Go.Proofs.Ytooojligedlpeaa.G
end
section
namespace Go.Proofs.Ytooojligedlpeaa.G
open Go.RowKit Go.Proofs.YtooojligedlpeaaW.PrintWords Go.Proofs.YtooojligedlpeaaW.PrintLast Go.Proofs.YtooojligedlpeaaW.PrintMore
attribute [local go_sem] max2_int min2_int max_two min_two max_three min_three max_four min_four
set_option linter.unusedVariables false
set_option linter.unusedSimpArgs false
def IsS144 (w0 W : World) (g : Nat) (f0 : List Int) (f1 : Int) (f2 : Int) : Prop := ∃ A0 c0, W.heap[g]? = some (.cells #[.slice A0 f0.length c0, .int .i64 f1, .int .i64 f2] 144 (0, 0)) ∧ w0.heap.size ≤ g ∧ Kd.C (Kd.int .i64) w0 A0 f0.length f0
theorem IsS144.grown {w0 W : World} {g : Nat} {f0 : List Int} {f1 : Int} {f2 : Int} {W1 : World} {row : Option Nat} (h : IsS144 w0 W g f0 f1 f2) (hw : W.grownBy W1 row) (hne : some g ≠ row) : IsS144 w0 W1 g f0 f1 f2 := by
  obtain ⟨A0, c0, hb, hg, hr0⟩ := h
  exact ⟨A0, c0, blk_grown hb hw hne, hg, hr0⟩
theorem IsS144.kept {w0 W : World} {g : Nat} {f0 : List Int} {f1 : Int} {f2 : Int} {W1 : World} {S : Nat → Prop} (h : IsS144 w0 W g f0 f1 f2) (hk : Kept W W1 S) (hne : ¬ S g) : IsS144 w0 W1 g f0 f1 f2 := by
  obtain ⟨A0, c0, hb, hg, hr0⟩ := h
  exact ⟨A0, c0, blk_kept hb hk hne, hg, hr0⟩
theorem IsS144.below {w0 W : World} {g : Nat} {f0 : List Int} {f1 : Int} {f2 : Int} {W1 : World} (h : IsS144 w0 W g f0 f1 f2) (hw : Below W.heap.size W W1) : IsS144 w0 W1 g f0 f1 f2 := h.grown (grown_of_below hw none) (by simp)
theorem IsS144.alloc {w0 W : World} {g : Nat} {f0 : List Int} {f1 : Int} {f2 : Int} (h : IsS144 w0 W g f0 f1 f2) (o : Obj) : IsS144 w0 (W.alloc o) g f0 f1 f2 := h.below (below_alloc (Below.refl _ _) o)
theorem IsS144.drewN {w0 W : World} {g : Nat} {f0 : List Int} {f1 : Int} {f2 : Int} (h : IsS144 w0 W g f0 f1 f2) (m : Nat) : IsS144 w0 (W.drewN m) g f0 f1 f2 := h
theorem IsS144.drew {w0 W : World} {g : Nat} {f0 : List Int} {f1 : Int} {f2 : Int} (h : IsS144 w0 W g f0 f1 f2) : IsS144 w0 W.drew g f0 f1 f2 := h
theorem IsS144.at_ {w0 W : World} {g : Nat} {f0 : List Int} {f1 : Int} {f2 : Int} {w' : World} {m : Nat} (hq : W.drewN m = w') (h : IsS144 w0 W g f0 f1 f2) : IsS144 w0 w' g f0 f1 f2 := by subst hq; exact IsS144.drewN h m
theorem IsS144.apart {w0 W : World} {g : Nat} {f0 : List Int} {f1 : Int} {f2 : Int} {α : Type} {d : Kd α} {e : Nat} {base : Nat} {ok : Nat → Prop} {v : Value} {xs : List α} (h : IsS144 w0 W g f0 f1 f2) (ho : d.R e W base ok v xs) (ht : ∀ q, q ∈ e :: d.E → q ≠ 144) : d.R e W base (fun k => ok k ∧ k ≠ g) v xs := by
  obtain ⟨A0, c0, hb, hg, hr0⟩ := h
  exact Kd.R_types ho hb ht
theorem IsS144.own_ne {w0 W : World} {g : Nat} {f0 : List Int} {f1 : Int} {f2 : Int} {α : Type} {d : Kd α} {e : Nat} {base : Nat} {ok : Nat → Prop} {v : Value} {xs : List α} (h : IsS144 w0 W g f0 f1 f2) (ho : d.R e W base ok v xs) (ht : e ≠ 144) : some g ≠ v.ownBlock := by
  obtain ⟨A0, c0, hb, hg, hr0⟩ := h
  exact Kd.R_ne ho hb ht
theorem IsS144.lt {w0 W : World} {g : Nat} {f0 : List Int} {f1 : Int} {f2 : Int} (h : IsS144 w0 W g f0 f1 f2) : g < W.heap.size := by
  obtain ⟨A0, c0, hb, hg, hr0⟩ := h
  exact blk_lt hb
theorem IsS144.ge {w0 W : World} {g : Nat} {f0 : List Int} {f1 : Int} {f2 : Int} (h : IsS144 w0 W g f0 f1 f2) : w0.heap.size ≤ g := by
  obtain ⟨A0, c0, hb, hg, hr0⟩ := h
  exact hg
theorem cellS144_0 {W : World} {g : Nat} {A0 : Option Addr} {c0 : Nat} {f0 : List Int} {f1 : Int} {f2 : Int} (h : W.heap[g]? = some (.cells #[.slice A0 f0.length c0, .int .i64 f1, .int .i64 f2] 144 (0, 0))) : W.cell? ⟨g, 0, none⟩ = some (.slice A0 f0.length c0) := (blk_cell h 0).trans rfl
theorem cellS144_1 {W : World} {g : Nat} {A0 : Option Addr} {c0 : Nat} {f0 : List Int} {f1 : Int} {f2 : Int} (h : W.heap[g]? = some (.cells #[.slice A0 f0.length c0, .int .i64 f1, .int .i64 f2] 144 (0, 0))) : W.cell? ⟨g, 1, none⟩ = some (.int .i64 f1) := (blk_cell h 1).trans rfl
theorem IsS144.set_1 {w0 W : World} {g : Nat} {f0 : List Int} {f1 : Int} {f2 : Int} (h : IsS144 w0 W g f0 f1 f2) (x : Int) : IsS144 w0 (W.setCell ⟨g, 1, none⟩ (.int .i64 x)) g f0 x f2 := by
  obtain ⟨A0, c0, hb, hg, hr0⟩ := h
  exact ⟨A0, c0, by simpa using blk_set hb 1 (.int .i64 x), hg, hr0⟩
theorem cellS144_2 {W : World} {g : Nat} {A0 : Option Addr} {c0 : Nat} {f0 : List Int} {f1 : Int} {f2 : Int} (h : W.heap[g]? = some (.cells #[.slice A0 f0.length c0, .int .i64 f1, .int .i64 f2] 144 (0, 0))) : W.cell? ⟨g, 2, none⟩ = some (.int .i64 f2) := (blk_cell h 2).trans rfl
theorem IsS144.set_2 {w0 W : World} {g : Nat} {f0 : List Int} {f1 : Int} {f2 : Int} (h : IsS144 w0 W g f0 f1 f2) (x : Int) : IsS144 w0 (W.setCell ⟨g, 2, none⟩ (.int .i64 x)) g f0 f1 x := by
  obtain ⟨A0, c0, hb, hg, hr0⟩ := h
  exact ⟨A0, c0, by simpa using blk_set hb 2 (.int .i64 x), hg, hr0⟩
theorem IsS144.new (w0 W : World) (A0 : Option Addr) (c0 : Nat) (f0 : List Int) (f1 : Int) (f2 : Int) (hB : Below w0.heap.size w0 W) (hr0 : Kd.C (Kd.int .i64) w0 A0 f0.length f0) : IsS144 w0 (W.alloc (.cells #[.slice A0 f0.length c0, .int .i64 f1, .int .i64 f2] 144)) W.heap.size f0 f1 f2 := ⟨A0, c0, by simpa using heap_alloc_new W _, hB.size, hr0⟩
def spec_l2Tape_get.f (s0_0 : List Int) (s0_1 : Int) (s0_2 : Int) (a1 : Int) : Option (Int × Bool × Int × Int) := if s0_1 = (s0_0.length : Int) then (some (0, false, s0_1, a1)) else (if 0 ≤ (wrap64 ((wrap64 (s0_1 + 1)) - 1)) then (if (wrap64 ((wrap64 (s0_1 + 1)) - 1)) < (s0_0.length : Int) then (some (rd s0_0 (wrap64 ((wrap64 (s0_1 + 1)) - 1)), true, wrap64 (s0_1 + 1), s0_2)) else (none)) else (none))
set_option maxHeartbeats 8000000 in
set_option maxRecDepth 100000 in
theorem spec_l2Tape_get.calls (g : Nat) (s0_0 : List Int) (s0_1 : Int) (s0_2 : Int) (a1 : Int) (r1 : Int) (r2 : Bool) (r3 : Int) (r4 : Int) (w0 w : World) (hI : IsS144 w0 w g s0_0 s0_1 s0_2) (hB : Below w0.heap.size w0 w) (h : spec_l2Tape_get.f s0_0 s0_1 s0_2 a1 = some (r1, r2, r3, r4)) :
    Calls Try.prog 141 #[.pointer (some ⟨g, 0, none⟩), .int .i64 a1] w fun e w' => e = .returned (.tuple #[.int .i64 r1, .bool r2]) ∧ IsS144 w0 w' g s0_0 r3 r4 ∧ Below w0.heap.size w0 w' ∧ KeepBut w w' g none := by
  have HI0 := Aside0.mk hI
  have HK := Aside0.mk (KeepBut.refl w g none)
  have HL := Aside0.mk hB.size
  clear hI
  have HW0 := Aside0.mk hB.size
  have HB := Aside0.mk hB
  clear hB
  have H : (if s0_1 = (s0_0.length : Int) then (some (0, false, s0_1, a1)) else (if 0 ≤ (wrap64 ((wrap64 (s0_1 + 1)) - 1)) then (if (wrap64 ((wrap64 (s0_1 + 1)) - 1)) < (s0_0.length : Int) then (some (rd s0_0 (wrap64 ((wrap64 (s0_1 + 1)) - 1)), true, wrap64 (s0_1 + 1), s0_2)) else (none)) else (none))) = some (r1, r2, r3, r4) := h
  clear h
  by_cases c3 : s0_1 = (s0_0.length : Int)
  · rw [if_pos c3] at H
    have c3b0 : (s0_1 == (s0_0.length : Int)) = true := beq_iff_eq.mpr c3
    have c3b1 : (s0_1 != (s0_0.length : Int)) = false := bne_eq_false_iff_eq.mpr c3
    clear c3
    simp only [Option.some.injEq, Prod.mk.injEq] at H
    obtain ⟨rfl, rfl, rfl, rfl⟩ := H
    obtain ⟨ASz4_0, cSz4_0, HGz4, hgz4, HSz4_0⟩ := HI0.out
    have hcz4_0 := cellS144_0 HGz4
    have hcz4_1 := cellS144_1 HGz4
    have hcz4_2 := cellS144_2 HGz4
    have hfz4_1 := blk_frozen HGz4 1
    have hfz4_2 := blk_frozen HGz4 2
    clear HGz4 hgz4
    go_enter Try.func141, Try.ntmps141
    go_wp2
    repeat (go_quiet (fail); try go_wp2)
    go_ret2
    exact ⟨by first | rfl | (simp [errW_none, errW_some] <;> rfl) | (simp [*, errW_none, errW_some] <;> rfl), by repeat (first | (with_reducible first | exact HI0.out | apply IsS144.alloc | apply IsS144.drewN | apply IsS144.drew | apply IsS144.set_1 | apply IsS144.set_2) | exact HI0.out), by repeat (first | (with_reducible first | exact HB.out | apply below_alloc | apply pw_below_drewN | apply below_drew1 | refine below_set ?_ (IsS144.ge HI0.out)) | exact HB.out), by repeat (first | (with_reducible first | exact HK.out | apply KeepBut.set_ | apply keep_drewN | apply keep_drew | apply keep_alloc) | exact HK.out)⟩
  · rw [if_neg c3] at H
    have c3b0 : (s0_1 == (s0_0.length : Int)) = false := beq_eq_false_iff_ne.mpr c3
    have c3b1 : (s0_1 != (s0_0.length : Int)) = true := bne_iff_ne.mpr c3
    obtain ⟨ji5, hji5⟩ : ∃ j_ : Int, (wrap64 ((wrap64 (s0_1 + 1)) - 1)) = j_ := ⟨_, rfl⟩
    replace H : (if 0 ≤ (ji5) then (if (ji5) < (s0_0.length : Int) then (some (rd s0_0 (ji5), true, wrap64 (s0_1 + 1), s0_2)) else (none)) else (none)) = some (r1, r2, r3, r4) := by first | (rw [hji5] at H; exact H) | (simp only [hji5] at H ⊢; exact H)
    have hji5w : (IntKind.i64.wrap ((wrap64 (s0_1 + 1)) - 1)) = ji5 := (i64_w _).trans hji5
    by_cases c6 : 0 ≤ (ji5)
    · rw [if_pos c6] at H
      have c6b0 : decide (0 ≤ (ji5)) = true := decide_eq_true c6
      clear c6
      by_cases c7 : (ji5) < (s0_0.length : Int)
      · rw [if_pos c7] at H
        have c7b0 : decide ((ji5) < (s0_0.length : Int)) = true := decide_eq_true c7
        clear c7
        simp only [Option.some.injEq, Prod.mk.injEq] at H
        obtain ⟨rfl, rfl, rfl, rfl⟩ := H
        obtain ⟨ASz8_0, cSz8_0, HGz8, hgz8, HSz8_0⟩ := HI0.out
        have hcz8_0 := cellS144_0 HGz8
        have hcz8_1 := cellS144_1 HGz8
        have hcz8_2 := cellS144_2 HGz8
        have hfz8_1 := blk_frozen HGz8 1
        have hfz8_2 := blk_frozen HGz8 2
        clear HGz8 hgz8
        have p341 : 0 ≤ ((ji5) : Int) := of_decide_eq_true (by first | (with_reducible assumption) | assumption)
        have q341 : (ji5) < (s0_0.length : Int) := of_decide_eq_true (by first | (with_reducible assumption) | assumption)
        obtain ⟨ad341, e341, hx341_0⟩ := Kd.at_int HSz8_0 (ji5) p341 q341
        cases e341
        have hn341_0 : ad341.block ≠ g := Nat.ne_of_lt (Nat.lt_of_lt_of_le (by have := World.block_lt_of_cell? _ _ hx341_0; first | rwa [add_block] at this | exact this) (IsS144.ge HI0.out))
        replace hx341_0 := pw_cell_below HB.out hx341_0
        replace hx341_0 := (cell_far (p := ⟨g, 1, none⟩) (by first | (rw [add_block]; exact hn341_0) | (show (Addr.add _ _).block ≠ _; rw [add_block]; exact hn341_0) | exact hn341_0) (.int .i64 (wrap64 (s0_1 + 1)))).trans hx341_0
        (try have hy341_0 := fun (n_ : Nat) => (show (((w.drewN n_).setCell ⟨g, 1, none⟩ (.int .i64 (wrap64 (s0_1 + 1))))).cell? _ = some _ from hx341_0))
        clear hn341_0
        replace p341 := eq_true p341
        replace q341 := eq_true q341
        go_enter Try.func141, Try.ntmps141
        go_wp2
        repeat (go_quiet (fail); try go_wp2)
        go_ret2
        exact ⟨by first | rfl | (simp [errW_none, errW_some] <;> rfl) | (simp only [← hji5]; first | rfl | (simp [errW_none, errW_some] <;> rfl)) | (simp [*, errW_none, errW_some] <;> rfl), by repeat (first | (with_reducible first | exact HI0.out | apply IsS144.alloc | apply IsS144.drewN | apply IsS144.drew | apply IsS144.set_1 | apply IsS144.set_2) | exact HI0.out), by repeat (first | (with_reducible first | exact HB.out | apply below_alloc | apply pw_below_drewN | apply below_drew1 | refine below_set ?_ (IsS144.ge HI0.out)) | exact HB.out), by repeat (first | (with_reducible first | exact HK.out | apply KeepBut.set_ | apply keep_drewN | apply keep_drew | apply keep_alloc) | exact HK.out)⟩
      · rw [if_neg c7] at H
        exact absurd H (by simp)
    · rw [if_neg c6] at H
      exact absurd H (by simp)
end Go.Proofs.Ytooojligedlpeaa.G
end
section
namespace Go.Proofs.Ytooojligedlpeaa.G
open Go.RowKit Go.Proofs.YtooojligedlpeaaW.PrintWords Go.Proofs.YtooojligedlpeaaW.PrintLast Go.Proofs.YtooojligedlpeaaW.PrintMore
set_option linter.unusedVariables false
set_option linter.unusedSimpArgs false
abbrev TR := Int × Bool × Int × Int
abbrev IsTape := @IsS144
def getT (got : List Int) (a lk n : Int) : TR := if a = (got.length : Int) then (0, false, a, n) else (rd got a, true, a + 1, lk)
theorem getT_f (got : List Int) (a lk n : Int) (h0 : 0 ≤ a) (h1 : a ≤ (got.length : Int)) (hl : got.length ≤ 1000000) : spec_l2Tape_get.f got a lk n = some (getT got a lk n) := by
  unfold spec_l2Tape_get.f getT
  by_cases h : a = (got.length : Int)
  · rw [if_pos h, if_pos h]
  · rw [if_neg h, if_neg h, wrap_id (a + 1) (by omega) (by omega), wrap_id (a + 1 - 1) (by omega) (by omega), show a + 1 - 1 = a by omega, if_pos h0, if_pos (by omega)]
def seqT (x : TR) (f : Int → Int → Int → TR) : TR := if x.2.1 = true then f x.1 x.2.2.1 x.2.2.2 else (0, false, x.2.2.1, x.2.2.2)
def noT : Int → Int → TR := fun a lk => (0, false, a, lk)
def combD (got : List Int) (k n : Int) (rs : List (Int → Int → TR)) (a lk : Int) : TR :=
  if k = 0 then (n, true, a, lk)
  else if k = 1 then getT got a lk n
  else seqT (rs.getD 0 noT a lk) fun v a lk =>
    if k = 5 then getT got a lk ((n + v) % 10)
    else if k = 4 then (if v = 0 then rs.getD 2 noT a lk else rs.getD 1 noT a lk)
    else seqT (rs.getD 1 noT a lk) fun u a lk => (if k = 3 then (v * u) % 97 else (v + u) % 97, true, a, lk)
mutual
def doT (got : List Int) : Tk → Int → Int → TR
  | ⟨k, n, ps⟩ => combD got k n (doL got ps)
def doL (got : List Int) : List Tk → List (Int → Int → TR)
  | [] => []
  | p :: ps => doT got p :: doL got ps
end
theorem doT_num (got : List Int) (n a lk : Int) : doT got ⟨0, n, []⟩ a lk = (n, true, a, lk) := by simp [doT, combD]
theorem doT_get (got : List Int) (n a lk : Int) : doT got ⟨1, n, []⟩ a lk = getT got a lk n := by simp [doT, combD]
theorem doT_add (got : List Int) (x y : Tk) (a lk : Int) : doT got ⟨2, 0, [x, y]⟩ a lk = seqT (doT got x a lk) fun v a lk => seqT (doT got y a lk) fun u a lk => ((v + u) % 97, true, a, lk) := by simp [doT, doL, combD]
theorem doT_mul (got : List Int) (x y : Tk) (a lk : Int) : doT got ⟨3, 0, [x, y]⟩ a lk = seqT (doT got x a lk) fun v a lk => seqT (doT got y a lk) fun u a lk => ((v * u) % 97, true, a, lk) := by simp [doT, doL, combD]
theorem doT_if (got : List Int) (x y z : Tk) (a lk : Int) : doT got ⟨4, 0, [x, y, z]⟩ a lk = seqT (doT got x a lk) fun v a lk => if v = 0 then doT got z a lk else doT got y a lk := by simp [doT, doL, combD]
theorem doT_at (got : List Int) (n : Int) (x : Tk) (a lk : Int) : doT got ⟨5, n, [x]⟩ a lk = seqT (doT got x a lk) fun v a lk => getT got a lk ((n + v) % 10) := by simp [doT, doL, combD]
def TapeOk (got : List Int) (a : Int) (r : TR) : Prop := 0 ≤ r.1 ∧ r.1 ≤ 96 ∧ a ≤ r.2.2.1 ∧ r.2.2.1 ≤ (got.length : Int)
theorem getT_ok {got : List Int} (hg : got.all isVal = true) (a lk n : Int) (h0 : 0 ≤ a) (h1 : a ≤ (got.length : Int)) : TapeOk got a (getT got a lk n) := by
  unfold getT TapeOk
  split
  · rename_i h; simp only; omega
  · rename_i h
    have hv := atV_val hg a
    unfold atV at hv
    rw [if_pos ⟨h0, by omega⟩] at hv
    simp only
    omega
theorem doT_ok {got : List Int} (hg : got.all isVal = true) {t : Tk} (h : Fits t) : ∀ a lk : Int, 0 ≤ a → a ≤ (got.length : Int) → TapeOk got a (doT got t a lk) := by
  induction h with
  | num n g0 g1 => intro a lk h0 h1; rw [doT_num]; exact ⟨g0, g1, Int.le_refl _, h1⟩
  | get n => intro a lk h0 h1; rw [doT_get]; exact getT_ok hg a lk n h0 h1
  | add x y _ _ ihx ihy =>
    intro a lk h0 h1
    rw [doT_add]
    have hx := ihx a lk h0 h1
    generalize doT got x a lk = rx at *
    obtain ⟨v, ok, a1, l1⟩ := rx
    unfold TapeOk at hx
    simp only at hx
    cases ok with
    | false => simp only [seqT, Bool.false_eq_true, if_false]; unfold TapeOk; simp only; omega
    | true =>
      have hy := ihy a1 l1 (by omega) (by omega)
      simp only [seqT, if_true]
      generalize doT got y a1 l1 = ry at *
      obtain ⟨u, ok2, a2, l2⟩ := ry
      unfold TapeOk at hy
      simp only at hy
      cases ok2 with
      | false => simp only [Bool.false_eq_true, if_false]; unfold TapeOk; simp only; omega
      | true => simp only [if_true]; unfold TapeOk; simp only; omega
  | mul x y _ _ ihx ihy =>
    intro a lk h0 h1
    rw [doT_mul]
    have hx := ihx a lk h0 h1
    generalize doT got x a lk = rx at *
    obtain ⟨v, ok, a1, l1⟩ := rx
    unfold TapeOk at hx
    simp only at hx
    cases ok with
    | false => simp only [seqT, Bool.false_eq_true, if_false]; unfold TapeOk; simp only; omega
    | true =>
      have hy := ihy a1 l1 (by omega) (by omega)
      simp only [seqT, if_true]
      generalize doT got y a1 l1 = ry at *
      obtain ⟨u, ok2, a2, l2⟩ := ry
      unfold TapeOk at hy
      simp only at hy
      cases ok2 with
      | false => simp only [Bool.false_eq_true, if_false]; unfold TapeOk; simp only; omega
      | true =>
        simp only [if_true]
        unfold TapeOk
        have hm := Int.mul_nonneg hx.1 hy.1
        simp only
        omega
  | iff x y z _ _ _ ihx ihy ihz =>
    intro a lk h0 h1
    rw [doT_if]
    have hx := ihx a lk h0 h1
    generalize doT got x a lk = rx at *
    obtain ⟨v, ok, a1, l1⟩ := rx
    unfold TapeOk at hx
    simp only at hx
    cases ok with
    | false => simp only [seqT, Bool.false_eq_true, if_false]; unfold TapeOk; simp only; omega
    | true =>
      simp only [seqT, if_true]
      by_cases hv : v = 0
      · rw [if_pos hv]
        have hz := ihz a1 l1 (by omega) (by omega)
        exact ⟨hz.1, hz.2.1, Int.le_trans hx.2.2.1 hz.2.2.1, hz.2.2.2⟩
      · rw [if_neg hv]
        have hy := ihy a1 l1 (by omega) (by omega)
        exact ⟨hy.1, hy.2.1, Int.le_trans hx.2.2.1 hy.2.2.1, hy.2.2.2⟩
  | «at» n _ _ x _ ihx =>
    intro a lk h0 h1
    rw [doT_at]
    have hx := ihx a lk h0 h1
    generalize doT got x a lk = rx at *
    obtain ⟨v, ok, a1, l1⟩ := rx
    unfold TapeOk at hx
    simp only at hx
    cases ok with
    | false => simp only [seqT, Bool.false_eq_true, if_false]; unfold TapeOk; simp only; omega
    | true =>
      simp only [seqT, if_true]
      have hy := getT_ok hg a1 l1 ((n + v) % 10) (by omega) (by omega)
      exact ⟨hy.1, hy.2.1, Int.le_trans hx.2.2.1 hy.2.2.1, hy.2.2.2⟩
def Does (w0 : World) (g : Nat) (got : List Int) (t : Tk) : Prop :=
  ∀ (w : World) (a lk : Int) (A1 : Option Addr) (c1 : Nat), IsTape w0 w g got a lk → Below w0.heap.size w0 w → (∀ W_, KeepBut w W_ g none → Kd.C k25 W_ A1 t.f2.length t.f2) → t.f2.length ≤ c1 → 0 ≤ a → a ≤ (got.length : Int) →
    Calls Try.prog 135 #[.agg #[.int .i64 t.f0, .int .i64 t.f1, .slice A1 t.f2.length c1], .pointer (some ⟨g, 0, none⟩)] w fun e w' =>
      e = .returned (.tuple #[.int .i64 (doT got t a lk).1, .bool (doT got t a lk).2.1]) ∧ IsTape w0 w' g got (doT got t a lk).2.2.1 (doT got t a lk).2.2.2 ∧ Below w0.heap.size w0 w' ∧ KeepBut w w' g none
theorem part_keep {w0 w : World} {g : Nat} {got : List Int} {a lk : Int} (hI : IsTape w0 w g got a lk) {A1 : Option Addr} {ps : List Tk} (h : ∀ W_, KeepBut w W_ g none → Kd.C k25 W_ A1 ps.length ps) (i : Nat) (p : Tk) (hp : ps[i]? = some p) :
    ∃ ad A2 c2, A1 = some ad ∧ p.f2.length ≤ c2 ∧ ∀ W, KeepBut w W g none → Kd.C k25 W A2 p.f2.length p.f2 ∧ W.cell? (ad.add (i * 3)) = some (.int .i64 p.f0) ∧ W.cell? ⟨(ad.add (i * 3)).block, (ad.add (i * 3)).off + 1, none⟩ = some (.int .i64 p.f1) ∧ W.cell? ⟨(ad.add (i * 3)).block, (ad.add (i * 3)).off + 2, none⟩ = some (.slice A2 p.f2.length c2) := by
  obtain ⟨hi, e⟩ := List.getElem?_eq_some_iff.1 hp
  have at_w : ∀ W, KeepBut w W g none → ∃ ad A2 c2, A1 = some ad ∧ p.f2.length ≤ c2 ∧ Kd.C k25 W A2 p.f2.length p.f2 ∧ W.cell? (ad.add (i * 3)) = some (.int .i64 p.f0) ∧ W.cell? ⟨(ad.add (i * 3)).block, (ad.add (i * 3)).off + 1, none⟩ = some (.int .i64 p.f1) ∧ W.cell? ⟨(ad.add (i * 3)).block, (ad.add (i * 3)).off + 2, none⟩ = some (.slice A2 p.f2.length c2) := by
    intro W hk
    obtain ⟨ad, A2, c2, e1, hx0, hx1, hx2, hl, hC⟩ := at_T25 (h W hk) (i : Int) (by omega) (by omega)
    rw [rd_tk ps i hi, e] at hx0 hx1 hx2 hl hC
    rw [Int.toNat_natCast] at hx0 hx1 hx2
    exact ⟨ad, A2, c2, e1, hl, hC, hx0, hx1, hx2⟩
  obtain ⟨ad, A2, c2, rfl, hl, _, _, _, hx2⟩ := at_w w (KeepBut.refl w g none)
  refine ⟨ad, A2, c2, rfl, hl, fun W hk => ?_⟩
  obtain ⟨ad', A2', c2', e1, hl', hC', hy0, hy1, hy2⟩ := at_w W hk
  obtain rfl : ad = ad' := Option.some.inj e1
  have hne : (ad.add (i * 3)).block ≠ g := by
    intro eg
    obtain ⟨A0, c0, hb, _, _⟩ := hI
    rw [eg] at hx2
    rw [blk_cell hb] at hx2
    generalize (ad.add (i * 3)).off = o at hx2
    match o, hx2 with
    | 0, h => simp at h
    | o + 1, h => simp at h
  have hk2 := keep_cell hk hx2 hne
  rw [hk2] at hy2
  have he := Option.some.inj hy2
  injection he with e2 _ e3
  subst e2
  subst e3
  exact ⟨hC', hy0, hy1, hk2⟩
end Go.Proofs.Ytooojligedlpeaa.G
end
section
namespace Go.Proofs.Ytooojligedlpeaa.G
open Go.RowKit Go.Proofs.YtooojligedlpeaaW.PrintWords Go.Proofs.YtooojligedlpeaaW.PrintLast Go.Proofs.YtooojligedlpeaaW.PrintMore
set_option linter.unusedVariables false
set_option linter.unusedSimpArgs false
set_option maxHeartbeats 8000000 in
set_option maxRecDepth 100000 in
theorem does_num {w0 : World} {g : Nat} {got : List Int} (hg : got.all isVal = true) (hgl : got.length ≤ 1000000) (n : Int) : Does w0 g got ⟨0, n, []⟩ := by
  intro w a lk A1 c1 hI hB hr hc h0 h1
  have HI := Aside0.mk hI
  have HB := Aside0.mk hB
  have hne : w.heap.size ≠ g := fun e => by have := hI.lt; omega
  have HNE := Aside0.mk hne
  have I1 := Aside0.mk (hI.alloc (.cells #[.int .i64 0, .int .i64 n, .slice A1 0 c1] 25 (0, 0)))
  have B1 := Aside0.mk (below_alloc hB (.cells #[.int .i64 0, .int .i64 n, .slice A1 0 c1] 25 (0, 0)))
  have K1 := Aside0.mk (keep_alloc (KeepBut.refl w g none) (.cells #[.int .i64 0, .int .i64 n, .slice A1 0 c1] 25 (0, 0)))
  have hu := Try.underlying25
  have H01 := Aside0.mk (And.intro h0 h1)
  have HGL := Aside0.mk hgl
  clear hI hB hr hc hne hgl
  show Calls Try.prog 135 #[.agg #[.int .i64 0, .int .i64 n, .slice A1 0 c1], _] w _
  rw [doT_num]
  go_enter Try.func135, Try.ntmps135
  go_wp2
  go_ret2
  exact ⟨rfl, I1.out, B1.out, K1.out⟩
end Go.Proofs.Ytooojligedlpeaa.G
end
section
namespace Go.Proofs.Ytooojligedlpeaa.G
open Go.RowKit Go.Proofs.YtooojligedlpeaaW.PrintWords Go.Proofs.YtooojligedlpeaaW.PrintLast Go.Proofs.YtooojligedlpeaaW.PrintMore
set_option linter.unusedVariables false
set_option linter.unusedSimpArgs false
set_option maxHeartbeats 8000000 in
set_option maxRecDepth 100000 in
theorem does_get {w0 : World} {g : Nat} {got : List Int} (hg : got.all isVal = true) (hgl : got.length ≤ 1000000) (n : Int) : Does w0 g got ⟨1, n, []⟩ := by
  intro w a lk A1 c1 hI hB hr hc h0 h1
  have HI := Aside0.mk hI
  have HB := Aside0.mk hB
  have hne : w.heap.size ≠ g := fun e => by have := hI.lt; omega
  have HNE := Aside0.mk hne
  have I1 := Aside0.mk (hI.alloc (.cells #[.int .i64 1, .int .i64 n, .slice A1 0 c1] 25 (0, 0)))
  have B1 := Aside0.mk (below_alloc hB (.cells #[.int .i64 1, .int .i64 n, .slice A1 0 c1] 25 (0, 0)))
  have K1 := Aside0.mk (keep_alloc (KeepBut.refl w g none) (.cells #[.int .i64 1, .int .i64 n, .slice A1 0 c1] 25 (0, 0)))
  have hu := Try.underlying25
  have H01 := Aside0.mk (And.intro h0 h1)
  have HGL := Aside0.mk hgl
  clear hI hB hr hc hne hgl
  show Calls Try.prog 135 #[.agg #[.int .i64 1, .int .i64 n, .slice A1 0 c1], _] w _
  rw [doT_get]
  go_enter Try.func135, Try.ntmps135
  go_wp2_with (go_at_call 141; refine (spec_l2Tape_get.calls _ _ _ _ _ _ _ _ _ _ _ I1.out B1.out (getT_f got a lk n H01.out.1 H01.out.2 HGL.out)).mono ?_; rintro e w4 ⟨rfl, i4, b4, k4⟩; have I4 := Aside0.mk i4; have B4 := Aside0.mk b4; have K4 := Aside0.mk (K1.out.trans k4 (.inl rfl)); clear i4 b4 k4)
  go_ret2
  exact ⟨rfl, I4.out, B4.out, K4.out⟩
end Go.Proofs.Ytooojligedlpeaa.G
end
section
namespace Go.Proofs.Ytooojligedlpeaa.G
open Go.RowKit Go.Proofs.YtooojligedlpeaaW.PrintWords Go.Proofs.YtooojligedlpeaaW.PrintLast Go.Proofs.YtooojligedlpeaaW.PrintMore
set_option linter.unusedVariables false
set_option linter.unusedSimpArgs false
set_option maxHeartbeats 8000000 in
set_option maxRecDepth 100000 in
theorem does_at {w0 : World} {g : Nat} {got : List Int} (hg : got.all isVal = true) (hgl : got.length ≤ 1000000) (n : Int) (hn0 : 0 ≤ n) (hn1 : n ≤ 9) (x : Tk) (hx : Fits x) (ihx : Does w0 g got x) : Does w0 g got ⟨5, n, [x]⟩ := by
  intro w a lk A1 c1 hI hB hr hc h0 h1
  have HI := Aside0.mk hI
  have HB := Aside0.mk hB
  have hne : w.heap.size ≠ g := fun e => by have := hI.lt; omega
  have HNE := Aside0.mk hne
  have I1 := Aside0.mk (hI.alloc (.cells #[.int .i64 5, .int .i64 n, .slice A1 1 c1] 25 (0, 0)))
  have B1 := Aside0.mk (below_alloc hB (.cells #[.int .i64 5, .int .i64 n, .slice A1 1 c1] 25 (0, 0)))
  have K1 := Aside0.mk (keep_alloc (KeepBut.refl w g none) (.cells #[.int .i64 5, .int .i64 n, .slice A1 1 c1] 25 (0, 0)))
  have hu := Try.underlying25
  have H01 := Aside0.mk (And.intro h0 h1)
  have HGL := Aside0.mk hgl
  obtain ⟨ad, Ax, cx, rfl, hlx, hxx⟩ := part_keep hI hr 0 x rfl
  have HXx := Aside0.mk hxx
  have HLx := Aside0.mk hlx
  clear hxx hlx
  obtain ⟨_, hx0, hx1, hx2⟩ := HXx.out _ K1.out
  simp [go_sem] at hx0 hx1 hx2
  have CA := Aside0.mk (ihx _ a lk _ _ I1.out B1.out (fun W_ hk => (HXx.out W_ (K1.out.trans hk (.inl rfl))).1) HLx.out h0 h1)
  have hval := doT_ok hg hx a lk h0 h1
  clear hI hB hr hc hne hgl
  clear h0 h1
  show Calls Try.prog 135 #[.agg #[.int .i64 5, .int .i64 n, .slice (some ad) 1 c1], _] w _
  rw [doT_at]
  generalize hra : doT got x a lk = ra at *
  obtain ⟨va, oka, aa, la⟩ := ra
  unfold TapeOk at hval
  simp only at hval CA
  have hav : 0 ≤ aa ∧ aa ≤ (got.length : Int) := by have := H01.out; omega
  cases oka with
  | false =>
    simp only [seqT, Bool.false_eq_true, if_false]
    go_enter Try.func135, Try.ntmps135
    go_wp2_with (go_at_call 135; (with_reducible refine CA.out.mono ?_); rintro e w2 ⟨rfl, i2, b2, k2⟩; have hb2 := k2.blk (blk_new w _) HNE.out (by simp); have hq0 := (blk_cell hb2 0).trans rfl; have hq1 := (blk_cell hb2 1).trans rfl; have hq2 := (blk_cell hb2 2).trans rfl; have HB2 := Aside0.mk hb2; have I2 := Aside0.mk i2; have B2 := Aside0.mk b2; have K2 := Aside0.mk (K1.out.trans k2 (.inl rfl)); clear hb2 i2 b2 k2 hx0 hx1 hx2 CA)
    go_ret2
    exact ⟨rfl, I2.out, B2.out, K2.out⟩
  | true =>
    simp only [seqT, if_true]
    go_enter Try.func135, Try.ntmps135
    go_wp2_with (first | (go_at_call 135; (with_reducible refine CA.out.mono ?_); rintro e w2 ⟨rfl, i2, b2, k2⟩; have hb2 := k2.blk (blk_new w _) HNE.out (by simp); have hq0 := (blk_cell hb2 0).trans rfl; have hq1 := (blk_cell hb2 1).trans rfl; have hq2 := (blk_cell hb2 2).trans rfl; have HB2 := Aside0.mk hb2; have I2 := Aside0.mk i2; have B2 := Aside0.mk b2; have K2 := Aside0.mk (K1.out.trans k2 (.inl rfl)); clear hb2 i2 b2 k2 hx0 hx1 hx2 CA) | (go_at_call 141; refine (spec_l2Tape_get.calls _ _ _ _ _ _ _ _ _ _ _ I2.out B2.out (getT_f got aa la _ hav.1 hav.2 HGL.out)).mono ?_; rintro e w4 ⟨rfl, i4, b4, k4⟩; have I4 := Aside0.mk i4; have B4 := Aside0.mk b4; have K4 := Aside0.mk (K2.out.trans k4 (.inl rfl)); clear i4 b4 k4))
    go_ret2
    exact ⟨rfl, I4.out, B4.out, K4.out⟩
end Go.Proofs.Ytooojligedlpeaa.G
end
section
namespace Go.Proofs.Ytooojligedlpeaa.G
open Go.RowKit Go.Proofs.YtooojligedlpeaaW.PrintWords Go.Proofs.YtooojligedlpeaaW.PrintLast Go.Proofs.YtooojligedlpeaaW.PrintMore
set_option linter.unusedVariables false
set_option linter.unusedSimpArgs false
set_option maxHeartbeats 8000000 in
set_option maxRecDepth 100000 in
theorem does_add {w0 : World} {g : Nat} {got : List Int} (hg : got.all isVal = true) (hgl : got.length ≤ 1000000) (x y : Tk) (hx : Fits x) (hy : Fits y) (ihx : Does w0 g got x) (ihy : Does w0 g got y) : Does w0 g got ⟨2, 0, [x, y]⟩ := by
  intro w a lk A1 c1 hI hB hr hc h0 h1
  have HI := Aside0.mk hI
  have HB := Aside0.mk hB
  have hne : w.heap.size ≠ g := fun e => by have := hI.lt; omega
  have HNE := Aside0.mk hne
  have I1 := Aside0.mk (hI.alloc (.cells #[.int .i64 2, .int .i64 0, .slice A1 2 c1] 25 (0, 0)))
  have B1 := Aside0.mk (below_alloc hB (.cells #[.int .i64 2, .int .i64 0, .slice A1 2 c1] 25 (0, 0)))
  have K1 := Aside0.mk (keep_alloc (KeepBut.refl w g none) (.cells #[.int .i64 2, .int .i64 0, .slice A1 2 c1] 25 (0, 0)))
  have hu := Try.underlying25
  have H01 := Aside0.mk (And.intro h0 h1)
  have HGL := Aside0.mk hgl
  obtain ⟨ad, Ax, cx, rfl, hlx, hxx⟩ := part_keep hI hr 0 x rfl
  have HXx := Aside0.mk hxx
  have HLx := Aside0.mk hlx
  clear hxx hlx
  obtain ⟨ad', Ay, cy, ey, hly, hxy⟩ := part_keep hI hr 1 y rfl
  obtain rfl : ad = ad' := Option.some.inj ey
  clear ey
  have HXy := Aside0.mk hxy
  have HLy := Aside0.mk hly
  clear hxy hly
  obtain ⟨_, hx0, hx1, hx2⟩ := HXx.out _ K1.out
  simp [go_sem] at hx0 hx1 hx2
  have CA := Aside0.mk (ihx _ a lk _ _ I1.out B1.out (fun W_ hk => (HXx.out W_ (K1.out.trans hk (.inl rfl))).1) HLx.out h0 h1)
  have hval := doT_ok hg hx a lk h0 h1
  clear hI hB hr hc hne hgl
  clear h0 h1
  show Calls Try.prog 135 #[.agg #[.int .i64 2, .int .i64 0, .slice (some ad) 2 c1], _] w _
  rw [doT_add]
  generalize hra : doT got x a lk = ra at *
  obtain ⟨va, oka, aa, la⟩ := ra
  unfold TapeOk at hval
  simp only at hval CA
  have hav : 0 ≤ aa ∧ aa ≤ (got.length : Int) := by have := H01.out; omega
  cases oka with
  | false =>
    simp only [seqT, Bool.false_eq_true, if_false]
    go_enter Try.func135, Try.ntmps135
    go_wp2_with (go_at_call 135; (with_reducible refine CA.out.mono ?_); rintro e w2 ⟨rfl, i2, b2, k2⟩; have hb2 := k2.blk (blk_new w _) HNE.out (by simp); have hq0 := (blk_cell hb2 0).trans rfl; have hq1 := (blk_cell hb2 1).trans rfl; have hq2 := (blk_cell hb2 2).trans rfl; have HB2 := Aside0.mk hb2; have I2 := Aside0.mk i2; have B2 := Aside0.mk b2; have K2 := Aside0.mk (K1.out.trans k2 (.inl rfl)); clear hb2 i2 b2 k2 hx0 hx1 hx2 CA)
    go_ret2
    exact ⟨rfl, I2.out, B2.out, K2.out⟩
  | true =>
    simp only [seqT, if_true]
    have hvb := doT_ok hg hy aa la hav.1 hav.2
    have CBB := Aside0.mk (fun w hI hB hC => ihy w aa la Ay cy hI hB hC HLy.out hav.1 hav.2)
    generalize hrb : doT got y aa la = rb at *
    obtain ⟨vb, okb, ab, lb⟩ := rb
    unfold TapeOk at hvb
    simp only at hvb CBB
    cases okb with
    | false =>
      simp only [Bool.false_eq_true, if_false]
      go_enter Try.func135, Try.ntmps135
      go_wp2_with (first | (go_at_call 135; (with_reducible refine CA.out.mono ?_); rintro e w2 ⟨rfl, i2, b2, k2⟩; have hb2 := k2.blk (blk_new w _) HNE.out (by simp); have hq0 := (blk_cell hb2 0).trans rfl; have hq1 := (blk_cell hb2 1).trans rfl; have hq2 := (blk_cell hb2 2).trans rfl; have HB2 := Aside0.mk hb2; have I2 := Aside0.mk i2; have B2 := Aside0.mk b2; have K2 := Aside0.mk (K1.out.trans k2 (.inl rfl)); clear hb2 i2 b2 k2 hx0 hx1 hx2 CA; obtain ⟨_, hx0, hx1, hx2⟩ := HXy.out w2 K2.out; simp [go_sem] at hx0 hx1 hx2; have CB := Aside0.mk (CBB.out _ I2.out B2.out (fun W_ hk => (HXy.out W_ (K2.out.trans hk (.inl rfl))).1))) | (go_at_call 135; (with_reducible refine CB.out.mono ?_); rintro e w3 ⟨rfl, i3, b3, k3⟩; have hb3 := k3.blk HB2.out HNE.out (by simp); have hr0 := (blk_cell hb3 0).trans rfl; have hr1 := (blk_cell hb3 1).trans rfl; have hr2 := (blk_cell hb3 2).trans rfl; have I3 := Aside0.mk i3; have B3 := Aside0.mk b3; have K3 := Aside0.mk (K2.out.trans k3 (.inl rfl)); clear hb3 i3 b3 k3 hx0 hx1 hx2 hq0 hq1 hq2 CB))
      go_ret2
      exact ⟨rfl, I3.out, B3.out, K3.out⟩
    | true =>
      simp only [if_true]
      go_enter Try.func135, Try.ntmps135
      go_wp2_with (first | (go_at_call 135; (with_reducible refine CA.out.mono ?_); rintro e w2 ⟨rfl, i2, b2, k2⟩; have hb2 := k2.blk (blk_new w _) HNE.out (by simp); have hq0 := (blk_cell hb2 0).trans rfl; have hq1 := (blk_cell hb2 1).trans rfl; have hq2 := (blk_cell hb2 2).trans rfl; have HB2 := Aside0.mk hb2; have I2 := Aside0.mk i2; have B2 := Aside0.mk b2; have K2 := Aside0.mk (K1.out.trans k2 (.inl rfl)); clear hb2 i2 b2 k2 hx0 hx1 hx2 CA; obtain ⟨_, hx0, hx1, hx2⟩ := HXy.out w2 K2.out; simp [go_sem] at hx0 hx1 hx2; have CB := Aside0.mk (CBB.out _ I2.out B2.out (fun W_ hk => (HXy.out W_ (K2.out.trans hk (.inl rfl))).1))) | (go_at_call 135; (with_reducible refine CB.out.mono ?_); rintro e w3 ⟨rfl, i3, b3, k3⟩; have hb3 := k3.blk HB2.out HNE.out (by simp); have hr0 := (blk_cell hb3 0).trans rfl; have hr1 := (blk_cell hb3 1).trans rfl; have hr2 := (blk_cell hb3 2).trans rfl; have I3 := Aside0.mk i3; have B3 := Aside0.mk b3; have K3 := Aside0.mk (K2.out.trans k3 (.inl rfl)); clear hb3 i3 b3 k3 hx0 hx1 hx2 hq0 hq1 hq2 CB))
      go_ret2
      exact ⟨rfl, I3.out, B3.out, K3.out⟩
end Go.Proofs.Ytooojligedlpeaa.G
end
section
namespace Go.Proofs.Ytooojligedlpeaa.G
open Go.RowKit Go.Proofs.YtooojligedlpeaaW.PrintWords Go.Proofs.YtooojligedlpeaaW.PrintLast Go.Proofs.YtooojligedlpeaaW.PrintMore
set_option linter.unusedVariables false
set_option linter.unusedSimpArgs false
set_option maxHeartbeats 8000000 in
set_option maxRecDepth 100000 in
theorem does_mul {w0 : World} {g : Nat} {got : List Int} (hg : got.all isVal = true) (hgl : got.length ≤ 1000000) (x y : Tk) (hx : Fits x) (hy : Fits y) (ihx : Does w0 g got x) (ihy : Does w0 g got y) : Does w0 g got ⟨3, 0, [x, y]⟩ := by
  intro w a lk A1 c1 hI hB hr hc h0 h1
  have HI := Aside0.mk hI
  have HB := Aside0.mk hB
  have hne : w.heap.size ≠ g := fun e => by have := hI.lt; omega
  have HNE := Aside0.mk hne
  have I1 := Aside0.mk (hI.alloc (.cells #[.int .i64 3, .int .i64 0, .slice A1 2 c1] 25 (0, 0)))
  have B1 := Aside0.mk (below_alloc hB (.cells #[.int .i64 3, .int .i64 0, .slice A1 2 c1] 25 (0, 0)))
  have K1 := Aside0.mk (keep_alloc (KeepBut.refl w g none) (.cells #[.int .i64 3, .int .i64 0, .slice A1 2 c1] 25 (0, 0)))
  have hu := Try.underlying25
  have H01 := Aside0.mk (And.intro h0 h1)
  have HGL := Aside0.mk hgl
  obtain ⟨ad, Ax, cx, rfl, hlx, hxx⟩ := part_keep hI hr 0 x rfl
  have HXx := Aside0.mk hxx
  have HLx := Aside0.mk hlx
  clear hxx hlx
  obtain ⟨ad', Ay, cy, ey, hly, hxy⟩ := part_keep hI hr 1 y rfl
  obtain rfl : ad = ad' := Option.some.inj ey
  clear ey
  have HXy := Aside0.mk hxy
  have HLy := Aside0.mk hly
  clear hxy hly
  obtain ⟨_, hx0, hx1, hx2⟩ := HXx.out _ K1.out
  simp [go_sem] at hx0 hx1 hx2
  have CA := Aside0.mk (ihx _ a lk _ _ I1.out B1.out (fun W_ hk => (HXx.out W_ (K1.out.trans hk (.inl rfl))).1) HLx.out h0 h1)
  have hval := doT_ok hg hx a lk h0 h1
  clear hI hB hr hc hne hgl
  clear h0 h1
  show Calls Try.prog 135 #[.agg #[.int .i64 3, .int .i64 0, .slice (some ad) 2 c1], _] w _
  rw [doT_mul]
  generalize hra : doT got x a lk = ra at *
  obtain ⟨va, oka, aa, la⟩ := ra
  unfold TapeOk at hval
  simp only at hval CA
  have hav : 0 ≤ aa ∧ aa ≤ (got.length : Int) := by have := H01.out; omega
  cases oka with
  | false =>
    simp only [seqT, Bool.false_eq_true, if_false]
    go_enter Try.func135, Try.ntmps135
    go_wp2_with (go_at_call 135; (with_reducible refine CA.out.mono ?_); rintro e w2 ⟨rfl, i2, b2, k2⟩; have hb2 := k2.blk (blk_new w _) HNE.out (by simp); have hq0 := (blk_cell hb2 0).trans rfl; have hq1 := (blk_cell hb2 1).trans rfl; have hq2 := (blk_cell hb2 2).trans rfl; have HB2 := Aside0.mk hb2; have I2 := Aside0.mk i2; have B2 := Aside0.mk b2; have K2 := Aside0.mk (K1.out.trans k2 (.inl rfl)); clear hb2 i2 b2 k2 hx0 hx1 hx2 CA)
    go_ret2
    exact ⟨rfl, I2.out, B2.out, K2.out⟩
  | true =>
    simp only [seqT, if_true]
    have hvb := doT_ok hg hy aa la hav.1 hav.2
    have CBB := Aside0.mk (fun w hI hB hC => ihy w aa la Ay cy hI hB hC HLy.out hav.1 hav.2)
    generalize hrb : doT got y aa la = rb at *
    obtain ⟨vb, okb, ab, lb⟩ := rb
    unfold TapeOk at hvb
    simp only at hvb CBB
    have hm0 : 0 ≤ va * vb := Int.mul_nonneg hval.1 hvb.1
    have hm1 : va * vb ≤ 9216 := by
      have h1 := Int.mul_le_mul hval.2.1 hvb.2.1 hvb.1 (by omega : (0 : Int) ≤ 96)
      omega
    cases okb with
    | false =>
      simp only [Bool.false_eq_true, if_false]
      go_enter Try.func135, Try.ntmps135
      go_wp2_with (first | (go_at_call 135; (with_reducible refine CA.out.mono ?_); rintro e w2 ⟨rfl, i2, b2, k2⟩; have hb2 := k2.blk (blk_new w _) HNE.out (by simp); have hq0 := (blk_cell hb2 0).trans rfl; have hq1 := (blk_cell hb2 1).trans rfl; have hq2 := (blk_cell hb2 2).trans rfl; have HB2 := Aside0.mk hb2; have I2 := Aside0.mk i2; have B2 := Aside0.mk b2; have K2 := Aside0.mk (K1.out.trans k2 (.inl rfl)); clear hb2 i2 b2 k2 hx0 hx1 hx2 CA; obtain ⟨_, hx0, hx1, hx2⟩ := HXy.out w2 K2.out; simp [go_sem] at hx0 hx1 hx2; have CB := Aside0.mk (CBB.out _ I2.out B2.out (fun W_ hk => (HXy.out W_ (K2.out.trans hk (.inl rfl))).1))) | (go_at_call 135; (with_reducible refine CB.out.mono ?_); rintro e w3 ⟨rfl, i3, b3, k3⟩; have hb3 := k3.blk HB2.out HNE.out (by simp); have hr0 := (blk_cell hb3 0).trans rfl; have hr1 := (blk_cell hb3 1).trans rfl; have hr2 := (blk_cell hb3 2).trans rfl; have I3 := Aside0.mk i3; have B3 := Aside0.mk b3; have K3 := Aside0.mk (K2.out.trans k3 (.inl rfl)); clear hb3 i3 b3 k3 hx0 hx1 hx2 hq0 hq1 hq2 CB))
      go_ret2
      exact ⟨rfl, I3.out, B3.out, K3.out⟩
    | true =>
      simp only [if_true]
      go_enter Try.func135, Try.ntmps135
      go_wp2_with (first | (go_at_call 135; (with_reducible refine CA.out.mono ?_); rintro e w2 ⟨rfl, i2, b2, k2⟩; have hb2 := k2.blk (blk_new w _) HNE.out (by simp); have hq0 := (blk_cell hb2 0).trans rfl; have hq1 := (blk_cell hb2 1).trans rfl; have hq2 := (blk_cell hb2 2).trans rfl; have HB2 := Aside0.mk hb2; have I2 := Aside0.mk i2; have B2 := Aside0.mk b2; have K2 := Aside0.mk (K1.out.trans k2 (.inl rfl)); clear hb2 i2 b2 k2 hx0 hx1 hx2 CA; obtain ⟨_, hx0, hx1, hx2⟩ := HXy.out w2 K2.out; simp [go_sem] at hx0 hx1 hx2; have CB := Aside0.mk (CBB.out _ I2.out B2.out (fun W_ hk => (HXy.out W_ (K2.out.trans hk (.inl rfl))).1))) | (go_at_call 135; (with_reducible refine CB.out.mono ?_); rintro e w3 ⟨rfl, i3, b3, k3⟩; have hb3 := k3.blk HB2.out HNE.out (by simp); have hr0 := (blk_cell hb3 0).trans rfl; have hr1 := (blk_cell hb3 1).trans rfl; have hr2 := (blk_cell hb3 2).trans rfl; have I3 := Aside0.mk i3; have B3 := Aside0.mk b3; have K3 := Aside0.mk (K2.out.trans k3 (.inl rfl)); clear hb3 i3 b3 k3 hx0 hx1 hx2 hq0 hq1 hq2 CB))
      go_ret2
      exact ⟨rfl, I3.out, B3.out, K3.out⟩
end Go.Proofs.Ytooojligedlpeaa.G
end
section
namespace Go.Proofs.Ytooojligedlpeaa.G
open Go.RowKit Go.Proofs.YtooojligedlpeaaW.PrintWords Go.Proofs.YtooojligedlpeaaW.PrintLast Go.Proofs.YtooojligedlpeaaW.PrintMore
set_option linter.unusedVariables false
set_option linter.unusedSimpArgs false
set_option maxHeartbeats 8000000 in
set_option maxRecDepth 100000 in
theorem does_if {w0 : World} {g : Nat} {got : List Int} (hg : got.all isVal = true) (hgl : got.length ≤ 1000000) (x y z : Tk) (hx : Fits x) (hy : Fits y) (hz : Fits z) (ihx : Does w0 g got x) (ihy : Does w0 g got y) (ihz : Does w0 g got z) : Does w0 g got ⟨4, 0, [x, y, z]⟩ := by
  intro w a lk A1 c1 hI hB hr hc h0 h1
  have HI := Aside0.mk hI
  have HB := Aside0.mk hB
  have hne : w.heap.size ≠ g := fun e => by have := hI.lt; omega
  have HNE := Aside0.mk hne
  have I1 := Aside0.mk (hI.alloc (.cells #[.int .i64 4, .int .i64 0, .slice A1 3 c1] 25 (0, 0)))
  have B1 := Aside0.mk (below_alloc hB (.cells #[.int .i64 4, .int .i64 0, .slice A1 3 c1] 25 (0, 0)))
  have K1 := Aside0.mk (keep_alloc (KeepBut.refl w g none) (.cells #[.int .i64 4, .int .i64 0, .slice A1 3 c1] 25 (0, 0)))
  have hu := Try.underlying25
  have H01 := Aside0.mk (And.intro h0 h1)
  have HGL := Aside0.mk hgl
  obtain ⟨ad, Ax, cx, rfl, hlx, hxx⟩ := part_keep hI hr 0 x rfl
  have HXx := Aside0.mk hxx
  have HLx := Aside0.mk hlx
  clear hxx hlx
  obtain ⟨ad', Ay, cy, ey, hly, hxy⟩ := part_keep hI hr 1 y rfl
  obtain rfl : ad = ad' := Option.some.inj ey
  clear ey
  have HXy := Aside0.mk hxy
  have HLy := Aside0.mk hly
  clear hxy hly
  obtain ⟨ad', Az, cz, ez, hlz, hxz⟩ := part_keep hI hr 2 z rfl
  obtain rfl : ad = ad' := Option.some.inj ez
  clear ez
  have HXz := Aside0.mk hxz
  have HLz := Aside0.mk hlz
  clear hxz hlz
  obtain ⟨_, hx0, hx1, hx2⟩ := HXx.out _ K1.out
  simp [go_sem] at hx0 hx1 hx2
  have CA := Aside0.mk (ihx _ a lk _ _ I1.out B1.out (fun W_ hk => (HXx.out W_ (K1.out.trans hk (.inl rfl))).1) HLx.out h0 h1)
  have hval := doT_ok hg hx a lk h0 h1
  clear hI hB hr hc hne hgl
  clear h0 h1
  show Calls Try.prog 135 #[.agg #[.int .i64 4, .int .i64 0, .slice (some ad) 3 c1], _] w _
  rw [doT_if]
  generalize hra : doT got x a lk = ra at *
  obtain ⟨va, oka, aa, la⟩ := ra
  unfold TapeOk at hval
  simp only at hval CA
  have hav : 0 ≤ aa ∧ aa ≤ (got.length : Int) := by have := H01.out; omega
  cases oka with
  | false =>
    simp only [seqT, Bool.false_eq_true, if_false]
    go_enter Try.func135, Try.ntmps135
    go_wp2_with (go_at_call 135; (with_reducible refine CA.out.mono ?_); rintro e w2 ⟨rfl, i2, b2, k2⟩; have hb2 := k2.blk (blk_new w _) HNE.out (by simp); have hq0 := (blk_cell hb2 0).trans rfl; have hq1 := (blk_cell hb2 1).trans rfl; have hq2 := (blk_cell hb2 2).trans rfl; have HB2 := Aside0.mk hb2; have I2 := Aside0.mk i2; have B2 := Aside0.mk b2; have K2 := Aside0.mk (K1.out.trans k2 (.inl rfl)); clear hb2 i2 b2 k2 hx0 hx1 hx2 CA)
    go_ret2
    exact ⟨rfl, I2.out, B2.out, K2.out⟩
  | true =>
    simp only [seqT, if_true]
    by_cases hv : va = 0
    · rw [if_pos hv]
      have hzb : (va != 0) = false := by rw [hv]; rfl
      have CBB := Aside0.mk (fun w hI hB hC => ihz w aa la Az cz hI hB hC HLz.out hav.1 hav.2)
      go_enter Try.func135, Try.ntmps135
      go_wp2_with (first | (go_at_call 135; (with_reducible refine CA.out.mono ?_); rintro e w2 ⟨rfl, i2, b2, k2⟩; have hb2 := k2.blk (blk_new w _) HNE.out (by simp); have hq0 := (blk_cell hb2 0).trans rfl; have hq1 := (blk_cell hb2 1).trans rfl; have hq2 := (blk_cell hb2 2).trans rfl; have HB2 := Aside0.mk hb2; have I2 := Aside0.mk i2; have B2 := Aside0.mk b2; have K2 := Aside0.mk (K1.out.trans k2 (.inl rfl)); clear hb2 i2 b2 k2 hx0 hx1 hx2 CA; obtain ⟨_, hx0, hx1, hx2⟩ := HXz.out w2 K2.out; simp [go_sem] at hx0 hx1 hx2; have CB := Aside0.mk (CBB.out _ I2.out B2.out (fun W_ hk => (HXz.out W_ (K2.out.trans hk (.inl rfl))).1))) | (go_at_call 135; (with_reducible refine CB.out.mono ?_); rintro e w3 ⟨rfl, i3, b3, k3⟩; have hb3 := k3.blk HB2.out HNE.out (by simp); have hr0 := (blk_cell hb3 0).trans rfl; have hr1 := (blk_cell hb3 1).trans rfl; have hr2 := (blk_cell hb3 2).trans rfl; have I3 := Aside0.mk i3; have B3 := Aside0.mk b3; have K3 := Aside0.mk (K2.out.trans k3 (.inl rfl)); clear hb3 i3 b3 k3 hx0 hx1 hx2 hq0 hq1 hq2 CB))
      go_ret2
      exact ⟨rfl, I3.out, B3.out, K3.out⟩
    · rw [if_neg hv]
      have hzb : (va != 0) = true := bne_iff_ne.mpr hv
      have CBB := Aside0.mk (fun w hI hB hC => ihy w aa la Ay cy hI hB hC HLy.out hav.1 hav.2)
      go_enter Try.func135, Try.ntmps135
      go_wp2_with (first | (go_at_call 135; (with_reducible refine CA.out.mono ?_); rintro e w2 ⟨rfl, i2, b2, k2⟩; have hb2 := k2.blk (blk_new w _) HNE.out (by simp); have hq0 := (blk_cell hb2 0).trans rfl; have hq1 := (blk_cell hb2 1).trans rfl; have hq2 := (blk_cell hb2 2).trans rfl; have HB2 := Aside0.mk hb2; have I2 := Aside0.mk i2; have B2 := Aside0.mk b2; have K2 := Aside0.mk (K1.out.trans k2 (.inl rfl)); clear hb2 i2 b2 k2 hx0 hx1 hx2 CA; obtain ⟨_, hx0, hx1, hx2⟩ := HXy.out w2 K2.out; simp [go_sem] at hx0 hx1 hx2; have CB := Aside0.mk (CBB.out _ I2.out B2.out (fun W_ hk => (HXy.out W_ (K2.out.trans hk (.inl rfl))).1))) | (go_at_call 135; (with_reducible refine CB.out.mono ?_); rintro e w3 ⟨rfl, i3, b3, k3⟩; have hb3 := k3.blk HB2.out HNE.out (by simp); have hr0 := (blk_cell hb3 0).trans rfl; have hr1 := (blk_cell hb3 1).trans rfl; have hr2 := (blk_cell hb3 2).trans rfl; have I3 := Aside0.mk i3; have B3 := Aside0.mk b3; have K3 := Aside0.mk (K2.out.trans k3 (.inl rfl)); clear hb3 i3 b3 k3 hx0 hx1 hx2 hq0 hq1 hq2 CB))
      go_ret2
      exact ⟨rfl, I3.out, B3.out, K3.out⟩
end Go.Proofs.Ytooojligedlpeaa.G
end
section
namespace Go.Proofs.Ytooojligedlpeaa.G
open Go.RowKit Go.Proofs.YtooojligedlpeaaW.PrintWords Go.Proofs.YtooojligedlpeaaW.PrintLast Go.Proofs.YtooojligedlpeaaW.PrintMore
set_option linter.unusedVariables false
set_option linter.unusedSimpArgs false
theorem does {w0 : World} {g : Nat} {got : List Int} (hg : got.all isVal = true) (hgl : got.length ≤ 1000000) {t : Tk} (h : Fits t) : Does w0 g got t := by
  induction h with
  | num n h0 h1 => exact does_num hg hgl n
  | get n h0 h1 => exact does_get hg hgl n
  | add a b ha hb iha ihb => exact does_add hg hgl a b ha hb iha ihb
  | mul a b ha hb iha ihb => exact does_mul hg hgl a b ha hb iha ihb
  | iff a b d ha hb hd iha ihb ihd => exact does_if hg hgl a b d ha hb hd iha ihb ihd
  | «at» n h0 h1 a ha iha => exact does_at hg hgl n h0 h1 a ha iha
def spec_l2Do.f (a0_0 : Int) (a0_1 : Int) (l0_2 : List Tk) (s1_0 : List Int) (s1_1 : Int) (s1_2 : Int) : Option (Int × Bool × Int × Int) :=
  if fitT ⟨a0_0, a0_1, l0_2⟩ = true ∧ s1_0.all isVal = true ∧ s1_0.length ≤ 1000000 ∧ 0 ≤ s1_1 ∧ s1_1 ≤ (s1_0.length : Int) then some (doT s1_0 ⟨a0_0, a0_1, l0_2⟩ s1_1 s1_2) else none
theorem spec_l2Do.calls (a0_0 : Int) (a0_1 : Int) (A0_2 : Option Addr) (c0_2 : Nat) (l0_2 : List Tk) (g : Nat) (s1_0 : List Int) (s1_1 : Int) (s1_2 : Int) (r1 : Int) (r2 : Bool) (r3 : Int) (r4 : Int) (w0 w : World) (hI : IsS144 w0 w g s1_0 s1_1 s1_2) (hB : Below w0.heap.size w0 w) (hr0_2 : ∀ W_, KeepBut w W_ g none → Kd.C k25 W_ A0_2 l0_2.length l0_2) (hc0_2 : l0_2.length ≤ c0_2) (h : spec_l2Do.f a0_0 a0_1 l0_2 s1_0 s1_1 s1_2 = some (r1, r2, r3, r4)) :
    Calls Try.prog 135 #[.agg #[.int .i64 a0_0, .int .i64 a0_1, .slice A0_2 l0_2.length c0_2], .pointer (some ⟨g, 0, none⟩)] w fun e w' => e = .returned (.tuple #[.int .i64 r1, .bool r2]) ∧ IsS144 w0 w' g s1_0 r3 r4 ∧ Below w0.heap.size w0 w' ∧ KeepBut w w' g none := by
  unfold spec_l2Do.f at h
  split at h
  case isFalse => cases h
  rename_i hg
  obtain ⟨hf, hv, hl, h0, h1⟩ := hg
  have hd := does (w0 := w0) (g := g) hv hl (fits_of _ hf) w s1_1 s1_2 A0_2 c0_2 hI hB hr0_2 hc0_2 h0 h1
  rw [Option.some.inj h] at hd
  exact hd
end Go.Proofs.Ytooojligedlpeaa.G
end
section
namespace Go.Proofs.Ytooojligedlpeaa.G
open Go.RowKit Go.Proofs.YtooojligedlpeaaW.PrintWords Go.Proofs.YtooojligedlpeaaW.PrintLast Go.Proofs.YtooojligedlpeaaW.PrintMore
set_option linter.unusedVariables false
set_option linter.unusedSimpArgs false
def spec_l2Next.f (a0_0 : Int) (a0_1 : Int) (l0_2 : List Tk) (l1 : List Int) : Option (Int × Int × Bool) :=
  if fitT ⟨a0_0, a0_1, l0_2⟩ = true ∧ l1.all isVal = true ∧ l1.length ≤ 1000000 then some ((doT l1 ⟨a0_0, a0_1, l0_2⟩ 0 0).1, (doT l1 ⟨a0_0, a0_1, l0_2⟩ 0 0).2.2.2, (doT l1 ⟨a0_0, a0_1, l0_2⟩ 0 0).2.1) else none
theorem heapTk : Kd.Heap k25 := Kd.heap_fix (fun d hd => Kd.heap_iso _ (Kd.heap_pair (Kd.heap_int _) (Kd.heap_pair (Kd.heap_int _) (Kd.heap_slice _ hd))))
set_option maxHeartbeats 8000000 in
set_option maxRecDepth 100000 in
theorem spec_l2Next.calls (a0_0 : Int) (a0_1 : Int) (A0_2 : Option Addr) (c0_2 : Nat) (l0_2 : List Tk) (A1 : Option Addr) (c1 : Nat) (l1 : List Int) (r1 : Int) (r2 : Int) (r3 : Bool) (w : World) (hr0_2 : Kd.C k25 w A0_2 l0_2.length l0_2) (hc0_2 : l0_2.length ≤ c0_2) (hr1 : Kd.C (Kd.int .i64) w A1 l1.length l1) (hc1 : l1.length ≤ c1) (h : spec_l2Next.f a0_0 a0_1 l0_2 l1 = some (r1, r2, r3)) :
    Calls Try.prog 113 #[.agg #[.int .i64 a0_0, .int .i64 a0_1, .slice A0_2 l0_2.length c0_2], .slice A1 l1.length c1] w fun e w' => e = .returned (.tuple #[.int .i64 r1, .int .i64 r2, .bool r3]) ∧ Below w.heap.size w w' := by
  unfold spec_l2Next.f at h
  split at h
  case isFalse => cases h
  rename_i hg
  obtain ⟨hf, hv, hn⟩ := hg
  have hR := Option.some.inj h
  obtain rfl : (doT l1 ⟨a0_0, a0_1, l0_2⟩ 0 0).1 = r1 := congrArg (·.1) hR
  obtain rfl : (doT l1 ⟨a0_0, a0_1, l0_2⟩ 0 0).2.2.2 = r2 := congrArg (·.2.1) hR
  obtain rfl : (doT l1 ⟨a0_0, a0_1, l0_2⟩ 0 0).2.1 = r3 := congrArg (·.2.2) hR
  have hB1 : Below w.heap.size w (w.alloc (.cells #[.int .i64 a0_0, .int .i64 a0_1, .slice A0_2 l0_2.length c0_2] 25 (0, 0))) := below_alloc (Below.refl _ _) _
  have hI := IsS144.new w (w.alloc (.cells #[.int .i64 a0_0, .int .i64 a0_1, .slice A0_2 l0_2.length c0_2] 25 (0, 0))) A1 c1 l1 0 0 hB1 hr1
  have hB2 := below_alloc hB1 (.cells #[.slice A1 l1.length c1, .int .i64 0, .int .i64 0] 144 (0, 0))
  have HA := Aside0.mk (does (w0 := w) hv hn (fits_of _ hf) _ 0 0 A0_2 c0_2 hI hB2 (Kd.C_foot_came heapTk hr0_2 hB2 hI.ge) hc0_2 (Int.le_refl 0) (by omega))
  have hs : (w.alloc (.cells #[.int .i64 a0_0, .int .i64 a0_1, .slice A0_2 l0_2.length c0_2] 25 (0, 0))).heap.size = w.heap.size + 1 := by simp
  rw [hs] at HA
  have hu := Try.underlying25
  have hu2 := Try.underlying144
  clear h hR hI hB1 hB2 hf hv hn hr0_2 hc0_2 hr1 hc1 hs
  go_enter Try.func113, Try.ntmps113
  go_wp2_with ((go_at_call 135; (with_reducible refine HA.out.mono ?_); rintro e w2 ⟨rfl, i2, b2, k2⟩; obtain ⟨A0, c0, hb2, _, _⟩ := i2; have hq2 := (blk_cell hb2 2).trans rfl; have HB2 := Aside0.mk b2; clear b2 k2 hb2 HA))
  go_quiet (fail)
  go_wp2
  go_ret3
  exact ⟨rfl, pw_below_drewN HB2.out nq⟩
end Go.Proofs.Ytooojligedlpeaa.G
end
