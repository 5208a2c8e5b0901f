-- Written by pack.py (ours): the claim's texts, cut down to what its theorem reaches.
import Derived.Test.YtofieekbhbkliaaProg
import Derived.Test.YtofieekbhbkliaaKFnTracesFind2
section
namespace Go.Proofs.Ytofieekbhbkliaa.G
open Go.RowKit Go.Proofs.YtofieekbhbkliaaW.PrintWords Go.Proofs.YtofieekbhbkliaaW.PrintLast Go.Proofs.YtofieekbhbkliaaW.PrintMore
attribute [local go_sem] max2_int min2_int max_two min_two max_three min_three max_four min_four
set_option linter.unusedVariables false
set_option linter.unusedSimpArgs false
def errW : Option Int → Value
  | none => .nilIface
  | some c => .iface 0 (.int .i64 c)
theorem errW_none : errW none = .nilIface := rfl
theorem errW_some (c : Int) : errW (some c) = .iface 0 (.int .i64 c) := rfl
theorem info3 : (Try.prog.info? 3).map (fun i => (i.zero, i.size, i.bytes)) = some (some (.int .i64 0), 1, 8) := by kernel_rfl
theorem info5 : (Try.prog.info? 5).map (fun i => (i.zero, i.size, i.bytes)) = some (some (.int .u8 0), 1, 1) := by kernel_rfl
theorem info29 : (Try.prog.info? 29).map (fun i => (i.zero, i.size, i.bytes)) = some (some (.agg #[(.int .i64 0), (.slice none 0 0), (.int .i64 0)]), 3, 40) := by kernel_rfl
theorem info108 : (Try.prog.info? 108).map (fun i => (i.zero, i.size, i.bytes)) = some (some (.agg #[(.int .i64 0), (.int .i64 0)]), 2, 16) := by kernel_rfl
structure S108 where
  f0 : Int
  f1 : Int
def z108 : S108 := ⟨(0 : Int), (0 : Int)⟩
def k108 : Kd S108 := Kd.iso (Kd.pair (Kd.int .i64) (Kd.int .i64)) (fun x : S108 => (x.f0, x.f1))
theorem k108_open {w : World} {x : S108} {cs : List Value} (h : k108.K w x cs) : cs = [.int .i64 x.f0, .int .i64 x.f1] := by
  obtain ⟨_, _, rfl, rfl, rfl⟩ := h
  exact rfl
theorem k108_mk (w : World) (x : S108)  : k108.K w x [.int .i64 x.f0, .int .i64 x.f1] := ⟨[.int .i64 x.f0], [.int .i64 x.f1], rfl, rfl, rfl⟩
theorem k108_mkM (w : World) (base : Nat) (ok : Nat → Prop) (x : S108)  : k108.M w base ok x [.int .i64 x.f0, .int .i64 x.f1] := ⟨[.int .i64 x.f0], [.int .i64 x.f1], rfl, rfl, rfl⟩
def rd_T108 (xs : List S108) (i : Int) : S108 := xs.getD i.toNat z108
theorem at_T108 {w : World} {A : Option Addr} {n : Nat} {xs : List S108} (h : Kd.C k108 w A n xs) (i : Int) (h0 : 0 ≤ i) (h1 : i < n) : ∃ ad , A = some ad ∧ w.cell? (ad.add (i.toNat * 2)) = some (.int .i64 (rd_T108 xs i).f0) ∧ w.cell? ⟨(ad.add (i.toNat * 2)).block, (ad.add (i.toNat * 2)).off + 1, none⟩ = some (.int .i64 (rd_T108 xs i).f1) := by
  obtain ⟨ad, c, e, _, hK, hc0⟩ := Kd.C_get h z108 i h0 h1
  have hc : ∀ j u, c[j]? = some u → w.cell? (ad.add (i.toNat * 2 + j)) = some u := hc0
  obtain rfl := k108_open hK
  exact ⟨ad, e, hc 0 _ rfl, by rw [← add_field _ _ 1 (by omega)]; exact hc 1 _ rfl⟩
structure S90 where
  f0 : Int
  f1 : Int
  f2 : (List S90)
def z90 : S90 := ⟨(0 : Int), (0 : Int), ([] : List S90)⟩
def F90 (d : Kd S90) : Kd S90 := Kd.iso (Kd.pair (Kd.int .i64) (Kd.pair (Kd.int .i64) (Kd.slice 90 d))) (fun x : S90 => (x.f0, x.f1, x.f2))
theorem mono90 : Kd.Mono F90 := Kd.mono_iso _ (Kd.mono_pair (Kd.mono_const _) (Kd.mono_pair (Kd.mono_const _) (Kd.mono_slice 90 Kd.mono_id)))
theorem sub90 : Kd.Sub F90 [90] := Kd.sub_iso _ (Kd.sub_pair (Kd.sub_const _ (by decide)) (Kd.sub_pair (Kd.sub_const _ (by decide)) (Kd.sub_slice 90 (by decide) Kd.sub_id)))
theorem sz90 : ∀ n, (Kd.upto F90 3 [90] n).sz = 3 := Kd.upto_sz (fun _ => rfl)
def k90 : Kd S90 := Kd.fix F90 3 [90] sz90 (Kd.upto_E sub90)
theorem k90_open {w : World} {x : S90} {cs : List Value} (h : k90.K w x cs) : ∃ A2 c2, cs = [.int .i64 x.f0, .int .i64 x.f1, .slice A2 x.f2.length c2] ∧ x.f2.length ≤ c2 ∧ k90.C w A2 x.f2.length x.f2 := by
  obtain ⟨n, h⟩ := h
  cases n with
  | zero => exact h.elim
  | succ n =>
    obtain ⟨_, _, rfl, rfl, ⟨_, _, rfl, rfl, ⟨A2, c2, rfl, l2, g2⟩⟩⟩ := h
    exact ⟨A2, c2, rfl, l2, Kd.fix_C g2⟩
theorem k90_mk (w : World) (x : S90) {A2 : Option Addr} {c2 : Nat} (l2 : x.f2.length ≤ c2) (g2 : k90.C w A2 x.f2.length x.f2) : k90.K w x [.int .i64 x.f0, .int .i64 x.f1, .slice A2 x.f2.length c2] := by
  obtain ⟨n2, q2⟩ := Kd.fix_C_back mono90 g2
  have r2 := Kd.upto_C_le mono90 sz90 (show n2 ≤ n2 by omega) q2
  exact ⟨n2 + 1, ⟨[.int .i64 x.f0], [.int .i64 x.f1, .slice A2 x.f2.length c2], rfl, rfl, ⟨[.int .i64 x.f1], [.slice A2 x.f2.length c2], rfl, rfl, ⟨A2, c2, rfl, l2, r2⟩⟩⟩⟩
theorem k90_mkF (W : World) (ok : Nat → Prop) (x : S90) {A2 : Option Addr} {c2 : Nat} (l2 : x.f2.length ≤ c2) (g2 : Kd.F k90 W ok A2 x.f2.length x.f2) : Kd.FK k90 W ok x [.int .i64 x.f0, .int .i64 x.f1, .slice A2 x.f2.length c2] := fun W2 hW => k90_mk W2 x l2 (g2 W2 hW)
def rd_T90 (xs : List S90) (i : Int) : S90 := xs.getD i.toNat z90
theorem at_T90 {w : World} {A : Option Addr} {n : Nat} {xs : List S90} (h : Kd.C k90 w A n xs) (i : Int) (h0 : 0 ≤ i) (h1 : i < n) : ∃ ad A2 c2, A = some ad ∧ w.cell? (ad.add (i.toNat * 3)) = some (.int .i64 (rd_T90 xs i).f0) ∧ w.cell? ⟨(ad.add (i.toNat * 3)).block, (ad.add (i.toNat * 3)).off + 1, none⟩ = some (.int .i64 (rd_T90 xs i).f1) ∧ w.cell? ⟨(ad.add (i.toNat * 3)).block, (ad.add (i.toNat * 3)).off + 2, none⟩ = some (.slice A2 (rd_T90 xs i).f2.length c2) ∧ (rd_T90 xs i).f2.length ≤ c2 ∧ k90.C w A2 (rd_T90 xs i).f2.length (rd_T90 xs i).f2 := by
  obtain ⟨ad, c, e, _, hK, hc0⟩ := Kd.C_get h z90 i h0 h1
  have hc : ∀ j u, c[j]? = some u → w.cell? (ad.add (i.toNat * 3 + j)) = some u := hc0
  obtain ⟨A2, c2, rfl, l2, g2⟩ := k90_open hK
  exact ⟨ad, A2, c2, e, hc 0 _ rfl, by rw [← add_field _ _ 1 (by omega)]; exact hc 1 _ rfl, by rw [← add_field _ _ 2 (by omega)]; exact hc 2 _ rfl, l2, g2⟩
structure S29 where
  f0 : Int
  f1 : (List S108)
  f2 : Int
def z29 : S29 := ⟨(0 : Int), ([] : List S108), (0 : Int)⟩
def k29 : Kd S29 := Kd.iso (Kd.pair (Kd.int .i64) (Kd.pair (Kd.slice 108 k108) (Kd.int .i64))) (fun x : S29 => (x.f0, x.f1, x.f2))
theorem k29_open {w : World} {x : S29} {cs : List Value} (h : k29.K w x cs) : ∃ A1 c1, cs = [.int .i64 x.f0, .slice A1 x.f1.length c1, .int .i64 x.f2] ∧ x.f1.length ≤ c1 ∧ k108.C w A1 x.f1.length x.f1 := by
  obtain ⟨_, _, rfl, rfl, ⟨_, _, rfl, ⟨A1, c1, rfl, l1, g1⟩, rfl⟩⟩ := h
  exact ⟨A1, c1, rfl, l1, g1⟩
theorem k29_openM {w : World} {base : Nat} {ok : Nat → Prop} {x : S29} {cs : List Value} (h : k29.M w base ok x cs) : ∃ v1, cs = [.int .i64 x.f0, v1, .int .i64 x.f2] ∧ k108.R 108 w base ok v1 x.f1 := by
  obtain ⟨_, _, rfl, rfl, ⟨_, _, rfl, ⟨v1, rfl, g1⟩, rfl⟩⟩ := h
  exact ⟨v1, rfl, g1⟩
theorem k29_mk (w : World) (x : S29) {A1 : Option Addr} {c1 : Nat} (l1 : x.f1.length ≤ c1) (g1 : k108.C w A1 x.f1.length x.f1) : k29.K w x [.int .i64 x.f0, .slice A1 x.f1.length c1, .int .i64 x.f2] := ⟨[.int .i64 x.f0], [.slice A1 x.f1.length c1, .int .i64 x.f2], rfl, rfl, ⟨[.slice A1 x.f1.length c1], [.int .i64 x.f2], rfl, ⟨A1, c1, rfl, l1, g1⟩, rfl⟩⟩
theorem k29_mkM (w : World) (base : Nat) (ok : Nat → Prop) (x : S29) {v1 : Value} (g1 : k108.R 108 w base ok v1 x.f1) : k29.M w base ok x [.int .i64 x.f0, v1, .int .i64 x.f2] := ⟨[.int .i64 x.f0], [v1, .int .i64 x.f2], rfl, rfl, ⟨[v1], [.int .i64 x.f2], rfl, ⟨v1, rfl, g1⟩, rfl⟩⟩
def rd_T29 (xs : List S29) (i : Int) : S29 := xs.getD i.toNat z29
theorem at_T29 {w : World} {A : Option Addr} {n : Nat} {xs : List S29} (h : Kd.C k29 w A n xs) (i : Int) (h0 : 0 ≤ i) (h1 : i < n) : ∃ ad A1 c1, A = some ad ∧ w.cell? (ad.add (i.toNat * 3)) = some (.int .i64 (rd_T29 xs i).f0) ∧ w.cell? ⟨(ad.add (i.toNat * 3)).block, (ad.add (i.toNat * 3)).off + 1, none⟩ = some (.slice A1 (rd_T29 xs i).f1.length c1) ∧ w.cell? ⟨(ad.add (i.toNat * 3)).block, (ad.add (i.toNat * 3)).off + 2, none⟩ = some (.int .i64 (rd_T29 xs i).f2) ∧ (rd_T29 xs i).f1.length ≤ c1 ∧ k108.C w A1 (rd_T29 xs i).f1.length (rd_T29 xs i).f1 := by
  obtain ⟨ad, c, e, _, hK, hc0⟩ := Kd.C_get h z29 i h0 h1
  have hc : ∀ j u, c[j]? = some u → w.cell? (ad.add (i.toNat * 3 + j)) = some u := hc0
  obtain ⟨A1, c1, rfl, l1, g1⟩ := k29_open hK
  exact ⟨ad, A1, c1, e, hc 0 _ rfl, by rw [← add_field _ _ 1 (by omega)]; exact hc 1 _ rfl, by rw [← add_field _ _ 2 (by omega)]; exact hc 2 _ rfl, l1, g1⟩
end Go.Proofs.Ytofieekbhbkliaa.G
end
section
namespace Go.Proofs.Ytofieekbhbkliaa.G
open Go.RowKit Go.Proofs.YtofieekbhbkliaaW.PrintWords Go.Proofs.YtofieekbhbkliaaW.PrintLast Go.Proofs.YtofieekbhbkliaaW.PrintMore
attribute [local go_sem] max2_int min2_int max_two min_two max_three min_three max_four min_four
set_option linter.unusedVariables false
set_option linter.unusedSimpArgs false
def IsS139 (w0 W : World) (g : Nat) (f0 : List Int) (f1 : Int) : Prop := ∃ A0 c0, W.heap[g]? = some (.cells #[.slice A0 f0.length c0, .int .i64 f1] 139 (0, 0)) ∧ w0.heap.size ≤ g ∧ Kd.C (Kd.int .u8) w0 A0 f0.length f0
theorem IsS139.grown {w0 W : World} {g : Nat} {f0 : List Int} {f1 : Int} {W1 : World} {row : Option Nat} (h : IsS139 w0 W g f0 f1) (hw : W.grownBy W1 row) (hne : some g ≠ row) : IsS139 w0 W1 g f0 f1 := by
  obtain ⟨A0, c0, hb, hg, hr0⟩ := h
  exact ⟨A0, c0, blk_grown hb hw hne, hg, hr0⟩
theorem IsS139.fresh {w0 W : World} {g : Nat} {f0 : List Int} {f1 : Int} (h : IsS139 w0 W g f0 f1) : ∀ k, W.heap.size ≤ k → k ≠ g := by
  obtain ⟨A0, c0, hb, hg, hr0⟩ := h
  exact Kd.freshB hb
theorem IsS139.kept {w0 W : World} {g : Nat} {f0 : List Int} {f1 : Int} {W1 : World} {S : Nat → Prop} (h : IsS139 w0 W g f0 f1) (hk : Kept W W1 S) (hne : ¬ S g) : IsS139 w0 W1 g f0 f1 := by
  obtain ⟨A0, c0, hb, hg, hr0⟩ := h
  exact ⟨A0, c0, blk_kept hb hk hne, hg, hr0⟩
theorem IsS139.below {w0 W : World} {g : Nat} {f0 : List Int} {f1 : Int} {W1 : World} (h : IsS139 w0 W g f0 f1) (hw : Below W.heap.size W W1) : IsS139 w0 W1 g f0 f1 := h.grown (grown_of_below hw none) (by simp)
theorem IsS139.alloc {w0 W : World} {g : Nat} {f0 : List Int} {f1 : Int} (h : IsS139 w0 W g f0 f1) (o : Obj) : IsS139 w0 (W.alloc o) g f0 f1 := h.below (below_alloc (Below.refl _ _) o)
theorem IsS139.drewN {w0 W : World} {g : Nat} {f0 : List Int} {f1 : Int} (h : IsS139 w0 W g f0 f1) (m : Nat) : IsS139 w0 (W.drewN m) g f0 f1 := h
theorem IsS139.drew {w0 W : World} {g : Nat} {f0 : List Int} {f1 : Int} (h : IsS139 w0 W g f0 f1) : IsS139 w0 W.drew g f0 f1 := h
theorem IsS139.at_ {w0 W : World} {g : Nat} {f0 : List Int} {f1 : Int} {w' : World} {m : Nat} (hq : W.drewN m = w') (h : IsS139 w0 W g f0 f1) : IsS139 w0 w' g f0 f1 := by subst hq; exact IsS139.drewN h m
theorem IsS139.apart {w0 W : World} {g : Nat} {f0 : List Int} {f1 : Int} {α : Type} {d : Kd α} {e : Nat} {base : Nat} {ok : Nat → Prop} {v : Value} {xs : List α} (h : IsS139 w0 W g f0 f1) (ho : d.R e W base ok v xs) (ht : ∀ q, q ∈ e :: d.E → q ≠ 139) : d.R e W base (fun k => ok k ∧ k ≠ g) v xs := by
  obtain ⟨A0, c0, hb, hg, hr0⟩ := h
  exact Kd.R_types ho hb ht
theorem IsS139.own_ne {w0 W : World} {g : Nat} {f0 : List Int} {f1 : Int} {α : Type} {d : Kd α} {e : Nat} {base : Nat} {ok : Nat → Prop} {v : Value} {xs : List α} (h : IsS139 w0 W g f0 f1) (ho : d.R e W base ok v xs) (ht : e ≠ 139) : some g ≠ v.ownBlock := by
  obtain ⟨A0, c0, hb, hg, hr0⟩ := h
  exact Kd.R_ne ho hb ht
theorem IsS139.apartS {w0 W : World} {g : Nat} {f0 : List Int} {f1 : Int} {α : Type} {d : Kd α} {e : Nat} {base : Nat} {ok : Nat → Prop} {v : Value} {xs : List α} (h : IsS139 w0 W g f0 f1) (ho : d.S e W base ok v xs) (ht : ∀ q, q ∈ e :: d.E → q ≠ 139) : d.S e W base (fun k => ok k ∧ k ≠ g) v xs := by
  obtain ⟨A0, c0, hb, hg, hr0⟩ := h
  exact Kd.S_types ho hb ht
theorem IsS139.own_neS {w0 W : World} {g : Nat} {f0 : List Int} {f1 : Int} {α : Type} {d : Kd α} {e : Nat} {base : Nat} {ok : Nat → Prop} {v : Value} {xs : List α} (h : IsS139 w0 W g f0 f1) (ho : d.S e W base ok v xs) (ht : e ≠ 139) : some g ≠ v.ownBlock := by
  obtain ⟨A0, c0, hb, hg, hr0⟩ := h
  exact Kd.S_ne ho hb ht
theorem IsS139.lt {w0 W : World} {g : Nat} {f0 : List Int} {f1 : Int} (h : IsS139 w0 W g f0 f1) : g < W.heap.size := by
  obtain ⟨A0, c0, hb, hg, hr0⟩ := h
  exact blk_lt hb
theorem IsS139.ge {w0 W : World} {g : Nat} {f0 : List Int} {f1 : Int} (h : IsS139 w0 W g f0 f1) : w0.heap.size ≤ g := by
  obtain ⟨A0, c0, hb, hg, hr0⟩ := h
  exact hg
theorem IsS139.far {w0 W : World} {g : Nat} {f0 : List Int} {f1 : Int} {p : Addr} (h : IsS139 w0 W g f0 f1) (hne : g ≠ p.block) (u : Value) : IsS139 w0 (W.setCell p u) g f0 f1 := by
  obtain ⟨A0, c0, hb, hg, hr0⟩ := h
  exact ⟨A0, c0, blk_far hb hne u, hg, hr0⟩
theorem cellS139_0 {W : World} {g : Nat} {A0 : Option Addr} {c0 : Nat} {f0 : List Int} {f1 : Int} (h : W.heap[g]? = some (.cells #[.slice A0 f0.length c0, .int .i64 f1] 139 (0, 0))) : W.cell? ⟨g, 0, none⟩ = some (.slice A0 f0.length c0) := (blk_cell h 0).trans rfl
theorem cellS139_1 {W : World} {g : Nat} {A0 : Option Addr} {c0 : Nat} {f0 : List Int} {f1 : Int} (h : W.heap[g]? = some (.cells #[.slice A0 f0.length c0, .int .i64 f1] 139 (0, 0))) : W.cell? ⟨g, 1, none⟩ = some (.int .i64 f1) := (blk_cell h 1).trans rfl
theorem IsS139.set_1 {w0 W : World} {g : Nat} {f0 : List Int} {f1 : Int} (h : IsS139 w0 W g f0 f1) (x : Int) : IsS139 w0 (W.setCell ⟨g, 1, none⟩ (.int .i64 x)) g f0 x := by
  obtain ⟨A0, c0, hb, hg, hr0⟩ := h
  exact ⟨A0, c0, by simpa using blk_set hb 1 (.int .i64 x), hg, hr0⟩
theorem IsS139.new (w0 W : World) (A0 : Option Addr) (c0 : Nat) (f0 : List Int) (f1 : Int) (hB : Below w0.heap.size w0 W) (hr0 : Kd.C (Kd.int .u8) w0 A0 f0.length f0) : IsS139 w0 (W.alloc (.cells #[.slice A0 f0.length c0, .int .i64 f1] 139)) W.heap.size f0 f1 := ⟨A0, c0, by simpa using heap_alloc_new W _, hB.size, hr0⟩
def spec_l6Open.f (l0 : List Int) : Option (List Int × Int) := if (l0.length : Int) > 2000 then (if 2000 ≤ (l0.length : Int) then (some (l0.take 2000, 0)) else (none)) else (some (l0, 0))
set_option maxHeartbeats 8000000 in
set_option maxRecDepth 100000 in
theorem spec_l6Open.calls (A0 : Option Addr) (c0 : Nat) (l0 : List Int) (r1 : List Int) (r2 : Int) (w0 w : World) (hB : Below w0.heap.size w0 w) (hr0 : Kd.C (Kd.int .u8) w0 A0 l0.length l0) (hc0 : l0.length ≤ c0) (h : spec_l6Open.f l0 = some (r1, r2)) :
    Calls Try.prog 66 #[.slice A0 l0.length c0] w fun e w' => ∃ g_ : Nat, e = .returned (.pointer (some ⟨g_, 0, none⟩)) ∧ IsS139 w0 w' g_ r1 r2 ∧ Below w0.heap.size w0 w' ∧ Below w.heap.size w w' := by
  have hu139 := Try.underlying139
  have HR0 := Aside0.mk hr0
  have HC0 := Aside0.mk hc0
  clear hr0 hc0
  have HBW := Aside0.mk (Below.refl w.heap.size w)
  have HW0 := Aside0.mk hB.size
  have HB := Aside0.mk hB
  clear hB
  have H : (if (l0.length : Int) > 2000 then (if 2000 ≤ (l0.length : Int) then (some (l0.take 2000, 0)) else (none)) else (some (l0, 0))) = some (r1, r2) := h
  clear h
  by_cases c2 : (l0.length : Int) > 2000
  · rw [if_pos c2] at H
    have c2b0 : decide (2000 < (l0.length : Int)) = true := decide_eq_true c2
    have c2b1 : decide (2000 < l0.length) = true := decide_eq_true (by omega)
    clear c2
    by_cases c3 : 2000 ≤ (l0.length : Int)
    · rw [if_pos c3] at H
      have c3b0 := eq_true c3
      have c3b1 : decide (2000 ≤ (l0.length : Int)) = true := decide_eq_true c3
      clear c3
      simp only [Option.some.injEq, Prod.mk.injEq] at H
      obtain ⟨rfl, rfl⟩ := H
      obtain ⟨i04, hi04, _, hsz4, _⟩ := info_parts info5
      obtain ⟨hcut4, hA4, hC4⟩ := print_take_of (P := Try.prog) (Value.int .u8) 0 22 5 .i64 Try.underlying22 hi04 hsz4 A0 c0 l0 2000 (by omega) (of_decide_eq_true (by first | (with_reducible assumption) | assumption)) HC0.out
      have HR101 := Aside0.mk (Kd.C_of_reads (h1 := fun _ => rfl) (hA4 _ (Kd.reads_of_C HR0.out)))
      have HC101 := Aside0.mk hC4
      clear hA4 hC4 hi04 hsz4
      go_enter Try.func66, Try.ntmps66
      go_wp2_with (first | ((with_reducible refine gate_dst (N := 10) rfl ?_); refine box_event ?hg (N := 10) ?hd (cs := #[.slice A0 (l0.take 2000).length c0, .int .i64 0]) (t := 139) ?hr ?_; (case hd => rfl); (case hg => rfl); (case hr => first | (go_simp; done) | (go_simp; rfl)); intro gb102 hg w5 hbox hb; have n0_ := Aside0.mk (below_step HBW.out hb); have n1_ := Aside0.mk (below_step (by repeat (first | (with_reducible first | exact HB.out | apply below_alloc | apply pw_below_drewN | apply below_drew1) | exact HB.out)) hb); have n2_ := Aside0.mk (hbox); have n3_ := Aside0.mk ((by rw [hg]; exact (below_size (by repeat (first | (with_reducible first | exact HBW.out | apply below_alloc | apply pw_below_drewN | apply below_drew1) | exact HBW.out))) : w.heap.size ≤ gb102)); have n4_ := Aside0.mk ((Nat.le_trans HW0.out (by rw [hg]; exact (below_size (by repeat (first | (with_reducible first | exact HBW.out | apply below_alloc | apply pw_below_drewN | apply below_drew1) | exact HBW.out))) : w.heap.size ≤ gb102) : w0.heap.size ≤ gb102)); clear HBW; clear HB; have HBW := n0_; have HB := n1_; have BK102 := n2_; have GW102 := n3_; have GE102 := n4_; clear n0_ n1_ n2_ n3_ n4_; clear hb hbox hg))
      go_ret
      exact ⟨_, rfl, (show IsS139 w0 _ gb102 (l0.take 2000) 0 from ⟨_, _, by (with_reducible repeat (first | refine blk_drewN ?_ _ | refine blk_drew ?_ | refine blk_alloc ?_ _)); exact BK102.out, GE102.out, HR101.out⟩), by repeat (first | (with_reducible first | exact HB.out | apply below_alloc | apply pw_below_drewN | apply below_drew1 | refine below_set ?_ GE102.out) | exact HB.out), by repeat (first | (with_reducible first | exact HBW.out | apply below_alloc | apply pw_below_drewN | apply below_drew1 | refine below_set ?_ GW102.out) | exact HBW.out)⟩
    · rw [if_neg c3] at H
      exact absurd H (by simp)
  · rw [if_neg c2] at H
    have c2b0 : decide (2000 < (l0.length : Int)) = false := decide_eq_false c2
    have c2b1 : decide (2000 < l0.length) = false := decide_eq_false (by omega)
    clear c2
    simp only [Option.some.injEq, Prod.mk.injEq] at H
    obtain ⟨rfl, rfl⟩ := H
    go_enter Try.func66, Try.ntmps66
    go_wp2_with (first | ((with_reducible refine gate_dst (N := 10) rfl ?_); refine box_event ?hg (N := 10) ?hd (cs := #[.slice A0 l0.length c0, .int .i64 0]) (t := 139) ?hr ?_; (case hd => rfl); (case hg => rfl); (case hr => first | (go_simp; done) | (go_simp; rfl)); intro gb103 hg w6 hbox hb; have n0_ := Aside0.mk (below_step HBW.out hb); have n1_ := Aside0.mk (below_step (by repeat (first | (with_reducible first | exact HB.out | apply below_alloc | apply pw_below_drewN | apply below_drew1) | exact HB.out)) hb); have n2_ := Aside0.mk (hbox); have n3_ := Aside0.mk ((by rw [hg]; exact (below_size (by repeat (first | (with_reducible first | exact HBW.out | apply below_alloc | apply pw_below_drewN | apply below_drew1) | exact HBW.out))) : w.heap.size ≤ gb103)); have n4_ := Aside0.mk ((Nat.le_trans HW0.out (by rw [hg]; exact (below_size (by repeat (first | (with_reducible first | exact HBW.out | apply below_alloc | apply pw_below_drewN | apply below_drew1) | exact HBW.out))) : w.heap.size ≤ gb103) : w0.heap.size ≤ gb103)); clear HBW; clear HB; have HBW := n0_; have HB := n1_; have BK103 := n2_; have GW103 := n3_; have GE103 := n4_; clear n0_ n1_ n2_ n3_ n4_; clear hb hbox hg))
    go_ret
    exact ⟨_, rfl, (show IsS139 w0 _ gb103 l0 0 from ⟨_, _, by (with_reducible repeat (first | refine blk_drewN ?_ _ | refine blk_drew ?_ | refine blk_alloc ?_ _)); exact BK103.out, GE103.out, HR0.out⟩), by repeat (first | (with_reducible first | exact HB.out | apply below_alloc | apply pw_below_drewN | apply below_drew1 | refine below_set ?_ GE103.out) | exact HB.out), by repeat (first | (with_reducible first | exact HBW.out | apply below_alloc | apply pw_below_drewN | apply below_drew1 | refine below_set ?_ GW103.out) | exact HBW.out)⟩
def spec_l6Rd_pick.j0 : Nat → Int → Bool → List Int → Int → Option (Int × Int)
  | 0, _, _, _, _ => none
  | k + 1, x1, x24, x1000, x1001 => if x24 = true then (some (0, x1001)) else (if (wrap64 (x1001 - 1)) < (x1000.length : Int) then (if 0 ≤ (wrap64 (x1001 - 1)) then (if x1 = 0 then (none) else (some (Int.tmod (wrap64 (rd x1000 (wrap64 (x1001 - 1)))) x1, x1001))) else (none)) else (if (x1000.length : Int) = 0 then (none) else (if 0 ≤ (Int.tmod (wrap64 (x1001 - 1)) (x1000.length : Int)) then (if (Int.tmod (wrap64 (x1001 - 1)) (x1000.length : Int)) < (x1000.length : Int) then (if 0 ≤ (Int.tmod (wrap64 ((wrap64 ((wrap64 (x1001 - 1)) * 7)) + 3)) (x1000.length : Int)) then (if (Int.tmod (wrap64 ((wrap64 ((wrap64 (x1001 - 1)) * 7)) + 3)) (x1000.length : Int)) < (x1000.length : Int) then (if x1 = 0 then (none) else (some (Int.tmod (Go.bits .xor .i64 (wrap64 ((wrap64 ((wrap64 ((wrap64 ((wrap64 (rd x1000 (Int.tmod (wrap64 (x1001 - 1)) (x1000.length : Int)))) * 131)) + (wrap64 ((wrap64 (rd x1000 (Int.tmod (wrap64 ((wrap64 ((wrap64 (x1001 - 1)) * 7)) + 3)) (x1000.length : Int)))) * 1117)))) + (wrap64 ((wrap64 (x1001 - 1)) * 29)))) + (wrap64 ((wrap64 (Int.tdiv (wrap64 (x1001 - 1)) (x1000.length : Int))) * 53)))) (wrap64 (Int.tdiv (wrap64 ((wrap64 ((wrap64 ((wrap64 ((wrap64 (rd x1000 (Int.tmod (wrap64 (x1001 - 1)) (x1000.length : Int)))) * 131)) + (wrap64 ((wrap64 (rd x1000 (Int.tmod (wrap64 ((wrap64 ((wrap64 (x1001 - 1)) * 7)) + 3)) (x1000.length : Int)))) * 1117)))) + (wrap64 ((wrap64 (x1001 - 1)) * 29)))) + (wrap64 ((wrap64 (Int.tdiv (wrap64 (x1001 - 1)) (x1000.length : Int))) * 53)))) 64))) x1, x1001))) else (none)) else (none)) else (none)) else (none))))
def spec_l6Rd_pick.f (k : Nat) (s0_0 : List Int) (s0_1 : Int) (a1 : Int) : Option (Int × Int) := if a1 < 1 then (spec_l6Rd_pick.j0 k a1 true s0_0 (wrap64 (s0_1 + 1))) else (spec_l6Rd_pick.j0 k a1 ((s0_0.length : Int) == 0) s0_0 (wrap64 (s0_1 + 1)))
set_option maxHeartbeats 8000000 in
set_option maxRecDepth 100000 in
theorem spec_l6Rd_pick.calls (k : Nat) (g : Nat) (s0_0 : List Int) (s0_1 : Int) (a1 : Int) (r1 : Int) (r2 : Int) (w0 w : World) (hI : IsS139 w0 w g s0_0 s0_1) (hB : Below w0.heap.size w0 w) (h : spec_l6Rd_pick.f k s0_0 s0_1 a1 = some (r1, r2)) :
    Calls Try.prog 75 #[.pointer (some ⟨g, 0, none⟩), .int .i64 a1] w fun e w' => e = .returned (.int .i64 r1) ∧ IsS139 w0 w' g s0_0 r2 ∧ Below w0.heap.size w0 w' ∧ KeepBut w w' g none := by
  have HI0 := Aside0.mk hI
  have HK := Aside0.mk (KeepBut.refl w g none)
  have HL := Aside0.mk hB.size
  clear hI
  have HW0 := Aside0.mk hB.size
  have HB := Aside0.mk hB
  clear hB
  have H : (if a1 < 1 then (spec_l6Rd_pick.j0 k a1 true s0_0 (wrap64 (s0_1 + 1))) else (spec_l6Rd_pick.j0 k a1 ((s0_0.length : Int) == 0) s0_0 (wrap64 (s0_1 + 1)))) = some (r1, r2) := h
  clear h
  have HC3 := Aside0.mk H
  clear H
  obtain ⟨ASz4_0, cSz4_0, HGz4, hgz4, HSz4_0⟩ := HI0.out
  have hcz4_0 := cellS139_0 HGz4
  have hcz4_1 := cellS139_1 HGz4
  have hfz4_1 := blk_frozen HGz4 1
  clear HGz4 hgz4
  go_enter Try.func75, Try.ntmps75
  go_upto_region 2 with (fail)
  repeat (go_quiet (fail); go_upto_region 2 with (fail))
  go_cut [24] (fun v24 wc => ∃ (kq : Nat) (x24_2 : Bool), v24 = .bool x24_2 ∧ Aside0 (spec_l6Rd_pick.j0 kq a1 x24_2 s0_0 (wrap64 (s0_1 + 1)) = some (r1, r2)) ∧ Aside0 (kq ≤ k) ∧ Aside0 (IsS139 w0 wc g s0_0 (wrap64 (s0_1 + 1))) ∧ Aside0 (KeepBut w wc g none) ∧ Aside0 (Below w0.heap.size w0 wc))
  case first =>
    have H := HC3.out
    clear HC3
    by_cases c5 : a1 < 1
    · rw [if_pos c5] at H
      have c5b0 : decide (a1 < 1) = true := decide_eq_true c5
      clear c5
      (first | rw [c5b0] | (simp only [i64_w, i32_w]; rw [c5b0]) | skip)
      have H' := Aside0.mk H
      clear H
      go_wp2
      repeat (go_quiet (fail); try go_wp2)
      go_meet
      case rel => exact ⟨_, (true), (by first | rfl | (simp; done) | (simp [*]; done)), H', ⟨by first | omega | exact Nat.le_refl _⟩, ⟨by repeat (first | (with_reducible first | exact HI0.out | apply IsS139.alloc | apply IsS139.drewN | apply IsS139.drew | apply IsS139.set_1) | exact HI0.out)⟩, ⟨by repeat (first | (with_reducible first | exact HK.out | apply KeepBut.set_ | apply keep_drewN | apply keep_drew | apply keep_alloc) | exact HK.out)⟩, ⟨by repeat (first | (with_reducible first | exact HB.out | apply below_alloc | apply pw_below_drewN | apply below_drew1 | refine below_set ?_ (IsS139.ge HI0.out)) | exact HB.out)⟩⟩
    · rw [if_neg c5] at H
      have c5b0 : decide (a1 < 1) = false := decide_eq_false c5
      clear c5
      (first | rw [c5b0] | (simp only [i64_w, i32_w]; rw [c5b0]) | skip)
      have H' := Aside0.mk H
      clear H
      obtain ⟨ASz6_0, cSz6_0, HGz6, hgz6, HSz6_0⟩ := HI0.out
      have hcz6_0 := cellS139_0 HGz6
      have hcz6_1 := cellS139_1 HGz6
      have hfz6_1 := blk_frozen HGz6 1
      clear HGz6 hgz6
      go_wp2
      repeat (go_quiet (fail); try go_wp2)
      go_meet
      case rel => exact ⟨_, (((s0_0.length : Int) == 0)), (by first | rfl | (simp; done) | (simp [*]; done)), H', ⟨by first | omega | exact Nat.le_refl _⟩, ⟨by repeat (first | (with_reducible first | exact HI0.out | apply IsS139.alloc | apply IsS139.drewN | apply IsS139.drew | apply IsS139.set_1) | exact HI0.out)⟩, ⟨by repeat (first | (with_reducible first | exact HK.out | apply KeepBut.set_ | apply keep_drewN | apply keep_drew | apply keep_alloc) | exact HK.out)⟩, ⟨by repeat (first | (with_reducible first | exact HB.out | apply below_alloc | apply pw_below_drewN | apply below_drew1 | refine below_set ?_ (IsS139.ge HI0.out)) | exact HB.out)⟩⟩
  case rest =>
    clear HC3
    try clear p2
    try clear c5
    try clear c5b0
    try clear p6
    try clear hcz4_0
    try clear hcz4_1
    try clear hcz6_0
    try clear hcz6_1
    try clear hfz4_1
    try clear hfz6_1
    obtain ⟨kq, x24_2, rfl, HA, HJ2, HI0, HK, HB⟩ := hcut
    cases kq with
    | zero => exact absurd HA.out (by simp [spec_l6Rd_pick.j0])
    | succ kj2 =>
      have H := HA.out
      clear HA
      simp only [spec_l6Rd_pick.j0] at H
      by_cases c7 : x24_2 = true
      · subst c7
        have H1 : (some (0, (wrap64 (s0_1 + 1)))) = some (r1, r2) := by rw [if_pos rfl] at H; exact H
        clear H
        have H := H1
        clear H1
        simp only [Option.some.injEq, Prod.mk.injEq] at H
        obtain ⟨rfl, rfl⟩ := H
        go_wp2
        repeat (go_quiet (fail); try go_wp2)
        go_ret
        exact ⟨by first | rfl | (simp [errW_none, errW_some] <;> rfl) | (simp [*, errW_none, errW_some] <;> rfl), by repeat (first | (with_reducible first | exact HI0.out | apply IsS139.alloc | apply IsS139.drewN | apply IsS139.drew | apply IsS139.set_1) | exact HI0.out), by repeat (first | (with_reducible first | exact HB.out | apply below_alloc | apply pw_below_drewN | apply below_drew1 | refine below_set ?_ (IsS139.ge HI0.out)) | exact HB.out), by repeat (first | (with_reducible first | exact HK.out | apply KeepBut.set_ | apply keep_drewN | apply keep_drew | apply keep_alloc) | exact HK.out)⟩
      · replace c7 := Bool.eq_false_iff.mpr c7
        subst c7
        have H1 : (if (wrap64 ((wrap64 (s0_1 + 1)) - 1)) < (s0_0.length : Int) then (if 0 ≤ (wrap64 ((wrap64 (s0_1 + 1)) - 1)) then (if a1 = 0 then (none) else (some (Int.tmod (wrap64 (rd s0_0 (wrap64 ((wrap64 (s0_1 + 1)) - 1)))) a1, (wrap64 (s0_1 + 1))))) else (none)) else (if (s0_0.length : Int) = 0 then (none) else (if 0 ≤ (Int.tmod (wrap64 ((wrap64 (s0_1 + 1)) - 1)) (s0_0.length : Int)) then (if (Int.tmod (wrap64 ((wrap64 (s0_1 + 1)) - 1)) (s0_0.length : Int)) < (s0_0.length : Int) then (if 0 ≤ (Int.tmod (wrap64 ((wrap64 ((wrap64 ((wrap64 (s0_1 + 1)) - 1)) * 7)) + 3)) (s0_0.length : Int)) then (if (Int.tmod (wrap64 ((wrap64 ((wrap64 ((wrap64 (s0_1 + 1)) - 1)) * 7)) + 3)) (s0_0.length : Int)) < (s0_0.length : Int) then (if a1 = 0 then (none) else (some (Int.tmod (Go.bits .xor .i64 (wrap64 ((wrap64 ((wrap64 ((wrap64 ((wrap64 (rd s0_0 (Int.tmod (wrap64 ((wrap64 (s0_1 + 1)) - 1)) (s0_0.length : Int)))) * 131)) + (wrap64 ((wrap64 (rd s0_0 (Int.tmod (wrap64 ((wrap64 ((wrap64 ((wrap64 (s0_1 + 1)) - 1)) * 7)) + 3)) (s0_0.length : Int)))) * 1117)))) + (wrap64 ((wrap64 ((wrap64 (s0_1 + 1)) - 1)) * 29)))) + (wrap64 ((wrap64 (Int.tdiv (wrap64 ((wrap64 (s0_1 + 1)) - 1)) (s0_0.length : Int))) * 53)))) (wrap64 (Int.tdiv (wrap64 ((wrap64 ((wrap64 ((wrap64 ((wrap64 (rd s0_0 (Int.tmod (wrap64 ((wrap64 (s0_1 + 1)) - 1)) (s0_0.length : Int)))) * 131)) + (wrap64 ((wrap64 (rd s0_0 (Int.tmod (wrap64 ((wrap64 ((wrap64 ((wrap64 (s0_1 + 1)) - 1)) * 7)) + 3)) (s0_0.length : Int)))) * 1117)))) + (wrap64 ((wrap64 ((wrap64 (s0_1 + 1)) - 1)) * 29)))) + (wrap64 ((wrap64 (Int.tdiv (wrap64 ((wrap64 (s0_1 + 1)) - 1)) (s0_0.length : Int))) * 53)))) 64))) a1, (wrap64 (s0_1 + 1))))) else (none)) else (none)) else (none)) else (none)))) = some (r1, r2) := by rw [if_neg (show ¬ (false = true) by decide)] at H; exact H
        clear H
        have H := H1
        clear H1
        by_cases c8 : (wrap64 ((wrap64 (s0_1 + 1)) - 1)) < (s0_0.length : Int)
        · rw [if_pos c8] at H
          have c8b0 : decide ((wrap64 ((wrap64 (s0_1 + 1)) - 1)) < (s0_0.length : Int)) = true := decide_eq_true c8
          clear c8
          obtain ⟨ji9, hji9⟩ : ∃ j_ : Int, (wrap64 ((wrap64 (s0_1 + 1)) - 1)) = j_ := ⟨_, rfl⟩
          replace H : (if 0 ≤ (ji9) then (if a1 = 0 then (none) else (some (Int.tmod (wrap64 (rd s0_0 (ji9))) a1, (wrap64 (s0_1 + 1))))) else (none)) = some (r1, r2) := by first | (rw [hji9] at H; exact H) | (simp only [hji9] at H ⊢; exact H)
          (try rw [hji9] at c8b0)
          have hji9w : (IntKind.i64.wrap ((wrap64 (s0_1 + 1)) - 1)) = ji9 := (i64_w _).trans hji9
          by_cases c10 : 0 ≤ (ji9)
          · rw [if_pos c10] at H
            have c10b0 : decide (0 ≤ (ji9)) = true := decide_eq_true c10
            clear c10
            by_cases c11 : a1 = 0
            · rw [if_pos c11] at H
              exact absurd H (by simp)
            · rw [if_neg c11] at H
              have c11b0 : (a1 == 0) = false := beq_eq_false_iff_ne.mpr c11
              have c11b1 : (a1 != 0) = true := bne_iff_ne.mpr c11
              simp only [Option.some.injEq, Prod.mk.injEq] at H
              obtain ⟨rfl, rfl⟩ := H
              obtain ⟨ASz12_0, cSz12_0, HGz12, hgz12, HSz12_0⟩ := HI0.out
              have hcz12_0 := cellS139_0 HGz12
              have hcz12_1 := cellS139_1 HGz12
              have hfz12_1 := blk_frozen HGz12 1
              clear HGz12 hgz12
              have p104 : 0 ≤ ((ji9) : Int) := of_decide_eq_true (by first | (with_reducible assumption) | assumption)
              have q104 : (ji9) < (s0_0.length : Int) := of_decide_eq_true (by first | (with_reducible assumption) | assumption)
              obtain ⟨ad104, e104, hx104_0⟩ := Kd.at_int HSz12_0 (ji9) p104 q104
              cases e104
              replace hx104_0 := pw_cell_below HB.out hx104_0
              replace p104 := eq_true p104
              replace q104 := eq_true q104
              go_wp2
              repeat (go_quiet (fail); try go_wp2)
              go_ret
              exact ⟨by first | rfl | (simp [errW_none, errW_some] <;> rfl) | (simp only [← hji9]; first | rfl | (simp [errW_none, errW_some] <;> rfl)) | (simp [*, errW_none, errW_some] <;> rfl), by repeat (first | (with_reducible first | exact HI0.out | apply IsS139.alloc | apply IsS139.drewN | apply IsS139.drew | apply IsS139.set_1) | exact HI0.out), by repeat (first | (with_reducible first | exact HB.out | apply below_alloc | apply pw_below_drewN | apply below_drew1 | refine below_set ?_ (IsS139.ge HI0.out)) | exact HB.out), by repeat (first | (with_reducible first | exact HK.out | apply KeepBut.set_ | apply keep_drewN | apply keep_drew | apply keep_alloc) | exact HK.out)⟩
          · rw [if_neg c10] at H
            exact absurd H (by simp)
        · rw [if_neg c8] at H
          have c8b0 : decide ((wrap64 ((wrap64 (s0_1 + 1)) - 1)) < (s0_0.length : Int)) = false := decide_eq_false c8
          clear c8
          by_cases c13 : (s0_0.length : Int) = 0
          · rw [if_pos c13] at H
            exact absurd H (by simp)
          · rw [if_neg c13] at H
            have c13b0 : ((s0_0.length : Int) == 0) = false := beq_eq_false_iff_ne.mpr c13
            have c13b1 : ((s0_0.length : Int) != 0) = true := bne_iff_ne.mpr c13
            have c13b2 : ¬ (s0_0 = []) := fun h_ => c13 (by rw [h_]; rfl)
            obtain ⟨ji14, hji14⟩ : ∃ j_ : Int, (Int.tmod (wrap64 ((wrap64 (s0_1 + 1)) - 1)) (s0_0.length : Int)) = j_ := ⟨_, rfl⟩
            replace H : (if 0 ≤ (ji14) then (if (ji14) < (s0_0.length : Int) then (if 0 ≤ (Int.tmod (wrap64 ((wrap64 ((wrap64 ((wrap64 (s0_1 + 1)) - 1)) * 7)) + 3)) (s0_0.length : Int)) then (if (Int.tmod (wrap64 ((wrap64 ((wrap64 ((wrap64 (s0_1 + 1)) - 1)) * 7)) + 3)) (s0_0.length : Int)) < (s0_0.length : Int) then (if a1 = 0 then (none) else (some (Int.tmod (Go.bits .xor .i64 (wrap64 ((wrap64 ((wrap64 ((wrap64 ((wrap64 (rd s0_0 (ji14))) * 131)) + (wrap64 ((wrap64 (rd s0_0 (Int.tmod (wrap64 ((wrap64 ((wrap64 ((wrap64 (s0_1 + 1)) - 1)) * 7)) + 3)) (s0_0.length : Int)))) * 1117)))) + (wrap64 ((wrap64 ((wrap64 (s0_1 + 1)) - 1)) * 29)))) + (wrap64 ((wrap64 (Int.tdiv (wrap64 ((wrap64 (s0_1 + 1)) - 1)) (s0_0.length : Int))) * 53)))) (wrap64 (Int.tdiv (wrap64 ((wrap64 ((wrap64 ((wrap64 ((wrap64 (rd s0_0 (ji14))) * 131)) + (wrap64 ((wrap64 (rd s0_0 (Int.tmod (wrap64 ((wrap64 ((wrap64 ((wrap64 (s0_1 + 1)) - 1)) * 7)) + 3)) (s0_0.length : Int)))) * 1117)))) + (wrap64 ((wrap64 ((wrap64 (s0_1 + 1)) - 1)) * 29)))) + (wrap64 ((wrap64 (Int.tdiv (wrap64 ((wrap64 (s0_1 + 1)) - 1)) (s0_0.length : Int))) * 53)))) 64))) a1, (wrap64 (s0_1 + 1))))) else (none)) else (none)) else (none)) else (none)) = some (r1, r2) := by first | (rw [hji14] at H; exact H) | (simp only [hji14] at H ⊢; exact H)
            by_cases c15 : 0 ≤ (ji14)
            · rw [if_pos c15] at H
              have c15b0 : decide (0 ≤ (ji14)) = true := decide_eq_true c15
              clear c15
              by_cases c16 : (ji14) < (s0_0.length : Int)
              · rw [if_pos c16] at H
                have c16b0 : decide ((ji14) < (s0_0.length : Int)) = true := decide_eq_true c16
                clear c16
                obtain ⟨ji17, hji17⟩ : ∃ j_ : Int, (Int.tmod (wrap64 ((wrap64 ((wrap64 ((wrap64 (s0_1 + 1)) - 1)) * 7)) + 3)) (s0_0.length : Int)) = j_ := ⟨_, rfl⟩
                replace H : (if 0 ≤ (ji17) then (if (ji17) < (s0_0.length : Int) then (if a1 = 0 then (none) else (some (Int.tmod (Go.bits .xor .i64 (wrap64 ((wrap64 ((wrap64 ((wrap64 ((wrap64 (rd s0_0 (ji14))) * 131)) + (wrap64 ((wrap64 (rd s0_0 (ji17))) * 1117)))) + (wrap64 ((wrap64 ((wrap64 (s0_1 + 1)) - 1)) * 29)))) + (wrap64 ((wrap64 (Int.tdiv (wrap64 ((wrap64 (s0_1 + 1)) - 1)) (s0_0.length : Int))) * 53)))) (wrap64 (Int.tdiv (wrap64 ((wrap64 ((wrap64 ((wrap64 ((wrap64 (rd s0_0 (ji14))) * 131)) + (wrap64 ((wrap64 (rd s0_0 (ji17))) * 1117)))) + (wrap64 ((wrap64 ((wrap64 (s0_1 + 1)) - 1)) * 29)))) + (wrap64 ((wrap64 (Int.tdiv (wrap64 ((wrap64 (s0_1 + 1)) - 1)) (s0_0.length : Int))) * 53)))) 64))) a1, (wrap64 (s0_1 + 1))))) else (none)) else (none)) = some (r1, r2) := by first | (rw [hji17] at H; exact H) | (simp only [hji17] at H ⊢; exact H)
                by_cases c18 : 0 ≤ (ji17)
                · rw [if_pos c18] at H
                  have c18b0 : decide (0 ≤ (ji17)) = true := decide_eq_true c18
                  clear c18
                  by_cases c19 : (ji17) < (s0_0.length : Int)
                  · rw [if_pos c19] at H
                    have c19b0 : decide ((ji17) < (s0_0.length : Int)) = true := decide_eq_true c19
                    clear c19
                    by_cases c20 : a1 = 0
                    · rw [if_pos c20] at H
                      exact absurd H (by simp)
                    · rw [if_neg c20] at H
                      have c20b0 : (a1 == 0) = false := beq_eq_false_iff_ne.mpr c20
                      have c20b1 : (a1 != 0) = true := bne_iff_ne.mpr c20
                      simp only [Option.some.injEq, Prod.mk.injEq] at H
                      obtain ⟨rfl, rfl⟩ := H
                      obtain ⟨ASz21_0, cSz21_0, HGz21, hgz21, HSz21_0⟩ := HI0.out
                      have hcz21_0 := cellS139_0 HGz21
                      have hcz21_1 := cellS139_1 HGz21
                      have hfz21_1 := blk_frozen HGz21 1
                      clear HGz21 hgz21
                      have p105 : 0 ≤ ((ji14) : Int) := of_decide_eq_true (by first | (with_reducible assumption) | assumption)
                      have q105 : (ji14) < (s0_0.length : Int) := of_decide_eq_true (by first | (with_reducible assumption) | assumption)
                      obtain ⟨ad105, e105, hx105_0⟩ := Kd.at_int HSz21_0 (ji14) p105 q105
                      cases e105
                      replace hx105_0 := pw_cell_below HB.out hx105_0
                      replace p105 := eq_true p105
                      replace q105 := eq_true q105
                      have p106 : 0 ≤ ((ji17) : Int) := of_decide_eq_true (by first | (with_reducible assumption) | assumption)
                      have q106 : (ji17) < (s0_0.length : Int) := of_decide_eq_true (by first | (with_reducible assumption) | assumption)
                      obtain ⟨ad106, e106, hx106_0⟩ := Kd.at_int HSz21_0 (ji17) p106 q106
                      obtain rfl : ad105 = ad106 := (by injection e106)
                      replace hx106_0 := pw_cell_below HB.out hx106_0
                      replace p106 := eq_true p106
                      replace q106 := eq_true q106
                      go_wp2
                      repeat (go_quiet (fail); try go_wp2)
                      go_ret
                      exact ⟨by first | rfl | (simp [errW_none, errW_some] <;> rfl) | (simp only [← hji14, ← hji17]; first | rfl | (simp [errW_none, errW_some] <;> rfl)) | (simp [*, errW_none, errW_some] <;> rfl), by repeat (first | (with_reducible first | exact HI0.out | apply IsS139.alloc | apply IsS139.drewN | apply IsS139.drew | apply IsS139.set_1) | exact HI0.out), by repeat (first | (with_reducible first | exact HB.out | apply below_alloc | apply pw_below_drewN | apply below_drew1 | refine below_set ?_ (IsS139.ge HI0.out)) | exact HB.out), by repeat (first | (with_reducible first | exact HK.out | apply KeepBut.set_ | apply keep_drewN | apply keep_drew | apply keep_alloc) | exact HK.out)⟩
                  · rw [if_neg c19] at H
                    exact absurd H (by simp)
                · rw [if_neg c18] at H
                  exact absurd H (by simp)
              · rw [if_neg c16] at H
                exact absurd H (by simp)
            · rw [if_neg c15] at H
              exact absurd H (by simp)
mutual
def spec_l5Once.l0 : Nat → List (S108) → List (S108) → Int → Option ((List (S108)))
  | 0, _, _, _ => none
  | k + 1, x0, x3, x4 => if x4 < (x0.length : Int) then (spec_l5Once.l1 k x0 x3 x4 false 0) else (some x3)
def spec_l5Once.l1 : Nat → List (S108) → List (S108) → Int → Bool → Int → Option ((List (S108)))
  | 0, _, _, _, _, _ => none
  | k + 1, x0, x3, x4, x5, x6 => if x6 < (x3.length : Int) then (if x5 = true then (spec_l5Once.l1 k x0 x3 x4 true (wrap64 (x6 + 1))) else (if 0 ≤ x6 then (if 0 ≤ x4 then (if x4 < (x0.length : Int) then (spec_l5Once.l1 k x0 x3 x4 (((rd_T108 x3 x6).f0) == ((rd_T108 x0 x4).f0)) (wrap64 (x6 + 1))) else (none)) else (none)) else (none))) else (if x5 = true then (spec_l5Once.l0 k x0 x3 (wrap64 (x4 + 1))) else (if 0 ≤ x4 then (if x4 < (x0.length : Int) then (if x3.length < 8796093022208 then (spec_l5Once.l0 k x0 (x3 ++ [(⟨(rd_T108 x0 x4).f0, (rd_T108 x0 x4).f1⟩ : S108)]) (wrap64 (x4 + 1))) else (none)) else (none)) else (none)))
end
def spec_l5Once.f (k : Nat) (l0 : List (S108)) : Option ((List (S108))) := spec_l5Once.l0 k l0 (([] : List (S108))) 0
set_option maxHeartbeats 8000000 in
set_option maxRecDepth 100000 in
theorem spec_l5Once.calls (k : Nat) (A0 : Option Addr) (c0 : Nat) (l0 : List (S108)) (r : List (S108)) (w : World) (hr0 : Kd.C k108 w A0 l0.length l0) (hc0 : l0.length ≤ c0) (h : spec_l5Once.f k l0 = some r) :
    Calls Try.prog 133 #[.slice A0 l0.length c0] w fun e w' => ∃ v0_ : Value, e = .returned (v0_) ∧ Kd.R k108 108 w' w.heap.size (fun _ => True) v0_ r ∧ Below w.heap.size w w' := by
  have hu108 := Try.underlying108
  have HR0 := Aside0.mk hr0
  have HC0 := Aside0.mk hc0
  clear hr0 hc0
  have HB := Aside0.mk (Below.refl w.heap.size w)
  have H : (spec_l5Once.l0 k l0 (([] : List (S108))) 0) = some r := h
  clear h
  obtain ⟨y107, hy107⟩ : ∃ y_ : List (S108), y_ = (([] : List (S108))) := ⟨_, rfl⟩
  replace H : (spec_l5Once.l0 k l0 y107 0) = some r := by first | (rw [hy107]; with_reducible exact H) | (have H2_ := (Option.bind_some _ _).symm.trans H; rw [hy107]; with_reducible exact H2_) | (have H2_ := (Option.bind_some _ _).symm.trans H; with_reducible exact H2_) | with_reducible exact H | (rw [hy107]; exact H) | exact H
  have Ny107 := Aside0.mk hy107
  clear hy107
  have H' := Aside0.mk H
  clear H
  go_enter Try.func133, Try.ntmps133
  go_wp2_with (first | ((with_reducible refine gate_dst (N := 7) rfl ?_); refine Kd.R_lit k108 _ 108 ?hg (N := 7) ?hd (xs := ([] : List (S108))) (inner := []) (ok := fun _ => True) (okp := fun _ => True) ?hr ?hp (fun _ hk => hk) trivial (Below.refl _ _) (Nat.le_refl _) (by simp) ?_; (case hd => rfl); (case hg => rfl); (case hr => first | (go_simp; done) | (go_simp; rfl)); (case hp => exact (Reps.none _ _)); intro v108 w2 ho3 hb hg_ hnew_; clear hg_ hnew_; (first | rw [← Ny107.out] at ho3 | (simp only [Int.reduceToNat] at ho3; rw [← Ny107.out] at ho3)); have n0_ := Aside0.mk (Kd.R_lower ho3 (below_size (by repeat (first | (with_reducible first | exact HB.out | apply below_alloc | apply pw_below_drewN | apply below_drew1) | exact HB.out)))); have n1_ := Aside0.mk (below_step (by repeat (first | (with_reducible first | exact HB.out | apply below_alloc | apply pw_below_drewN | apply below_drew1) | exact HB.out)) hb); clear HB; have HO109 := n0_; have HB := n1_; clear n0_ n1_; clear hb ho3))
  repeat (go_quiet (first | ((with_reducible refine gate_dst (N := 7) rfl ?_); refine Kd.R_lit k108 _ 108 ?hg (N := 7) ?hd (xs := ([] : List (S108))) (inner := []) (ok := fun _ => True) (okp := fun _ => True) ?hr ?hp (fun _ hk => hk) trivial (Below.refl _ _) (Nat.le_refl _) (by simp) ?_; (case hd => rfl); (case hg => rfl); (case hr => first | (go_simp; done) | (go_simp; rfl)); (case hp => exact (Reps.none _ _)); intro v108 w2 ho3 hb hg_ hnew_; clear hg_ hnew_; (first | rw [← Ny107.out] at ho3 | (simp only [Int.reduceToNat] at ho3; rw [← Ny107.out] at ho3)); have n0_ := Aside0.mk (Kd.R_lower ho3 (below_size (by repeat (first | (with_reducible first | exact HB.out | apply below_alloc | apply pw_below_drewN | apply below_drew1) | exact HB.out)))); have n1_ := Aside0.mk (below_step (by repeat (first | (with_reducible first | exact HB.out | apply below_alloc | apply pw_below_drewN | apply below_drew1) | exact HB.out)) hb); clear HB; have HO109 := n0_; have HB := n1_; clear n0_ n1_; clear hb ho3)); try go_wp2_with (first | ((with_reducible refine gate_dst (N := 7) rfl ?_); refine Kd.R_lit k108 _ 108 ?hg (N := 7) ?hd (xs := ([] : List (S108))) (inner := []) (ok := fun _ => True) (okp := fun _ => True) ?hr ?hp (fun _ hk => hk) trivial (Below.refl _ _) (Nat.le_refl _) (by simp) ?_; (case hd => rfl); (case hg => rfl); (case hr => first | (go_simp; done) | (go_simp; rfl)); (case hp => exact (Reps.none _ _)); intro v108 w2 ho3 hb hg_ hnew_; clear hg_ hnew_; (first | rw [← Ny107.out] at ho3 | (simp only [Int.reduceToNat] at ho3; rw [← Ny107.out] at ho3)); have n0_ := Aside0.mk (Kd.R_lower ho3 (below_size (by repeat (first | (with_reducible first | exact HB.out | apply below_alloc | apply pw_below_drewN | apply below_drew1) | exact HB.out)))); have n1_ := Aside0.mk (below_step (by repeat (first | (with_reducible first | exact HB.out | apply below_alloc | apply pw_below_drewN | apply below_drew1) | exact HB.out)) hb); clear HB; have HO109 := n0_; have HB := n1_; clear n0_ n1_; clear hb ho3)))
  go_loopg [3, 4] k (fun kq v3 v4 w' => ∃ (x3_1 : List (S108)) (x4_1 : Int), v4 = .int .i64 x4_1 ∧ Aside0 (spec_l5Once.l0 kq l0 x3_1 x4_1 = some r) ∧ Aside0 (kq ≤ k) ∧ Aside0 (Kd.R k108 108 w' w.heap.size (fun _ => True) v3 x3_1) ∧ Aside0 (Below w.heap.size w w'))
  case atStart => exact ⟨(y107), (0), (by first | rfl | (simp; done) | (simp [*]; done)), H', ⟨Nat.le_refl _⟩, ⟨by (with_reducible repeat (first | apply Kd.R_alloc | apply Kd.R_drewN | apply Kd.R_drew)); exact HO109.out⟩, ⟨by repeat (first | (with_reducible first | exact HB.out | apply below_alloc | apply pw_below_drewN | apply below_drew1) | exact HB.out)⟩⟩
  case round =>
    clear H'
    try clear c1
    try clear p2
    obtain ⟨x3_1, x4_1, rfl, HA, HK1, HO_3, HB⟩ := hrel
    cases gk with
    | zero => exact absurd HA.out (by simp [spec_l5Once.l0])
    | succ k1 =>
      have H := HA.out
      clear HA
      simp only [spec_l5Once.l0] at H
      by_cases c4 : x4_1 < (l0.length : Int)
      · rw [if_pos c4] at H
        have c4b0 : decide (x4_1 < (l0.length : Int)) = true := decide_eq_true c4
        clear c4
        have H' := Aside0.mk H
        clear H
        go_wp2
        repeat (go_quiet (fail); try go_wp2)
        go_loopg [5, 6] k1 (fun kq v5 v6 w' => ∃ (x5_2 : Bool) (x6_2 : Int), v5 = .bool x5_2 ∧ v6 = .int .i64 x6_2 ∧ Aside0 (spec_l5Once.l1 kq l0 x3_1 x4_1 x5_2 x6_2 = some r) ∧ Aside0 (kq ≤ k1) ∧ Aside0 (Kd.R k108 108 w' w.heap.size (fun _ => True) u3 x3_1) ∧ Aside0 (Below w.heap.size w w'))
        case atStart => exact ⟨(false), (0), (by first | rfl | (simp; done) | (simp [*]; done)), (by first | rfl | (simp; done) | (simp [*]; done)), H', ⟨Nat.le_refl _⟩, ⟨by (with_reducible repeat (first | apply Kd.R_alloc | apply Kd.R_drewN | apply Kd.R_drew)); exact HO_3.out⟩, ⟨by repeat (first | (with_reducible first | exact HB.out | apply below_alloc | apply pw_below_drewN | apply below_drew1) | exact HB.out)⟩⟩
        case round =>
          clear H'
          try clear c1
          try clear p2
          try clear c4
          try clear c4b0
          try clear p2
          obtain ⟨x5_2, x6_2, rfl, rfl, HA, HK2, HO_3, HB⟩ := hrel
          cases gk with
          | zero => exact absurd HA.out (by simp [spec_l5Once.l1])
          | succ k2 =>
            have H := HA.out
            clear HA
            simp only [spec_l5Once.l1] at H
            by_cases c5 : x6_2 < (x3_1.length : Int)
            · rw [if_pos c5] at H
              have c5b0 : decide (x6_2 < (x3_1.length : Int)) = true := decide_eq_true c5
              clear c5
              by_cases c6 : x5_2 = true
              · subst c6
                have H1 : (spec_l5Once.l1 k2 l0 x3_1 x4_1 true (wrap64 (x6_2 + 1))) = some r := by rw [if_pos rfl] at H; exact H
                clear H
                have H := H1
                clear H1
                have H' := Aside0.mk H
                clear H
                obtain ⟨Ao7, co7, eo7⟩ := Kd.R_slice HO_3.out
                subst eo7
                go_wp2
                repeat (go_quiet (fail); try go_wp2)
                go_roundg k2
                case measure => have := HK1.out; have := HK2.out; omega
                case rel => exact ⟨(true), (wrap64 (x6_2 + 1)), (by first | rfl | (simp; done) | (simp [*]; done)), (by first | rfl | (simp; done) | (simp [*]; done)), H', ⟨by have := HK1.out; have := HK2.out; omega⟩, ⟨by (with_reducible repeat (first | apply Kd.R_alloc | apply Kd.R_drewN | apply Kd.R_drew)); exact HO_3.out⟩, ⟨by repeat (first | (with_reducible first | exact HB.out | apply below_alloc | apply pw_below_drewN | apply below_drew1) | exact HB.out)⟩⟩
              · replace c6 := Bool.eq_false_iff.mpr c6
                subst c6
                have H1 : (if 0 ≤ x6_2 then (if 0 ≤ x4_1 then (if x4_1 < (l0.length : Int) then (spec_l5Once.l1 k2 l0 x3_1 x4_1 (((rd_T108 x3_1 x6_2).f0) == ((rd_T108 l0 x4_1).f0)) (wrap64 (x6_2 + 1))) else (none)) else (none)) else (none)) = some r := by rw [if_neg (show ¬ (false = true) by decide)] at H; exact H
                clear H
                have H := H1
                clear H1
                by_cases c8 : 0 ≤ x6_2
                · rw [if_pos c8] at H
                  have c8b0 : decide (0 ≤ x6_2) = true := decide_eq_true c8
                  clear c8
                  by_cases c9 : 0 ≤ x4_1
                  · rw [if_pos c9] at H
                    have c9b0 : decide (0 ≤ x4_1) = true := decide_eq_true c9
                    clear c9
                    by_cases c10 : x4_1 < (l0.length : Int)
                    · rw [if_pos c10] at H
                      have c10b0 : decide (x4_1 < (l0.length : Int)) = true := decide_eq_true c10
                      clear c10
                      have H' := Aside0.mk H
                      clear H
                      obtain ⟨Ao11, co11, eo11⟩ := Kd.R_slice HO_3.out
                      subst eo11
                      have p110 : 0 ≤ (x6_2 : Int) := of_decide_eq_true (by first | (with_reducible assumption) | assumption)
                      have q110 : x6_2 < (x3_1.length : Int) := of_decide_eq_true (by first | (with_reducible assumption) | assumption)
                      obtain ⟨ad110, e110, hx110_0, hx110_1⟩ := at_T108 (Kd.R_reads' HO_3.out).2.2 x6_2 p110 q110
                      cases e110
                      replace p110 := eq_true p110
                      replace q110 := eq_true q110
                      have p111 : 0 ≤ (x4_1 : Int) := of_decide_eq_true (by first | (with_reducible assumption) | assumption)
                      have q111 : x4_1 < (l0.length : Int) := of_decide_eq_true (by first | (with_reducible assumption) | assumption)
                      obtain ⟨ad111, e111, hx111_0, hx111_1⟩ := at_T108 HR0.out x4_1 p111 q111
                      cases e111
                      replace hx111_0 := (HB.out.cell (World.block_lt_of_cell? w _ hx111_0)).trans hx111_0
                      replace hx111_1 := (HB.out.cell (World.block_lt_of_cell? w _ hx111_1)).trans hx111_1
                      replace p111 := eq_true p111
                      replace q111 := eq_true q111
                      go_wp2
                      repeat (go_quiet (fail); try go_wp2)
                      go_roundg k2
                      case measure => have := HK1.out; have := HK2.out; omega
                      case rel => exact ⟨((((rd_T108 x3_1 x6_2).f0) == ((rd_T108 l0 x4_1).f0))), (wrap64 (x6_2 + 1)), (by first | rfl | (simp; done) | (simp [*]; done)), (by first | rfl | (simp; done) | (simp [*]; done)), H', ⟨by have := HK1.out; have := HK2.out; omega⟩, ⟨by (with_reducible repeat (first | apply Kd.R_alloc | apply Kd.R_drewN | apply Kd.R_drew)); exact HO_3.out⟩, ⟨by repeat (first | (with_reducible first | exact HB.out | apply below_alloc | apply pw_below_drewN | apply below_drew1) | exact HB.out)⟩⟩
                    · rw [if_neg c10] at H
                      exact absurd H (by simp)
                  · rw [if_neg c9] at H
                    exact absurd H (by simp)
                · rw [if_neg c8] at H
                  exact absurd H (by simp)
            · rw [if_neg c5] at H
              have c5b0 : decide (x6_2 < (x3_1.length : Int)) = false := decide_eq_false c5
              clear c5
              by_cases c12 : x5_2 = true
              · subst c12
                have H1 : (spec_l5Once.l0 k2 l0 x3_1 (wrap64 (x4_1 + 1))) = some r := by rw [if_pos rfl] at H; exact H
                clear H
                have H := H1
                clear H1
                have H' := Aside0.mk H
                clear H
                obtain ⟨Ao13, co13, eo13⟩ := Kd.R_slice HO_3.out
                subst eo13
                go_wp2
                repeat (go_quiet (fail); try go_wp2)
                go_roundg k2
                case measure => have := HK1.out; have := HK2.out; omega
                case rel => exact ⟨(x3_1), (wrap64 (x4_1 + 1)), (by first | rfl | (simp; done) | (simp [*]; done)), H', ⟨by have := HK1.out; have := HK2.out; omega⟩, ⟨by (with_reducible repeat (first | apply Kd.R_alloc | apply Kd.R_drewN | apply Kd.R_drew)); exact HO_3.out⟩, ⟨by repeat (first | (with_reducible first | exact HB.out | apply below_alloc | apply pw_below_drewN | apply below_drew1) | exact HB.out)⟩⟩
              · replace c12 := Bool.eq_false_iff.mpr c12
                subst c12
                have H1 : (if 0 ≤ x4_1 then (if x4_1 < (l0.length : Int) then (if x3_1.length < 8796093022208 then (spec_l5Once.l0 k2 l0 (x3_1 ++ [(⟨(rd_T108 l0 x4_1).f0, (rd_T108 l0 x4_1).f1⟩ : S108)]) (wrap64 (x4_1 + 1))) else (none)) else (none)) else (none)) = some r := by rw [if_neg (show ¬ (false = true) by decide)] at H; exact H
                clear H
                have H := H1
                clear H1
                by_cases c14 : 0 ≤ x4_1
                · rw [if_pos c14] at H
                  have c14b0 : decide (0 ≤ x4_1) = true := decide_eq_true c14
                  clear c14
                  by_cases c15 : x4_1 < (l0.length : Int)
                  · rw [if_pos c15] at H
                    have c15b0 : decide (x4_1 < (l0.length : Int)) = true := decide_eq_true c15
                    clear c15
                    by_cases c16 : x3_1.length < 8796093022208
                    · rw [if_pos c16] at H
                      have LMc16 := Aside0.mk c16
                      clear c16
                      obtain ⟨y113, hy113⟩ : ∃ y_ : List (S108), y_ = (x3_1 ++ [(⟨(rd_T108 l0 x4_1).f0, (rd_T108 l0 x4_1).f1⟩ : S108)]) := ⟨_, rfl⟩
                      replace H : (spec_l5Once.l0 k2 l0 y113 (wrap64 (x4_1 + 1))) = some r := by first | (rw [hy113]; with_reducible exact H) | (have H2_ := (Option.bind_some _ _).symm.trans H; rw [hy113]; with_reducible exact H2_) | (have H2_ := (Option.bind_some _ _).symm.trans H; with_reducible exact H2_) | with_reducible exact H | (rw [hy113]; exact H) | exact H
                      have Ny113 := Aside0.mk hy113
                      clear hy113
                      have H' := Aside0.mk H
                      clear H
                      obtain ⟨Ao17, co17, eo17⟩ := Kd.R_slice HO_3.out
                      subst eo17
                      have p112 : 0 ≤ (x4_1 : Int) := of_decide_eq_true (by first | (with_reducible assumption) | assumption)
                      have q112 : x4_1 < (l0.length : Int) := of_decide_eq_true (by first | (with_reducible assumption) | assumption)
                      obtain ⟨ad112, e112, hx112_0, hx112_1⟩ := at_T108 HR0.out x4_1 p112 q112
                      cases e112
                      replace hx112_0 := (HB.out.cell (World.block_lt_of_cell? w _ hx112_0)).trans hx112_0
                      replace hx112_1 := (HB.out.cell (World.block_lt_of_cell? w _ hx112_1)).trans hx112_1
                      replace p112 := eq_true p112
                      replace q112 := eq_true q112
                      go_wp2_with (first | ((with_reducible refine gate_builtin (b := .append) (xs := #[.tmp 36, .tmp 41]) rfl ?_); at_builtin; refine Kd.R_append k108 (w0 := w) w.heap.size rfl (.tmp 36) (.tmp 41) 27 108 (.agg #[(.int .i64 0), (.int .i64 0)]) 16 rfl Try.underlying27 info108 rfl (by decide) (by omega) (.slice Ao17 x3_1.length co17) x3_1 (⟨(rd_T108 l0 x4_1).f0, (rd_T108 l0 x4_1).f1⟩ : S108) [.int .i64 ((rd_T108 l0 x4_1).f0), .int .i64 ((rd_T108 l0 x4_1).f1)] (fun _ => True) (fun _ => False) rfl rfl ?aP (fun _ hk => hk.elim) ?aF ?aO ?aB ?aS ?aL ?_; (case aP => exact k108_mkM _ _ _ (⟨(rd_T108 l0 x4_1).f0, (rd_T108 l0 x4_1).f1⟩ : S108)); (case aB => exact (by repeat (first | (with_reducible first | exact HB.out | apply below_alloc | apply pw_below_drewN | apply below_drew1) | exact HB.out))); (case aF => exact (fun _ _ => trivial)); (case aO => exact (by (with_reducible repeat (first | apply Kd.R_alloc | apply Kd.R_drewN | apply Kd.R_drew)); exact HO_3.out)); (case aS => exact (below_size (by repeat (first | (with_reducible first | exact HB.out | apply below_alloc | apply pw_below_drewN | apply below_drew1) | exact HB.out)))); (case aL => have := LMc16.out; omega); intro v114 w18 ho hb hg hat; rw [← Ny113.out] at ho; have n0_ := Aside0.mk (hb); have n1_ := Aside0.mk (ho); clear HB; clear HO_3; have HB := n0_; have HO115 := n1_; clear n0_ n1_; clear ho hb hg hat))
                      repeat (go_quiet (first | ((with_reducible refine gate_builtin (b := .append) (xs := #[.tmp 36, .tmp 41]) rfl ?_); at_builtin; refine Kd.R_append k108 (w0 := w) w.heap.size rfl (.tmp 36) (.tmp 41) 27 108 (.agg #[(.int .i64 0), (.int .i64 0)]) 16 rfl Try.underlying27 info108 rfl (by decide) (by omega) (.slice Ao17 x3_1.length co17) x3_1 (⟨(rd_T108 l0 x4_1).f0, (rd_T108 l0 x4_1).f1⟩ : S108) [.int .i64 ((rd_T108 l0 x4_1).f0), .int .i64 ((rd_T108 l0 x4_1).f1)] (fun _ => True) (fun _ => False) rfl rfl ?aP (fun _ hk => hk.elim) ?aF ?aO ?aB ?aS ?aL ?_; (case aP => exact k108_mkM _ _ _ (⟨(rd_T108 l0 x4_1).f0, (rd_T108 l0 x4_1).f1⟩ : S108)); (case aB => exact (by repeat (first | (with_reducible first | exact HB.out | apply below_alloc | apply pw_below_drewN | apply below_drew1) | exact HB.out))); (case aF => exact (fun _ _ => trivial)); (case aO => exact (by (with_reducible repeat (first | apply Kd.R_alloc | apply Kd.R_drewN | apply Kd.R_drew)); exact HO_3.out)); (case aS => exact (below_size (by repeat (first | (with_reducible first | exact HB.out | apply below_alloc | apply pw_below_drewN | apply below_drew1) | exact HB.out)))); (case aL => have := LMc16.out; omega); intro v114 w18 ho hb hg hat; rw [← Ny113.out] at ho; have n0_ := Aside0.mk (hb); have n1_ := Aside0.mk (ho); clear HB; clear HO_3; have HB := n0_; have HO115 := n1_; clear n0_ n1_; clear ho hb hg hat)); try go_wp2_with (first | ((with_reducible refine gate_builtin (b := .append) (xs := #[.tmp 36, .tmp 41]) rfl ?_); at_builtin; refine Kd.R_append k108 (w0 := w) w.heap.size rfl (.tmp 36) (.tmp 41) 27 108 (.agg #[(.int .i64 0), (.int .i64 0)]) 16 rfl Try.underlying27 info108 rfl (by decide) (by omega) (.slice Ao17 x3_1.length co17) x3_1 (⟨(rd_T108 l0 x4_1).f0, (rd_T108 l0 x4_1).f1⟩ : S108) [.int .i64 ((rd_T108 l0 x4_1).f0), .int .i64 ((rd_T108 l0 x4_1).f1)] (fun _ => True) (fun _ => False) rfl rfl ?aP (fun _ hk => hk.elim) ?aF ?aO ?aB ?aS ?aL ?_; (case aP => exact k108_mkM _ _ _ (⟨(rd_T108 l0 x4_1).f0, (rd_T108 l0 x4_1).f1⟩ : S108)); (case aB => exact (by repeat (first | (with_reducible first | exact HB.out | apply below_alloc | apply pw_below_drewN | apply below_drew1) | exact HB.out))); (case aF => exact (fun _ _ => trivial)); (case aO => exact (by (with_reducible repeat (first | apply Kd.R_alloc | apply Kd.R_drewN | apply Kd.R_drew)); exact HO_3.out)); (case aS => exact (below_size (by repeat (first | (with_reducible first | exact HB.out | apply below_alloc | apply pw_below_drewN | apply below_drew1) | exact HB.out)))); (case aL => have := LMc16.out; omega); intro v114 w18 ho hb hg hat; rw [← Ny113.out] at ho; have n0_ := Aside0.mk (hb); have n1_ := Aside0.mk (ho); clear HB; clear HO_3; have HB := n0_; have HO115 := n1_; clear n0_ n1_; clear ho hb hg hat)))
                      go_roundg k2
                      case measure => have := HK1.out; have := HK2.out; omega
                      case rel => exact ⟨(y113), (wrap64 (x4_1 + 1)), (by first | rfl | (simp; done) | (simp [*]; done)), H', ⟨by have := HK1.out; have := HK2.out; omega⟩, ⟨by (with_reducible repeat (first | apply Kd.R_alloc | apply Kd.R_drewN | apply Kd.R_drew)); exact HO115.out⟩, ⟨by repeat (first | (with_reducible first | exact HB.out | apply below_alloc | apply pw_below_drewN | apply below_drew1) | exact HB.out)⟩⟩
                    · rw [if_neg c16] at H
                      exact absurd H (by simp)
                  · rw [if_neg c15] at H
                    exact absurd H (by simp)
                · rw [if_neg c14] at H
                  exact absurd H (by simp)
      · rw [if_neg c4] at H
        have c4b0 : decide (x4_1 < (l0.length : Int)) = false := decide_eq_false c4
        clear c4
        obtain rfl := Option.some.inj H
        go_wp2
        repeat (go_quiet (fail); try go_wp2)
        go_ret
        exact ⟨_, by first | rfl | (simp [errW_none, errW_some] <;> rfl) | (simp [*, errW_none, errW_some] <;> rfl), by (with_reducible repeat (first | apply Kd.R_alloc | apply Kd.R_drewN | apply Kd.R_drew)); exact HO_3.out, by repeat (first | (with_reducible first | exact HB.out | apply below_alloc | apply pw_below_drewN | apply below_drew1) | exact HB.out)⟩
def spec_l2Of.f (l0 : List Int) (a1 : Int) : Option (Int) := if a1 < (l0.length : Int) then (if 0 ≤ a1 then (some (rd l0 a1)) else (none)) else (some 0)
set_option maxHeartbeats 8000000 in
set_option maxRecDepth 100000 in
theorem spec_l2Of.calls (A0 : Option Addr) (c0 : Nat) (l0 : List Int) (a1 : Int) (r : Int) (w : World) (hr0 : Kd.C (Kd.int .i64) w A0 l0.length l0) (hc0 : l0.length ≤ c0) (h : spec_l2Of.f l0 a1 = some r) :
    Calls Try.prog 139 #[.slice A0 l0.length c0, .int .i64 a1] w fun e w' => e = .returned (.int .i64 r) ∧ Drawn0 w w' := by
  have HR0 := Aside0.mk hr0
  have HC0 := Aside0.mk hc0
  clear hr0 hc0
  have H : (if a1 < (l0.length : Int) then (if 0 ≤ a1 then (some (rd l0 a1)) else (none)) else (some 0)) = some r := h
  clear h
  by_cases c3 : a1 < (l0.length : Int)
  · rw [if_pos c3] at H
    have c3b0 : decide (a1 < (l0.length : Int)) = true := decide_eq_true c3
    clear c3
    by_cases c4 : 0 ≤ a1
    · rw [if_pos c4] at H
      have c4b0 : decide (0 ≤ a1) = true := decide_eq_true c4
      clear c4
      obtain rfl := Option.some.inj H
      have p116 : 0 ≤ (a1 : Int) := of_decide_eq_true (by first | (with_reducible assumption) | assumption)
      have q116 : a1 < (l0.length : Int) := of_decide_eq_true (by first | (with_reducible assumption) | assumption)
      obtain ⟨ad116, e116, hx116_0⟩ := Kd.at_int HR0.out a1 p116 q116
      cases e116
      replace p116 := eq_true p116
      replace q116 := eq_true q116
      go_enter Try.func139, Try.ntmps139
      go_wp2
      go_ret
      exact ⟨by first | rfl | (simp; done) | (simp [*]; done), by repeat (first | exact Drawn0.refl _ | apply Drawn0.step)⟩
    · rw [if_neg c4] at H
      exact absurd H (by simp)
  · rw [if_neg c3] at H
    have c3b0 : decide (a1 < (l0.length : Int)) = false := decide_eq_false c3
    clear c3
    obtain rfl := Option.some.inj H
    go_enter Try.func139, Try.ntmps139
    go_wp2
    go_ret
    exact ⟨by first | rfl | (simp; done) | (simp [*]; done), by repeat (first | exact Drawn0.refl _ | apply Drawn0.step)⟩
def IsS166 (w0 W : World) (g : Nat) (f0 : List Int) (f1 : Int) (f2 : Int) : Prop := ∃ A0 c0, W.heap[g]? = some (.cells #[.slice A0 f0.length c0, .int .i64 f1, .int .i64 f2] 166 (0, 0)) ∧ w0.heap.size ≤ g ∧ Kd.C (Kd.int .i64) w0 A0 f0.length f0
theorem IsS166.grown {w0 W : World} {g : Nat} {f0 : List Int} {f1 : Int} {f2 : Int} {W1 : World} {row : Option Nat} (h : IsS166 w0 W g f0 f1 f2) (hw : W.grownBy W1 row) (hne : some g ≠ row) : IsS166 w0 W1 g f0 f1 f2 := by
  obtain ⟨A0, c0, hb, hg, hr0⟩ := h
  exact ⟨A0, c0, blk_grown hb hw hne, hg, hr0⟩
theorem IsS166.fresh {w0 W : World} {g : Nat} {f0 : List Int} {f1 : Int} {f2 : Int} (h : IsS166 w0 W g f0 f1 f2) : ∀ k, W.heap.size ≤ k → k ≠ g := by
  obtain ⟨A0, c0, hb, hg, hr0⟩ := h
  exact Kd.freshB hb
theorem IsS166.kept {w0 W : World} {g : Nat} {f0 : List Int} {f1 : Int} {f2 : Int} {W1 : World} {S : Nat → Prop} (h : IsS166 w0 W g f0 f1 f2) (hk : Kept W W1 S) (hne : ¬ S g) : IsS166 w0 W1 g f0 f1 f2 := by
  obtain ⟨A0, c0, hb, hg, hr0⟩ := h
  exact ⟨A0, c0, blk_kept hb hk hne, hg, hr0⟩
theorem IsS166.below {w0 W : World} {g : Nat} {f0 : List Int} {f1 : Int} {f2 : Int} {W1 : World} (h : IsS166 w0 W g f0 f1 f2) (hw : Below W.heap.size W W1) : IsS166 w0 W1 g f0 f1 f2 := h.grown (grown_of_below hw none) (by simp)
theorem IsS166.alloc {w0 W : World} {g : Nat} {f0 : List Int} {f1 : Int} {f2 : Int} (h : IsS166 w0 W g f0 f1 f2) (o : Obj) : IsS166 w0 (W.alloc o) g f0 f1 f2 := h.below (below_alloc (Below.refl _ _) o)
theorem IsS166.drewN {w0 W : World} {g : Nat} {f0 : List Int} {f1 : Int} {f2 : Int} (h : IsS166 w0 W g f0 f1 f2) (m : Nat) : IsS166 w0 (W.drewN m) g f0 f1 f2 := h
theorem IsS166.drew {w0 W : World} {g : Nat} {f0 : List Int} {f1 : Int} {f2 : Int} (h : IsS166 w0 W g f0 f1 f2) : IsS166 w0 W.drew g f0 f1 f2 := h
theorem IsS166.at_ {w0 W : World} {g : Nat} {f0 : List Int} {f1 : Int} {f2 : Int} {w' : World} {m : Nat} (hq : W.drewN m = w') (h : IsS166 w0 W g f0 f1 f2) : IsS166 w0 w' g f0 f1 f2 := by subst hq; exact IsS166.drewN h m
theorem IsS166.apart {w0 W : World} {g : Nat} {f0 : List Int} {f1 : Int} {f2 : Int} {α : Type} {d : Kd α} {e : Nat} {base : Nat} {ok : Nat → Prop} {v : Value} {xs : List α} (h : IsS166 w0 W g f0 f1 f2) (ho : d.R e W base ok v xs) (ht : ∀ q, q ∈ e :: d.E → q ≠ 166) : d.R e W base (fun k => ok k ∧ k ≠ g) v xs := by
  obtain ⟨A0, c0, hb, hg, hr0⟩ := h
  exact Kd.R_types ho hb ht
theorem IsS166.own_ne {w0 W : World} {g : Nat} {f0 : List Int} {f1 : Int} {f2 : Int} {α : Type} {d : Kd α} {e : Nat} {base : Nat} {ok : Nat → Prop} {v : Value} {xs : List α} (h : IsS166 w0 W g f0 f1 f2) (ho : d.R e W base ok v xs) (ht : e ≠ 166) : some g ≠ v.ownBlock := by
  obtain ⟨A0, c0, hb, hg, hr0⟩ := h
  exact Kd.R_ne ho hb ht
theorem IsS166.apartS {w0 W : World} {g : Nat} {f0 : List Int} {f1 : Int} {f2 : Int} {α : Type} {d : Kd α} {e : Nat} {base : Nat} {ok : Nat → Prop} {v : Value} {xs : List α} (h : IsS166 w0 W g f0 f1 f2) (ho : d.S e W base ok v xs) (ht : ∀ q, q ∈ e :: d.E → q ≠ 166) : d.S e W base (fun k => ok k ∧ k ≠ g) v xs := by
  obtain ⟨A0, c0, hb, hg, hr0⟩ := h
  exact Kd.S_types ho hb ht
theorem IsS166.own_neS {w0 W : World} {g : Nat} {f0 : List Int} {f1 : Int} {f2 : Int} {α : Type} {d : Kd α} {e : Nat} {base : Nat} {ok : Nat → Prop} {v : Value} {xs : List α} (h : IsS166 w0 W g f0 f1 f2) (ho : d.S e W base ok v xs) (ht : e ≠ 166) : some g ≠ v.ownBlock := by
  obtain ⟨A0, c0, hb, hg, hr0⟩ := h
  exact Kd.S_ne ho hb ht
theorem IsS166.lt {w0 W : World} {g : Nat} {f0 : List Int} {f1 : Int} {f2 : Int} (h : IsS166 w0 W g f0 f1 f2) : g < W.heap.size := by
  obtain ⟨A0, c0, hb, hg, hr0⟩ := h
  exact blk_lt hb
theorem IsS166.ge {w0 W : World} {g : Nat} {f0 : List Int} {f1 : Int} {f2 : Int} (h : IsS166 w0 W g f0 f1 f2) : w0.heap.size ≤ g := by
  obtain ⟨A0, c0, hb, hg, hr0⟩ := h
  exact hg
theorem IsS166.far {w0 W : World} {g : Nat} {f0 : List Int} {f1 : Int} {f2 : Int} {p : Addr} (h : IsS166 w0 W g f0 f1 f2) (hne : g ≠ p.block) (u : Value) : IsS166 w0 (W.setCell p u) g f0 f1 f2 := by
  obtain ⟨A0, c0, hb, hg, hr0⟩ := h
  exact ⟨A0, c0, blk_far hb hne u, hg, hr0⟩
theorem cellS166_0 {W : World} {g : Nat} {A0 : Option Addr} {c0 : Nat} {f0 : List Int} {f1 : Int} {f2 : Int} (h : W.heap[g]? = some (.cells #[.slice A0 f0.length c0, .int .i64 f1, .int .i64 f2] 166 (0, 0))) : W.cell? ⟨g, 0, none⟩ = some (.slice A0 f0.length c0) := (blk_cell h 0).trans rfl
theorem cellS166_1 {W : World} {g : Nat} {A0 : Option Addr} {c0 : Nat} {f0 : List Int} {f1 : Int} {f2 : Int} (h : W.heap[g]? = some (.cells #[.slice A0 f0.length c0, .int .i64 f1, .int .i64 f2] 166 (0, 0))) : W.cell? ⟨g, 1, none⟩ = some (.int .i64 f1) := (blk_cell h 1).trans rfl
theorem IsS166.set_1 {w0 W : World} {g : Nat} {f0 : List Int} {f1 : Int} {f2 : Int} (h : IsS166 w0 W g f0 f1 f2) (x : Int) : IsS166 w0 (W.setCell ⟨g, 1, none⟩ (.int .i64 x)) g f0 x f2 := by
  obtain ⟨A0, c0, hb, hg, hr0⟩ := h
  exact ⟨A0, c0, by simpa using blk_set hb 1 (.int .i64 x), hg, hr0⟩
theorem cellS166_2 {W : World} {g : Nat} {A0 : Option Addr} {c0 : Nat} {f0 : List Int} {f1 : Int} {f2 : Int} (h : W.heap[g]? = some (.cells #[.slice A0 f0.length c0, .int .i64 f1, .int .i64 f2] 166 (0, 0))) : W.cell? ⟨g, 2, none⟩ = some (.int .i64 f2) := (blk_cell h 2).trans rfl
theorem IsS166.set_2 {w0 W : World} {g : Nat} {f0 : List Int} {f1 : Int} {f2 : Int} (h : IsS166 w0 W g f0 f1 f2) (x : Int) : IsS166 w0 (W.setCell ⟨g, 2, none⟩ (.int .i64 x)) g f0 f1 x := by
  obtain ⟨A0, c0, hb, hg, hr0⟩ := h
  exact ⟨A0, c0, by simpa using blk_set hb 2 (.int .i64 x), hg, hr0⟩
theorem IsS166.new (w0 W : World) (A0 : Option Addr) (c0 : Nat) (f0 : List Int) (f1 : Int) (f2 : Int) (hB : Below w0.heap.size w0 W) (hr0 : Kd.C (Kd.int .i64) w0 A0 f0.length f0) : IsS166 w0 (W.alloc (.cells #[.slice A0 f0.length c0, .int .i64 f1, .int .i64 f2] 166)) W.heap.size f0 f1 f2 := ⟨A0, c0, by simpa using heap_alloc_new W _, hB.size, hr0⟩
def spec_l2Tape_get.f (s0_0 : List Int) (s0_1 : Int) (s0_2 : Int) (a1 : Int) : Option (Int × Bool × Int × Int) := if s0_1 = (s0_0.length : Int) then (some (0, false, s0_1, a1)) else (if 0 ≤ (wrap64 ((wrap64 (s0_1 + 1)) - 1)) then (if (wrap64 ((wrap64 (s0_1 + 1)) - 1)) < (s0_0.length : Int) then (some (rd s0_0 (wrap64 ((wrap64 (s0_1 + 1)) - 1)), true, wrap64 (s0_1 + 1), s0_2)) else (none)) else (none))
set_option maxHeartbeats 8000000 in
set_option maxRecDepth 100000 in
theorem spec_l2Tape_get.calls (g : Nat) (s0_0 : List Int) (s0_1 : Int) (s0_2 : Int) (a1 : Int) (r1 : Int) (r2 : Bool) (r3 : Int) (r4 : Int) (w0 w : World) (hI : IsS166 w0 w g s0_0 s0_1 s0_2) (hB : Below w0.heap.size w0 w) (h : spec_l2Tape_get.f s0_0 s0_1 s0_2 a1 = some (r1, r2, r3, r4)) :
    Calls Try.prog 166 #[.pointer (some ⟨g, 0, none⟩), .int .i64 a1] w fun e w' => e = .returned (.tuple #[.int .i64 r1, .bool r2]) ∧ IsS166 w0 w' g s0_0 r3 r4 ∧ Below w0.heap.size w0 w' ∧ KeepBut w w' g none := by
  have HI0 := Aside0.mk hI
  have HK := Aside0.mk (KeepBut.refl w g none)
  have HL := Aside0.mk hB.size
  clear hI
  have HW0 := Aside0.mk hB.size
  have HB := Aside0.mk hB
  clear hB
  have H : (if s0_1 = (s0_0.length : Int) then (some (0, false, s0_1, a1)) else (if 0 ≤ (wrap64 ((wrap64 (s0_1 + 1)) - 1)) then (if (wrap64 ((wrap64 (s0_1 + 1)) - 1)) < (s0_0.length : Int) then (some (rd s0_0 (wrap64 ((wrap64 (s0_1 + 1)) - 1)), true, wrap64 (s0_1 + 1), s0_2)) else (none)) else (none))) = some (r1, r2, r3, r4) := h
  clear h
  by_cases c3 : s0_1 = (s0_0.length : Int)
  · rw [if_pos c3] at H
    have c3b0 : (s0_1 == (s0_0.length : Int)) = true := beq_iff_eq.mpr c3
    have c3b1 : (s0_1 != (s0_0.length : Int)) = false := bne_eq_false_iff_eq.mpr c3
    clear c3
    simp only [Option.some.injEq, Prod.mk.injEq] at H
    obtain ⟨rfl, rfl, rfl, rfl⟩ := H
    obtain ⟨ASz4_0, cSz4_0, HGz4, hgz4, HSz4_0⟩ := HI0.out
    have hcz4_0 := cellS166_0 HGz4
    have hcz4_1 := cellS166_1 HGz4
    have hcz4_2 := cellS166_2 HGz4
    have hfz4_1 := blk_frozen HGz4 1
    have hfz4_2 := blk_frozen HGz4 2
    clear HGz4 hgz4
    go_enter Try.func166, Try.ntmps166
    go_wp2
    repeat (go_quiet (fail); try go_wp2)
    go_ret2
    exact ⟨by first | rfl | (simp [errW_none, errW_some] <;> rfl) | (simp [*, errW_none, errW_some] <;> rfl), by repeat (first | (with_reducible first | exact HI0.out | apply IsS166.alloc | apply IsS166.drewN | apply IsS166.drew | apply IsS166.set_1 | apply IsS166.set_2) | exact HI0.out), by repeat (first | (with_reducible first | exact HB.out | apply below_alloc | apply pw_below_drewN | apply below_drew1 | refine below_set ?_ (IsS166.ge HI0.out)) | exact HB.out), by repeat (first | (with_reducible first | exact HK.out | apply KeepBut.set_ | apply keep_drewN | apply keep_drew | apply keep_alloc) | exact HK.out)⟩
  · rw [if_neg c3] at H
    have c3b0 : (s0_1 == (s0_0.length : Int)) = false := beq_eq_false_iff_ne.mpr c3
    have c3b1 : (s0_1 != (s0_0.length : Int)) = true := bne_iff_ne.mpr c3
    obtain ⟨ji5, hji5⟩ : ∃ j_ : Int, (wrap64 ((wrap64 (s0_1 + 1)) - 1)) = j_ := ⟨_, rfl⟩
    replace H : (if 0 ≤ (ji5) then (if (ji5) < (s0_0.length : Int) then (some (rd s0_0 (ji5), true, wrap64 (s0_1 + 1), s0_2)) else (none)) else (none)) = some (r1, r2, r3, r4) := by first | (rw [hji5] at H; exact H) | (simp only [hji5] at H ⊢; exact H)
    have hji5w : (IntKind.i64.wrap ((wrap64 (s0_1 + 1)) - 1)) = ji5 := (i64_w _).trans hji5
    by_cases c6 : 0 ≤ (ji5)
    · rw [if_pos c6] at H
      have c6b0 : decide (0 ≤ (ji5)) = true := decide_eq_true c6
      clear c6
      by_cases c7 : (ji5) < (s0_0.length : Int)
      · rw [if_pos c7] at H
        have c7b0 : decide ((ji5) < (s0_0.length : Int)) = true := decide_eq_true c7
        clear c7
        simp only [Option.some.injEq, Prod.mk.injEq] at H
        obtain ⟨rfl, rfl, rfl, rfl⟩ := H
        obtain ⟨ASz8_0, cSz8_0, HGz8, hgz8, HSz8_0⟩ := HI0.out
        have hcz8_0 := cellS166_0 HGz8
        have hcz8_1 := cellS166_1 HGz8
        have hcz8_2 := cellS166_2 HGz8
        have hfz8_1 := blk_frozen HGz8 1
        have hfz8_2 := blk_frozen HGz8 2
        clear HGz8 hgz8
        have p117 : 0 ≤ ((ji5) : Int) := of_decide_eq_true (by first | (with_reducible assumption) | assumption)
        have q117 : (ji5) < (s0_0.length : Int) := of_decide_eq_true (by first | (with_reducible assumption) | assumption)
        obtain ⟨ad117, e117, hx117_0⟩ := Kd.at_int HSz8_0 (ji5) p117 q117
        cases e117
        have hn117_0 : ad117.block ≠ g := Nat.ne_of_lt (Nat.lt_of_lt_of_le (by have := World.block_lt_of_cell? _ _ hx117_0; first | rwa [add_block] at this | exact this) (IsS166.ge HI0.out))
        replace hx117_0 := pw_cell_below HB.out hx117_0
        replace hx117_0 := (cell_far (p := ⟨g, 1, none⟩) (by first | (rw [add_block]; exact hn117_0) | (show (Addr.add _ _).block ≠ _; rw [add_block]; exact hn117_0) | exact hn117_0) (.int .i64 (wrap64 (s0_1 + 1)))).trans hx117_0
        (try have hy117_0 := fun (n_ : Nat) => (show (((w.drewN n_).setCell ⟨g, 1, none⟩ (.int .i64 (wrap64 (s0_1 + 1))))).cell? _ = some _ from hx117_0))
        clear hn117_0
        replace p117 := eq_true p117
        replace q117 := eq_true q117
        go_enter Try.func166, Try.ntmps166
        go_wp2
        repeat (go_quiet (fail); try go_wp2)
        go_ret2
        exact ⟨by first | rfl | (simp [errW_none, errW_some] <;> rfl) | (simp only [← hji5]; first | rfl | (simp [errW_none, errW_some] <;> rfl)) | (simp [*, errW_none, errW_some] <;> rfl), by repeat (first | (with_reducible first | exact HI0.out | apply IsS166.alloc | apply IsS166.drewN | apply IsS166.drew | apply IsS166.set_1 | apply IsS166.set_2) | exact HI0.out), by repeat (first | (with_reducible first | exact HB.out | apply below_alloc | apply pw_below_drewN | apply below_drew1 | refine below_set ?_ (IsS166.ge HI0.out)) | exact HB.out), by repeat (first | (with_reducible first | exact HK.out | apply KeepBut.set_ | apply keep_drewN | apply keep_drew | apply keep_alloc) | exact HK.out)⟩
      · rw [if_neg c7] at H
        exact absurd H (by simp)
    · rw [if_neg c6] at H
      exact absurd H (by simp)
end Go.Proofs.Ytofieekbhbkliaa.G
end
section
namespace Go.Proofs.Ytofieekbhbkliaa.G
open Go.RowKit Go.Proofs.YtofieekbhbkliaaW.PrintWords
set_option linter.unusedVariables false
set_option linter.unusedSimpArgs false
abbrev Fk := S108
def isVal (n : Int) : Bool := decide (0 ≤ n ∧ n ≤ 96)
def atV (l : List Int) (k : Int) : Int := if 0 ≤ k ∧ k < (l.length : Int) then rd l k else 0
end Go.Proofs.Ytofieekbhbkliaa.G
end
section
namespace Go.Proofs.Ytofieekbhbkliaa.G
open Go.RowKit Go.Proofs.YtofieekbhbkliaaW.PrintWords
set_option linter.unusedVariables false
set_option linter.unusedSimpArgs false
abbrev Tk := S90
theorem tk_size (t p : Tk) (hp : p ∈ t.f2) : SizeOf.sizeOf p < SizeOf.sizeOf t := by
  have h := List.sizeOf_lt_of_mem hp
  cases t with
  | mk a b c => simp only [S90.mk.sizeOf_spec] at *; omega
theorem tk_ind {P : Tk → Prop} (h : ∀ t : Tk, (∀ p ∈ t.f2, P p) → P t) : ∀ t, P t := by
  intro t
  induction hn : SizeOf.sizeOf t using Nat.strongRecOn generalizing t with
  | _ n ih => exact h t (fun p hp => ih (SizeOf.sizeOf p) (by rw [← hn]; exact tk_size t p hp) p rfl)
def shapeB (k n : Int) (len : Nat) : Bool :=
  if k = 0 then decide (0 ≤ n ∧ n ≤ 96) && decide (len = 0)
  else if k = 1 then decide (0 ≤ n ∧ n < 10) && decide (len = 0)
  else if k = 2 then decide (n = 0) && decide (len = 2)
  else if k = 3 then decide (n = 0) && decide (len = 2)
  else if k = 4 then decide (n = 0) && decide (len = 3)
  else if k = 5 then decide (0 ≤ n ∧ n < 10) && decide (len = 1)
  else false
mutual
def fitT : Tk → Bool
  | ⟨k, n, ps⟩ => shapeB k n ps.length && fitL ps
def fitL : List Tk → Bool
  | [] => true
  | p :: ps => fitT p && fitL ps
end
mutual
def nodT : Tk → Nat
  | ⟨_, _, ps⟩ => 1 + nodL ps
def nodL : List Tk → Nat
  | [] => 0
  | p :: ps => nodT p + nodL ps
end
def okT (t : Tk) : Bool := fitT t && decide (nodT t ≤ 15)
theorem fitT_eq (t : Tk) : fitT t = (shapeB t.f0 t.f1 t.f2.length && fitL t.f2) := by cases t; simp [fitT]
theorem nodT_eq (t : Tk) : nodT t = 1 + nodL t.f2 := by cases t; simp [nodT]
theorem nodT_pos (t : Tk) : 1 ≤ nodT t := by rw [nodT_eq]; omega
theorem fitL_mem {ps : List Tk} (h : fitL ps = true) : ∀ p ∈ ps, fitT p = true := by
  induction ps with
  | nil => intro p hp; cases hp
  | cons q ps ih =>
    simp only [fitL, Bool.and_eq_true] at h
    intro p hp
    rcases List.mem_cons.1 hp with rfl | hp
    · exact h.1
    · exact ih h.2 p hp
theorem nodL_len (ps : List Tk) : ps.length ≤ nodL ps := by
  induction ps with
  | nil => simp
  | cons q ps ih => simp only [nodL, List.length_cons]; have := nodT_pos q; omega
theorem okT_fit {t : Tk} (h : okT t = true) : fitT t = true := by simp only [okT, Bool.and_eq_true] at h; exact h.1
theorem okT_nod {t : Tk} (h : okT t = true) : nodT t ≤ 15 := by simp only [okT, Bool.and_eq_true, decide_eq_true_eq] at h; exact h.2
theorem rd_tk (ps : List Tk) (i : Nat) (h : i < ps.length) : rd_T90 ps (i : Int) = ps[i] := by
  simp only [rd_T90, Int.toNat_natCast, List.getD_eq_getElem?_getD, List.getElem?_eq_getElem h, Option.getD_some]
theorem drop_tk {α : Type} (ps : List α) (i : Nat) (h : i < ps.length) : ps.drop i = ps[i] :: ps.drop (i + 1) := List.drop_eq_getElem_cons h
theorem wrap_nat (i : Nat) (h : i + 1 ≤ 9223372036854775807) : wrap64 ((i : Int) + 1) = ((i + 1 : Nat) : Int) := by unfold wrap64; omega
theorem wrap_id (x : Int) (h1 : -9223372036854775808 ≤ x) (h2 : x ≤ 9223372036854775807) : wrap64 x = x := by unfold wrap64; omega
end Go.Proofs.Ytofieekbhbkliaa.G
end
section
namespace Go.Proofs.Ytofieekbhbkliaa.G
open Go.RowKit Go.Proofs.YtofieekbhbkliaaW.PrintWords
set_option linter.unusedVariables false
set_option linter.unusedSimpArgs false
def comb (vs : List Int) (k n : Int) (rs : List (Int × List Fk)) : Int × List Fk :=
  if k = 0 then (n, [])
  else if k = 1 then (atV vs n, [⟨n, atV vs n⟩])
  else if k = 5 then (atV vs (((n + (rs.getD 0 (0, [])).1) % 10)), (rs.getD 0 (0, [])).2 ++ [⟨((n + (rs.getD 0 (0, [])).1) % 10), atV vs (((n + (rs.getD 0 (0, [])).1) % 10))⟩])
  else if k = 4 then (if (rs.getD 0 (0, [])).1 = 0 then ((rs.getD 2 (0, [])).1, (rs.getD 0 (0, [])).2 ++ (rs.getD 2 (0, [])).2) else ((rs.getD 1 (0, [])).1, (rs.getD 0 (0, [])).2 ++ (rs.getD 1 (0, [])).2))
  else if k = 3 then (((rs.getD 0 (0, [])).1 * (rs.getD 1 (0, [])).1) % 97, (rs.getD 0 (0, [])).2 ++ (rs.getD 1 (0, [])).2)
  else (((rs.getD 0 (0, [])).1 + (rs.getD 1 (0, [])).1) % 97, (rs.getD 0 (0, [])).2 ++ (rs.getD 1 (0, [])).2)
mutual
def runT (vs : List Int) : Tk → Int × List Fk
  | ⟨k, n, ps⟩ => comb vs k n (runL vs ps)
def runL (vs : List Int) : List Tk → List (Int × List Fk)
  | [] => []
  | p :: ps => runT vs p :: runL vs ps
end
theorem atV_val {vs : List Int} (h : vs.all isVal = true) (k : Int) : 0 ≤ atV vs k ∧ atV vs k ≤ 96 := by
  unfold atV
  split
  · rename_i hk
    have hi : k.toNat < vs.length := by omega
    have h1 := List.all_eq_true.1 h _ (List.getElem_mem hi)
    simp only [isVal, decide_eq_true_eq] at h1
    simp only [rd, List.getD_eq_getElem?_getD, List.getElem?_eq_getElem hi, Option.getD_some]
    exact h1
  · omega
inductive Fits : Tk → Prop
  | num (n : Int) (h0 : 0 ≤ n) (h1 : n ≤ 96) : Fits ⟨0, n, []⟩
  | get (n : Int) (h0 : 0 ≤ n) (h1 : n ≤ 9) : Fits ⟨1, n, []⟩
  | add (a b : Tk) (ha : Fits a) (hb : Fits b) : Fits ⟨2, 0, [a, b]⟩
  | mul (a b : Tk) (ha : Fits a) (hb : Fits b) : Fits ⟨3, 0, [a, b]⟩
  | iff (a b d : Tk) (ha : Fits a) (hb : Fits b) (hd : Fits d) : Fits ⟨4, 0, [a, b, d]⟩
  | at (n : Int) (h0 : 0 ≤ n) (h1 : n ≤ 9) (a : Tk) (ha : Fits a) : Fits ⟨5, n, [a]⟩
theorem fits_of : ∀ t : Tk, fitT t = true → Fits t := by
  refine tk_ind fun t ih h => ?_
  rw [fitT_eq, Bool.and_eq_true] at h
  obtain ⟨h1, h2⟩ := h
  have hp : ∀ p ∈ t.f2, Fits p := fun p hp => ih p hp (fitL_mem h2 p hp)
  obtain ⟨k, n, ps⟩ := t
  simp only at h1 hp
  clear ih h2
  unfold shapeB at h1
  by_cases k0 : k = 0
  · rw [if_pos k0] at h1
    simp only [Bool.and_eq_true, decide_eq_true_eq, List.length_eq_zero_iff] at h1
    obtain ⟨⟨h2, h3⟩, rfl⟩ := h1
    subst k0
    exact .num n h2 h3
  rw [if_neg k0] at h1
  by_cases k1 : k = 1
  · rw [if_pos k1] at h1
    simp only [Bool.and_eq_true, decide_eq_true_eq, List.length_eq_zero_iff] at h1
    obtain ⟨⟨h2, h3⟩, rfl⟩ := h1
    subst k1
    exact .get n h2 (by omega)
  rw [if_neg k1] at h1
  by_cases k2 : k = 2
  · rw [if_pos k2] at h1
    simp only [Bool.and_eq_true, decide_eq_true_eq] at h1
    obtain ⟨rfl, h3⟩ := h1
    subst k2
    match ps, h3 with
    | [a, b], _ => exact .add a b (hp a (by simp)) (hp b (by simp))
  rw [if_neg k2] at h1
  by_cases k3 : k = 3
  · rw [if_pos k3] at h1
    simp only [Bool.and_eq_true, decide_eq_true_eq] at h1
    obtain ⟨rfl, h3⟩ := h1
    subst k3
    match ps, h3 with
    | [a, b], _ => exact .mul a b (hp a (by simp)) (hp b (by simp))
  rw [if_neg k3] at h1
  by_cases k4 : k = 4
  · rw [if_pos k4] at h1
    simp only [Bool.and_eq_true, decide_eq_true_eq] at h1
    obtain ⟨rfl, h3⟩ := h1
    subst k4
    match ps, h3 with
    | [a, b, d], _ => exact .iff a b d (hp a (by simp)) (hp b (by simp)) (hp d (by simp))
  rw [if_neg k4] at h1
  by_cases k5 : k = 5
  · rw [if_pos k5] at h1
    simp only [Bool.and_eq_true, decide_eq_true_eq] at h1
    obtain ⟨⟨h2, h3⟩, h4⟩ := h1
    subst k5
    match ps, h4 with
    | [a], _ => exact .at n h2 (by omega) a (hp a (by simp))
  rw [if_neg k5] at h1
  cases h1
theorem runT_num (vs : List Int) (n : Int) : runT vs ⟨0, n, []⟩ = (n, []) := by simp [runT, comb]
theorem runT_get (vs : List Int) (n : Int) : runT vs ⟨1, n, []⟩ = (atV vs n, [⟨n, atV vs n⟩]) := by simp [runT, comb]
theorem runT_add (vs : List Int) (a b : Tk) : runT vs ⟨2, 0, [a, b]⟩ = (((runT vs a).1 + (runT vs b).1) % 97, (runT vs a).2 ++ (runT vs b).2) := by simp [runT, runL, comb]
theorem runT_mul (vs : List Int) (a b : Tk) : runT vs ⟨3, 0, [a, b]⟩ = (((runT vs a).1 * (runT vs b).1) % 97, (runT vs a).2 ++ (runT vs b).2) := by simp [runT, runL, comb]
theorem runT_if0 (vs : List Int) (a b d : Tk) (h : (runT vs a).1 = 0) : runT vs ⟨4, 0, [a, b, d]⟩ = ((runT vs d).1, (runT vs a).2 ++ (runT vs d).2) := by simp [runT, runL, comb, h]
theorem runT_if1 (vs : List Int) (a b d : Tk) (h : ¬ (runT vs a).1 = 0) : runT vs ⟨4, 0, [a, b, d]⟩ = ((runT vs b).1, (runT vs a).2 ++ (runT vs b).2) := by simp [runT, runL, comb, h]
theorem runT_at (vs : List Int) (n : Int) (a : Tk) : runT vs ⟨5, n, [a]⟩ = (atV vs (((n + (runT vs a).1) % 10)), (runT vs a).2 ++ [⟨((n + (runT vs a).1) % 10), atV vs (((n + (runT vs a).1) % 10))⟩]) := by simp [runT, runL, comb]
theorem runT_len (vs : List Int) {t : Tk} (h : Fits t) : (runT vs t).2.length ≤ nodT t := by
  induction h with
  | num n => rw [runT_num]; simp
  | get n => rw [runT_get]; simp [nodT]
  | add a b _ _ iha ihb => rw [runT_add]; simp only [nodT, nodL, List.length_append]; omega
  | mul a b _ _ iha ihb => rw [runT_mul]; simp only [nodT, nodL, List.length_append]; omega
  | iff a b d _ _ _ iha ihb ihd =>
    by_cases h0 : (runT vs a).1 = 0
    · rw [runT_if0 vs a b d h0]; simp only [nodT, nodL, List.length_append]; omega
    · rw [runT_if1 vs a b d h0]; simp only [nodT, nodL, List.length_append]; omega
  | «at» n _ _ a _ iha => rw [runT_at]; simp only [nodT, nodL, List.length_append, List.length_singleton]; omega
theorem runT_val {vs : List Int} (hv : vs.all isVal = true) {t : Tk} (h : Fits t) : 0 ≤ (runT vs t).1 ∧ (runT vs t).1 ≤ 96 := by
  induction h with
  | num n h0 h1 => rw [runT_num]; exact ⟨h0, h1⟩
  | get n => rw [runT_get]; exact atV_val hv n
  | add a b _ _ iha ihb =>
    rw [runT_add]
    simp only; omega
  | mul a b _ _ iha ihb =>
    rw [runT_mul]
    simp only; have := Int.mul_nonneg iha.1 ihb.1; omega
  | iff a b d _ _ _ iha ihb ihd =>
    by_cases h0 : (runT vs a).1 = 0
    · rw [runT_if0 vs a b d h0]; exact ihd
    · rw [runT_if1 vs a b d h0]; exact ihb
  | «at» n _ _ a _ iha => rw [runT_at]; exact atV_val hv _
end Go.Proofs.Ytofieekbhbkliaa.G
end
section
namespace Go.Proofs.Ytofieekbhbkliaa.G
open Go.RowKit Go.Proofs.YtofieekbhbkliaaW.PrintWords Go.Proofs.YtofieekbhbkliaaW.PrintLast Go.Proofs.YtofieekbhbkliaaW.PrintMore
set_option linter.unusedVariables false
set_option linter.unusedSimpArgs false
abbrev TR := Int × Bool × Int × Int
abbrev IsTape := @IsS166
def getT (got : List Int) (a lk n : Int) : TR := if a = (got.length : Int) then (0, false, a, n) else (rd got a, true, a + 1, lk)
theorem getT_f (got : List Int) (a lk n : Int) (h0 : 0 ≤ a) (h1 : a ≤ (got.length : Int)) (hl : got.length ≤ 1000000) : spec_l2Tape_get.f got a lk n = some (getT got a lk n) := by
  unfold spec_l2Tape_get.f getT
  by_cases h : a = (got.length : Int)
  · rw [if_pos h, if_pos h]
  · rw [if_neg h, if_neg h, wrap_id (a + 1) (by omega) (by omega), wrap_id (a + 1 - 1) (by omega) (by omega), show a + 1 - 1 = a by omega, if_pos h0, if_pos (by omega)]
def seqT (x : TR) (f : Int → Int → Int → TR) : TR := if x.2.1 = true then f x.1 x.2.2.1 x.2.2.2 else (0, false, x.2.2.1, x.2.2.2)
def noT : Int → Int → TR := fun a lk => (0, false, a, lk)
def combD (got : List Int) (k n : Int) (rs : List (Int → Int → TR)) (a lk : Int) : TR :=
  if k = 0 then (n, true, a, lk)
  else if k = 1 then getT got a lk n
  else seqT (rs.getD 0 noT a lk) fun v a lk =>
    if k = 5 then getT got a lk ((n + v) % 10)
    else if k = 4 then (if v = 0 then rs.getD 2 noT a lk else rs.getD 1 noT a lk)
    else seqT (rs.getD 1 noT a lk) fun u a lk => (if k = 3 then (v * u) % 97 else (v + u) % 97, true, a, lk)
mutual
def doT (got : List Int) : Tk → Int → Int → TR
  | ⟨k, n, ps⟩ => combD got k n (doL got ps)
def doL (got : List Int) : List Tk → List (Int → Int → TR)
  | [] => []
  | p :: ps => doT got p :: doL got ps
end
theorem doT_num (got : List Int) (n a lk : Int) : doT got ⟨0, n, []⟩ a lk = (n, true, a, lk) := by simp [doT, combD]
theorem doT_get (got : List Int) (n a lk : Int) : doT got ⟨1, n, []⟩ a lk = getT got a lk n := by simp [doT, combD]
theorem doT_add (got : List Int) (x y : Tk) (a lk : Int) : doT got ⟨2, 0, [x, y]⟩ a lk = seqT (doT got x a lk) fun v a lk => seqT (doT got y a lk) fun u a lk => ((v + u) % 97, true, a, lk) := by simp [doT, doL, combD]
theorem doT_mul (got : List Int) (x y : Tk) (a lk : Int) : doT got ⟨3, 0, [x, y]⟩ a lk = seqT (doT got x a lk) fun v a lk => seqT (doT got y a lk) fun u a lk => ((v * u) % 97, true, a, lk) := by simp [doT, doL, combD]
theorem doT_if (got : List Int) (x y z : Tk) (a lk : Int) : doT got ⟨4, 0, [x, y, z]⟩ a lk = seqT (doT got x a lk) fun v a lk => if v = 0 then doT got z a lk else doT got y a lk := by simp [doT, doL, combD]
theorem doT_at (got : List Int) (n : Int) (x : Tk) (a lk : Int) : doT got ⟨5, n, [x]⟩ a lk = seqT (doT got x a lk) fun v a lk => getT got a lk ((n + v) % 10) := by simp [doT, doL, combD]
def TapeOk (got : List Int) (a : Int) (r : TR) : Prop := 0 ≤ r.1 ∧ r.1 ≤ 96 ∧ a ≤ r.2.2.1 ∧ r.2.2.1 ≤ (got.length : Int)
theorem getT_ok {got : List Int} (hg : got.all isVal = true) (a lk n : Int) (h0 : 0 ≤ a) (h1 : a ≤ (got.length : Int)) : TapeOk got a (getT got a lk n) := by
  unfold getT TapeOk
  split
  · rename_i h; simp only; omega
  · rename_i h
    have hv := atV_val hg a
    unfold atV at hv
    rw [if_pos ⟨h0, by omega⟩] at hv
    simp only
    omega
theorem doT_ok {got : List Int} (hg : got.all isVal = true) {t : Tk} (h : Fits t) : ∀ a lk : Int, 0 ≤ a → a ≤ (got.length : Int) → TapeOk got a (doT got t a lk) := by
  induction h with
  | num n g0 g1 => intro a lk h0 h1; rw [doT_num]; exact ⟨g0, g1, Int.le_refl _, h1⟩
  | get n => intro a lk h0 h1; rw [doT_get]; exact getT_ok hg a lk n h0 h1
  | add x y _ _ ihx ihy =>
    intro a lk h0 h1
    rw [doT_add]
    have hx := ihx a lk h0 h1
    generalize doT got x a lk = rx at *
    obtain ⟨v, ok, a1, l1⟩ := rx
    unfold TapeOk at hx
    simp only at hx
    cases ok with
    | false => simp only [seqT, Bool.false_eq_true, if_false]; unfold TapeOk; simp only; omega
    | true =>
      have hy := ihy a1 l1 (by omega) (by omega)
      simp only [seqT, if_true]
      generalize doT got y a1 l1 = ry at *
      obtain ⟨u, ok2, a2, l2⟩ := ry
      unfold TapeOk at hy
      simp only at hy
      cases ok2 with
      | false => simp only [Bool.false_eq_true, if_false]; unfold TapeOk; simp only; omega
      | true => simp only [if_true]; unfold TapeOk; simp only; omega
  | mul x y _ _ ihx ihy =>
    intro a lk h0 h1
    rw [doT_mul]
    have hx := ihx a lk h0 h1
    generalize doT got x a lk = rx at *
    obtain ⟨v, ok, a1, l1⟩ := rx
    unfold TapeOk at hx
    simp only at hx
    cases ok with
    | false => simp only [seqT, Bool.false_eq_true, if_false]; unfold TapeOk; simp only; omega
    | true =>
      have hy := ihy a1 l1 (by omega) (by omega)
      simp only [seqT, if_true]
      generalize doT got y a1 l1 = ry at *
      obtain ⟨u, ok2, a2, l2⟩ := ry
      unfold TapeOk at hy
      simp only at hy
      cases ok2 with
      | false => simp only [Bool.false_eq_true, if_false]; unfold TapeOk; simp only; omega
      | true =>
        simp only [if_true]
        unfold TapeOk
        have hm := Int.mul_nonneg hx.1 hy.1
        simp only
        omega
  | iff x y z _ _ _ ihx ihy ihz =>
    intro a lk h0 h1
    rw [doT_if]
    have hx := ihx a lk h0 h1
    generalize doT got x a lk = rx at *
    obtain ⟨v, ok, a1, l1⟩ := rx
    unfold TapeOk at hx
    simp only at hx
    cases ok with
    | false => simp only [seqT, Bool.false_eq_true, if_false]; unfold TapeOk; simp only; omega
    | true =>
      simp only [seqT, if_true]
      by_cases hv : v = 0
      · rw [if_pos hv]
        have hz := ihz a1 l1 (by omega) (by omega)
        exact ⟨hz.1, hz.2.1, Int.le_trans hx.2.2.1 hz.2.2.1, hz.2.2.2⟩
      · rw [if_neg hv]
        have hy := ihy a1 l1 (by omega) (by omega)
        exact ⟨hy.1, hy.2.1, Int.le_trans hx.2.2.1 hy.2.2.1, hy.2.2.2⟩
  | «at» n _ _ x _ ihx =>
    intro a lk h0 h1
    rw [doT_at]
    have hx := ihx a lk h0 h1
    generalize doT got x a lk = rx at *
    obtain ⟨v, ok, a1, l1⟩ := rx
    unfold TapeOk at hx
    simp only at hx
    cases ok with
    | false => simp only [seqT, Bool.false_eq_true, if_false]; unfold TapeOk; simp only; omega
    | true =>
      simp only [seqT, if_true]
      have hy := getT_ok hg a1 l1 ((n + v) % 10) (by omega) (by omega)
      exact ⟨hy.1, hy.2.1, Int.le_trans hx.2.2.1 hy.2.2.1, hy.2.2.2⟩
def Does (w0 : World) (g : Nat) (got : List Int) (t : Tk) : Prop :=
  ∀ (w : World) (a lk : Int) (A1 : Option Addr) (c1 : Nat), IsTape w0 w g got a lk → Below w0.heap.size w0 w → (∀ W_, KeepBut w W_ g none → Kd.C k90 W_ A1 t.f2.length t.f2) → t.f2.length ≤ c1 → 0 ≤ a → a ≤ (got.length : Int) →
    Calls Try.prog 165 #[.agg #[.int .i64 t.f0, .int .i64 t.f1, .slice A1 t.f2.length c1], .pointer (some ⟨g, 0, none⟩)] w fun e w' =>
      e = .returned (.tuple #[.int .i64 (doT got t a lk).1, .bool (doT got t a lk).2.1]) ∧ IsTape w0 w' g got (doT got t a lk).2.2.1 (doT got t a lk).2.2.2 ∧ Below w0.heap.size w0 w' ∧ KeepBut w w' g none
theorem part_keep {w0 w : World} {g : Nat} {got : List Int} {a lk : Int} (hI : IsTape w0 w g got a lk) {A1 : Option Addr} {ps : List Tk} (h : ∀ W_, KeepBut w W_ g none → Kd.C k90 W_ A1 ps.length ps) (i : Nat) (p : Tk) (hp : ps[i]? = some p) :
    ∃ ad A2 c2, A1 = some ad ∧ p.f2.length ≤ c2 ∧ ∀ W, KeepBut w W g none → Kd.C k90 W A2 p.f2.length p.f2 ∧ W.cell? (ad.add (i * 3)) = some (.int .i64 p.f0) ∧ W.cell? ⟨(ad.add (i * 3)).block, (ad.add (i * 3)).off + 1, none⟩ = some (.int .i64 p.f1) ∧ W.cell? ⟨(ad.add (i * 3)).block, (ad.add (i * 3)).off + 2, none⟩ = some (.slice A2 p.f2.length c2) := by
  obtain ⟨hi, e⟩ := List.getElem?_eq_some_iff.1 hp
  have at_w : ∀ W, KeepBut w W g none → ∃ ad A2 c2, A1 = some ad ∧ p.f2.length ≤ c2 ∧ Kd.C k90 W A2 p.f2.length p.f2 ∧ W.cell? (ad.add (i * 3)) = some (.int .i64 p.f0) ∧ W.cell? ⟨(ad.add (i * 3)).block, (ad.add (i * 3)).off + 1, none⟩ = some (.int .i64 p.f1) ∧ W.cell? ⟨(ad.add (i * 3)).block, (ad.add (i * 3)).off + 2, none⟩ = some (.slice A2 p.f2.length c2) := by
    intro W hk
    obtain ⟨ad, A2, c2, e1, hx0, hx1, hx2, hl, hC⟩ := at_T90 (h W hk) (i : Int) (by omega) (by omega)
    rw [rd_tk ps i hi, e] at hx0 hx1 hx2 hl hC
    rw [Int.toNat_natCast] at hx0 hx1 hx2
    exact ⟨ad, A2, c2, e1, hl, hC, hx0, hx1, hx2⟩
  obtain ⟨ad, A2, c2, rfl, hl, _, _, _, hx2⟩ := at_w w (KeepBut.refl w g none)
  refine ⟨ad, A2, c2, rfl, hl, fun W hk => ?_⟩
  obtain ⟨ad', A2', c2', e1, hl', hC', hy0, hy1, hy2⟩ := at_w W hk
  obtain rfl : ad = ad' := Option.some.inj e1
  have hne : (ad.add (i * 3)).block ≠ g := by
    intro eg
    obtain ⟨A0, c0, hb, _, _⟩ := hI
    rw [eg] at hx2
    rw [blk_cell hb] at hx2
    generalize (ad.add (i * 3)).off = o at hx2
    match o, hx2 with
    | 0, h => simp at h
    | o + 1, h => simp at h
  have hk2 := keep_cell hk hx2 hne
  rw [hk2] at hy2
  have he := Option.some.inj hy2
  injection he with e2 _ e3
  subst e2
  subst e3
  exact ⟨hC', hy0, hy1, hk2⟩
end Go.Proofs.Ytofieekbhbkliaa.G
end
section
namespace Go.Proofs.Ytofieekbhbkliaa.G
open Go.RowKit Go.Proofs.YtofieekbhbkliaaW.PrintWords Go.Proofs.YtofieekbhbkliaaW.PrintLast Go.Proofs.YtofieekbhbkliaaW.PrintMore
set_option linter.unusedVariables false
set_option linter.unusedSimpArgs false
set_option maxHeartbeats 8000000 in
set_option maxRecDepth 100000 in
theorem does_num {w0 : World} {g : Nat} {got : List Int} (hg : got.all isVal = true) (hgl : got.length ≤ 1000000) (n : Int) : Does w0 g got ⟨0, n, []⟩ := by
  intro w a lk A1 c1 hI hB hr hc h0 h1
  have HI := Aside0.mk hI
  have HB := Aside0.mk hB
  have hne : w.heap.size ≠ g := fun e => by have := hI.lt; omega
  have HNE := Aside0.mk hne
  have I1 := Aside0.mk (hI.alloc (.cells #[.int .i64 0, .int .i64 n, .slice A1 0 c1] 90 (0, 0)))
  have B1 := Aside0.mk (below_alloc hB (.cells #[.int .i64 0, .int .i64 n, .slice A1 0 c1] 90 (0, 0)))
  have K1 := Aside0.mk (keep_alloc (KeepBut.refl w g none) (.cells #[.int .i64 0, .int .i64 n, .slice A1 0 c1] 90 (0, 0)))
  have hu := Try.underlying90
  have H01 := Aside0.mk (And.intro h0 h1)
  have HGL := Aside0.mk hgl
  clear hI hB hr hc hne hgl
  show Calls Try.prog 165 #[.agg #[.int .i64 0, .int .i64 n, .slice A1 0 c1], _] w _
  rw [doT_num]
  go_enter Try.func165, Try.ntmps165
  go_wp2
  go_ret2
  exact ⟨rfl, I1.out, B1.out, K1.out⟩
end Go.Proofs.Ytofieekbhbkliaa.G
end
section
namespace Go.Proofs.Ytofieekbhbkliaa.G
open Go.RowKit Go.Proofs.YtofieekbhbkliaaW.PrintWords Go.Proofs.YtofieekbhbkliaaW.PrintLast Go.Proofs.YtofieekbhbkliaaW.PrintMore
set_option linter.unusedVariables false
set_option linter.unusedSimpArgs false
set_option maxHeartbeats 8000000 in
set_option maxRecDepth 100000 in
theorem does_get {w0 : World} {g : Nat} {got : List Int} (hg : got.all isVal = true) (hgl : got.length ≤ 1000000) (n : Int) : Does w0 g got ⟨1, n, []⟩ := by
  intro w a lk A1 c1 hI hB hr hc h0 h1
  have HI := Aside0.mk hI
  have HB := Aside0.mk hB
  have hne : w.heap.size ≠ g := fun e => by have := hI.lt; omega
  have HNE := Aside0.mk hne
  have I1 := Aside0.mk (hI.alloc (.cells #[.int .i64 1, .int .i64 n, .slice A1 0 c1] 90 (0, 0)))
  have B1 := Aside0.mk (below_alloc hB (.cells #[.int .i64 1, .int .i64 n, .slice A1 0 c1] 90 (0, 0)))
  have K1 := Aside0.mk (keep_alloc (KeepBut.refl w g none) (.cells #[.int .i64 1, .int .i64 n, .slice A1 0 c1] 90 (0, 0)))
  have hu := Try.underlying90
  have H01 := Aside0.mk (And.intro h0 h1)
  have HGL := Aside0.mk hgl
  clear hI hB hr hc hne hgl
  show Calls Try.prog 165 #[.agg #[.int .i64 1, .int .i64 n, .slice A1 0 c1], _] w _
  rw [doT_get]
  go_enter Try.func165, Try.ntmps165
  go_wp2_with (go_at_call 166; refine (spec_l2Tape_get.calls _ _ _ _ _ _ _ _ _ _ _ I1.out B1.out (getT_f got a lk n H01.out.1 H01.out.2 HGL.out)).mono ?_; rintro e w4 ⟨rfl, i4, b4, k4⟩; have I4 := Aside0.mk i4; have B4 := Aside0.mk b4; have K4 := Aside0.mk (K1.out.trans k4 (.inl rfl)); clear i4 b4 k4)
  go_ret2
  exact ⟨rfl, I4.out, B4.out, K4.out⟩
end Go.Proofs.Ytofieekbhbkliaa.G
end
section
namespace Go.Proofs.Ytofieekbhbkliaa.G
open Go.RowKit Go.Proofs.YtofieekbhbkliaaW.PrintWords Go.Proofs.YtofieekbhbkliaaW.PrintLast Go.Proofs.YtofieekbhbkliaaW.PrintMore
set_option linter.unusedVariables false
set_option linter.unusedSimpArgs false
set_option maxHeartbeats 8000000 in
set_option maxRecDepth 100000 in
theorem does_at {w0 : World} {g : Nat} {got : List Int} (hg : got.all isVal = true) (hgl : got.length ≤ 1000000) (n : Int) (hn0 : 0 ≤ n) (hn1 : n ≤ 9) (x : Tk) (hx : Fits x) (ihx : Does w0 g got x) : Does w0 g got ⟨5, n, [x]⟩ := by
  intro w a lk A1 c1 hI hB hr hc h0 h1
  have HI := Aside0.mk hI
  have HB := Aside0.mk hB
  have hne : w.heap.size ≠ g := fun e => by have := hI.lt; omega
  have HNE := Aside0.mk hne
  have I1 := Aside0.mk (hI.alloc (.cells #[.int .i64 5, .int .i64 n, .slice A1 1 c1] 90 (0, 0)))
  have B1 := Aside0.mk (below_alloc hB (.cells #[.int .i64 5, .int .i64 n, .slice A1 1 c1] 90 (0, 0)))
  have K1 := Aside0.mk (keep_alloc (KeepBut.refl w g none) (.cells #[.int .i64 5, .int .i64 n, .slice A1 1 c1] 90 (0, 0)))
  have hu := Try.underlying90
  have H01 := Aside0.mk (And.intro h0 h1)
  have HGL := Aside0.mk hgl
  obtain ⟨ad, Ax, cx, rfl, hlx, hxx⟩ := part_keep hI hr 0 x rfl
  have HXx := Aside0.mk hxx
  have HLx := Aside0.mk hlx
  clear hxx hlx
  obtain ⟨_, hx0, hx1, hx2⟩ := HXx.out _ K1.out
  simp [go_sem] at hx0 hx1 hx2
  have CA := Aside0.mk (ihx _ a lk _ _ I1.out B1.out (fun W_ hk => (HXx.out W_ (K1.out.trans hk (.inl rfl))).1) HLx.out h0 h1)
  have hval := doT_ok hg hx a lk h0 h1
  clear hI hB hr hc hne hgl
  clear h0 h1
  show Calls Try.prog 165 #[.agg #[.int .i64 5, .int .i64 n, .slice (some ad) 1 c1], _] w _
  rw [doT_at]
  generalize hra : doT got x a lk = ra at *
  obtain ⟨va, oka, aa, la⟩ := ra
  unfold TapeOk at hval
  simp only at hval CA
  have hav : 0 ≤ aa ∧ aa ≤ (got.length : Int) := by have := H01.out; omega
  cases oka with
  | false =>
    simp only [seqT, Bool.false_eq_true, if_false]
    go_enter Try.func165, Try.ntmps165
    go_wp2_with (go_at_call 165; (with_reducible refine CA.out.mono ?_); rintro e w2 ⟨rfl, i2, b2, k2⟩; have hb2 := k2.blk (blk_new w _) HNE.out (by simp); have hq0 := (blk_cell hb2 0).trans rfl; have hq1 := (blk_cell hb2 1).trans rfl; have hq2 := (blk_cell hb2 2).trans rfl; have HB2 := Aside0.mk hb2; have I2 := Aside0.mk i2; have B2 := Aside0.mk b2; have K2 := Aside0.mk (K1.out.trans k2 (.inl rfl)); clear hb2 i2 b2 k2 hx0 hx1 hx2 CA)
    go_ret2
    exact ⟨rfl, I2.out, B2.out, K2.out⟩
  | true =>
    simp only [seqT, if_true]
    go_enter Try.func165, Try.ntmps165
    go_wp2_with (first | (go_at_call 165; (with_reducible refine CA.out.mono ?_); rintro e w2 ⟨rfl, i2, b2, k2⟩; have hb2 := k2.blk (blk_new w _) HNE.out (by simp); have hq0 := (blk_cell hb2 0).trans rfl; have hq1 := (blk_cell hb2 1).trans rfl; have hq2 := (blk_cell hb2 2).trans rfl; have HB2 := Aside0.mk hb2; have I2 := Aside0.mk i2; have B2 := Aside0.mk b2; have K2 := Aside0.mk (K1.out.trans k2 (.inl rfl)); clear hb2 i2 b2 k2 hx0 hx1 hx2 CA) | (go_at_call 166; refine (spec_l2Tape_get.calls _ _ _ _ _ _ _ _ _ _ _ I2.out B2.out (getT_f got aa la _ hav.1 hav.2 HGL.out)).mono ?_; rintro e w4 ⟨rfl, i4, b4, k4⟩; have I4 := Aside0.mk i4; have B4 := Aside0.mk b4; have K4 := Aside0.mk (K2.out.trans k4 (.inl rfl)); clear i4 b4 k4))
    go_ret2
    exact ⟨rfl, I4.out, B4.out, K4.out⟩
end Go.Proofs.Ytofieekbhbkliaa.G
end
section
namespace Go.Proofs.Ytofieekbhbkliaa.G
open Go.RowKit Go.Proofs.YtofieekbhbkliaaW.PrintWords Go.Proofs.YtofieekbhbkliaaW.PrintLast Go.Proofs.YtofieekbhbkliaaW.PrintMore
set_option linter.unusedVariables false
set_option linter.unusedSimpArgs false
set_option maxHeartbeats 8000000 in
set_option maxRecDepth 100000 in
theorem does_add {w0 : World} {g : Nat} {got : List Int} (hg : got.all isVal = true) (hgl : got.length ≤ 1000000) (x y : Tk) (hx : Fits x) (hy : Fits y) (ihx : Does w0 g got x) (ihy : Does w0 g got y) : Does w0 g got ⟨2, 0, [x, y]⟩ := by
  intro w a lk A1 c1 hI hB hr hc h0 h1
  have HI := Aside0.mk hI
  have HB := Aside0.mk hB
  have hne : w.heap.size ≠ g := fun e => by have := hI.lt; omega
  have HNE := Aside0.mk hne
  have I1 := Aside0.mk (hI.alloc (.cells #[.int .i64 2, .int .i64 0, .slice A1 2 c1] 90 (0, 0)))
  have B1 := Aside0.mk (below_alloc hB (.cells #[.int .i64 2, .int .i64 0, .slice A1 2 c1] 90 (0, 0)))
  have K1 := Aside0.mk (keep_alloc (KeepBut.refl w g none) (.cells #[.int .i64 2, .int .i64 0, .slice A1 2 c1] 90 (0, 0)))
  have hu := Try.underlying90
  have H01 := Aside0.mk (And.intro h0 h1)
  have HGL := Aside0.mk hgl
  obtain ⟨ad, Ax, cx, rfl, hlx, hxx⟩ := part_keep hI hr 0 x rfl
  have HXx := Aside0.mk hxx
  have HLx := Aside0.mk hlx
  clear hxx hlx
  obtain ⟨ad', Ay, cy, ey, hly, hxy⟩ := part_keep hI hr 1 y rfl
  obtain rfl : ad = ad' := Option.some.inj ey
  clear ey
  have HXy := Aside0.mk hxy
  have HLy := Aside0.mk hly
  clear hxy hly
  obtain ⟨_, hx0, hx1, hx2⟩ := HXx.out _ K1.out
  simp [go_sem] at hx0 hx1 hx2
  have CA := Aside0.mk (ihx _ a lk _ _ I1.out B1.out (fun W_ hk => (HXx.out W_ (K1.out.trans hk (.inl rfl))).1) HLx.out h0 h1)
  have hval := doT_ok hg hx a lk h0 h1
  clear hI hB hr hc hne hgl
  clear h0 h1
  show Calls Try.prog 165 #[.agg #[.int .i64 2, .int .i64 0, .slice (some ad) 2 c1], _] w _
  rw [doT_add]
  generalize hra : doT got x a lk = ra at *
  obtain ⟨va, oka, aa, la⟩ := ra
  unfold TapeOk at hval
  simp only at hval CA
  have hav : 0 ≤ aa ∧ aa ≤ (got.length : Int) := by have := H01.out; omega
  cases oka with
  | false =>
    simp only [seqT, Bool.false_eq_true, if_false]
    go_enter Try.func165, Try.ntmps165
    go_wp2_with (go_at_call 165; (with_reducible refine CA.out.mono ?_); rintro e w2 ⟨rfl, i2, b2, k2⟩; have hb2 := k2.blk (blk_new w _) HNE.out (by simp); have hq0 := (blk_cell hb2 0).trans rfl; have hq1 := (blk_cell hb2 1).trans rfl; have hq2 := (blk_cell hb2 2).trans rfl; have HB2 := Aside0.mk hb2; have I2 := Aside0.mk i2; have B2 := Aside0.mk b2; have K2 := Aside0.mk (K1.out.trans k2 (.inl rfl)); clear hb2 i2 b2 k2 hx0 hx1 hx2 CA)
    go_ret2
    exact ⟨rfl, I2.out, B2.out, K2.out⟩
  | true =>
    simp only [seqT, if_true]
    have hvb := doT_ok hg hy aa la hav.1 hav.2
    have CBB := Aside0.mk (fun w hI hB hC => ihy w aa la Ay cy hI hB hC HLy.out hav.1 hav.2)
    generalize hrb : doT got y aa la = rb at *
    obtain ⟨vb, okb, ab, lb⟩ := rb
    unfold TapeOk at hvb
    simp only at hvb CBB
    cases okb with
    | false =>
      simp only [Bool.false_eq_true, if_false]
      go_enter Try.func165, Try.ntmps165
      go_wp2_with (first | (go_at_call 165; (with_reducible refine CA.out.mono ?_); rintro e w2 ⟨rfl, i2, b2, k2⟩; have hb2 := k2.blk (blk_new w _) HNE.out (by simp); have hq0 := (blk_cell hb2 0).trans rfl; have hq1 := (blk_cell hb2 1).trans rfl; have hq2 := (blk_cell hb2 2).trans rfl; have HB2 := Aside0.mk hb2; have I2 := Aside0.mk i2; have B2 := Aside0.mk b2; have K2 := Aside0.mk (K1.out.trans k2 (.inl rfl)); clear hb2 i2 b2 k2 hx0 hx1 hx2 CA; obtain ⟨_, hx0, hx1, hx2⟩ := HXy.out w2 K2.out; simp [go_sem] at hx0 hx1 hx2; have CB := Aside0.mk (CBB.out _ I2.out B2.out (fun W_ hk => (HXy.out W_ (K2.out.trans hk (.inl rfl))).1))) | (go_at_call 165; (with_reducible refine CB.out.mono ?_); rintro e w3 ⟨rfl, i3, b3, k3⟩; have hb3 := k3.blk HB2.out HNE.out (by simp); have hr0 := (blk_cell hb3 0).trans rfl; have hr1 := (blk_cell hb3 1).trans rfl; have hr2 := (blk_cell hb3 2).trans rfl; have I3 := Aside0.mk i3; have B3 := Aside0.mk b3; have K3 := Aside0.mk (K2.out.trans k3 (.inl rfl)); clear hb3 i3 b3 k3 hx0 hx1 hx2 hq0 hq1 hq2 CB))
      go_ret2
      exact ⟨rfl, I3.out, B3.out, K3.out⟩
    | true =>
      simp only [if_true]
      go_enter Try.func165, Try.ntmps165
      go_wp2_with (first | (go_at_call 165; (with_reducible refine CA.out.mono ?_); rintro e w2 ⟨rfl, i2, b2, k2⟩; have hb2 := k2.blk (blk_new w _) HNE.out (by simp); have hq0 := (blk_cell hb2 0).trans rfl; have hq1 := (blk_cell hb2 1).trans rfl; have hq2 := (blk_cell hb2 2).trans rfl; have HB2 := Aside0.mk hb2; have I2 := Aside0.mk i2; have B2 := Aside0.mk b2; have K2 := Aside0.mk (K1.out.trans k2 (.inl rfl)); clear hb2 i2 b2 k2 hx0 hx1 hx2 CA; obtain ⟨_, hx0, hx1, hx2⟩ := HXy.out w2 K2.out; simp [go_sem] at hx0 hx1 hx2; have CB := Aside0.mk (CBB.out _ I2.out B2.out (fun W_ hk => (HXy.out W_ (K2.out.trans hk (.inl rfl))).1))) | (go_at_call 165; (with_reducible refine CB.out.mono ?_); rintro e w3 ⟨rfl, i3, b3, k3⟩; have hb3 := k3.blk HB2.out HNE.out (by simp); have hr0 := (blk_cell hb3 0).trans rfl; have hr1 := (blk_cell hb3 1).trans rfl; have hr2 := (blk_cell hb3 2).trans rfl; have I3 := Aside0.mk i3; have B3 := Aside0.mk b3; have K3 := Aside0.mk (K2.out.trans k3 (.inl rfl)); clear hb3 i3 b3 k3 hx0 hx1 hx2 hq0 hq1 hq2 CB))
      go_ret2
      exact ⟨rfl, I3.out, B3.out, K3.out⟩
end Go.Proofs.Ytofieekbhbkliaa.G
end
section
namespace Go.Proofs.Ytofieekbhbkliaa.G
open Go.RowKit Go.Proofs.YtofieekbhbkliaaW.PrintWords Go.Proofs.YtofieekbhbkliaaW.PrintLast Go.Proofs.YtofieekbhbkliaaW.PrintMore
set_option linter.unusedVariables false
set_option linter.unusedSimpArgs false
set_option maxHeartbeats 8000000 in
set_option maxRecDepth 100000 in
theorem does_mul {w0 : World} {g : Nat} {got : List Int} (hg : got.all isVal = true) (hgl : got.length ≤ 1000000) (x y : Tk) (hx : Fits x) (hy : Fits y) (ihx : Does w0 g got x) (ihy : Does w0 g got y) : Does w0 g got ⟨3, 0, [x, y]⟩ := by
  intro w a lk A1 c1 hI hB hr hc h0 h1
  have HI := Aside0.mk hI
  have HB := Aside0.mk hB
  have hne : w.heap.size ≠ g := fun e => by have := hI.lt; omega
  have HNE := Aside0.mk hne
  have I1 := Aside0.mk (hI.alloc (.cells #[.int .i64 3, .int .i64 0, .slice A1 2 c1] 90 (0, 0)))
  have B1 := Aside0.mk (below_alloc hB (.cells #[.int .i64 3, .int .i64 0, .slice A1 2 c1] 90 (0, 0)))
  have K1 := Aside0.mk (keep_alloc (KeepBut.refl w g none) (.cells #[.int .i64 3, .int .i64 0, .slice A1 2 c1] 90 (0, 0)))
  have hu := Try.underlying90
  have H01 := Aside0.mk (And.intro h0 h1)
  have HGL := Aside0.mk hgl
  obtain ⟨ad, Ax, cx, rfl, hlx, hxx⟩ := part_keep hI hr 0 x rfl
  have HXx := Aside0.mk hxx
  have HLx := Aside0.mk hlx
  clear hxx hlx
  obtain ⟨ad', Ay, cy, ey, hly, hxy⟩ := part_keep hI hr 1 y rfl
  obtain rfl : ad = ad' := Option.some.inj ey
  clear ey
  have HXy := Aside0.mk hxy
  have HLy := Aside0.mk hly
  clear hxy hly
  obtain ⟨_, hx0, hx1, hx2⟩ := HXx.out _ K1.out
  simp [go_sem] at hx0 hx1 hx2
  have CA := Aside0.mk (ihx _ a lk _ _ I1.out B1.out (fun W_ hk => (HXx.out W_ (K1.out.trans hk (.inl rfl))).1) HLx.out h0 h1)
  have hval := doT_ok hg hx a lk h0 h1
  clear hI hB hr hc hne hgl
  clear h0 h1
  show Calls Try.prog 165 #[.agg #[.int .i64 3, .int .i64 0, .slice (some ad) 2 c1], _] w _
  rw [doT_mul]
  generalize hra : doT got x a lk = ra at *
  obtain ⟨va, oka, aa, la⟩ := ra
  unfold TapeOk at hval
  simp only at hval CA
  have hav : 0 ≤ aa ∧ aa ≤ (got.length : Int) := by have := H01.out; omega
  cases oka with
  | false =>
    simp only [seqT, Bool.false_eq_true, if_false]
    go_enter Try.func165, Try.ntmps165
    go_wp2_with (go_at_call 165; (with_reducible refine CA.out.mono ?_); rintro e w2 ⟨rfl, i2, b2, k2⟩; have hb2 := k2.blk (blk_new w _) HNE.out (by simp); have hq0 := (blk_cell hb2 0).trans rfl; have hq1 := (blk_cell hb2 1).trans rfl; have hq2 := (blk_cell hb2 2).trans rfl; have HB2 := Aside0.mk hb2; have I2 := Aside0.mk i2; have B2 := Aside0.mk b2; have K2 := Aside0.mk (K1.out.trans k2 (.inl rfl)); clear hb2 i2 b2 k2 hx0 hx1 hx2 CA)
    go_ret2
    exact ⟨rfl, I2.out, B2.out, K2.out⟩
  | true =>
    simp only [seqT, if_true]
    have hvb := doT_ok hg hy aa la hav.1 hav.2
    have CBB := Aside0.mk (fun w hI hB hC => ihy w aa la Ay cy hI hB hC HLy.out hav.1 hav.2)
    generalize hrb : doT got y aa la = rb at *
    obtain ⟨vb, okb, ab, lb⟩ := rb
    unfold TapeOk at hvb
    simp only at hvb CBB
    have hm0 : 0 ≤ va * vb := Int.mul_nonneg hval.1 hvb.1
    have hm1 : va * vb ≤ 9216 := by
      have h1 := Int.mul_le_mul hval.2.1 hvb.2.1 hvb.1 (by omega : (0 : Int) ≤ 96)
      omega
    cases okb with
    | false =>
      simp only [Bool.false_eq_true, if_false]
      go_enter Try.func165, Try.ntmps165
      go_wp2_with (first | (go_at_call 165; (with_reducible refine CA.out.mono ?_); rintro e w2 ⟨rfl, i2, b2, k2⟩; have hb2 := k2.blk (blk_new w _) HNE.out (by simp); have hq0 := (blk_cell hb2 0).trans rfl; have hq1 := (blk_cell hb2 1).trans rfl; have hq2 := (blk_cell hb2 2).trans rfl; have HB2 := Aside0.mk hb2; have I2 := Aside0.mk i2; have B2 := Aside0.mk b2; have K2 := Aside0.mk (K1.out.trans k2 (.inl rfl)); clear hb2 i2 b2 k2 hx0 hx1 hx2 CA; obtain ⟨_, hx0, hx1, hx2⟩ := HXy.out w2 K2.out; simp [go_sem] at hx0 hx1 hx2; have CB := Aside0.mk (CBB.out _ I2.out B2.out (fun W_ hk => (HXy.out W_ (K2.out.trans hk (.inl rfl))).1))) | (go_at_call 165; (with_reducible refine CB.out.mono ?_); rintro e w3 ⟨rfl, i3, b3, k3⟩; have hb3 := k3.blk HB2.out HNE.out (by simp); have hr0 := (blk_cell hb3 0).trans rfl; have hr1 := (blk_cell hb3 1).trans rfl; have hr2 := (blk_cell hb3 2).trans rfl; have I3 := Aside0.mk i3; have B3 := Aside0.mk b3; have K3 := Aside0.mk (K2.out.trans k3 (.inl rfl)); clear hb3 i3 b3 k3 hx0 hx1 hx2 hq0 hq1 hq2 CB))
      go_ret2
      exact ⟨rfl, I3.out, B3.out, K3.out⟩
    | true =>
      simp only [if_true]
      go_enter Try.func165, Try.ntmps165
      go_wp2_with (first | (go_at_call 165; (with_reducible refine CA.out.mono ?_); rintro e w2 ⟨rfl, i2, b2, k2⟩; have hb2 := k2.blk (blk_new w _) HNE.out (by simp); have hq0 := (blk_cell hb2 0).trans rfl; have hq1 := (blk_cell hb2 1).trans rfl; have hq2 := (blk_cell hb2 2).trans rfl; have HB2 := Aside0.mk hb2; have I2 := Aside0.mk i2; have B2 := Aside0.mk b2; have K2 := Aside0.mk (K1.out.trans k2 (.inl rfl)); clear hb2 i2 b2 k2 hx0 hx1 hx2 CA; obtain ⟨_, hx0, hx1, hx2⟩ := HXy.out w2 K2.out; simp [go_sem] at hx0 hx1 hx2; have CB := Aside0.mk (CBB.out _ I2.out B2.out (fun W_ hk => (HXy.out W_ (K2.out.trans hk (.inl rfl))).1))) | (go_at_call 165; (with_reducible refine CB.out.mono ?_); rintro e w3 ⟨rfl, i3, b3, k3⟩; have hb3 := k3.blk HB2.out HNE.out (by simp); have hr0 := (blk_cell hb3 0).trans rfl; have hr1 := (blk_cell hb3 1).trans rfl; have hr2 := (blk_cell hb3 2).trans rfl; have I3 := Aside0.mk i3; have B3 := Aside0.mk b3; have K3 := Aside0.mk (K2.out.trans k3 (.inl rfl)); clear hb3 i3 b3 k3 hx0 hx1 hx2 hq0 hq1 hq2 CB))
      go_ret2
      exact ⟨rfl, I3.out, B3.out, K3.out⟩
end Go.Proofs.Ytofieekbhbkliaa.G
end
section
namespace Go.Proofs.Ytofieekbhbkliaa.G
open Go.RowKit Go.Proofs.YtofieekbhbkliaaW.PrintWords Go.Proofs.YtofieekbhbkliaaW.PrintLast Go.Proofs.YtofieekbhbkliaaW.PrintMore
set_option linter.unusedVariables false
set_option linter.unusedSimpArgs false
set_option maxHeartbeats 8000000 in
set_option maxRecDepth 100000 in
theorem does_if {w0 : World} {g : Nat} {got : List Int} (hg : got.all isVal = true) (hgl : got.length ≤ 1000000) (x y z : Tk) (hx : Fits x) (hy : Fits y) (hz : Fits z) (ihx : Does w0 g got x) (ihy : Does w0 g got y) (ihz : Does w0 g got z) : Does w0 g got ⟨4, 0, [x, y, z]⟩ := by
  intro w a lk A1 c1 hI hB hr hc h0 h1
  have HI := Aside0.mk hI
  have HB := Aside0.mk hB
  have hne : w.heap.size ≠ g := fun e => by have := hI.lt; omega
  have HNE := Aside0.mk hne
  have I1 := Aside0.mk (hI.alloc (.cells #[.int .i64 4, .int .i64 0, .slice A1 3 c1] 90 (0, 0)))
  have B1 := Aside0.mk (below_alloc hB (.cells #[.int .i64 4, .int .i64 0, .slice A1 3 c1] 90 (0, 0)))
  have K1 := Aside0.mk (keep_alloc (KeepBut.refl w g none) (.cells #[.int .i64 4, .int .i64 0, .slice A1 3 c1] 90 (0, 0)))
  have hu := Try.underlying90
  have H01 := Aside0.mk (And.intro h0 h1)
  have HGL := Aside0.mk hgl
  obtain ⟨ad, Ax, cx, rfl, hlx, hxx⟩ := part_keep hI hr 0 x rfl
  have HXx := Aside0.mk hxx
  have HLx := Aside0.mk hlx
  clear hxx hlx
  obtain ⟨ad', Ay, cy, ey, hly, hxy⟩ := part_keep hI hr 1 y rfl
  obtain rfl : ad = ad' := Option.some.inj ey
  clear ey
  have HXy := Aside0.mk hxy
  have HLy := Aside0.mk hly
  clear hxy hly
  obtain ⟨ad', Az, cz, ez, hlz, hxz⟩ := part_keep hI hr 2 z rfl
  obtain rfl : ad = ad' := Option.some.inj ez
  clear ez
  have HXz := Aside0.mk hxz
  have HLz := Aside0.mk hlz
  clear hxz hlz
  obtain ⟨_, hx0, hx1, hx2⟩ := HXx.out _ K1.out
  simp [go_sem] at hx0 hx1 hx2
  have CA := Aside0.mk (ihx _ a lk _ _ I1.out B1.out (fun W_ hk => (HXx.out W_ (K1.out.trans hk (.inl rfl))).1) HLx.out h0 h1)
  have hval := doT_ok hg hx a lk h0 h1
  clear hI hB hr hc hne hgl
  clear h0 h1
  show Calls Try.prog 165 #[.agg #[.int .i64 4, .int .i64 0, .slice (some ad) 3 c1], _] w _
  rw [doT_if]
  generalize hra : doT got x a lk = ra at *
  obtain ⟨va, oka, aa, la⟩ := ra
  unfold TapeOk at hval
  simp only at hval CA
  have hav : 0 ≤ aa ∧ aa ≤ (got.length : Int) := by have := H01.out; omega
  cases oka with
  | false =>
    simp only [seqT, Bool.false_eq_true, if_false]
    go_enter Try.func165, Try.ntmps165
    go_wp2_with (go_at_call 165; (with_reducible refine CA.out.mono ?_); rintro e w2 ⟨rfl, i2, b2, k2⟩; have hb2 := k2.blk (blk_new w _) HNE.out (by simp); have hq0 := (blk_cell hb2 0).trans rfl; have hq1 := (blk_cell hb2 1).trans rfl; have hq2 := (blk_cell hb2 2).trans rfl; have HB2 := Aside0.mk hb2; have I2 := Aside0.mk i2; have B2 := Aside0.mk b2; have K2 := Aside0.mk (K1.out.trans k2 (.inl rfl)); clear hb2 i2 b2 k2 hx0 hx1 hx2 CA)
    go_ret2
    exact ⟨rfl, I2.out, B2.out, K2.out⟩
  | true =>
    simp only [seqT, if_true]
    by_cases hv : va = 0
    · rw [if_pos hv]
      have hzb : (va != 0) = false := by rw [hv]; rfl
      have CBB := Aside0.mk (fun w hI hB hC => ihz w aa la Az cz hI hB hC HLz.out hav.1 hav.2)
      go_enter Try.func165, Try.ntmps165
      go_wp2_with (first | (go_at_call 165; (with_reducible refine CA.out.mono ?_); rintro e w2 ⟨rfl, i2, b2, k2⟩; have hb2 := k2.blk (blk_new w _) HNE.out (by simp); have hq0 := (blk_cell hb2 0).trans rfl; have hq1 := (blk_cell hb2 1).trans rfl; have hq2 := (blk_cell hb2 2).trans rfl; have HB2 := Aside0.mk hb2; have I2 := Aside0.mk i2; have B2 := Aside0.mk b2; have K2 := Aside0.mk (K1.out.trans k2 (.inl rfl)); clear hb2 i2 b2 k2 hx0 hx1 hx2 CA; obtain ⟨_, hx0, hx1, hx2⟩ := HXz.out w2 K2.out; simp [go_sem] at hx0 hx1 hx2; have CB := Aside0.mk (CBB.out _ I2.out B2.out (fun W_ hk => (HXz.out W_ (K2.out.trans hk (.inl rfl))).1))) | (go_at_call 165; (with_reducible refine CB.out.mono ?_); rintro e w3 ⟨rfl, i3, b3, k3⟩; have hb3 := k3.blk HB2.out HNE.out (by simp); have hr0 := (blk_cell hb3 0).trans rfl; have hr1 := (blk_cell hb3 1).trans rfl; have hr2 := (blk_cell hb3 2).trans rfl; have I3 := Aside0.mk i3; have B3 := Aside0.mk b3; have K3 := Aside0.mk (K2.out.trans k3 (.inl rfl)); clear hb3 i3 b3 k3 hx0 hx1 hx2 hq0 hq1 hq2 CB))
      go_ret2
      exact ⟨rfl, I3.out, B3.out, K3.out⟩
    · rw [if_neg hv]
      have hzb : (va != 0) = true := bne_iff_ne.mpr hv
      have CBB := Aside0.mk (fun w hI hB hC => ihy w aa la Ay cy hI hB hC HLy.out hav.1 hav.2)
      go_enter Try.func165, Try.ntmps165
      go_wp2_with (first | (go_at_call 165; (with_reducible refine CA.out.mono ?_); rintro e w2 ⟨rfl, i2, b2, k2⟩; have hb2 := k2.blk (blk_new w _) HNE.out (by simp); have hq0 := (blk_cell hb2 0).trans rfl; have hq1 := (blk_cell hb2 1).trans rfl; have hq2 := (blk_cell hb2 2).trans rfl; have HB2 := Aside0.mk hb2; have I2 := Aside0.mk i2; have B2 := Aside0.mk b2; have K2 := Aside0.mk (K1.out.trans k2 (.inl rfl)); clear hb2 i2 b2 k2 hx0 hx1 hx2 CA; obtain ⟨_, hx0, hx1, hx2⟩ := HXy.out w2 K2.out; simp [go_sem] at hx0 hx1 hx2; have CB := Aside0.mk (CBB.out _ I2.out B2.out (fun W_ hk => (HXy.out W_ (K2.out.trans hk (.inl rfl))).1))) | (go_at_call 165; (with_reducible refine CB.out.mono ?_); rintro e w3 ⟨rfl, i3, b3, k3⟩; have hb3 := k3.blk HB2.out HNE.out (by simp); have hr0 := (blk_cell hb3 0).trans rfl; have hr1 := (blk_cell hb3 1).trans rfl; have hr2 := (blk_cell hb3 2).trans rfl; have I3 := Aside0.mk i3; have B3 := Aside0.mk b3; have K3 := Aside0.mk (K2.out.trans k3 (.inl rfl)); clear hb3 i3 b3 k3 hx0 hx1 hx2 hq0 hq1 hq2 CB))
      go_ret2
      exact ⟨rfl, I3.out, B3.out, K3.out⟩
end Go.Proofs.Ytofieekbhbkliaa.G
end
section
namespace Go.Proofs.Ytofieekbhbkliaa.G
open Go.RowKit Go.Proofs.YtofieekbhbkliaaW.PrintWords Go.Proofs.YtofieekbhbkliaaW.PrintLast Go.Proofs.YtofieekbhbkliaaW.PrintMore
set_option linter.unusedVariables false
set_option linter.unusedSimpArgs false
theorem does {w0 : World} {g : Nat} {got : List Int} (hg : got.all isVal = true) (hgl : got.length ≤ 1000000) {t : Tk} (h : Fits t) : Does w0 g got t := by
  induction h with
  | num n h0 h1 => exact does_num hg hgl n
  | get n h0 h1 => exact does_get hg hgl n
  | add a b ha hb iha ihb => exact does_add hg hgl a b ha hb iha ihb
  | mul a b ha hb iha ihb => exact does_mul hg hgl a b ha hb iha ihb
  | iff a b d ha hb hd iha ihb ihd => exact does_if hg hgl a b d ha hb hd iha ihb ihd
  | «at» n h0 h1 a ha iha => exact does_at hg hgl n h0 h1 a ha iha
def spec_l2Do.f (a0_0 : Int) (a0_1 : Int) (l0_2 : List Tk) (s1_0 : List Int) (s1_1 : Int) (s1_2 : Int) : Option (Int × Bool × Int × Int) :=
  if fitT ⟨a0_0, a0_1, l0_2⟩ = true ∧ s1_0.all isVal = true ∧ s1_0.length ≤ 1000000 ∧ 0 ≤ s1_1 ∧ s1_1 ≤ (s1_0.length : Int) then some (doT s1_0 ⟨a0_0, a0_1, l0_2⟩ s1_1 s1_2) else none
theorem spec_l2Do.calls (a0_0 : Int) (a0_1 : Int) (A0_2 : Option Addr) (c0_2 : Nat) (l0_2 : List Tk) (g : Nat) (s1_0 : List Int) (s1_1 : Int) (s1_2 : Int) (r1 : Int) (r2 : Bool) (r3 : Int) (r4 : Int) (w0 w : World) (hI : IsS166 w0 w g s1_0 s1_1 s1_2) (hB : Below w0.heap.size w0 w) (hr0_2 : ∀ W_, KeepBut w W_ g none → Kd.C k90 W_ A0_2 l0_2.length l0_2) (hc0_2 : l0_2.length ≤ c0_2) (h : spec_l2Do.f a0_0 a0_1 l0_2 s1_0 s1_1 s1_2 = some (r1, r2, r3, r4)) :
    Calls Try.prog 165 #[.agg #[.int .i64 a0_0, .int .i64 a0_1, .slice A0_2 l0_2.length c0_2], .pointer (some ⟨g, 0, none⟩)] w fun e w' => e = .returned (.tuple #[.int .i64 r1, .bool r2]) ∧ IsS166 w0 w' g s1_0 r3 r4 ∧ Below w0.heap.size w0 w' ∧ KeepBut w w' g none := by
  unfold spec_l2Do.f at h
  split at h
  case isFalse => cases h
  rename_i hg
  obtain ⟨hf, hv, hl, h0, h1⟩ := hg
  have hd := does (w0 := w0) (g := g) hv hl (fits_of _ hf) w s1_1 s1_2 A0_2 c0_2 hI hB hr0_2 hc0_2 h0 h1
  rw [Option.some.inj h] at hd
  exact hd
end Go.Proofs.Ytofieekbhbkliaa.G
end
section
namespace Go.Proofs.Ytofieekbhbkliaa.G
open Go.RowKit Go.Proofs.YtofieekbhbkliaaW.PrintWords Go.Proofs.YtofieekbhbkliaaW.PrintLast Go.Proofs.YtofieekbhbkliaaW.PrintMore
set_option linter.unusedVariables false
set_option linter.unusedSimpArgs false
def spec_l2Next.f (a0_0 : Int) (a0_1 : Int) (l0_2 : List Tk) (l1 : List Int) : Option (Int × Int × Bool) :=
  if fitT ⟨a0_0, a0_1, l0_2⟩ = true ∧ l1.all isVal = true ∧ l1.length ≤ 1000000 then some ((doT l1 ⟨a0_0, a0_1, l0_2⟩ 0 0).1, (doT l1 ⟨a0_0, a0_1, l0_2⟩ 0 0).2.2.2, (doT l1 ⟨a0_0, a0_1, l0_2⟩ 0 0).2.1) else none
theorem heapTk : Kd.Heap k90 := Kd.heap_fix (fun d hd => Kd.heap_iso _ (Kd.heap_pair (Kd.heap_int _) (Kd.heap_pair (Kd.heap_int _) (Kd.heap_slice _ hd))))
set_option maxHeartbeats 8000000 in
set_option maxRecDepth 100000 in
theorem spec_l2Next.calls (a0_0 : Int) (a0_1 : Int) (A0_2 : Option Addr) (c0_2 : Nat) (l0_2 : List Tk) (A1 : Option Addr) (c1 : Nat) (l1 : List Int) (r1 : Int) (r2 : Int) (r3 : Bool) (w : World) (hr0_2 : Kd.C k90 w A0_2 l0_2.length l0_2) (hc0_2 : l0_2.length ≤ c0_2) (hr1 : Kd.C (Kd.int .i64) w A1 l1.length l1) (hc1 : l1.length ≤ c1) (h : spec_l2Next.f a0_0 a0_1 l0_2 l1 = some (r1, r2, r3)) :
    Calls Try.prog 164 #[.agg #[.int .i64 a0_0, .int .i64 a0_1, .slice A0_2 l0_2.length c0_2], .slice A1 l1.length c1] w fun e w' => e = .returned (.tuple #[.int .i64 r1, .int .i64 r2, .bool r3]) ∧ Below w.heap.size w w' := by
  unfold spec_l2Next.f at h
  split at h
  case isFalse => cases h
  rename_i hg
  obtain ⟨hf, hv, hn⟩ := hg
  have hR := Option.some.inj h
  obtain rfl : (doT l1 ⟨a0_0, a0_1, l0_2⟩ 0 0).1 = r1 := congrArg (·.1) hR
  obtain rfl : (doT l1 ⟨a0_0, a0_1, l0_2⟩ 0 0).2.2.2 = r2 := congrArg (·.2.1) hR
  obtain rfl : (doT l1 ⟨a0_0, a0_1, l0_2⟩ 0 0).2.1 = r3 := congrArg (·.2.2) hR
  have hB1 : Below w.heap.size w (w.alloc (.cells #[.int .i64 a0_0, .int .i64 a0_1, .slice A0_2 l0_2.length c0_2] 90 (0, 0))) := below_alloc (Below.refl _ _) _
  have hI := IsS166.new w (w.alloc (.cells #[.int .i64 a0_0, .int .i64 a0_1, .slice A0_2 l0_2.length c0_2] 90 (0, 0))) A1 c1 l1 0 0 hB1 hr1
  have hB2 := below_alloc hB1 (.cells #[.slice A1 l1.length c1, .int .i64 0, .int .i64 0] 166 (0, 0))
  have HA := Aside0.mk (does (w0 := w) hv hn (fits_of _ hf) _ 0 0 A0_2 c0_2 hI hB2 (Kd.C_foot_came heapTk hr0_2 hB2 hI.ge) hc0_2 (Int.le_refl 0) (by omega))
  have hs : (w.alloc (.cells #[.int .i64 a0_0, .int .i64 a0_1, .slice A0_2 l0_2.length c0_2] 90 (0, 0))).heap.size = w.heap.size + 1 := by simp
  rw [hs] at HA
  have hu := Try.underlying90
  have hu2 := Try.underlying166
  clear h hR hI hB1 hB2 hf hv hn hr0_2 hc0_2 hr1 hc1 hs
  go_enter Try.func164, Try.ntmps164
  go_wp2_with ((go_at_call 165; (with_reducible refine HA.out.mono ?_); rintro e w2 ⟨rfl, i2, b2, k2⟩; obtain ⟨A0, c0, hb2, _, _⟩ := i2; have hq2 := (blk_cell hb2 2).trans rfl; have HB2 := Aside0.mk b2; clear b2 k2 hb2 HA))
  go_quiet (fail)
  go_wp2
  go_ret3
  exact ⟨rfl, pw_below_drewN HB2.out nq⟩
end Go.Proofs.Ytofieekbhbkliaa.G
end
section
namespace Go.Proofs.Ytofieekbhbkliaa.G
open Go.RowKit Go.Proofs.YtofieekbhbkliaaW.PrintWords Go.Proofs.YtofieekbhbkliaaW.PrintLast Go.Proofs.YtofieekbhbkliaaW.PrintMore
attribute [local go_sem] max2_int min2_int max_two min_two max_three min_three max_four min_four
set_option linter.unusedVariables false
set_option linter.unusedSimpArgs false
def spec_l2Run.l0 : Nat → List Int → List (S108) → List Int → Int → Int → Bool → Int → Int → List (S90) → Option (Int × (List (S108)))
  | 0, _, _, _, _, _, _, _, _, _ => none
  | k + 1, x1, x6, x7, x8, x9, x10, x119000, x119001, x119002 => if x10 = true then (some (x8, x6)) else ((spec_l2Of.f x1 x9).bind fun t128 => (if x6.length < 8796093022208 then ((spec_l2Of.f x1 x9).bind fun t132 => (if x7.length < 17592186044416 then ((some (x7 ++ [t132] : List Int)).bind fun y133 => ((spec_l2Next.f x119000 x119001 x119002 y133).bind fun bt136 => (spec_l2Run.l0 k x1 (x6 ++ [(⟨x9, t128⟩ : S108)]) y133 bt136.1 bt136.2.1 bt136.2.2 x119000 x119001 x119002))) else (none))) else (none)))
def spec_l2Run.f (k : Nat) (a0_0 : Int) (a0_1 : Int) (l0_2 : List (S90)) (l1 : List Int) : Option (Int × (List (S108))) := (some (([] : List Int) : List Int)).bind fun y122 => ((spec_l2Next.f a0_0 a0_1 l0_2 y122).bind fun bt125 => (spec_l2Run.l0 k l1 (([] : List (S108))) y122 bt125.1 bt125.2.1 bt125.2.2 a0_0 a0_1 l0_2))
set_option maxHeartbeats 8000000 in
set_option maxRecDepth 100000 in
theorem spec_l2Run.calls (k : Nat) (a0_0 : Int) (a0_1 : Int) (A0_2 : Option Addr) (c0_2 : Nat) (l0_2 : List (S90)) (A1 : Option Addr) (c1 : Nat) (l1 : List Int) (r1 : Int) (r2 : List (S108)) (w : World) (hr0_2 : Kd.C k90 w A0_2 l0_2.length l0_2) (hc0_2 : l0_2.length ≤ c0_2) (hr1 : Kd.C (Kd.int .i64) w A1 l1.length l1) (hc1 : l1.length ≤ c1) (h : spec_l2Run.f k a0_0 a0_1 l0_2 l1 = some (r1, r2)) :
    Calls Try.prog 157 #[.agg #[.int .i64 a0_0, .int .i64 a0_1, .slice A0_2 l0_2.length c0_2], .slice A1 l1.length c1] w fun e w' => ∃ v1_ : Value, e = .returned (.tuple #[.int .i64 r1, v1_]) ∧ Kd.R k108 108 w' w.heap.size (fun _ => True) v1_ r2 ∧ Below w.heap.size w w' := by
  have hu90 := Try.underlying90
  have hu108 := Try.underlying108
  have HR0_2 := Aside0.mk hr0_2
  have HC0_2 := Aside0.mk hc0_2
  clear hr0_2 hc0_2
  have HR1 := Aside0.mk hr1
  have HC1 := Aside0.mk hc1
  clear hr1 hc1
  have HB := Aside0.mk (Below.refl w.heap.size w)
  have H : ((some (([] : List Int) : List Int)).bind fun y122 => ((spec_l2Next.f a0_0 a0_1 l0_2 y122).bind fun bt125 => (spec_l2Run.l0 k l1 (([] : List (S108))) y122 bt125.1 bt125.2.1 bt125.2.2 a0_0 a0_1 l0_2))) = some (r1, r2) := h
  clear h
  obtain ⟨y119, hy119⟩ : ∃ y_ : List (S108), y_ = (([] : List (S108))) := ⟨_, rfl⟩
  replace H : ((some (([] : List Int) : List Int)).bind fun y122 => ((spec_l2Next.f a0_0 a0_1 l0_2 y122).bind fun bt125 => (spec_l2Run.l0 k l1 y119 y122 bt125.1 bt125.2.1 bt125.2.2 a0_0 a0_1 l0_2))) = some (r1, r2) := by first | (rw [hy119]; with_reducible exact H) | (have H2_ := (Option.bind_some _ _).symm.trans H; rw [hy119]; with_reducible exact H2_) | (have H2_ := (Option.bind_some _ _).symm.trans H; with_reducible exact H2_) | with_reducible exact H | (rw [hy119]; exact H) | exact H
  have Ny119 := Aside0.mk hy119
  clear hy119
  obtain ⟨y122, hy122⟩ : ∃ y_ : List Int, y_ = (([] : List Int)) := ⟨_, rfl⟩
  replace H : ((spec_l2Next.f a0_0 a0_1 l0_2 y122).bind fun bt125 => (spec_l2Run.l0 k l1 y119 y122 bt125.1 bt125.2.1 bt125.2.2 a0_0 a0_1 l0_2)) = some (r1, r2) := by first | (rw [hy122]; with_reducible exact H) | (have H2_ := (Option.bind_some _ _).symm.trans H; rw [hy122]; with_reducible exact H2_) | (have H2_ := (Option.bind_some _ _).symm.trans H; with_reducible exact H2_) | with_reducible exact H | (rw [hy122]; exact H) | exact H
  have Ny122 := Aside0.mk hy122
  clear hy122
  replace H := Option.bind_eq_some_iff.mp H
  obtain ⟨⟨t125, t126, t127⟩, A30, H⟩ := H
  replace H : (spec_l2Run.l0 k l1 y119 y122 t125 t126 t127 a0_0 a0_1 l0_2) = some (r1, r2) := H
  have A3 := Aside0.mk A30
  clear A30
  have H' := Aside0.mk H
  clear H
  go_enter Try.func157, Try.ntmps157
  go_wp2_with (first | ((with_reducible refine gate_dst (N := 2) rfl ?_); refine box_event ?hg (N := 2) ?hd (cs := #[.int .i64 a0_0, .int .i64 a0_1, .slice A0_2 l0_2.length c0_2]) (t := 90) ?hr ?_; (case hd => rfl); (case hg => rfl); (case hr => first | (go_simp; done) | (go_simp; rfl)); intro gb118 hg w4 hbox hb; have n0_ := Aside0.mk (below_step (by repeat (first | (with_reducible first | exact HB.out | apply below_alloc | apply pw_below_drewN | apply below_drew1) | exact HB.out)) hb); have n1_ := Aside0.mk (hbox); have n2_ := Aside0.mk ((by rw [hg]; exact (below_size (by repeat (first | (with_reducible first | exact HB.out | apply below_alloc | apply pw_below_drewN | apply below_drew1) | exact HB.out))) : w.heap.size ≤ gb118)); have n3_ := Aside0.mk ((by rw [hg]; exact (below_size (by repeat (first | (with_reducible first | exact HB.out | apply below_alloc | apply pw_below_drewN | apply below_drew1) | exact HB.out))) : w.heap.size ≤ gb118)); clear HB; have HB := n0_; have BK118 := n1_; have GW118 := n2_; have GE118 := n3_; clear n0_ n1_ n2_ n3_; clear hb hbox hg) | ((with_reducible refine gate_dst (N := 11) rfl ?_); refine Kd.R_lit k108 _ 108 ?hg (N := 11) ?hd (xs := ([] : List (S108))) (inner := []) (ok := fun _ => True) (okp := fun _ => True) ?hr ?hp (fun _ hk => hk) trivial (Below.refl _ _) (Nat.le_refl _) (by simp) ?_; (case hd => rfl); (case hg => rfl); (case hr => first | (go_simp; done) | (go_simp; rfl)); (case hp => exact (Reps.none _ _)); intro v120 w5 ho6 hb hg_ hnew_; clear hg_ hnew_; (first | rw [← Ny119.out] at ho6 | (simp only [Int.reduceToNat] at ho6; rw [← Ny119.out] at ho6)); have n0_ := Aside0.mk (Kd.R_lower ho6 (below_size (by repeat (first | (with_reducible first | exact HB.out | apply below_alloc | apply pw_below_drewN | apply below_drew1 | refine below_set ?_ GE118.out) | exact HB.out)))); have n1_ := Aside0.mk (blk_below (g := gb118) (o := .cells #[.int .i64 a0_0, .int .i64 a0_1, .slice A0_2 l0_2.length c0_2] 90 (0, 0)) (by (with_reducible repeat (first | refine blk_drewN ?_ _ | refine blk_drew ?_ | refine blk_alloc ?_ _)); exact BK118.out) hb); have n2_ := Aside0.mk (below_step (by repeat (first | (with_reducible first | exact HB.out | apply below_alloc | apply pw_below_drewN | apply below_drew1 | refine below_set ?_ GE118.out) | exact HB.out)) hb); clear BK118; clear HB; have HO121 := n0_; have BK118 := n1_; have HB := n2_; clear n0_ n1_ n2_; clear hb ho6) | ((with_reducible refine gate_dst (N := 12) rfl ?_); refine Kd.R_lit (Kd.int .i64) _ 3 ?hg (N := 12) ?hd (xs := ([] : List Int)) (inner := []) (ok := fun _ => True) (okp := fun _ => True) ?hr ?hp (fun _ hk => hk) trivial (Below.refl _ _) (Nat.le_refl _) (by simp) ?_; (case hd => rfl); (case hg => rfl); (case hr => first | (go_simp; done) | (go_simp; rfl)); (case hp => exact (Reps.none _ _)); intro v123 w7 ho8 hb hg_ hnew_; clear hg_ hnew_; (first | rw [← Ny122.out] at ho8 | (simp only [Int.reduceToNat] at ho8; rw [← Ny122.out] at ho8)); have n0_ := Aside0.mk (Kd.R_below (by (with_reducible repeat (first | apply Kd.R_alloc | apply Kd.R_drewN | apply Kd.R_drew)); exact HO121.out) hb); have n1_ := Aside0.mk (Kd.R_lower ho8 (below_size (by repeat (first | (with_reducible first | exact HB.out | apply below_alloc | apply pw_below_drewN | apply below_drew1 | refine below_set ?_ GE118.out) | exact HB.out)))); have n2_ := Aside0.mk (blk_below (g := gb118) (o := .cells #[.int .i64 a0_0, .int .i64 a0_1, .slice A0_2 l0_2.length c0_2] 90 (0, 0)) (by (with_reducible repeat (first | refine blk_drewN ?_ _ | refine blk_drew ?_ | refine blk_alloc ?_ _)); exact BK118.out) hb); have n3_ := Aside0.mk (below_step (by repeat (first | (with_reducible first | exact HB.out | apply below_alloc | apply pw_below_drewN | apply below_drew1 | refine below_set ?_ GE118.out) | exact HB.out)) hb); clear HO121; clear BK118; clear HB; have HO121 := n0_; have HO124 := n1_; have BK118 := n2_; have HB := n3_; clear n0_ n1_ n2_ n3_; clear hb ho8; have hcz9_0 : w7.cell? ⟨gb118, 0, none⟩ = some (.int .i64 a0_0) := (blk_cell BK118.out 0).trans rfl; have hcz9_1 : w7.cell? ⟨gb118, 1, none⟩ = some (.int .i64 a0_1) := (blk_cell BK118.out 1).trans rfl; have hcz9_2 : w7.cell? ⟨gb118, 2, none⟩ = some (.slice A0_2 l0_2.length c0_2) := (blk_cell BK118.out 2).trans rfl; have hfz9_0 := blk_frozen BK118.out 0; have hfz9_1 := blk_frozen BK118.out 1; have hfz9_2 := blk_frozen BK118.out 2; obtain ⟨Ao10, co10, eo10⟩ := Kd.R_slice HO124.out; subst eo10) | ((with_reducible refine gate_callee (f := 164) rfl ?_); refine goesL_ (some 16) rfl rfl Try.func164 (by kernel_rfl) rfl #[.agg #[.int .i64 a0_0, .int .i64 a0_1, .slice A0_2 l0_2.length c0_2], .slice Ao10 y122.length co10] rfl (by (try simp only [List.map_toArray, List.map_cons, List.map_nil]); first | done | rfl | (simp only [List.length_drop, List.length_take]; rfl)) ?_; (with_reducible refine (spec_l2Next.calls a0_0 a0_1 _ _ l0_2 _ _ y122 t125 t126 t127 _ ?side1 ?side2 ?side3 ?side4 A3.out).mono ?_); (case side1 => repeat (first | exact (Kd.C_below HR0_2.out HB.out) | (with_reducible refine Kd.C_alloc ?_ _) | (with_reducible refine Kd.C_drewN ?_ _) | (with_reducible refine Kd.C_drew ?_))); (case side2 => exact HC0_2.out); (case side3 => repeat (first | exact (Kd.R_reads' HO124.out).2.2 | (with_reducible refine Kd.C_alloc ?_ _) | (with_reducible refine Kd.C_drewN ?_ _) | (with_reducible refine Kd.C_drew ?_))); (case side4 => exact (Kd.R_reads' HO124.out).2.1); rintro e w11 ⟨rfl, hb⟩; refine ⟨_, rfl, ?_⟩; have n0_ := Aside0.mk (Kd.R_below (by (with_reducible repeat (first | apply Kd.R_alloc | apply Kd.R_drewN | apply Kd.R_drew)); exact HO121.out) hb); have n1_ := Aside0.mk (Kd.R_below (by (with_reducible repeat (first | apply Kd.R_alloc | apply Kd.R_drewN | apply Kd.R_drew)); exact HO124.out) hb); have n2_ := Aside0.mk (blk_below (g := gb118) (o := .cells #[.int .i64 a0_0, .int .i64 a0_1, .slice A0_2 l0_2.length c0_2] 90 (0, 0)) (by (with_reducible repeat (first | refine blk_drewN ?_ _ | refine blk_drew ?_ | refine blk_alloc ?_ _)); exact BK118.out) hb); have n3_ := Aside0.mk (below_step (by repeat (first | (with_reducible first | exact HB.out | apply below_alloc | apply pw_below_drewN | apply below_drew1 | refine below_set ?_ GE118.out) | exact HB.out)) hb); clear HO121; clear HO124; clear BK118; clear HB; have HO121 := n0_; have HO124 := n1_; have BK118 := n2_; have HB := n3_; clear n0_ n1_ n2_ n3_; (try clear hb); (try clear hb2); (try clear hk); (try clear hi)))
  go_loopg [6, 7, 8, 9, 10] k (fun kq v6 v7 v8 v9 v10 w' => ∃ (x6_1 : List (S108)) (x7_1 : List Int) (x8_1 : Int) (x9_1 : Int) (x10_1 : Bool), v8 = .int .i64 x8_1 ∧ v9 = .int .i64 x9_1 ∧ v10 = .bool x10_1 ∧ Aside0 (spec_l2Run.l0 kq l1 x6_1 x7_1 x8_1 x9_1 x10_1 a0_0 a0_1 l0_2 = some (r1, r2)) ∧ Aside0 (kq ≤ k) ∧ Aside0 (Kd.R k108 108 w' w.heap.size (fun _ => True) v6 x6_1) ∧ Aside0 (Kd.R (Kd.int .i64) 3 w' w.heap.size (fun _ => True) v7 x7_1) ∧ Aside0 (w'.heap[gb118]? = some (.cells #[.int .i64 a0_0, .int .i64 a0_1, (.slice A0_2 l0_2.length c0_2)] 90 (0, 0))) ∧ Aside0 (Below w.heap.size w w'))
  case atStart => exact ⟨(y119), (y122), (t125), (t126), (t127), (by first | rfl | (simp; done) | (simp [*]; done)), (by first | rfl | (simp; done) | (simp [*]; done)), (by first | rfl | (simp; done) | (simp [*]; done)), H', ⟨Nat.le_refl _⟩, ⟨by (with_reducible repeat (first | apply Kd.R_alloc | apply Kd.R_drewN | apply Kd.R_drew)); exact HO121.out⟩, ⟨by (with_reducible repeat (first | apply Kd.R_alloc | apply Kd.R_drewN | apply Kd.R_drew)); exact HO124.out⟩, ⟨by (with_reducible repeat (first | refine blk_drewN ?_ _ | refine blk_drew ?_ | refine blk_alloc ?_ _)); exact BK118.out⟩, ⟨by repeat (first | (with_reducible first | exact HB.out | apply below_alloc | apply pw_below_drewN | apply below_drew1 | refine below_set ?_ GE118.out) | exact HB.out)⟩⟩
  case round =>
    clear H'
    try clear c1
    try clear p2
    try clear hcz9_0
    try clear hcz9_1
    try clear hcz9_2
    try clear hfz9_0
    try clear hfz9_1
    try clear hfz9_2
    obtain ⟨x6_1, x7_1, x8_1, x9_1, x10_1, rfl, rfl, rfl, HA, HK1, HO_6, HO_7, BK118, HB⟩ := hrel
    cases gk with
    | zero => exact absurd HA.out (by simp [spec_l2Run.l0])
    | succ k1 =>
      have H := HA.out
      clear HA
      simp only [spec_l2Run.l0] at H
      by_cases c12 : x10_1 = true
      · subst c12
        have H1 : (some (x8_1, x6_1)) = some (r1, r2) := by rw [if_pos rfl] at H; exact H
        clear H
        have H := H1
        clear H1
        simp only [Option.some.injEq, Prod.mk.injEq] at H
        obtain ⟨rfl, rfl⟩ := H
        go_wp2
        go_ret2
        exact ⟨_, by first | rfl | (simp [errW_none, errW_some] <;> rfl) | (simp [*, errW_none, errW_some] <;> rfl), by (with_reducible repeat (first | apply Kd.R_alloc | apply Kd.R_drewN | apply Kd.R_drew)); exact HO_6.out, by repeat (first | (with_reducible first | exact HB.out | apply below_alloc | apply pw_below_drewN | apply below_drew1 | refine below_set ?_ GE118.out) | exact HB.out)⟩
      · replace c12 := Bool.eq_false_iff.mpr c12
        subst c12
        have H1 : ((spec_l2Of.f l1 x9_1).bind fun t128 => (if x6_1.length < 8796093022208 then ((spec_l2Of.f l1 x9_1).bind fun t132 => (if x7_1.length < 17592186044416 then ((some (x7_1 ++ [t132] : List Int)).bind fun y133 => ((spec_l2Next.f a0_0 a0_1 l0_2 y133).bind fun bt136 => (spec_l2Run.l0 k1 l1 (x6_1 ++ [(⟨x9_1, t128⟩ : S108)]) y133 bt136.1 bt136.2.1 bt136.2.2 a0_0 a0_1 l0_2))) else (none))) else (none))) = some (r1, r2) := by rw [if_neg (show ¬ (false = true) by decide)] at H; exact H
        clear H
        have H := H1
        clear H1
        replace H := Option.bind_eq_some_iff.mp H
        obtain ⟨t128, A130, H⟩ := H
        replace H : (if x6_1.length < 8796093022208 then ((spec_l2Of.f l1 x9_1).bind fun t132 => (if x7_1.length < 17592186044416 then ((some (x7_1 ++ [t132] : List Int)).bind fun y133 => ((spec_l2Next.f a0_0 a0_1 l0_2 y133).bind fun bt136 => (spec_l2Run.l0 k1 l1 (x6_1 ++ [(⟨x9_1, t128⟩ : S108)]) y133 bt136.1 bt136.2.1 bt136.2.2 a0_0 a0_1 l0_2))) else (none))) else (none)) = some (r1, r2) := H
        have A13 := Aside0.mk A130
        clear A130
        by_cases c14 : x6_1.length < 8796093022208
        · rw [if_pos c14] at H
          have LMc14 := Aside0.mk c14
          clear c14
          obtain ⟨y129, hy129⟩ : ∃ y_ : List (S108), y_ = (x6_1 ++ [(⟨x9_1, t128⟩ : S108)]) := ⟨_, rfl⟩
          replace H : ((spec_l2Of.f l1 x9_1).bind fun t132 => (if x7_1.length < 17592186044416 then ((some (x7_1 ++ [t132] : List Int)).bind fun y133 => ((spec_l2Next.f a0_0 a0_1 l0_2 y133).bind fun bt136 => (spec_l2Run.l0 k1 l1 y129 y133 bt136.1 bt136.2.1 bt136.2.2 a0_0 a0_1 l0_2))) else (none))) = some (r1, r2) := by first | (rw [hy129]; with_reducible exact H) | (have H2_ := (Option.bind_some _ _).symm.trans H; rw [hy129]; with_reducible exact H2_) | (have H2_ := (Option.bind_some _ _).symm.trans H; with_reducible exact H2_) | with_reducible exact H | (rw [hy129]; exact H) | exact H
          have Ny129 := Aside0.mk hy129
          clear hy129
          replace H := Option.bind_eq_some_iff.mp H
          obtain ⟨t132, A150, H⟩ := H
          replace H : (if x7_1.length < 17592186044416 then ((some (x7_1 ++ [t132] : List Int)).bind fun y133 => ((spec_l2Next.f a0_0 a0_1 l0_2 y133).bind fun bt136 => (spec_l2Run.l0 k1 l1 y129 y133 bt136.1 bt136.2.1 bt136.2.2 a0_0 a0_1 l0_2))) else (none)) = some (r1, r2) := H
          have A15 := Aside0.mk A150
          clear A150
          by_cases c16 : x7_1.length < 17592186044416
          · rw [if_pos c16] at H
            have LMc16 := Aside0.mk c16
            clear c16
            obtain ⟨y133, hy133⟩ : ∃ y_ : List Int, y_ = (x7_1 ++ [t132]) := ⟨_, rfl⟩
            replace H : ((spec_l2Next.f a0_0 a0_1 l0_2 y133).bind fun bt136 => (spec_l2Run.l0 k1 l1 y129 y133 bt136.1 bt136.2.1 bt136.2.2 a0_0 a0_1 l0_2)) = some (r1, r2) := by first | (rw [hy133]; with_reducible exact H) | (have H2_ := (Option.bind_some _ _).symm.trans H; rw [hy133]; with_reducible exact H2_) | (have H2_ := (Option.bind_some _ _).symm.trans H; with_reducible exact H2_) | with_reducible exact H | (rw [hy133]; exact H) | exact H
            have Ny133 := Aside0.mk hy133
            clear hy133
            replace H := Option.bind_eq_some_iff.mp H
            obtain ⟨⟨t136, t137, t138⟩, A170, H⟩ := H
            replace H : (spec_l2Run.l0 k1 l1 y129 y133 t136 t137 t138 a0_0 a0_1 l0_2) = some (r1, r2) := H
            have A17 := Aside0.mk A170
            clear A170
            have H' := Aside0.mk H
            clear H
            go_wp2_with (first | ((with_reducible refine gate_callee (f := 139) rfl ?_); refine goesL_ (some 26) rfl rfl Try.func139 (by kernel_rfl) rfl #[.slice A1 l1.length c1, .int .i64 x9_1] rfl (by (try simp only [List.map_toArray, List.map_cons, List.map_nil]); first | done | rfl | (simp only [List.length_drop, List.length_take]; rfl)) ?_; (with_reducible refine (spec_l2Of.calls _ _ l1 x9_1 t128 _ ?side1 ?side2 A13.out).mono ?_); (case side1 => repeat (first | exact (Kd.C_below HR1.out HB.out) | (with_reducible refine Kd.C_alloc ?_ _) | (with_reducible refine Kd.C_drewN ?_ _) | (with_reducible refine Kd.C_drew ?_))); (case side2 => exact HC1.out); rintro e w' ⟨rfl, ⟨nd, rfl⟩⟩; refine ⟨_, rfl, ?_⟩) | ((with_reducible refine gate_builtin (b := .append) (xs := #[.tmp 22, .tmp 28]) rfl ?_); at_builtin; refine Kd.R_append k108 (w0 := w) w.heap.size rfl (.tmp 22) (.tmp 28) 27 108 (.agg #[(.int .i64 0), (.int .i64 0)]) 16 rfl Try.underlying27 info108 rfl (by decide) (by omega) u6 x6_1 (⟨x9_1, t128⟩ : S108) [.int .i64 x9_1, .int .i64 t128] (fun _ => True) (fun _ => False) rfl rfl ?aP (fun _ hk => hk.elim) ?aF ?aO ?aB ?aS ?aL ?_; (case aP => exact k108_mkM _ _ _ (⟨x9_1, t128⟩ : S108)); (case aB => exact (by repeat (first | (with_reducible first | exact HB.out | apply below_alloc | apply pw_below_drewN | apply below_drew1 | refine below_set ?_ GE118.out) | exact HB.out))); (case aF => exact (fun _ _ => trivial)); (case aO => exact (by (with_reducible repeat (first | apply Kd.R_alloc | apply Kd.R_drewN | apply Kd.R_drew)); exact HO_6.out)); (case aS => exact (below_size (by repeat (first | (with_reducible first | exact HB.out | apply below_alloc | apply pw_below_drewN | apply below_drew1 | refine below_set ?_ GE118.out) | exact HB.out)))); (case aL => have := LMc14.out; omega); intro v130 w18 ho hb hg hat; rw [← Ny129.out] at ho; have n0_ := Aside0.mk (Kd.R_over' (by (with_reducible repeat (first | apply Kd.R_alloc | apply Kd.R_drewN | apply Kd.R_drew)); exact HO_7.out) (Kd.R_typed (by (with_reducible repeat (first | apply Kd.R_alloc | apply Kd.R_drewN | apply Kd.R_drew)); exact HO_6.out)) (by decide) hg); have n1_ := Aside0.mk (blk_grown (g := gb118) (o := .cells #[.int .i64 a0_0, .int .i64 a0_1, .slice A0_2 l0_2.length c0_2] 90 (0, 0)) (by (with_reducible repeat (first | refine blk_drewN ?_ _ | refine blk_drew ?_ | refine blk_alloc ?_ _)); exact BK118.out) hg (Kd.R_ne HO_6.out BK118.out (by decide))); have n2_ := Aside0.mk (hb); have n3_ := Aside0.mk (ho); clear HO_7; clear BK118; clear HB; clear HO_6; have HO_7 := n0_; have BK118 := n1_; have HB := n2_; have HO131 := n3_; clear n0_ n1_ n2_ n3_; clear ho hb hg hat) | ((with_reducible refine gate_callee (f := 139) rfl ?_); refine goesL_ (some 33) rfl rfl Try.func139 (by kernel_rfl) rfl #[.slice A1 l1.length c1, .int .i64 x9_1] rfl (by (try simp only [List.map_toArray, List.map_cons, List.map_nil]); first | done | rfl | (simp only [List.length_drop, List.length_take]; rfl)) ?_; (with_reducible refine (spec_l2Of.calls _ _ l1 x9_1 t132 _ ?side1 ?side2 A15.out).mono ?_); (case side1 => repeat (first | exact (Kd.C_below HR1.out HB.out) | (with_reducible refine Kd.C_alloc ?_ _) | (with_reducible refine Kd.C_drewN ?_ _) | (with_reducible refine Kd.C_drew ?_))); (case side2 => exact HC1.out); rintro e w' ⟨rfl, ⟨nd, rfl⟩⟩; refine ⟨_, rfl, ?_⟩) | ((with_reducible refine gate_builtin (b := .append) (xs := #[.tmp 30, .tmp 34]) rfl ?_); at_builtin; refine Kd.R_append (Kd.int .i64) (w0 := w) w.heap.size rfl (.tmp 30) (.tmp 34) 30 3 (.int .i64 0) 8 rfl Try.underlying30 info3 rfl (by decide) (by omega) u7 x7_1 t132 [.int .i64 t132] (fun _ => True) (fun _ => False) rfl rfl ?aP (fun _ hk => hk.elim) ?aF ?aO ?aB ?aS ?aL ?_; (case aP => exact rfl); (case aB => exact (by repeat (first | (with_reducible first | exact HB.out | apply below_alloc | apply pw_below_drewN | apply below_drew1 | refine below_set ?_ GE118.out) | exact HB.out))); (case aF => exact (fun _ _ => trivial)); (case aO => exact (by (with_reducible repeat (first | apply Kd.R_alloc | apply Kd.R_drewN | apply Kd.R_drew)); exact HO_7.out)); (case aS => exact (below_size (by repeat (first | (with_reducible first | exact HB.out | apply below_alloc | apply pw_below_drewN | apply below_drew1 | refine below_set ?_ GE118.out) | exact HB.out)))); (case aL => have := LMc16.out; omega); intro v134 w19 ho hb hg hat; rw [← Ny133.out] at ho; have n0_ := Aside0.mk (blk_grown (g := gb118) (o := .cells #[.int .i64 a0_0, .int .i64 a0_1, .slice A0_2 l0_2.length c0_2] 90 (0, 0)) (by (with_reducible repeat (first | refine blk_drewN ?_ _ | refine blk_drew ?_ | refine blk_alloc ?_ _)); exact BK118.out) hg (Kd.R_ne HO_7.out BK118.out (by decide))); have n1_ := Aside0.mk (Kd.R_over' (by (with_reducible repeat (first | apply Kd.R_alloc | apply Kd.R_drewN | apply Kd.R_drew)); exact HO131.out) (Kd.R_typed (by (with_reducible repeat (first | apply Kd.R_alloc | apply Kd.R_drewN | apply Kd.R_drew)); exact HO_7.out)) (by decide) hg); have n2_ := Aside0.mk (hb); have n3_ := Aside0.mk (ho); clear BK118; clear HO131; clear HB; clear HO_7; have BK118 := n0_; have HO131 := n1_; have HB := n2_; have HO135 := n3_; clear n0_ n1_ n2_ n3_; clear ho hb hg hat; have hcz20_0 : w19.cell? ⟨gb118, 0, none⟩ = some (.int .i64 a0_0) := (blk_cell BK118.out 0).trans rfl; have hcz20_1 : w19.cell? ⟨gb118, 1, none⟩ = some (.int .i64 a0_1) := (blk_cell BK118.out 1).trans rfl; have hcz20_2 : w19.cell? ⟨gb118, 2, none⟩ = some (.slice A0_2 l0_2.length c0_2) := (blk_cell BK118.out 2).trans rfl; have hfz20_0 := blk_frozen BK118.out 0; have hfz20_1 := blk_frozen BK118.out 1; have hfz20_2 := blk_frozen BK118.out 2; obtain ⟨Ao21, co21, eo21⟩ := Kd.R_slice HO135.out; subst eo21) | ((with_reducible refine gate_callee (f := 164) rfl ?_); refine goesL_ (some 39) rfl rfl Try.func164 (by kernel_rfl) rfl #[.agg #[.int .i64 a0_0, .int .i64 a0_1, .slice A0_2 l0_2.length c0_2], .slice Ao21 y133.length co21] rfl (by (try simp only [List.map_toArray, List.map_cons, List.map_nil]); first | done | rfl | (simp only [List.length_drop, List.length_take]; rfl)) ?_; (with_reducible refine (spec_l2Next.calls a0_0 a0_1 _ _ l0_2 _ _ y133 t136 t137 t138 _ ?side1 ?side2 ?side3 ?side4 A17.out).mono ?_); (case side1 => repeat (first | exact (Kd.C_below HR0_2.out HB.out) | (with_reducible refine Kd.C_alloc ?_ _) | (with_reducible refine Kd.C_drewN ?_ _) | (with_reducible refine Kd.C_drew ?_))); (case side2 => exact HC0_2.out); (case side3 => repeat (first | exact (Kd.R_reads' HO135.out).2.2 | (with_reducible refine Kd.C_alloc ?_ _) | (with_reducible refine Kd.C_drewN ?_ _) | (with_reducible refine Kd.C_drew ?_))); (case side4 => exact (Kd.R_reads' HO135.out).2.1); rintro e w22 ⟨rfl, hb⟩; refine ⟨_, rfl, ?_⟩; have n0_ := Aside0.mk (Kd.R_below (by (with_reducible repeat (first | apply Kd.R_alloc | apply Kd.R_drewN | apply Kd.R_drew)); exact HO131.out) hb); have n1_ := Aside0.mk (Kd.R_below (by (with_reducible repeat (first | apply Kd.R_alloc | apply Kd.R_drewN | apply Kd.R_drew)); exact HO135.out) hb); have n2_ := Aside0.mk (blk_below (g := gb118) (o := .cells #[.int .i64 a0_0, .int .i64 a0_1, .slice A0_2 l0_2.length c0_2] 90 (0, 0)) (by (with_reducible repeat (first | refine blk_drewN ?_ _ | refine blk_drew ?_ | refine blk_alloc ?_ _)); exact BK118.out) hb); have n3_ := Aside0.mk (below_step (by repeat (first | (with_reducible first | exact HB.out | apply below_alloc | apply pw_below_drewN | apply below_drew1 | refine below_set ?_ GE118.out) | exact HB.out)) hb); clear HO131; clear HO135; clear BK118; clear HB; have HO131 := n0_; have HO135 := n1_; have BK118 := n2_; have HB := n3_; clear n0_ n1_ n2_ n3_; (try clear hb); (try clear hb2); (try clear hk); (try clear hi)))
            go_roundg k1
            case measure => have := HK1.out; omega
            case rel => exact ⟨(y129), (y133), (t136), (t137), (t138), (by first | rfl | (simp; done) | (simp [*]; done)), (by first | rfl | (simp; done) | (simp [*]; done)), (by first | rfl | (simp; done) | (simp [*]; done)), H', ⟨by have := HK1.out; omega⟩, ⟨by (with_reducible repeat (first | apply Kd.R_alloc | apply Kd.R_drewN | apply Kd.R_drew)); exact HO131.out⟩, ⟨by (with_reducible repeat (first | apply Kd.R_alloc | apply Kd.R_drewN | apply Kd.R_drew)); exact HO135.out⟩, ⟨by (with_reducible repeat (first | refine blk_drewN ?_ _ | refine blk_drew ?_ | refine blk_alloc ?_ _)); exact BK118.out⟩, ⟨by repeat (first | (with_reducible first | exact HB.out | apply below_alloc | apply pw_below_drewN | apply below_drew1 | refine below_set ?_ GE118.out) | exact HB.out)⟩⟩
          · rw [if_neg c16] at H
            exact absurd H (by simp)
        · rw [if_neg c14] at H
          exact absurd H (by simp)
def spec_l5Of.f (k : Nat) (a0 : Int) (a1_0 : Int) (a1_1 : Int) (l1_2 : List (S90)) (l2 : List Int) : Option (Int × (List (S108)) × Int) := (spec_l2Run.f k a1_0 a1_1 l1_2 l2).bind fun bt141 => ((spec_l5Once.f k bt141.2).bind fun t145 => (some (a0, t145, bt141.1)))
set_option maxHeartbeats 8000000 in
set_option maxRecDepth 100000 in
theorem spec_l5Of.calls (k : Nat) (a0 : Int) (a1_0 : Int) (a1_1 : Int) (A1_2 : Option Addr) (c1_2 : Nat) (l1_2 : List (S90)) (A2 : Option Addr) (c2 : Nat) (l2 : List Int) (r1 : Int) (r2 : List (S108)) (r3 : Int) (w : World) (hr1_2 : Kd.C k90 w A1_2 l1_2.length l1_2) (hc1_2 : l1_2.length ≤ c1_2) (hr2 : Kd.C (Kd.int .i64) w A2 l2.length l2) (hc2 : l2.length ≤ c2) (h : spec_l5Of.f k a0 a1_0 a1_1 l1_2 l2 = some (r1, r2, r3)) :
    Calls Try.prog 134 #[.int .i64 a0, .agg #[.int .i64 a1_0, .int .i64 a1_1, .slice A1_2 l1_2.length c1_2], .slice A2 l2.length c2] w fun e w' => ∃ v1_ : Value, e = .returned (.agg #[.int .i64 r1, v1_, .int .i64 r3]) ∧ Kd.R k108 108 w' w.heap.size (fun _ => True) v1_ r2 ∧ Below w.heap.size w w' := by
  have hu90 := Try.underlying90
  have hu29 := Try.underlying29
  have HR1_2 := Aside0.mk hr1_2
  have HC1_2 := Aside0.mk hc1_2
  clear hr1_2 hc1_2
  have HR2 := Aside0.mk hr2
  have HC2 := Aside0.mk hc2
  clear hr2 hc2
  have HB := Aside0.mk (Below.refl w.heap.size w)
  have H : ((spec_l2Run.f k a1_0 a1_1 l1_2 l2).bind fun bt141 => ((spec_l5Once.f k bt141.2).bind fun t145 => (some (a0, t145, bt141.1)))) = some (r1, r2, r3) := h
  clear h
  replace H := Option.bind_eq_some_iff.mp H
  obtain ⟨⟨t141, t142⟩, A40, H⟩ := H
  replace H : ((spec_l5Once.f k t142).bind fun t145 => (some (a0, t145, t141))) = some (r1, r2, r3) := H
  have A4 := Aside0.mk A40
  clear A40
  replace H := Option.bind_eq_some_iff.mp H
  obtain ⟨t145, A50, H⟩ := H
  replace H : (some (a0, t145, t141)) = some (r1, r2, r3) := H
  have A5 := Aside0.mk A50
  clear A50
  simp only [Option.some.injEq, Prod.mk.injEq] at H
  obtain ⟨rfl, rfl, rfl⟩ := H
  go_enter Try.func134, Try.ntmps134
  go_wp2_with (first | ((with_reducible refine gate_dst (N := 4) rfl ?_); refine box_event ?hg (N := 4) ?hd (cs := #[.int .i64 a1_0, .int .i64 a1_1, .slice A1_2 l1_2.length c1_2]) (t := 90) ?hr ?_; (case hd => rfl); (case hg => rfl); (case hr => first | (go_simp; done) | (go_simp; rfl)); intro gb139 hg w6 hbox hb; have n0_ := Aside0.mk (below_step (by repeat (first | (with_reducible first | exact HB.out | apply below_alloc | apply pw_below_drewN | apply below_drew1) | exact HB.out)) hb); have n1_ := Aside0.mk (hbox); have n2_ := Aside0.mk ((by rw [hg]; exact (below_size (by repeat (first | (with_reducible first | exact HB.out | apply below_alloc | apply pw_below_drewN | apply below_drew1) | exact HB.out))) : w.heap.size ≤ gb139)); have n3_ := Aside0.mk ((by rw [hg]; exact (below_size (by repeat (first | (with_reducible first | exact HB.out | apply below_alloc | apply pw_below_drewN | apply below_drew1) | exact HB.out))) : w.heap.size ≤ gb139)); clear HB; have HB := n0_; have BK139 := n1_; have GW139 := n2_; have GE139 := n3_; clear n0_ n1_ n2_ n3_; clear hb hbox hg) | ((with_reducible refine gate_dst (N := 6) rfl ?_); refine box_event ?hg (N := 6) ?hd (cs := #[.int .i64 0, .slice none 0 0, .int .i64 0]) (t := 29) ?hr ?_; (case hd => rfl); (case hg => rfl); (case hr => first | (go_simp; done) | (go_simp; rfl)); intro gb140 hg w7 hbox hb; have n0_ := Aside0.mk (blk_below (g := gb139) (o := .cells #[.int .i64 a1_0, .int .i64 a1_1, .slice A1_2 l1_2.length c1_2] 90 (0, 0)) (by (with_reducible repeat (first | refine blk_drewN ?_ _ | refine blk_drew ?_ | refine blk_alloc ?_ _)); exact BK139.out) hb); have n1_ := Aside0.mk (below_step (by repeat (first | (with_reducible first | exact HB.out | apply below_alloc | apply pw_below_drewN | apply below_drew1 | refine below_set ?_ GE139.out) | exact HB.out)) hb); have n2_ := Aside0.mk (hbox); have n3_ := Aside0.mk ((by rw [hg]; exact (below_size (by repeat (first | (with_reducible first | exact HB.out | apply below_alloc | apply pw_below_drewN | apply below_drew1 | refine below_set ?_ GE139.out) | exact HB.out))) : w.heap.size ≤ gb140)); have n4_ := Aside0.mk ((by rw [hg]; exact (below_size (by repeat (first | (with_reducible first | exact HB.out | apply below_alloc | apply pw_below_drewN | apply below_drew1 | refine below_set ?_ GE139.out) | exact HB.out))) : w.heap.size ≤ gb140)); have n5_ := Aside0.mk ((by rw [hg]; exact Nat.ne_of_lt (blk_lt (g := gb139) (o := .cells #[.int .i64 a1_0, .int .i64 a1_1, .slice A1_2 l1_2.length c1_2] 90 (0, 0)) (by (with_reducible repeat (first | refine blk_drewN ?_ _ | refine blk_drew ?_ | refine blk_alloc ?_ _)); exact BK139.out)) : gb139 ≠ gb140)); have n6_ := Aside0.mk ((by rw [hg]; exact Nat.ne_of_gt (blk_lt (g := gb139) (o := .cells #[.int .i64 a1_0, .int .i64 a1_1, .slice A1_2 l1_2.length c1_2] 90 (0, 0)) (by (with_reducible repeat (first | refine blk_drewN ?_ _ | refine blk_drew ?_ | refine blk_alloc ?_ _)); exact BK139.out)) : gb140 ≠ gb139)); clear BK139; clear HB; have BK139 := n0_; have HB := n1_; have BK140 := n2_; have GW140 := n3_; have GE140 := n4_; have NB139_140 := n5_; have NB140_139 := n6_; clear n0_ n1_ n2_ n3_ n4_ n5_ n6_; clear hb hbox hg; have hnb8 := NB139_140.out; have hnc8 := NB140_139.out; have hcz9_0 : w7.cell? ⟨gb139, 0, none⟩ = some (.int .i64 a1_0) := (blk_cell BK139.out 0).trans rfl; have hcz9_1 : w7.cell? ⟨gb139, 1, none⟩ = some (.int .i64 a1_1) := (blk_cell BK139.out 1).trans rfl; have hcz9_2 : w7.cell? ⟨gb139, 2, none⟩ = some (.slice A1_2 l1_2.length c1_2) := (blk_cell BK139.out 2).trans rfl; have hfz9_0 := blk_frozen BK139.out 0; have hfz9_1 := blk_frozen BK139.out 1; have hfz9_2 := blk_frozen BK139.out 2) | ((with_reducible refine gate_callee (f := 157) rfl ?_); refine goesL_ (some 12) rfl rfl Try.func157 (by kernel_rfl) rfl #[.agg #[.int .i64 a1_0, .int .i64 a1_1, .slice A1_2 l1_2.length c1_2], .slice A2 l2.length c2] rfl (by (try simp only [List.map_toArray, List.map_cons, List.map_nil]); first | done | rfl | (simp only [List.length_drop, List.length_take]; rfl)) ?_; (with_reducible refine (spec_l2Run.calls k a1_0 a1_1 _ _ l1_2 _ _ l2 t141 t142 _ ?side1 ?side2 ?side3 ?side4 A4.out).mono ?_); (case side1 => repeat (first | exact (Kd.C_below HR1_2.out HB.out) | (with_reducible refine Kd.C_alloc ?_ _) | (with_reducible refine Kd.C_drewN ?_ _) | (with_reducible refine Kd.C_drew ?_))); (case side2 => exact HC1_2.out); (case side3 => repeat (first | exact (Kd.C_below HR2.out HB.out) | (with_reducible refine Kd.C_alloc ?_ _) | (with_reducible refine Kd.C_drewN ?_ _) | (with_reducible refine Kd.C_drew ?_))); (case side4 => exact HC2.out); rintro e w10 ⟨v143, rfl, ho0, hb⟩; refine ⟨_, rfl, ?_⟩; have n0_ := Aside0.mk (Kd.R_lower ho0 (below_size (by repeat (first | (with_reducible first | exact HB.out | apply below_alloc | apply pw_below_drewN | apply below_drew1 | refine below_set ?_ GE139.out | refine below_set ?_ GE140.out) | exact HB.out)))); have n1_ := Aside0.mk (blk_below (g := gb139) (o := .cells #[.int .i64 a1_0, .int .i64 a1_1, .slice A1_2 l1_2.length c1_2] 90 (0, 0)) (by (with_reducible repeat (first | refine blk_drewN ?_ _ | refine blk_drew ?_ | refine blk_alloc ?_ _)); exact BK139.out) hb); have n2_ := Aside0.mk (blk_below (g := gb140) (o := .cells #[.int .i64 0, .slice none 0 0, .int .i64 0] 29 (0, 0)) (by (with_reducible repeat (first | refine blk_drewN ?_ _ | refine blk_drew ?_ | refine blk_alloc ?_ _)); exact BK140.out) hb); have n3_ := Aside0.mk (below_step (by repeat (first | (with_reducible first | exact HB.out | apply below_alloc | apply pw_below_drewN | apply below_drew1 | refine below_set ?_ GE139.out | refine below_set ?_ GE140.out) | exact HB.out)) hb); clear BK139; clear BK140; clear HB; have HO144 := n0_; have BK139 := n1_; have BK140 := n2_; have HB := n3_; clear n0_ n1_ n2_ n3_; (try clear hb); (try clear hb2); (try clear hk); (try clear hi); (try clear ho0); obtain ⟨Ao11, co11, eo11⟩ := Kd.R_slice HO144.out; subst eo11) | ((with_reducible refine gate_callee (f := 133) rfl ?_); refine goesL_ (some 17) rfl rfl Try.func133 (by kernel_rfl) rfl #[.slice Ao11 t142.length co11] rfl (by (try simp only [List.map_toArray, List.map_cons, List.map_nil]); first | done | rfl | (simp only [List.length_drop, List.length_take]; rfl)) ?_; (with_reducible refine (spec_l5Once.calls k _ _ t142 t145 _ ?side1 ?side2 A5.out).mono ?_); (case side1 => repeat (first | exact (Kd.R_reads' HO144.out).2.2 | (with_reducible refine Kd.C_alloc ?_ _) | (with_reducible refine Kd.C_drewN ?_ _) | (with_reducible refine Kd.C_drew ?_))); (case side2 => exact (Kd.R_reads' HO144.out).2.1); rintro e w12 ⟨v146, rfl, ho0, hb⟩; refine ⟨_, rfl, ?_⟩; have n0_ := Aside0.mk (Kd.R_elder' (by (with_reducible repeat (first | apply Kd.R_alloc | apply Kd.R_drewN | apply Kd.R_drew)); exact HO144.out) (Kd.R_base ho0) hb); have n1_ := Aside0.mk (Kd.R_lower (Kd.R_new' ho0 (Kd.R_lt (by (with_reducible repeat (first | apply Kd.R_alloc | apply Kd.R_drewN | apply Kd.R_drew)); exact HO144.out))) (below_size (by repeat (first | (with_reducible first | exact HB.out | apply below_alloc | apply pw_below_drewN | apply below_drew1 | refine below_set ?_ GE139.out | refine below_set ?_ GE140.out) | exact HB.out)))); have n2_ := Aside0.mk (blk_below (g := gb139) (o := .cells #[.int .i64 a1_0, .int .i64 a1_1, .slice A1_2 l1_2.length c1_2] 90 (0, 0)) (by (with_reducible repeat (first | refine blk_drewN ?_ _ | refine blk_drew ?_ | refine blk_alloc ?_ _)); exact BK139.out) hb); have n3_ := Aside0.mk (blk_below (g := gb140) (o := .cells #[.int .i64 0, .slice none 0 0, .int .i64 0] 29 (0, 0)) (by (with_reducible repeat (first | refine blk_drewN ?_ _ | refine blk_drew ?_ | refine blk_alloc ?_ _)); exact BK140.out) hb); have n4_ := Aside0.mk (below_step (by repeat (first | (with_reducible first | exact HB.out | apply below_alloc | apply pw_below_drewN | apply below_drew1 | refine below_set ?_ GE139.out | refine below_set ?_ GE140.out) | exact HB.out)) hb); clear HO144; clear BK139; clear BK140; clear HB; have HO144 := n0_; have HO147 := n1_; have BK139 := n2_; have BK140 := n3_; have HB := n4_; clear n0_ n1_ n2_ n3_ n4_; (try clear hb); (try clear hb2); (try clear hk); (try clear hi); (try clear ho0); obtain ⟨Ao13, co13, eo13⟩ := Kd.R_slice HO147.out; subst eo13; have hcz14_0 : w12.cell? ⟨gb140, 0, none⟩ = some (.int .i64 0) := (blk_cell BK140.out 0).trans rfl; have hcz14_1 : w12.cell? ⟨gb140, 1, none⟩ = some (.slice none 0 0) := (blk_cell BK140.out 1).trans rfl; have hcz14_2 : w12.cell? ⟨gb140, 2, none⟩ = some (.int .i64 0) := (blk_cell BK140.out 2).trans rfl; have hfz14_0 := blk_frozen BK140.out 0; have hfz14_1 := blk_frozen BK140.out 1; have hfz14_2 := blk_frozen BK140.out 2))
  refine bodyPost_ret (results_cell_row rfl _ _ gb140 29 #[.int .i64 a0, .slice Ao13 t145.length co13, .int .i64 t141] (0, 0) _ rfl (by (with_reducible repeat (first | refine blk_drewN ?_ _ | refine blk_drew ?_ | refine blk_alloc ?_ _)); refine blk_put (cs := #[.int .i64 a0, .slice Ao13 t145.length co13, .int .i64 0]) ?_ 2 _ rfl; (with_reducible repeat (first | refine blk_drewN ?_ _ | refine blk_drew ?_ | refine blk_alloc ?_ _)); refine blk_put (cs := #[.int .i64 a0, .slice none 0 0, .int .i64 0]) ?_ 1 _ rfl; (with_reducible repeat (first | refine blk_drewN ?_ _ | refine blk_drew ?_ | refine blk_alloc ?_ _)); refine blk_put (cs := #[.int .i64 0, .slice none 0 0, .int .i64 0]) ?_ 0 _ rfl; (with_reducible repeat (first | refine blk_drewN ?_ _ | refine blk_drew ?_ | refine blk_alloc ?_ _)); exact BK140.out) Try.underlying29 rfl (by kernel_rfl)) rfl ?_
  exact ⟨_, by first | rfl | (simp [errW_none, errW_some] <;> rfl) | (simp [*, errW_none, errW_some] <;> rfl), by (with_reducible repeat (first | apply Kd.R_alloc | apply Kd.R_drewN | apply Kd.R_drew)); exact Kd.R_mono (Kd.R_far (p := ⟨gb140, 2, none⟩) (Kd.R_far (p := ⟨gb140, 1, none⟩) (Kd.R_far (p := ⟨gb140, 0, none⟩) (Kd.R_types HO147.out BK140.out (by decide)) (fun _ hk => hk.2) (.int .i64 a0)) (fun _ hk => hk.2) (.slice Ao13 t145.length co13)) (fun _ hk => hk.2) (.int .i64 t141)) (fun _ hk => trivial), by repeat (first | (with_reducible first | exact HB.out | apply below_alloc | apply pw_below_drewN | apply below_drew1 | refine below_set ?_ GE139.out | refine below_set ?_ GE140.out) | exact HB.out)⟩
def spec_l6In.f (a0 : Int) (a1 : Int) (a2 : Int) : Option (Bool) := if a0 ≥ a1 then (some (decide (a0 ≤ a2))) else (some false)
set_option maxHeartbeats 8000000 in
set_option maxRecDepth 100000 in
theorem spec_l6In.calls (a0 : Int) (a1 : Int) (a2 : Int) (r : Bool) (w : World) (h : spec_l6In.f a0 a1 a2 = some r) :
    Calls Try.prog 116 #[.int .i64 a0, .int .i64 a1, .int .i64 a2] w fun e w' => e = .returned (.bool r) ∧ Drawn0 w w' := by
  have H : (if a0 ≥ a1 then (some (decide (a0 ≤ a2))) else (some false)) = some r := h
  clear h
  by_cases c4 : a0 ≥ a1
  · rw [if_pos c4] at H
    have c4b0 : decide (a1 ≤ a0) = true := decide_eq_true c4
    clear c4
    obtain rfl := Option.some.inj H
    go_enter Try.func116, Try.ntmps116
    go_wp2
    go_ret
    exact ⟨by first | rfl | (simp; done) | (simp [*]; done), by repeat (first | exact Drawn0.refl _ | apply Drawn0.step)⟩
  · rw [if_neg c4] at H
    have c4b0 : decide (a1 ≤ a0) = false := decide_eq_false c4
    clear c4
    obtain rfl := Option.some.inj H
    go_enter Try.func116, Try.ntmps116
    go_wp2
    go_ret
    exact ⟨by first | rfl | (simp; done) | (simp [*]; done), by repeat (first | exact Drawn0.refl _ | apply Drawn0.step)⟩
def spec_l1Shape.j0 : Nat → Int → Bool → Option (Int × Int × Bool)
  | 0, _, _ => none
  | k + 1, x5, x10 => if x10 = true then (some (2, 0, true)) else (if x5 = 4 then (some (3, 0, true)) else (if x5 = 5 then (some (1, 9, true)) else (some (0, 0, false))))
def spec_l1Shape.f (k : Nat) (a0 : Int) : Option (Int × Int × Bool) := if a0 = 0 then (some (0, 96, true)) else (if a0 = 1 then (some (0, 9, true)) else (if a0 = 2 then (spec_l1Shape.j0 k a0 (a0 == 2)) else (spec_l1Shape.j0 k a0 (a0 == 3))))
set_option maxHeartbeats 8000000 in
set_option maxRecDepth 100000 in
theorem spec_l1Shape.calls (k : Nat) (a0 : Int) (r1 : Int) (r2 : Int) (r3 : Bool) (w : World) (h : spec_l1Shape.f k a0 = some (r1, r2, r3)) :
    Calls Try.prog 160 #[.int .i64 a0] w fun e w' => e = .returned (.tuple #[.int .i64 r1, .int .i64 r2, .bool r3]) ∧ Drawn0 w w' := by
  have H : (if a0 = 0 then (some (0, 96, true)) else (if a0 = 1 then (some (0, 9, true)) else (if a0 = 2 then (spec_l1Shape.j0 k a0 (a0 == 2)) else (spec_l1Shape.j0 k a0 (a0 == 3))))) = some (r1, r2, r3) := h
  clear h
  by_cases c2 : a0 = 0
  · rw [if_pos c2] at H
    have c2b0 : (a0 == 0) = true := beq_iff_eq.mpr c2
    have c2b1 : (a0 != 0) = false := bne_eq_false_iff_eq.mpr c2
    clear c2
    simp only [Option.some.injEq, Prod.mk.injEq] at H
    obtain ⟨rfl, rfl, rfl⟩ := H
    go_enter Try.func160, Try.ntmps160
    go_wp2
    go_ret3
    exact ⟨by first | rfl | (simp; done) | (simp [*]; done), by repeat (first | exact Drawn0.refl _ | apply Drawn0.step)⟩
  · rw [if_neg c2] at H
    have c2b0 : (a0 == 0) = false := beq_eq_false_iff_ne.mpr c2
    have c2b1 : (a0 != 0) = true := bne_iff_ne.mpr c2
    by_cases c3 : a0 = 1
    · rw [if_pos c3] at H
      have c3b0 : (a0 == 1) = true := beq_iff_eq.mpr c3
      have c3b1 : (a0 != 1) = false := bne_eq_false_iff_eq.mpr c3
      clear c3
      simp only [Option.some.injEq, Prod.mk.injEq] at H
      obtain ⟨rfl, rfl, rfl⟩ := H
      go_enter Try.func160, Try.ntmps160
      go_wp2
      go_ret3
      exact ⟨by first | rfl | (simp; done) | (simp [*]; done), by repeat (first | exact Drawn0.refl _ | apply Drawn0.step)⟩
    · rw [if_neg c3] at H
      have c3b0 : (a0 == 1) = false := beq_eq_false_iff_ne.mpr c3
      have c3b1 : (a0 != 1) = true := bne_iff_ne.mpr c3
      have HC4 := Aside0.mk H
      clear H
      go_enter Try.func160, Try.ntmps160
      go_upto_if 10 with (fail)
      go_cut [10] (fun v10 wc => ∃ (kq : Nat) (x10_3 : Bool), v10 = .bool x10_3 ∧ Aside0 (spec_l1Shape.j0 kq a0 x10_3 = some (r1, r2, r3)) ∧ Aside0 (kq ≤ k) ∧ Drawn0 w wc)
      case first =>
        have H := HC4.out
        clear HC4
        by_cases c5 : a0 = 2
        · rw [if_pos c5] at H
          have c5b0 : (a0 == 2) = true := beq_iff_eq.mpr c5
          have c5b1 : (a0 != 2) = false := bne_eq_false_iff_eq.mpr c5
          clear c5
          (first | rw [c5b0] | (simp only [i64_w, i32_w]; rw [c5b0]) | skip)
          have H' := Aside0.mk H
          clear H
          go_wp2
          go_meet
          case rel => exact ⟨_, ((a0 == 2)), (by first | rfl | (simp; done) | (simp [*]; done)), H', ⟨by first | omega | exact Nat.le_refl _⟩, by repeat (first | exact Drawn0.refl _ | apply Drawn0.step)⟩
        · rw [if_neg c5] at H
          have c5b0 : (a0 == 2) = false := beq_eq_false_iff_ne.mpr c5
          have c5b1 : (a0 != 2) = true := bne_iff_ne.mpr c5
          (first | rw [c5b0] | (simp only [i64_w, i32_w]; rw [c5b0]) | skip)
          have H' := Aside0.mk H
          clear H
          go_wp2
          go_meet
          case rel => exact ⟨_, ((a0 == 3)), (by first | rfl | (simp; done) | (simp [*]; done)), H', ⟨by first | omega | exact Nat.le_refl _⟩, by repeat (first | exact Drawn0.refl _ | apply Drawn0.step)⟩
      case rest =>
        clear HC4
        try clear c1
        try clear c2
        try clear c2b0
        try clear c2b1
        try clear p2
        try clear c3
        try clear c3b0
        try clear c3b1
        try clear c5
        try clear c5b0
        try clear c5b1
        obtain ⟨kq, x10_3, rfl, HA, HJ3, ⟨mc3, rfl⟩⟩ := hcut
        cases kq with
        | zero => exact absurd HA.out (by simp [spec_l1Shape.j0])
        | succ kj3 =>
          have H := HA.out
          clear HA
          simp only [spec_l1Shape.j0] at H
          by_cases c6 : x10_3 = true
          · subst c6
            have H1 : (some (2, 0, true)) = some (r1, r2, r3) := by rw [if_pos rfl] at H; exact H
            clear H
            have H := H1
            clear H1
            simp only [Option.some.injEq, Prod.mk.injEq] at H
            obtain ⟨rfl, rfl, rfl⟩ := H
            go_wp2
            go_ret3
            exact ⟨by first | rfl | (simp; done) | (simp [*]; done), by repeat (first | exact Drawn0.refl _ | apply Drawn0.step)⟩
          · replace c6 := Bool.eq_false_iff.mpr c6
            subst c6
            have H1 : (if a0 = 4 then (some (3, 0, true)) else (if a0 = 5 then (some (1, 9, true)) else (some (0, 0, false)))) = some (r1, r2, r3) := by rw [if_neg (show ¬ (false = true) by decide)] at H; exact H
            clear H
            have H := H1
            clear H1
            by_cases c7 : a0 = 4
            · rw [if_pos c7] at H
              have c7b0 : (a0 == 4) = true := beq_iff_eq.mpr c7
              have c7b1 : (a0 != 4) = false := bne_eq_false_iff_eq.mpr c7
              clear c7
              simp only [Option.some.injEq, Prod.mk.injEq] at H
              obtain ⟨rfl, rfl, rfl⟩ := H
              go_wp2
              go_ret3
              exact ⟨by first | rfl | (simp; done) | (simp [*]; done), by repeat (first | exact Drawn0.refl _ | apply Drawn0.step)⟩
            · rw [if_neg c7] at H
              have c7b0 : (a0 == 4) = false := beq_eq_false_iff_ne.mpr c7
              have c7b1 : (a0 != 4) = true := bne_iff_ne.mpr c7
              by_cases c8 : a0 = 5
              · rw [if_pos c8] at H
                have c8b0 : (a0 == 5) = true := beq_iff_eq.mpr c8
                have c8b1 : (a0 != 5) = false := bne_eq_false_iff_eq.mpr c8
                clear c8
                simp only [Option.some.injEq, Prod.mk.injEq] at H
                obtain ⟨rfl, rfl, rfl⟩ := H
                go_wp2
                go_ret3
                exact ⟨by first | rfl | (simp; done) | (simp [*]; done), by repeat (first | exact Drawn0.refl _ | apply Drawn0.step)⟩
              · rw [if_neg c8] at H
                have c8b0 : (a0 == 5) = false := beq_eq_false_iff_ne.mpr c8
                have c8b1 : (a0 != 5) = true := bne_iff_ne.mpr c8
                simp only [Option.some.injEq, Prod.mk.injEq] at H
                obtain ⟨rfl, rfl, rfl⟩ := H
                go_wp2
                go_ret3
                exact ⟨by first | rfl | (simp; done) | (simp [*]; done), by repeat (first | exact Drawn0.refl _ | apply Drawn0.step)⟩
mutual
def spec_l1Fit.j0 : Nat → Bool → Int → Int → List (S90) → Option (Bool)
  | 0, _, _, _, _ => none
  | k + 1, x29, x149000, x149001, x149002 => if x29 = true then (some false) else (spec_l1Fit.l0 k 0 x149000 x149001 x149002)
def spec_l1Fit.l0 : Nat → Int → Int → Int → List (S90) → Option (Bool)
  | 0, _, _, _, _ => none
  | k + 1, x6, x149000, x149001, x149002 => if x6 < (x149002.length : Int) then (if 0 ≤ x6 then ((spec_l1Fit.f k ((rd_T90 x149002 x6).f0) ((rd_T90 x149002 x6).f1) ((rd_T90 x149002 x6).f2)).bind fun t154 => (if t154 = true then (spec_l1Fit.l0 k (wrap64 (x6 + 1)) x149000 x149001 x149002) else (some false))) else (none)) else (some true)
def spec_l1Fit.f : Nat → Int → Int → List (S90) → Option (Bool)
  | 0, _, _, _ => none
  | k + 1, a0_0, a0_1, l0_2 => (spec_l1Shape.f k a0_0).bind fun bt149 => (if bt149.2.2 = true then (if (l0_2.length : Int) = bt149.1 then ((spec_l6In.f a0_1 0 bt149.2.1).bind fun t152 => (spec_l1Fit.j0 k (!t152) a0_0 a0_1 l0_2)) else (spec_l1Fit.j0 k true a0_0 a0_1 l0_2)) else (spec_l1Fit.j0 k true a0_0 a0_1 l0_2))
end
set_option maxHeartbeats 8000000 in
set_option maxRecDepth 100000 in
theorem spec_l1Fit.calls (k : Nat) : ∀ (a0_0 : Int) (a0_1 : Int) (A0_2 : Option Addr) (c0_2 : Nat) (l0_2 : List (S90)) (r : Bool) (w : World) (hr0_2 : Kd.C k90 w A0_2 l0_2.length l0_2) (hc0_2 : l0_2.length ≤ c0_2) (h : spec_l1Fit.f k a0_0 a0_1 l0_2 = some r),
    Calls Try.prog 149 #[.agg #[.int .i64 a0_0, .int .i64 a0_1, .slice A0_2 l0_2.length c0_2]] w fun e w' => e = .returned (.bool r) ∧ Below w.heap.size w w' := by
  induction k using Nat.strongRecOn with
  | _ k ih =>
  intro a0_0 a0_1 A0_2 c0_2 l0_2 r w hr0_2 hc0_2 h
  cases k with
  | zero => exact absurd h (by simp [spec_l1Fit.f])
  | succ k =>
  simp only [spec_l1Fit.f] at h
  have hu90 := Try.underlying90
  have HR0_2 := Aside0.mk hr0_2
  have HC0_2 := Aside0.mk hc0_2
  clear hr0_2 hc0_2
  have HB := Aside0.mk (Below.refl w.heap.size w)
  have H : ((spec_l1Shape.f k a0_0).bind fun bt149 => (if bt149.2.2 = true then (if (l0_2.length : Int) = bt149.1 then ((spec_l6In.f a0_1 0 bt149.2.1).bind fun t152 => (spec_l1Fit.j0 k (!t152) a0_0 a0_1 l0_2)) else (spec_l1Fit.j0 k true a0_0 a0_1 l0_2)) else (spec_l1Fit.j0 k true a0_0 a0_1 l0_2))) = some r := h
  clear h
  replace H := Option.bind_eq_some_iff.mp H
  obtain ⟨⟨t149, t150, t151⟩, A20, H⟩ := H
  replace H : (if t151 = true then (if (l0_2.length : Int) = t149 then ((spec_l6In.f a0_1 0 t150).bind fun t152 => (spec_l1Fit.j0 k (!t152) a0_0 a0_1 l0_2)) else (spec_l1Fit.j0 k true a0_0 a0_1 l0_2)) else (spec_l1Fit.j0 k true a0_0 a0_1 l0_2)) = some r := H
  have A2 := Aside0.mk A20
  clear A20
  have HC3 := Aside0.mk H
  clear H
  go_enter Try.func149, Try.ntmps149
  go_upto_region 2 with (first | ((with_reducible refine gate_dst (N := 1) rfl ?_); (try (refine gate_guard (by rfl) ?_; dsimp only)); refine box_event ?hg (N := 1) ?hd (cs := #[.int .i64 a0_0, .int .i64 a0_1, .slice A0_2 l0_2.length c0_2]) (t := 90) ?hr ?_; (case hd => rfl); (case hg => rfl); (case hr => first | (go_simp; done) | (go_simp; rfl)); intro gb148 hg w4 hbox hb; have n0_ := Aside0.mk (below_step (by repeat (first | (with_reducible first | exact HB.out | apply below_alloc | apply pw_below_drewN | apply below_drew1) | exact HB.out)) hb); have n1_ := Aside0.mk (hbox); have n2_ := Aside0.mk ((by rw [hg]; exact (below_size (by repeat (first | (with_reducible first | exact HB.out | apply below_alloc | apply pw_below_drewN | apply below_drew1) | exact HB.out))) : w.heap.size ≤ gb148)); have n3_ := Aside0.mk ((by rw [hg]; exact (below_size (by repeat (first | (with_reducible first | exact HB.out | apply below_alloc | apply pw_below_drewN | apply below_drew1) | exact HB.out))) : w.heap.size ≤ gb148)); clear HB; have HB := n0_; have BK148 := n1_; have GW148 := n2_; have GE148 := n3_; clear n0_ n1_ n2_ n3_; clear hb hbox hg; have hcz5_0 : w4.cell? ⟨gb148, 0, none⟩ = some (.int .i64 a0_0) := (blk_cell BK148.out 0).trans rfl; have hcz5_1 : w4.cell? ⟨gb148, 1, none⟩ = some (.int .i64 a0_1) := (blk_cell BK148.out 1).trans rfl; have hcz5_2 : w4.cell? ⟨gb148, 2, none⟩ = some (.slice A0_2 l0_2.length c0_2) := (blk_cell BK148.out 2).trans rfl; have hfz5_0 := blk_frozen BK148.out 0; have hfz5_1 := blk_frozen BK148.out 1; have hfz5_2 := blk_frozen BK148.out 2) | ((with_reducible refine gate_callee (f := 160) rfl ?_); refine goesL_ (some 10) rfl rfl Try.func160 (by kernel_rfl) rfl #[.int .i64 a0_0] rfl (by (try simp only [List.map_toArray, List.map_cons, List.map_nil]); first | done | rfl | (simp only [List.length_drop, List.length_take]; rfl)) ?_; (with_reducible refine (spec_l1Shape.calls k a0_0 t149 t150 t151 _ A2.out).mono ?_); rintro e w' ⟨rfl, ⟨nd, rfl⟩⟩; refine ⟨_, rfl, ?_⟩))
  (try simp only [Act.put, List.setIfInBounds_toArray, List.set_cons_zero, List.set_cons_succ])
  go_cut [29] (fun v29 wc => ∃ (kq : Nat) (x29_2 : Bool), v29 = .bool x29_2 ∧ Aside0 (spec_l1Fit.j0 kq x29_2 a0_0 a0_1 l0_2 = some r) ∧ Aside0 (kq ≤ k) ∧ Aside0 (wc.heap[gb148]? = some (.cells #[.int .i64 a0_0, .int .i64 a0_1, (.slice A0_2 l0_2.length c0_2)] 90 (0, 0))) ∧ Aside0 (Below w.heap.size w wc))
  case first =>
    have H := HC3.out
    clear HC3
    by_cases c6 : t151 = true
    · subst c6
      have H1 : (if (l0_2.length : Int) = t149 then ((spec_l6In.f a0_1 0 t150).bind fun t152 => (spec_l1Fit.j0 k (!t152) a0_0 a0_1 l0_2)) else (spec_l1Fit.j0 k true a0_0 a0_1 l0_2)) = some r := by rw [if_pos rfl] at H; exact H
      clear H
      have H := H1
      clear H1
      by_cases c7 : (l0_2.length : Int) = t149
      · rw [if_pos c7] at H
        have c7b0 : ((l0_2.length : Int) == t149) = true := beq_iff_eq.mpr c7
        have c7b1 : ((l0_2.length : Int) != t149) = false := bne_eq_false_iff_eq.mpr c7
        clear c7
        (first | rw [c7b0] | (simp only [i64_w, i32_w]; rw [c7b0]) | skip)
        replace H := Option.bind_eq_some_iff.mp H
        obtain ⟨t152, A80, H⟩ := H
        replace H : (spec_l1Fit.j0 k (!t152) a0_0 a0_1 l0_2) = some r := H
        have A8 := Aside0.mk A80
        clear A80
        have H' := Aside0.mk H
        clear H
        have hcz9_0 : w4.cell? ⟨gb148, 0, none⟩ = some (.int .i64 a0_0) := (blk_cell BK148.out 0).trans rfl
        have hcz9_1 : w4.cell? ⟨gb148, 1, none⟩ = some (.int .i64 a0_1) := (blk_cell BK148.out 1).trans rfl
        have hcz9_2 : w4.cell? ⟨gb148, 2, none⟩ = some (.slice A0_2 l0_2.length c0_2) := (blk_cell BK148.out 2).trans rfl
        have hfz9_0 := blk_frozen BK148.out 0
        have hfz9_1 := blk_frozen BK148.out 1
        have hfz9_2 := blk_frozen BK148.out 2
        go_wp2_with (first | (go_at_call 116; (with_reducible refine (spec_l6In.calls a0_1 0 t150 t152 _ A8.out).mono ?_); rintro e w' ⟨rfl, ⟨nd, rfl⟩⟩))
        go_meet
        case rel => exact ⟨_, (!t152), (by first | rfl | (simp; done) | (simp [*]; done)), H', ⟨by first | omega | exact Nat.le_refl _⟩, ⟨by (with_reducible repeat (first | refine blk_drewN ?_ _ | refine blk_drew ?_ | refine blk_alloc ?_ _)); exact BK148.out⟩, ⟨by repeat (first | (with_reducible first | exact HB.out | apply below_alloc | apply pw_below_drewN | apply below_drew1 | refine below_set ?_ GE148.out) | exact HB.out)⟩⟩
      · rw [if_neg c7] at H
        have c7b0 : ((l0_2.length : Int) == t149) = false := beq_eq_false_iff_ne.mpr c7
        have c7b1 : ((l0_2.length : Int) != t149) = true := bne_iff_ne.mpr c7
        (first | rw [c7b0] | (simp only [i64_w, i32_w]; rw [c7b0]) | skip)
        have H' := Aside0.mk H
        clear H
        have hcz10_0 : w4.cell? ⟨gb148, 0, none⟩ = some (.int .i64 a0_0) := (blk_cell BK148.out 0).trans rfl
        have hcz10_1 : w4.cell? ⟨gb148, 1, none⟩ = some (.int .i64 a0_1) := (blk_cell BK148.out 1).trans rfl
        have hcz10_2 : w4.cell? ⟨gb148, 2, none⟩ = some (.slice A0_2 l0_2.length c0_2) := (blk_cell BK148.out 2).trans rfl
        have hfz10_0 := blk_frozen BK148.out 0
        have hfz10_1 := blk_frozen BK148.out 1
        have hfz10_2 := blk_frozen BK148.out 2
        go_wp2
        go_meet
        case rel => exact ⟨_, (true), (by first | rfl | (simp; done) | (simp [*]; done)), H', ⟨by first | omega | exact Nat.le_refl _⟩, ⟨by (with_reducible repeat (first | refine blk_drewN ?_ _ | refine blk_drew ?_ | refine blk_alloc ?_ _)); exact BK148.out⟩, ⟨by repeat (first | (with_reducible first | exact HB.out | apply below_alloc | apply pw_below_drewN | apply below_drew1 | refine below_set ?_ GE148.out) | exact HB.out)⟩⟩
    · replace c6 := Bool.eq_false_iff.mpr c6
      subst c6
      have H1 : (spec_l1Fit.j0 k true a0_0 a0_1 l0_2) = some r := by rw [if_neg (show ¬ (false = true) by decide)] at H; exact H
      clear H
      have H := H1
      clear H1
      have H' := Aside0.mk H
      clear H
      go_wp2
      go_meet
      case rel => exact ⟨_, (true), (by first | rfl | (simp; done) | (simp [*]; done)), H', ⟨by first | omega | exact Nat.le_refl _⟩, ⟨by (with_reducible repeat (first | refine blk_drewN ?_ _ | refine blk_drew ?_ | refine blk_alloc ?_ _)); exact BK148.out⟩, ⟨by repeat (first | (with_reducible first | exact HB.out | apply below_alloc | apply pw_below_drewN | apply below_drew1 | refine below_set ?_ GE148.out) | exact HB.out)⟩⟩
  case rest =>
    clear HC3
    try clear c1
    try clear p2
    try clear c6
    try clear c7
    try clear c7b0
    try clear c7b1
    try clear hcz10_0
    try clear hcz10_1
    try clear hcz10_2
    try clear hcz5_0
    try clear hcz5_1
    try clear hcz5_2
    try clear hcz9_0
    try clear hcz9_1
    try clear hcz9_2
    try clear hfz10_0
    try clear hfz10_1
    try clear hfz10_2
    try clear hfz5_0
    try clear hfz5_1
    try clear hfz5_2
    try clear hfz9_0
    try clear hfz9_1
    try clear hfz9_2
    obtain ⟨kq, x29_2, rfl, HA, HJ2, BK148, HB⟩ := hcut
    cases kq with
    | zero => exact absurd HA.out (by simp [spec_l1Fit.j0])
    | succ kj2 =>
      have H := HA.out
      clear HA
      simp only [spec_l1Fit.j0] at H
      by_cases c11 : x29_2 = true
      · subst c11
        have H1 : (some false) = some r := by rw [if_pos rfl] at H; exact H
        clear H
        have H := H1
        clear H1
        obtain rfl := Option.some.inj H
        go_wp2
        go_ret
        exact ⟨by first | rfl | (simp [errW_none, errW_some] <;> rfl) | (simp [*, errW_none, errW_some] <;> rfl), by repeat (first | (with_reducible first | exact HB.out | apply below_alloc | apply pw_below_drewN | apply below_drew1 | refine below_set ?_ GE148.out) | exact HB.out)⟩
      · replace c11 := Bool.eq_false_iff.mpr c11
        subst c11
        have H1 : (spec_l1Fit.l0 kj2 0 a0_0 a0_1 l0_2) = some r := by rw [if_neg (show ¬ (false = true) by decide)] at H; exact H
        clear H
        have H := H1
        clear H1
        have H' := Aside0.mk H
        clear H
        go_wp2
        go_loopg [6] kj2 (fun kq v6 w' => ∃ (x6_2 : Int), v6 = .int .i64 x6_2 ∧ Aside0 (spec_l1Fit.l0 kq x6_2 a0_0 a0_1 l0_2 = some r) ∧ Aside0 (kq ≤ kj2) ∧ Aside0 (w'.heap[gb148]? = some (.cells #[.int .i64 a0_0, .int .i64 a0_1, (.slice A0_2 l0_2.length c0_2)] 90 (0, 0))) ∧ Aside0 (Below w.heap.size w w'))
        case atStart => exact ⟨(0), (by first | rfl | (simp; done) | (simp [*]; done)), H', ⟨Nat.le_refl _⟩, ⟨by (with_reducible repeat (first | refine blk_drewN ?_ _ | refine blk_drew ?_ | refine blk_alloc ?_ _)); exact BK148.out⟩, ⟨by repeat (first | (with_reducible first | exact HB.out | apply below_alloc | apply pw_below_drewN | apply below_drew1 | refine below_set ?_ GE148.out) | exact HB.out)⟩⟩
        case round =>
          clear H'
          try clear c1
          try clear p2
          try clear c6
          try clear c7
          try clear c7b0
          try clear c7b1
          try clear c11
          try clear hcz10_0
          try clear hcz10_1
          try clear hcz10_2
          try clear hcz5_0
          try clear hcz5_1
          try clear hcz5_2
          try clear hcz9_0
          try clear hcz9_1
          try clear hcz9_2
          try clear hfz10_0
          try clear hfz10_1
          try clear hfz10_2
          try clear hfz5_0
          try clear hfz5_1
          try clear hfz5_2
          try clear hfz9_0
          try clear hfz9_1
          try clear hfz9_2
          try clear p2
          obtain ⟨x6_2, rfl, HA, HK2, BK148, HB⟩ := hrel
          cases gk with
          | zero => exact absurd HA.out (by simp [spec_l1Fit.l0])
          | succ k2 =>
            have H := HA.out
            clear HA
            simp only [spec_l1Fit.l0] at H
            by_cases c12 : x6_2 < (l0_2.length : Int)
            · rw [if_pos c12] at H
              have c12b0 : decide (x6_2 < (l0_2.length : Int)) = true := decide_eq_true c12
              clear c12
              by_cases c13 : 0 ≤ x6_2
              · rw [if_pos c13] at H
                have c13b0 : decide (0 ≤ x6_2) = true := decide_eq_true c13
                clear c13
                replace H := Option.bind_eq_some_iff.mp H
                obtain ⟨t154, A140, H⟩ := H
                replace H : (if t154 = true then (spec_l1Fit.l0 k2 (wrap64 (x6_2 + 1)) a0_0 a0_1 l0_2) else (some false)) = some r := H
                have A14 := Aside0.mk A140
                clear A140
                by_cases c15 : t154 = true
                · subst c15
                  have H1 : (spec_l1Fit.l0 k2 (wrap64 (x6_2 + 1)) a0_0 a0_1 l0_2) = some r := by rw [if_pos rfl] at H; exact H
                  clear H
                  have H := H1
                  clear H1
                  have H' := Aside0.mk H
                  clear H
                  have hcz16_0 : wr.cell? ⟨gb148, 0, none⟩ = some (.int .i64 a0_0) := (blk_cell BK148.out 0).trans rfl
                  have hcz16_1 : wr.cell? ⟨gb148, 1, none⟩ = some (.int .i64 a0_1) := (blk_cell BK148.out 1).trans rfl
                  have hcz16_2 : wr.cell? ⟨gb148, 2, none⟩ = some (.slice A0_2 l0_2.length c0_2) := (blk_cell BK148.out 2).trans rfl
                  have hfz16_0 := blk_frozen BK148.out 0
                  have hfz16_1 := blk_frozen BK148.out 1
                  have hfz16_2 := blk_frozen BK148.out 2
                  have p153 : 0 ≤ (x6_2 : Int) := of_decide_eq_true (by first | (with_reducible assumption) | assumption)
                  have q153 : x6_2 < (l0_2.length : Int) := of_decide_eq_true (by first | (with_reducible assumption) | assumption)
                  obtain ⟨ad153, A153_2, c153_2, e153, hx153_0, hx153_1, hx153_2, hl153_2, hi153_2⟩ := at_T90 HR0_2.out x6_2 p153 q153
                  cases e153
                  replace hx153_0 := (HB.out.cell (World.block_lt_of_cell? w _ hx153_0)).trans hx153_0
                  replace hx153_1 := (HB.out.cell (World.block_lt_of_cell? w _ hx153_1)).trans hx153_1
                  replace hx153_2 := (HB.out.cell (World.block_lt_of_cell? w _ hx153_2)).trans hx153_2
                  have HR153_2 := Aside0.mk hi153_2
                  have HC153_2 := Aside0.mk hl153_2
                  clear hi153_2 hl153_2
                  replace p153 := eq_true p153
                  replace q153 := eq_true q153
                  go_wp2_with (first | ((with_reducible refine gate_callee (f := 149) rfl ?_); refine goesL_ (some 42) rfl rfl Try.func149 (by kernel_rfl) rfl #[.agg #[.int .i64 ((rd_T90 l0_2 x6_2).f0), .int .i64 ((rd_T90 l0_2 x6_2).f1), .slice A153_2 ((rd_T90 l0_2 x6_2).f2).length c153_2]] rfl (by (try simp only [List.map_toArray, List.map_cons, List.map_nil]); first | done | rfl | (simp only [List.length_drop, List.length_take]; rfl)) ?_; (with_reducible refine (ih k2 (by have := HJ2.out; have := HK2.out; omega) ((rd_T90 l0_2 x6_2).f0) ((rd_T90 l0_2 x6_2).f1) _ _ ((rd_T90 l0_2 x6_2).f2) true _ ?side1 ?side2 A14.out).mono ?_); (case side1 => repeat (first | exact (Kd.C_below HR153_2.out HB.out) | (with_reducible refine Kd.C_alloc ?_ _) | (with_reducible refine Kd.C_drewN ?_ _) | (with_reducible refine Kd.C_drew ?_))); (case side2 => exact HC153_2.out); rintro e w17 ⟨rfl, hb⟩; refine ⟨_, rfl, ?_⟩; have n0_ := Aside0.mk (blk_below (g := gb148) (o := .cells #[.int .i64 a0_0, .int .i64 a0_1, .slice (some ad153) l0_2.length c0_2] 90 (0, 0)) (by (with_reducible repeat (first | refine blk_drewN ?_ _ | refine blk_drew ?_ | refine blk_alloc ?_ _)); exact BK148.out) hb); have n1_ := Aside0.mk (below_step (by repeat (first | (with_reducible first | exact HB.out | apply below_alloc | apply pw_below_drewN | apply below_drew1 | refine below_set ?_ GE148.out) | exact HB.out)) hb); clear BK148; clear HB; have BK148 := n0_; have HB := n1_; clear n0_ n1_; (try clear hb); (try clear hb2); (try clear hk); (try clear hi)))
                  go_roundg k2
                  case measure => have := HJ2.out; have := HK2.out; omega
                  case rel => exact ⟨(wrap64 (x6_2 + 1)), (by first | rfl | (simp; done) | (simp [*]; done)), H', ⟨by have := HJ2.out; have := HK2.out; omega⟩, ⟨by (with_reducible repeat (first | refine blk_drewN ?_ _ | refine blk_drew ?_ | refine blk_alloc ?_ _)); exact BK148.out⟩, ⟨by repeat (first | (with_reducible first | exact HB.out | apply below_alloc | apply pw_below_drewN | apply below_drew1 | refine below_set ?_ GE148.out) | exact HB.out)⟩⟩
                · replace c15 := Bool.eq_false_iff.mpr c15
                  subst c15
                  have H1 : (some false) = some r := by rw [if_neg (show ¬ (false = true) by decide)] at H; exact H
                  clear H
                  have H := H1
                  clear H1
                  obtain rfl := Option.some.inj H
                  have hcz18_0 : wr.cell? ⟨gb148, 0, none⟩ = some (.int .i64 a0_0) := (blk_cell BK148.out 0).trans rfl
                  have hcz18_1 : wr.cell? ⟨gb148, 1, none⟩ = some (.int .i64 a0_1) := (blk_cell BK148.out 1).trans rfl
                  have hcz18_2 : wr.cell? ⟨gb148, 2, none⟩ = some (.slice A0_2 l0_2.length c0_2) := (blk_cell BK148.out 2).trans rfl
                  have hfz18_0 := blk_frozen BK148.out 0
                  have hfz18_1 := blk_frozen BK148.out 1
                  have hfz18_2 := blk_frozen BK148.out 2
                  have p153 : 0 ≤ (x6_2 : Int) := of_decide_eq_true (by first | (with_reducible assumption) | assumption)
                  have q153 : x6_2 < (l0_2.length : Int) := of_decide_eq_true (by first | (with_reducible assumption) | assumption)
                  obtain ⟨ad153, A153_2, c153_2, e153, hx153_0, hx153_1, hx153_2, hl153_2, hi153_2⟩ := at_T90 HR0_2.out x6_2 p153 q153
                  cases e153
                  replace hx153_0 := (HB.out.cell (World.block_lt_of_cell? w _ hx153_0)).trans hx153_0
                  replace hx153_1 := (HB.out.cell (World.block_lt_of_cell? w _ hx153_1)).trans hx153_1
                  replace hx153_2 := (HB.out.cell (World.block_lt_of_cell? w _ hx153_2)).trans hx153_2
                  have HR153_2 := Aside0.mk hi153_2
                  have HC153_2 := Aside0.mk hl153_2
                  clear hi153_2 hl153_2
                  replace p153 := eq_true p153
                  replace q153 := eq_true q153
                  go_wp2_with (first | ((with_reducible refine gate_callee (f := 149) rfl ?_); refine goesL_ (some 42) rfl rfl Try.func149 (by kernel_rfl) rfl #[.agg #[.int .i64 ((rd_T90 l0_2 x6_2).f0), .int .i64 ((rd_T90 l0_2 x6_2).f1), .slice A153_2 ((rd_T90 l0_2 x6_2).f2).length c153_2]] rfl (by (try simp only [List.map_toArray, List.map_cons, List.map_nil]); first | done | rfl | (simp only [List.length_drop, List.length_take]; rfl)) ?_; (with_reducible refine (ih k2 (by have := HJ2.out; have := HK2.out; omega) ((rd_T90 l0_2 x6_2).f0) ((rd_T90 l0_2 x6_2).f1) _ _ ((rd_T90 l0_2 x6_2).f2) false _ ?side1 ?side2 A14.out).mono ?_); (case side1 => repeat (first | exact (Kd.C_below HR153_2.out HB.out) | (with_reducible refine Kd.C_alloc ?_ _) | (with_reducible refine Kd.C_drewN ?_ _) | (with_reducible refine Kd.C_drew ?_))); (case side2 => exact HC153_2.out); rintro e w19 ⟨rfl, hb⟩; refine ⟨_, rfl, ?_⟩; have n0_ := Aside0.mk (blk_below (g := gb148) (o := .cells #[.int .i64 a0_0, .int .i64 a0_1, .slice (some ad153) l0_2.length c0_2] 90 (0, 0)) (by (with_reducible repeat (first | refine blk_drewN ?_ _ | refine blk_drew ?_ | refine blk_alloc ?_ _)); exact BK148.out) hb); have n1_ := Aside0.mk (below_step (by repeat (first | (with_reducible first | exact HB.out | apply below_alloc | apply pw_below_drewN | apply below_drew1 | refine below_set ?_ GE148.out) | exact HB.out)) hb); clear BK148; clear HB; have BK148 := n0_; have HB := n1_; clear n0_ n1_; (try clear hb); (try clear hb2); (try clear hk); (try clear hi)))
                  go_ret
                  exact ⟨by first | rfl | (simp [errW_none, errW_some] <;> rfl) | (simp [*, errW_none, errW_some] <;> rfl), by repeat (first | (with_reducible first | exact HB.out | apply below_alloc | apply pw_below_drewN | apply below_drew1 | refine below_set ?_ GE148.out) | exact HB.out)⟩
              · rw [if_neg c13] at H
                exact absurd H (by simp)
            · rw [if_neg c12] at H
              have c12b0 : decide (x6_2 < (l0_2.length : Int)) = false := decide_eq_false c12
              clear c12
              obtain rfl := Option.some.inj H
              have hcz20_0 : wr.cell? ⟨gb148, 0, none⟩ = some (.int .i64 a0_0) := (blk_cell BK148.out 0).trans rfl
              have hcz20_1 : wr.cell? ⟨gb148, 1, none⟩ = some (.int .i64 a0_1) := (blk_cell BK148.out 1).trans rfl
              have hcz20_2 : wr.cell? ⟨gb148, 2, none⟩ = some (.slice A0_2 l0_2.length c0_2) := (blk_cell BK148.out 2).trans rfl
              have hfz20_0 := blk_frozen BK148.out 0
              have hfz20_1 := blk_frozen BK148.out 1
              have hfz20_2 := blk_frozen BK148.out 2
              go_wp2
              go_ret
              exact ⟨by first | rfl | (simp [errW_none, errW_some] <;> rfl) | (simp [*, errW_none, errW_some] <;> rfl), by repeat (first | (with_reducible first | exact HB.out | apply below_alloc | apply pw_below_drewN | apply below_drew1 | refine below_set ?_ GE148.out) | exact HB.out)⟩
mutual
def spec_l1Nodes.l0 : Nat → Int → Int → Int → Int → List (S90) → Option (Int)
  | 0, _, _, _, _, _ => none
  | k + 1, x3, x4, x156000, x156001, x156002 => if x4 < (x156002.length : Int) then (if 0 ≤ x4 then ((spec_l1Nodes.f k ((rd_T90 x156002 x4).f0) ((rd_T90 x156002 x4).f1) ((rd_T90 x156002 x4).f2)).bind fun t157 => (spec_l1Nodes.l0 k (wrap64 (x3 + t157)) (wrap64 (x4 + 1)) x156000 x156001 x156002)) else (none)) else (some x3)
def spec_l1Nodes.f : Nat → Int → Int → List (S90) → Option (Int)
  | 0, _, _, _ => none
  | k + 1, a0_0, a0_1, l0_2 => spec_l1Nodes.l0 k 1 0 a0_0 a0_1 l0_2
end
set_option maxHeartbeats 8000000 in
set_option maxRecDepth 100000 in
theorem spec_l1Nodes.calls (k : Nat) : ∀ (a0_0 : Int) (a0_1 : Int) (A0_2 : Option Addr) (c0_2 : Nat) (l0_2 : List (S90)) (r : Int) (w : World) (hr0_2 : Kd.C k90 w A0_2 l0_2.length l0_2) (hc0_2 : l0_2.length ≤ c0_2) (h : spec_l1Nodes.f k a0_0 a0_1 l0_2 = some r),
    Calls Try.prog 150 #[.agg #[.int .i64 a0_0, .int .i64 a0_1, .slice A0_2 l0_2.length c0_2]] w fun e w' => e = .returned (.int .i64 r) ∧ Below w.heap.size w w' := by
  induction k using Nat.strongRecOn with
  | _ k ih =>
  intro a0_0 a0_1 A0_2 c0_2 l0_2 r w hr0_2 hc0_2 h
  cases k with
  | zero => exact absurd h (by simp [spec_l1Nodes.f])
  | succ k =>
  simp only [spec_l1Nodes.f] at h
  have hu90 := Try.underlying90
  have HR0_2 := Aside0.mk hr0_2
  have HC0_2 := Aside0.mk hc0_2
  clear hr0_2 hc0_2
  have HB := Aside0.mk (Below.refl w.heap.size w)
  have H : (spec_l1Nodes.l0 k 1 0 a0_0 a0_1 l0_2) = some r := h
  clear h
  have H' := Aside0.mk H
  clear H
  go_enter Try.func150, Try.ntmps150
  go_wp2_with (first | ((with_reducible refine gate_dst (N := 1) rfl ?_); refine box_event ?hg (N := 1) ?hd (cs := #[.int .i64 a0_0, .int .i64 a0_1, .slice A0_2 l0_2.length c0_2]) (t := 90) ?hr ?_; (case hd => rfl); (case hg => rfl); (case hr => first | (go_simp; done) | (go_simp; rfl)); intro gb155 hg w2 hbox hb; have n0_ := Aside0.mk (below_step (by repeat (first | (with_reducible first | exact HB.out | apply below_alloc | apply pw_below_drewN | apply below_drew1) | exact HB.out)) hb); have n1_ := Aside0.mk (hbox); have n2_ := Aside0.mk ((by rw [hg]; exact (below_size (by repeat (first | (with_reducible first | exact HB.out | apply below_alloc | apply pw_below_drewN | apply below_drew1) | exact HB.out))) : w.heap.size ≤ gb155)); have n3_ := Aside0.mk ((by rw [hg]; exact (below_size (by repeat (first | (with_reducible first | exact HB.out | apply below_alloc | apply pw_below_drewN | apply below_drew1) | exact HB.out))) : w.heap.size ≤ gb155)); clear HB; have HB := n0_; have BK155 := n1_; have GW155 := n2_; have GE155 := n3_; clear n0_ n1_ n2_ n3_; clear hb hbox hg))
  go_loopg [3, 4] k (fun kq v3 v4 w' => ∃ (x3_1 : Int) (x4_1 : Int), v3 = .int .i64 x3_1 ∧ v4 = .int .i64 x4_1 ∧ Aside0 (spec_l1Nodes.l0 kq x3_1 x4_1 a0_0 a0_1 l0_2 = some r) ∧ Aside0 (kq ≤ k) ∧ Aside0 (w'.heap[gb155]? = some (.cells #[.int .i64 a0_0, .int .i64 a0_1, (.slice A0_2 l0_2.length c0_2)] 90 (0, 0))) ∧ Aside0 (Below w.heap.size w w'))
  case atStart => exact ⟨(1), (0), (by first | rfl | (simp; done) | (simp [*]; done)), (by first | rfl | (simp; done) | (simp [*]; done)), H', ⟨Nat.le_refl _⟩, ⟨by (with_reducible repeat (first | refine blk_drewN ?_ _ | refine blk_drew ?_ | refine blk_alloc ?_ _)); exact BK155.out⟩, ⟨by repeat (first | (with_reducible first | exact HB.out | apply below_alloc | apply pw_below_drewN | apply below_drew1 | refine below_set ?_ GE155.out) | exact HB.out)⟩⟩
  case round =>
    clear H'
    try clear c1
    try clear p2
    obtain ⟨x3_1, x4_1, rfl, rfl, HA, HK1, BK155, HB⟩ := hrel
    cases gk with
    | zero => exact absurd HA.out (by simp [spec_l1Nodes.l0])
    | succ k1 =>
      have H := HA.out
      clear HA
      simp only [spec_l1Nodes.l0] at H
      by_cases c3 : x4_1 < (l0_2.length : Int)
      · rw [if_pos c3] at H
        have c3b0 : decide (x4_1 < (l0_2.length : Int)) = true := decide_eq_true c3
        clear c3
        by_cases c4 : 0 ≤ x4_1
        · rw [if_pos c4] at H
          have c4b0 : decide (0 ≤ x4_1) = true := decide_eq_true c4
          clear c4
          replace H := Option.bind_eq_some_iff.mp H
          obtain ⟨t157, A50, H⟩ := H
          replace H : (spec_l1Nodes.l0 k1 (wrap64 (x3_1 + t157)) (wrap64 (x4_1 + 1)) a0_0 a0_1 l0_2) = some r := H
          have A5 := Aside0.mk A50
          clear A50
          have H' := Aside0.mk H
          clear H
          have hcz6_0 : wr.cell? ⟨gb155, 0, none⟩ = some (.int .i64 a0_0) := (blk_cell BK155.out 0).trans rfl
          have hcz6_1 : wr.cell? ⟨gb155, 1, none⟩ = some (.int .i64 a0_1) := (blk_cell BK155.out 1).trans rfl
          have hcz6_2 : wr.cell? ⟨gb155, 2, none⟩ = some (.slice A0_2 l0_2.length c0_2) := (blk_cell BK155.out 2).trans rfl
          have hfz6_0 := blk_frozen BK155.out 0
          have hfz6_1 := blk_frozen BK155.out 1
          have hfz6_2 := blk_frozen BK155.out 2
          have p156 : 0 ≤ (x4_1 : Int) := of_decide_eq_true (by first | (with_reducible assumption) | assumption)
          have q156 : x4_1 < (l0_2.length : Int) := of_decide_eq_true (by first | (with_reducible assumption) | assumption)
          obtain ⟨ad156, A156_2, c156_2, e156, hx156_0, hx156_1, hx156_2, hl156_2, hi156_2⟩ := at_T90 HR0_2.out x4_1 p156 q156
          cases e156
          replace hx156_0 := (HB.out.cell (World.block_lt_of_cell? w _ hx156_0)).trans hx156_0
          replace hx156_1 := (HB.out.cell (World.block_lt_of_cell? w _ hx156_1)).trans hx156_1
          replace hx156_2 := (HB.out.cell (World.block_lt_of_cell? w _ hx156_2)).trans hx156_2
          have HR156_2 := Aside0.mk hi156_2
          have HC156_2 := Aside0.mk hl156_2
          clear hi156_2 hl156_2
          replace p156 := eq_true p156
          replace q156 := eq_true q156
          go_wp2_with (first | ((with_reducible refine gate_callee (f := 150) rfl ?_); refine goesL_ (some 18) rfl rfl Try.func150 (by kernel_rfl) rfl #[.agg #[.int .i64 ((rd_T90 l0_2 x4_1).f0), .int .i64 ((rd_T90 l0_2 x4_1).f1), .slice A156_2 ((rd_T90 l0_2 x4_1).f2).length c156_2]] rfl (by (try simp only [List.map_toArray, List.map_cons, List.map_nil]); first | done | rfl | (simp only [List.length_drop, List.length_take]; rfl)) ?_; (with_reducible refine (ih k1 (by have := HK1.out; omega) ((rd_T90 l0_2 x4_1).f0) ((rd_T90 l0_2 x4_1).f1) _ _ ((rd_T90 l0_2 x4_1).f2) t157 _ ?side1 ?side2 A5.out).mono ?_); (case side1 => repeat (first | exact (Kd.C_below HR156_2.out HB.out) | (with_reducible refine Kd.C_alloc ?_ _) | (with_reducible refine Kd.C_drewN ?_ _) | (with_reducible refine Kd.C_drew ?_))); (case side2 => exact HC156_2.out); rintro e w7 ⟨rfl, hb⟩; refine ⟨_, rfl, ?_⟩; have n0_ := Aside0.mk (blk_below (g := gb155) (o := .cells #[.int .i64 a0_0, .int .i64 a0_1, .slice (some ad156) l0_2.length c0_2] 90 (0, 0)) (by (with_reducible repeat (first | refine blk_drewN ?_ _ | refine blk_drew ?_ | refine blk_alloc ?_ _)); exact BK155.out) hb); have n1_ := Aside0.mk (below_step (by repeat (first | (with_reducible first | exact HB.out | apply below_alloc | apply pw_below_drewN | apply below_drew1 | refine below_set ?_ GE155.out) | exact HB.out)) hb); clear BK155; clear HB; have BK155 := n0_; have HB := n1_; clear n0_ n1_; (try clear hb); (try clear hb2); (try clear hk); (try clear hi)))
          go_roundg k1
          case measure => have := HK1.out; omega
          case rel => exact ⟨(wrap64 (x3_1 + t157)), (wrap64 (x4_1 + 1)), (by first | rfl | (simp; done) | (simp [*]; done)), (by first | rfl | (simp; done) | (simp [*]; done)), H', ⟨by have := HK1.out; omega⟩, ⟨by (with_reducible repeat (first | refine blk_drewN ?_ _ | refine blk_drew ?_ | refine blk_alloc ?_ _)); exact BK155.out⟩, ⟨by repeat (first | (with_reducible first | exact HB.out | apply below_alloc | apply pw_below_drewN | apply below_drew1 | refine below_set ?_ GE155.out) | exact HB.out)⟩⟩
        · rw [if_neg c4] at H
          exact absurd H (by simp)
      · rw [if_neg c3] at H
        have c3b0 : decide (x4_1 < (l0_2.length : Int)) = false := decide_eq_false c3
        clear c3
        obtain rfl := Option.some.inj H
        have hcz8_0 : wr.cell? ⟨gb155, 0, none⟩ = some (.int .i64 a0_0) := (blk_cell BK155.out 0).trans rfl
        have hcz8_1 : wr.cell? ⟨gb155, 1, none⟩ = some (.int .i64 a0_1) := (blk_cell BK155.out 1).trans rfl
        have hcz8_2 : wr.cell? ⟨gb155, 2, none⟩ = some (.slice A0_2 l0_2.length c0_2) := (blk_cell BK155.out 2).trans rfl
        have hfz8_0 := blk_frozen BK155.out 0
        have hfz8_1 := blk_frozen BK155.out 1
        have hfz8_2 := blk_frozen BK155.out 2
        go_wp2
        go_ret
        exact ⟨by first | rfl | (simp [errW_none, errW_some] <;> rfl) | (simp [*, errW_none, errW_some] <;> rfl), by repeat (first | (with_reducible first | exact HB.out | apply below_alloc | apply pw_below_drewN | apply below_drew1 | refine below_set ?_ GE155.out) | exact HB.out)⟩
end Go.Proofs.Ytofieekbhbkliaa.G
end
