-- Written by pack.py (ours): the claim's texts, cut down to what its theorem reaches.
import Derived.Test.YtgbjbpjmbghlbaaKFnExactTracesHonest3
set_option maxHeartbeats 8000000
set_option maxRecDepth 100000
set_option linter.unusedVariables false
set_option linter.unusedSimpArgs false
section
namespace Go.Proofs.Ytgbjbpjmbghlbaa.G
open Go.RowKit Go.Proofs.YtgbjbpjmbghlbaaW.PrintWords Go.Proofs.YtgbjbpjmbghlbaaW.PrintLast Go.Proofs.YtgbjbpjmbghlbaaW.PrintMore
abbrev TR := Int × Bool × Int × Int
abbrev IsTape := @IsS179
def getT (got : List Int) (a lk n : Int) : TR := if a = (got.length : Int) then (0, false, a, n) else (rd got a, true, a + 1, lk)
theorem getT_f (got : List Int) (a lk n : Int) (h0 : 0 ≤ a) (h1 : a ≤ (got.length : Int)) (hl : got.length ≤ 1000000) : spec_l2Tape_get.f got a lk n = some (getT got a lk n) := by
  unfold spec_l2Tape_get.f getT
  by_cases h : a = (got.length : Int)
  · rw [if_pos h, if_pos h]
  · rw [if_neg h, if_neg h, wrap_id (a + 1) (by omega) (by omega), wrap_id (a + 1 - 1) (by omega) (by omega), show a + 1 - 1 = a by omega, if_pos h0, if_pos (by omega)]
def seqT (x : TR) (f : Int → Int → Int → TR) : TR := if x.2.1 = true then f x.1 x.2.2.1 x.2.2.2 else (0, false, x.2.2.1, x.2.2.2)
def noT : Int → Int → TR := fun a lk => (0, false, a, lk)
def combD (got : List Int) (k n : Int) (rs : List (Int → Int → TR)) (a lk : Int) : TR :=
  if k = 0 then (n, true, a, lk)
  else if k = 1 then getT got a lk n
  else seqT (rs.getD 0 noT a lk) fun v a lk =>
    if k = 5 then getT got a lk ((n + v) % 10)
    else if k = 4 then (if v = 0 then rs.getD 2 noT a lk else rs.getD 1 noT a lk)
    else seqT (rs.getD 1 noT a lk) fun u a lk => (if k = 3 then (v * u) % 97 else (v + u) % 97, true, a, lk)
mutual
def doT (got : List Int) : Tk → Int → Int → TR
  | ⟨k, n, ps⟩ => combD got k n (doL got ps)
def doL (got : List Int) : List Tk → List (Int → Int → TR)
  | [] => []
  | p :: ps => doT got p :: doL got ps
end
theorem doT_num (got : List Int) (n a lk : Int) : doT got ⟨0, n, []⟩ a lk = (n, true, a, lk) := by simp [doT, combD]
theorem doT_get (got : List Int) (n a lk : Int) : doT got ⟨1, n, []⟩ a lk = getT got a lk n := by simp [doT, combD]
theorem doT_add (got : List Int) (x y : Tk) (a lk : Int) : doT got ⟨2, 0, [x, y]⟩ a lk = seqT (doT got x a lk) fun v a lk => seqT (doT got y a lk) fun u a lk => ((v + u) % 97, true, a, lk) := by simp [doT, doL, combD]
theorem doT_mul (got : List Int) (x y : Tk) (a lk : Int) : doT got ⟨3, 0, [x, y]⟩ a lk = seqT (doT got x a lk) fun v a lk => seqT (doT got y a lk) fun u a lk => ((v * u) % 97, true, a, lk) := by simp [doT, doL, combD]
theorem doT_if (got : List Int) (x y z : Tk) (a lk : Int) : doT got ⟨4, 0, [x, y, z]⟩ a lk = seqT (doT got x a lk) fun v a lk => if v = 0 then doT got z a lk else doT got y a lk := by simp [doT, doL, combD]
theorem doT_at (got : List Int) (n : Int) (x : Tk) (a lk : Int) : doT got ⟨5, n, [x]⟩ a lk = seqT (doT got x a lk) fun v a lk => getT got a lk ((n + v) % 10) := by simp [doT, doL, combD]
def TapeOk (got : List Int) (a : Int) (r : TR) : Prop := 0 ≤ r.1 ∧ r.1 ≤ 96 ∧ a ≤ r.2.2.1 ∧ r.2.2.1 ≤ (got.length : Int)
theorem getT_ok {got : List Int} (hg : got.all isVal = true) (a lk n : Int) (h0 : 0 ≤ a) (h1 : a ≤ (got.length : Int)) : TapeOk got a (getT got a lk n) := by
  unfold getT TapeOk
  split
  · rename_i h; simp only; omega
  · rename_i h
    have hv := atV_val hg a
    unfold atV at hv
    rw [if_pos ⟨h0, by omega⟩] at hv
    simp only
    omega
theorem doT_ok {got : List Int} (hg : got.all isVal = true) {t : Tk} (h : Fits t) : ∀ a lk : Int, 0 ≤ a → a ≤ (got.length : Int) → TapeOk got a (doT got t a lk) := by
  induction h with
  | num n g0 g1 => intro a lk h0 h1; rw [doT_num]; exact ⟨g0, g1, Int.le_refl _, h1⟩
  | get n => intro a lk h0 h1; rw [doT_get]; exact getT_ok hg a lk n h0 h1
  | add x y _ _ ihx ihy =>
    intro a lk h0 h1
    rw [doT_add]
    have hx := ihx a lk h0 h1
    generalize doT got x a lk = rx at *
    obtain ⟨v, ok, a1, l1⟩ := rx
    unfold TapeOk at hx
    simp only at hx
    cases ok with
    | false => simp only [seqT, Bool.false_eq_true, if_false]; unfold TapeOk; simp only; omega
    | true =>
      have hy := ihy a1 l1 (by omega) (by omega)
      simp only [seqT, if_true]
      generalize doT got y a1 l1 = ry at *
      obtain ⟨u, ok2, a2, l2⟩ := ry
      unfold TapeOk at hy
      simp only at hy
      cases ok2 with
      | false => simp only [Bool.false_eq_true, if_false]; unfold TapeOk; simp only; omega
      | true => simp only [if_true]; unfold TapeOk; simp only; omega
  | mul x y _ _ ihx ihy =>
    intro a lk h0 h1
    rw [doT_mul]
    have hx := ihx a lk h0 h1
    generalize doT got x a lk = rx at *
    obtain ⟨v, ok, a1, l1⟩ := rx
    unfold TapeOk at hx
    simp only at hx
    cases ok with
    | false => simp only [seqT, Bool.false_eq_true, if_false]; unfold TapeOk; simp only; omega
    | true =>
      have hy := ihy a1 l1 (by omega) (by omega)
      simp only [seqT, if_true]
      generalize doT got y a1 l1 = ry at *
      obtain ⟨u, ok2, a2, l2⟩ := ry
      unfold TapeOk at hy
      simp only at hy
      cases ok2 with
      | false => simp only [Bool.false_eq_true, if_false]; unfold TapeOk; simp only; omega
      | true =>
        simp only [if_true]
        unfold TapeOk
        have hm := Int.mul_nonneg hx.1 hy.1
        simp only
        omega
  | iff x y z _ _ _ ihx ihy ihz =>
    intro a lk h0 h1
    rw [doT_if]
    have hx := ihx a lk h0 h1
    generalize doT got x a lk = rx at *
    obtain ⟨v, ok, a1, l1⟩ := rx
    unfold TapeOk at hx
    simp only at hx
    cases ok with
    | false => simp only [seqT, Bool.false_eq_true, if_false]; unfold TapeOk; simp only; omega
    | true =>
      simp only [seqT, if_true]
      by_cases hv : v = 0
      · rw [if_pos hv]
        have hz := ihz a1 l1 (by omega) (by omega)
        exact ⟨hz.1, hz.2.1, Int.le_trans hx.2.2.1 hz.2.2.1, hz.2.2.2⟩
      · rw [if_neg hv]
        have hy := ihy a1 l1 (by omega) (by omega)
        exact ⟨hy.1, hy.2.1, Int.le_trans hx.2.2.1 hy.2.2.1, hy.2.2.2⟩
  | «at» n _ _ x _ ihx =>
    intro a lk h0 h1
    rw [doT_at]
    have hx := ihx a lk h0 h1
    generalize doT got x a lk = rx at *
    obtain ⟨v, ok, a1, l1⟩ := rx
    unfold TapeOk at hx
    simp only at hx
    cases ok with
    | false => simp only [seqT, Bool.false_eq_true, if_false]; unfold TapeOk; simp only; omega
    | true =>
      simp only [seqT, if_true]
      have hy := getT_ok hg a1 l1 ((n + v) % 10) (by omega) (by omega)
      exact ⟨hy.1, hy.2.1, Int.le_trans hx.2.2.1 hy.2.2.1, hy.2.2.2⟩
def Does (w0 : World) (g : Nat) (got : List Int) (t : Tk) : Prop :=
  ∀ (w : World) (a lk : Int) (A1 : Option Addr) (c1 : Nat), IsTape w0 w g got a lk → Below w0.heap.size w0 w → (∀ W_, KeepBut w W_ g none → Kd.C k30 W_ A1 t.f2.length t.f2) → t.f2.length ≤ c1 → 0 ≤ a → a ≤ (got.length : Int) →
    Calls Try.prog 176 #[.agg #[.int .i64 t.f0, .int .i64 t.f1, .slice A1 t.f2.length c1], .pointer (some ⟨g, 0, none⟩)] w fun e w' =>
      e = .returned (.tuple #[.int .i64 (doT got t a lk).1, .bool (doT got t a lk).2.1]) ∧ IsTape w0 w' g got (doT got t a lk).2.2.1 (doT got t a lk).2.2.2 ∧ Below w0.heap.size w0 w' ∧ KeepBut w w' g none
theorem part_keep {w0 w : World} {g : Nat} {got : List Int} {a lk : Int} (hI : IsTape w0 w g got a lk) {A1 : Option Addr} {ps : List Tk} (h : ∀ W_, KeepBut w W_ g none → Kd.C k30 W_ A1 ps.length ps) (i : Nat) (p : Tk) (hp : ps[i]? = some p) :
    ∃ ad A2 c2, A1 = some ad ∧ p.f2.length ≤ c2 ∧ ∀ W, KeepBut w W g none → Kd.C k30 W A2 p.f2.length p.f2 ∧ W.cell? (ad.add (i * 3)) = some (.int .i64 p.f0) ∧ W.cell? ⟨(ad.add (i * 3)).block, (ad.add (i * 3)).off + 1, none⟩ = some (.int .i64 p.f1) ∧ W.cell? ⟨(ad.add (i * 3)).block, (ad.add (i * 3)).off + 2, none⟩ = some (.slice A2 p.f2.length c2) := by
  obtain ⟨hi, e⟩ := List.getElem?_eq_some_iff.1 hp
  have at_w : ∀ W, KeepBut w W g none → ∃ ad A2 c2, A1 = some ad ∧ p.f2.length ≤ c2 ∧ Kd.C k30 W A2 p.f2.length p.f2 ∧ W.cell? (ad.add (i * 3)) = some (.int .i64 p.f0) ∧ W.cell? ⟨(ad.add (i * 3)).block, (ad.add (i * 3)).off + 1, none⟩ = some (.int .i64 p.f1) ∧ W.cell? ⟨(ad.add (i * 3)).block, (ad.add (i * 3)).off + 2, none⟩ = some (.slice A2 p.f2.length c2) := by
    intro W hk
    obtain ⟨ad, A2, c2, e1, hx0, hx1, hx2, hl, hC⟩ := at_T30 (h W hk) (i : Int) (by omega) (by omega)
    rw [rd_tk ps i hi, e] at hx0 hx1 hx2 hl hC
    rw [Int.toNat_natCast] at hx0 hx1 hx2
    exact ⟨ad, A2, c2, e1, hl, hC, hx0, hx1, hx2⟩
  obtain ⟨ad, A2, c2, rfl, hl, _, _, _, hx2⟩ := at_w w (KeepBut.refl w g none)
  refine ⟨ad, A2, c2, rfl, hl, fun W hk => ?_⟩
  obtain ⟨ad', A2', c2', e1, hl', hC', hy0, hy1, hy2⟩ := at_w W hk
  obtain rfl : ad = ad' := jF e1
  have hne : (ad.add (i * 3)).block ≠ g := by
    intro eg
    obtain ⟨A0, c0, hb, _, _⟩ := hI
    rw [eg] at hx2
    rw [qC hb] at hx2
    generalize (ad.add (i * 3)).off = o at hx2
    match o, hx2 with
    | 0, h => simp at h
    | o + 1, h => simp at h
  have hk2 := keep_cell hk hx2 hne
  rw [hk2] at hy2
  have he := jF hy2
  injection he with e2 _ e3
  subst e2
  subst e3
  exact ⟨hC', hy0, hy1, hk2⟩
end Go.Proofs.Ytgbjbpjmbghlbaa.G
end
section
namespace Go.Proofs.Ytgbjbpjmbghlbaa.G
open Go.RowKit Go.Proofs.YtgbjbpjmbghlbaaW.PrintWords Go.Proofs.YtgbjbpjmbghlbaaW.PrintLast Go.Proofs.YtgbjbpjmbghlbaaW.PrintMore
theorem does_num {w0 : World} {g : Nat} {got : List Int} (hg : got.all isVal = true) (hgl : got.length ≤ 1000000) (n : Int) : Does w0 g got ⟨0, n, []⟩ := by
  intro w a lk A1 c1 hI hB hr hc h0 h1
  have HI := qM hI
  have HB := qM hB
  have hne : w.heap.size ≠ g := fun e => by have := hI.lt; omega
  have HNE := qM hne
  have I1 := qM (hI.alloc (.cells #[.int .i64 0, .int .i64 n, .slice A1 0 c1] 30 (0, 0)))
  have B1 := qM (qA hB (.cells #[.int .i64 0, .int .i64 n, .slice A1 0 c1] 30 (0, 0)))
  have K1 := qM (keep_alloc (KeepBut.refl w g none) (.cells #[.int .i64 0, .int .i64 n, .slice A1 0 c1] 30 (0, 0)))
  have hu := Try.underlying30
  have H01 := qM (And.intro h0 h1)
  have HGL := qM hgl
  clear hI hB hr hc hne hgl
  show Calls Try.prog 176 #[.agg #[.int .i64 0, .int .i64 n, .slice A1 0 c1], _] w _
  rw [doT_num]
  go_enter Try.func176, Try.ntmps176
  go_wp2
  go_ret2
  exact ⟨rfl, I1.out, B1.out, K1.out⟩
theorem does_get {w0 : World} {g : Nat} {got : List Int} (hg : got.all isVal = true) (hgl : got.length ≤ 1000000) (n : Int) : Does w0 g got ⟨1, n, []⟩ := by
  intro w a lk A1 c1 hI hB hr hc h0 h1
  have HI := qM hI
  have HB := qM hB
  have hne : w.heap.size ≠ g := fun e => by have := hI.lt; omega
  have HNE := qM hne
  have I1 := qM (hI.alloc (.cells #[.int .i64 1, .int .i64 n, .slice A1 0 c1] 30 (0, 0)))
  have B1 := qM (qA hB (.cells #[.int .i64 1, .int .i64 n, .slice A1 0 c1] 30 (0, 0)))
  have K1 := qM (keep_alloc (KeepBut.refl w g none) (.cells #[.int .i64 1, .int .i64 n, .slice A1 0 c1] 30 (0, 0)))
  have hu := Try.underlying30
  have H01 := qM (And.intro h0 h1)
  have HGL := qM hgl
  clear hI hB hr hc hne hgl
  show Calls Try.prog 176 #[.agg #[.int .i64 1, .int .i64 n, .slice A1 0 c1], _] w _
  rw [doT_get]
  go_enter Try.func176, Try.ntmps176
  go_wp2_with (go_at_call 179; refine (spec_l2Tape_get.calls _ _ _ _ _ _ _ _ _ _ _ I1.out B1.out (getT_f got a lk n H01.out.1 H01.out.2 HGL.out)).mono ?_; rintro e w4 ⟨rfl, i4, b4, k4⟩; have I4 := qM i4; have B4 := qM b4; have K4 := qM (K1.out.trans k4 (.inl rfl)); clear i4 b4 k4)
  go_ret2
  exact ⟨rfl, I4.out, B4.out, K4.out⟩
theorem does_at {w0 : World} {g : Nat} {got : List Int} (hg : got.all isVal = true) (hgl : got.length ≤ 1000000) (n : Int) (hn0 : 0 ≤ n) (hn1 : n ≤ 9) (x : Tk) (hx : Fits x) (ihx : Does w0 g got x) : Does w0 g got ⟨5, n, [x]⟩ := by
  intro w a lk A1 c1 hI hB hr hc h0 h1
  have HI := qM hI
  have HB := qM hB
  have hne : w.heap.size ≠ g := fun e => by have := hI.lt; omega
  have HNE := qM hne
  have I1 := qM (hI.alloc (.cells #[.int .i64 5, .int .i64 n, .slice A1 1 c1] 30 (0, 0)))
  have B1 := qM (qA hB (.cells #[.int .i64 5, .int .i64 n, .slice A1 1 c1] 30 (0, 0)))
  have K1 := qM (keep_alloc (KeepBut.refl w g none) (.cells #[.int .i64 5, .int .i64 n, .slice A1 1 c1] 30 (0, 0)))
  have hu := Try.underlying30
  have H01 := qM (And.intro h0 h1)
  have HGL := qM hgl
  obtain ⟨ad, Ax, cx, rfl, hlx, hxx⟩ := part_keep hI hr 0 x rfl
  have HXx := qM hxx
  have HLx := qM hlx
  clear hxx hlx
  obtain ⟨_, hx0, hx1, hx2⟩ := HXx.out _ K1.out
  simp [go_sem] at hx0 hx1 hx2
  have CA := qM (ihx _ a lk _ _ I1.out B1.out (fun W_ hk => (HXx.out W_ (K1.out.trans hk (.inl rfl))).1) HLx.out h0 h1)
  have hval := doT_ok hg hx a lk h0 h1
  clear hI hB hr hc hne hgl
  clear h0 h1
  show Calls Try.prog 176 #[.agg #[.int .i64 5, .int .i64 n, .slice (some ad) 1 c1], _] w _
  rw [doT_at]
  generalize hra : doT got x a lk = ra at *
  obtain ⟨va, oka, aa, la⟩ := ra
  unfold TapeOk at hval
  simp only at hval CA
  have hav : 0 ≤ aa ∧ aa ≤ (got.length : Int) := by have := H01.out; omega
  cases oka with
  | false =>
    simp only [seqT, Bool.false_eq_true, if_false]
    go_enter Try.func176, Try.ntmps176
    go_wp2_with (go_at_call 176; (with_reducible refine CA.out.mono ?_); rintro e w2 ⟨rfl, i2, b2, k2⟩; have hb2 := k2.blk (blk_new w _) HNE.out (by simp); have hq0 := (qC hb2 0).trans rfl; have hq1 := (qC hb2 1).trans rfl; have hq2 := (qC hb2 2).trans rfl; have HB2 := qM hb2; have I2 := qM i2; have B2 := qM b2; have K2 := qM (K1.out.trans k2 (.inl rfl)); clear hb2 i2 b2 k2 hx0 hx1 hx2 CA)
    go_ret2
    exact ⟨rfl, I2.out, B2.out, K2.out⟩
  | true =>
    simp only [seqT, if_true]
    go_enter Try.func176, Try.ntmps176
    go_wp2_with (first | (go_at_call 176; (with_reducible refine CA.out.mono ?_); rintro e w2 ⟨rfl, i2, b2, k2⟩; have hb2 := k2.blk (blk_new w _) HNE.out (by simp); have hq0 := (qC hb2 0).trans rfl; have hq1 := (qC hb2 1).trans rfl; have hq2 := (qC hb2 2).trans rfl; have HB2 := qM hb2; have I2 := qM i2; have B2 := qM b2; have K2 := qM (K1.out.trans k2 (.inl rfl)); clear hb2 i2 b2 k2 hx0 hx1 hx2 CA) | (go_at_call 179; refine (spec_l2Tape_get.calls _ _ _ _ _ _ _ _ _ _ _ I2.out B2.out (getT_f got aa la _ hav.1 hav.2 HGL.out)).mono ?_; rintro e w4 ⟨rfl, i4, b4, k4⟩; have I4 := qM i4; have B4 := qM b4; have K4 := qM (K2.out.trans k4 (.inl rfl)); clear i4 b4 k4))
    go_ret2
    exact ⟨rfl, I4.out, B4.out, K4.out⟩
theorem does_add {w0 : World} {g : Nat} {got : List Int} (hg : got.all isVal = true) (hgl : got.length ≤ 1000000) (x y : Tk) (hx : Fits x) (hy : Fits y) (ihx : Does w0 g got x) (ihy : Does w0 g got y) : Does w0 g got ⟨2, 0, [x, y]⟩ := by
  intro w a lk A1 c1 hI hB hr hc h0 h1
  have HI := qM hI
  have HB := qM hB
  have hne : w.heap.size ≠ g := fun e => by have := hI.lt; omega
  have HNE := qM hne
  have I1 := qM (hI.alloc (.cells #[.int .i64 2, .int .i64 0, .slice A1 2 c1] 30 (0, 0)))
  have B1 := qM (qA hB (.cells #[.int .i64 2, .int .i64 0, .slice A1 2 c1] 30 (0, 0)))
  have K1 := qM (keep_alloc (KeepBut.refl w g none) (.cells #[.int .i64 2, .int .i64 0, .slice A1 2 c1] 30 (0, 0)))
  have hu := Try.underlying30
  have H01 := qM (And.intro h0 h1)
  have HGL := qM hgl
  obtain ⟨ad, Ax, cx, rfl, hlx, hxx⟩ := part_keep hI hr 0 x rfl
  have HXx := qM hxx
  have HLx := qM hlx
  clear hxx hlx
  obtain ⟨ad', Ay, cy, ey, hly, hxy⟩ := part_keep hI hr 1 y rfl
  obtain rfl : ad = ad' := jF ey
  clear ey
  have HXy := qM hxy
  have HLy := qM hly
  clear hxy hly
  obtain ⟨_, hx0, hx1, hx2⟩ := HXx.out _ K1.out
  simp [go_sem] at hx0 hx1 hx2
  have CA := qM (ihx _ a lk _ _ I1.out B1.out (fun W_ hk => (HXx.out W_ (K1.out.trans hk (.inl rfl))).1) HLx.out h0 h1)
  have hval := doT_ok hg hx a lk h0 h1
  clear hI hB hr hc hne hgl
  clear h0 h1
  show Calls Try.prog 176 #[.agg #[.int .i64 2, .int .i64 0, .slice (some ad) 2 c1], _] w _
  rw [doT_add]
  generalize hra : doT got x a lk = ra at *
  obtain ⟨va, oka, aa, la⟩ := ra
  unfold TapeOk at hval
  simp only at hval CA
  have hav : 0 ≤ aa ∧ aa ≤ (got.length : Int) := by have := H01.out; omega
  cases oka with
  | false =>
    simp only [seqT, Bool.false_eq_true, if_false]
    go_enter Try.func176, Try.ntmps176
    go_wp2_with (go_at_call 176; (with_reducible refine CA.out.mono ?_); rintro e w2 ⟨rfl, i2, b2, k2⟩; have hb2 := k2.blk (blk_new w _) HNE.out (by simp); have hq0 := (qC hb2 0).trans rfl; have hq1 := (qC hb2 1).trans rfl; have hq2 := (qC hb2 2).trans rfl; have HB2 := qM hb2; have I2 := qM i2; have B2 := qM b2; have K2 := qM (K1.out.trans k2 (.inl rfl)); clear hb2 i2 b2 k2 hx0 hx1 hx2 CA)
    go_ret2
    exact ⟨rfl, I2.out, B2.out, K2.out⟩
  | true =>
    simp only [seqT, if_true]
    have hvb := doT_ok hg hy aa la hav.1 hav.2
    have CBB := qM (fun w hI hB hC => ihy w aa la Ay cy hI hB hC HLy.out hav.1 hav.2)
    generalize hrb : doT got y aa la = rb at *
    obtain ⟨vb, okb, ab, lb⟩ := rb
    unfold TapeOk at hvb
    simp only at hvb CBB
    cases okb with
    | false =>
      simp only [Bool.false_eq_true, if_false]
      go_enter Try.func176, Try.ntmps176
      go_wp2_with (first | (go_at_call 176; (with_reducible refine CA.out.mono ?_); rintro e w2 ⟨rfl, i2, b2, k2⟩; have hb2 := k2.blk (blk_new w _) HNE.out (by simp); have hq0 := (qC hb2 0).trans rfl; have hq1 := (qC hb2 1).trans rfl; have hq2 := (qC hb2 2).trans rfl; have HB2 := qM hb2; have I2 := qM i2; have B2 := qM b2; have K2 := qM (K1.out.trans k2 (.inl rfl)); clear hb2 i2 b2 k2 hx0 hx1 hx2 CA; obtain ⟨_, hx0, hx1, hx2⟩ := HXy.out w2 K2.out; simp [go_sem] at hx0 hx1 hx2; have CB := qM (CBB.out _ I2.out B2.out (fun W_ hk => (HXy.out W_ (K2.out.trans hk (.inl rfl))).1))) | (go_at_call 176; (with_reducible refine CB.out.mono ?_); rintro e w3 ⟨rfl, i3, b3, k3⟩; have hb3 := k3.blk HB2.out HNE.out (by simp); have hr0 := (qC hb3 0).trans rfl; have hr1 := (qC hb3 1).trans rfl; have hr2 := (qC hb3 2).trans rfl; have I3 := qM i3; have B3 := qM b3; have K3 := qM (K2.out.trans k3 (.inl rfl)); clear hb3 i3 b3 k3 hx0 hx1 hx2 hq0 hq1 hq2 CB))
      go_ret2
      exact ⟨rfl, I3.out, B3.out, K3.out⟩
    | true =>
      simp only [if_true]
      go_enter Try.func176, Try.ntmps176
      go_wp2_with (first | (go_at_call 176; (with_reducible refine CA.out.mono ?_); rintro e w2 ⟨rfl, i2, b2, k2⟩; have hb2 := k2.blk (blk_new w _) HNE.out (by simp); have hq0 := (qC hb2 0).trans rfl; have hq1 := (qC hb2 1).trans rfl; have hq2 := (qC hb2 2).trans rfl; have HB2 := qM hb2; have I2 := qM i2; have B2 := qM b2; have K2 := qM (K1.out.trans k2 (.inl rfl)); clear hb2 i2 b2 k2 hx0 hx1 hx2 CA; obtain ⟨_, hx0, hx1, hx2⟩ := HXy.out w2 K2.out; simp [go_sem] at hx0 hx1 hx2; have CB := qM (CBB.out _ I2.out B2.out (fun W_ hk => (HXy.out W_ (K2.out.trans hk (.inl rfl))).1))) | (go_at_call 176; (with_reducible refine CB.out.mono ?_); rintro e w3 ⟨rfl, i3, b3, k3⟩; have hb3 := k3.blk HB2.out HNE.out (by simp); have hr0 := (qC hb3 0).trans rfl; have hr1 := (qC hb3 1).trans rfl; have hr2 := (qC hb3 2).trans rfl; have I3 := qM i3; have B3 := qM b3; have K3 := qM (K2.out.trans k3 (.inl rfl)); clear hb3 i3 b3 k3 hx0 hx1 hx2 hq0 hq1 hq2 CB))
      go_ret2
      exact ⟨rfl, I3.out, B3.out, K3.out⟩
theorem does_mul {w0 : World} {g : Nat} {got : List Int} (hg : got.all isVal = true) (hgl : got.length ≤ 1000000) (x y : Tk) (hx : Fits x) (hy : Fits y) (ihx : Does w0 g got x) (ihy : Does w0 g got y) : Does w0 g got ⟨3, 0, [x, y]⟩ := by
  intro w a lk A1 c1 hI hB hr hc h0 h1
  have HI := qM hI
  have HB := qM hB
  have hne : w.heap.size ≠ g := fun e => by have := hI.lt; omega
  have HNE := qM hne
  have I1 := qM (hI.alloc (.cells #[.int .i64 3, .int .i64 0, .slice A1 2 c1] 30 (0, 0)))
  have B1 := qM (qA hB (.cells #[.int .i64 3, .int .i64 0, .slice A1 2 c1] 30 (0, 0)))
  have K1 := qM (keep_alloc (KeepBut.refl w g none) (.cells #[.int .i64 3, .int .i64 0, .slice A1 2 c1] 30 (0, 0)))
  have hu := Try.underlying30
  have H01 := qM (And.intro h0 h1)
  have HGL := qM hgl
  obtain ⟨ad, Ax, cx, rfl, hlx, hxx⟩ := part_keep hI hr 0 x rfl
  have HXx := qM hxx
  have HLx := qM hlx
  clear hxx hlx
  obtain ⟨ad', Ay, cy, ey, hly, hxy⟩ := part_keep hI hr 1 y rfl
  obtain rfl : ad = ad' := jF ey
  clear ey
  have HXy := qM hxy
  have HLy := qM hly
  clear hxy hly
  obtain ⟨_, hx0, hx1, hx2⟩ := HXx.out _ K1.out
  simp [go_sem] at hx0 hx1 hx2
  have CA := qM (ihx _ a lk _ _ I1.out B1.out (fun W_ hk => (HXx.out W_ (K1.out.trans hk (.inl rfl))).1) HLx.out h0 h1)
  have hval := doT_ok hg hx a lk h0 h1
  clear hI hB hr hc hne hgl
  clear h0 h1
  show Calls Try.prog 176 #[.agg #[.int .i64 3, .int .i64 0, .slice (some ad) 2 c1], _] w _
  rw [doT_mul]
  generalize hra : doT got x a lk = ra at *
  obtain ⟨va, oka, aa, la⟩ := ra
  unfold TapeOk at hval
  simp only at hval CA
  have hav : 0 ≤ aa ∧ aa ≤ (got.length : Int) := by have := H01.out; omega
  cases oka with
  | false =>
    simp only [seqT, Bool.false_eq_true, if_false]
    go_enter Try.func176, Try.ntmps176
    go_wp2_with (go_at_call 176; (with_reducible refine CA.out.mono ?_); rintro e w2 ⟨rfl, i2, b2, k2⟩; have hb2 := k2.blk (blk_new w _) HNE.out (by simp); have hq0 := (qC hb2 0).trans rfl; have hq1 := (qC hb2 1).trans rfl; have hq2 := (qC hb2 2).trans rfl; have HB2 := qM hb2; have I2 := qM i2; have B2 := qM b2; have K2 := qM (K1.out.trans k2 (.inl rfl)); clear hb2 i2 b2 k2 hx0 hx1 hx2 CA)
    go_ret2
    exact ⟨rfl, I2.out, B2.out, K2.out⟩
  | true =>
    simp only [seqT, if_true]
    have hvb := doT_ok hg hy aa la hav.1 hav.2
    have CBB := qM (fun w hI hB hC => ihy w aa la Ay cy hI hB hC HLy.out hav.1 hav.2)
    generalize hrb : doT got y aa la = rb at *
    obtain ⟨vb, okb, ab, lb⟩ := rb
    unfold TapeOk at hvb
    simp only at hvb CBB
    have hm0 : 0 ≤ va * vb := Int.mul_nonneg hval.1 hvb.1
    have hm1 : va * vb ≤ 9216 := by
      have h1 := Int.mul_le_mul hval.2.1 hvb.2.1 hvb.1 (by omega : (0 : Int) ≤ 96)
      omega
    cases okb with
    | false =>
      simp only [Bool.false_eq_true, if_false]
      go_enter Try.func176, Try.ntmps176
      go_wp2_with (first | (go_at_call 176; (with_reducible refine CA.out.mono ?_); rintro e w2 ⟨rfl, i2, b2, k2⟩; have hb2 := k2.blk (blk_new w _) HNE.out (by simp); have hq0 := (qC hb2 0).trans rfl; have hq1 := (qC hb2 1).trans rfl; have hq2 := (qC hb2 2).trans rfl; have HB2 := qM hb2; have I2 := qM i2; have B2 := qM b2; have K2 := qM (K1.out.trans k2 (.inl rfl)); clear hb2 i2 b2 k2 hx0 hx1 hx2 CA; obtain ⟨_, hx0, hx1, hx2⟩ := HXy.out w2 K2.out; simp [go_sem] at hx0 hx1 hx2; have CB := qM (CBB.out _ I2.out B2.out (fun W_ hk => (HXy.out W_ (K2.out.trans hk (.inl rfl))).1))) | (go_at_call 176; (with_reducible refine CB.out.mono ?_); rintro e w3 ⟨rfl, i3, b3, k3⟩; have hb3 := k3.blk HB2.out HNE.out (by simp); have hr0 := (qC hb3 0).trans rfl; have hr1 := (qC hb3 1).trans rfl; have hr2 := (qC hb3 2).trans rfl; have I3 := qM i3; have B3 := qM b3; have K3 := qM (K2.out.trans k3 (.inl rfl)); clear hb3 i3 b3 k3 hx0 hx1 hx2 hq0 hq1 hq2 CB))
      go_ret2
      exact ⟨rfl, I3.out, B3.out, K3.out⟩
    | true =>
      simp only [if_true]
      go_enter Try.func176, Try.ntmps176
      go_wp2_with (first | (go_at_call 176; (with_reducible refine CA.out.mono ?_); rintro e w2 ⟨rfl, i2, b2, k2⟩; have hb2 := k2.blk (blk_new w _) HNE.out (by simp); have hq0 := (qC hb2 0).trans rfl; have hq1 := (qC hb2 1).trans rfl; have hq2 := (qC hb2 2).trans rfl; have HB2 := qM hb2; have I2 := qM i2; have B2 := qM b2; have K2 := qM (K1.out.trans k2 (.inl rfl)); clear hb2 i2 b2 k2 hx0 hx1 hx2 CA; obtain ⟨_, hx0, hx1, hx2⟩ := HXy.out w2 K2.out; simp [go_sem] at hx0 hx1 hx2; have CB := qM (CBB.out _ I2.out B2.out (fun W_ hk => (HXy.out W_ (K2.out.trans hk (.inl rfl))).1))) | (go_at_call 176; (with_reducible refine CB.out.mono ?_); rintro e w3 ⟨rfl, i3, b3, k3⟩; have hb3 := k3.blk HB2.out HNE.out (by simp); have hr0 := (qC hb3 0).trans rfl; have hr1 := (qC hb3 1).trans rfl; have hr2 := (qC hb3 2).trans rfl; have I3 := qM i3; have B3 := qM b3; have K3 := qM (K2.out.trans k3 (.inl rfl)); clear hb3 i3 b3 k3 hx0 hx1 hx2 hq0 hq1 hq2 CB))
      go_ret2
      exact ⟨rfl, I3.out, B3.out, K3.out⟩
theorem does_if {w0 : World} {g : Nat} {got : List Int} (hg : got.all isVal = true) (hgl : got.length ≤ 1000000) (x y z : Tk) (hx : Fits x) (hy : Fits y) (hz : Fits z) (ihx : Does w0 g got x) (ihy : Does w0 g got y) (ihz : Does w0 g got z) : Does w0 g got ⟨4, 0, [x, y, z]⟩ := by
  intro w a lk A1 c1 hI hB hr hc h0 h1
  have HI := qM hI
  have HB := qM hB
  have hne : w.heap.size ≠ g := fun e => by have := hI.lt; omega
  have HNE := qM hne
  have I1 := qM (hI.alloc (.cells #[.int .i64 4, .int .i64 0, .slice A1 3 c1] 30 (0, 0)))
  have B1 := qM (qA hB (.cells #[.int .i64 4, .int .i64 0, .slice A1 3 c1] 30 (0, 0)))
  have K1 := qM (keep_alloc (KeepBut.refl w g none) (.cells #[.int .i64 4, .int .i64 0, .slice A1 3 c1] 30 (0, 0)))
  have hu := Try.underlying30
  have H01 := qM (And.intro h0 h1)
  have HGL := qM hgl
  obtain ⟨ad, Ax, cx, rfl, hlx, hxx⟩ := part_keep hI hr 0 x rfl
  have HXx := qM hxx
  have HLx := qM hlx
  clear hxx hlx
  obtain ⟨ad', Ay, cy, ey, hly, hxy⟩ := part_keep hI hr 1 y rfl
  obtain rfl : ad = ad' := jF ey
  clear ey
  have HXy := qM hxy
  have HLy := qM hly
  clear hxy hly
  obtain ⟨ad', Az, cz, ez, hlz, hxz⟩ := part_keep hI hr 2 z rfl
  obtain rfl : ad = ad' := jF ez
  clear ez
  have HXz := qM hxz
  have HLz := qM hlz
  clear hxz hlz
  obtain ⟨_, hx0, hx1, hx2⟩ := HXx.out _ K1.out
  simp [go_sem] at hx0 hx1 hx2
  have CA := qM (ihx _ a lk _ _ I1.out B1.out (fun W_ hk => (HXx.out W_ (K1.out.trans hk (.inl rfl))).1) HLx.out h0 h1)
  have hval := doT_ok hg hx a lk h0 h1
  clear hI hB hr hc hne hgl
  clear h0 h1
  show Calls Try.prog 176 #[.agg #[.int .i64 4, .int .i64 0, .slice (some ad) 3 c1], _] w _
  rw [doT_if]
  generalize hra : doT got x a lk = ra at *
  obtain ⟨va, oka, aa, la⟩ := ra
  unfold TapeOk at hval
  simp only at hval CA
  have hav : 0 ≤ aa ∧ aa ≤ (got.length : Int) := by have := H01.out; omega
  cases oka with
  | false =>
    simp only [seqT, Bool.false_eq_true, if_false]
    go_enter Try.func176, Try.ntmps176
    go_wp2_with (go_at_call 176; (with_reducible refine CA.out.mono ?_); rintro e w2 ⟨rfl, i2, b2, k2⟩; have hb2 := k2.blk (blk_new w _) HNE.out (by simp); have hq0 := (qC hb2 0).trans rfl; have hq1 := (qC hb2 1).trans rfl; have hq2 := (qC hb2 2).trans rfl; have HB2 := qM hb2; have I2 := qM i2; have B2 := qM b2; have K2 := qM (K1.out.trans k2 (.inl rfl)); clear hb2 i2 b2 k2 hx0 hx1 hx2 CA)
    go_ret2
    exact ⟨rfl, I2.out, B2.out, K2.out⟩
  | true =>
    simp only [seqT, if_true]
    by_cases hv : va = 0
    · rw [if_pos hv]
      have hzb : (va != 0) = false := by rw [hv]; rfl
      have CBB := qM (fun w hI hB hC => ihz w aa la Az cz hI hB hC HLz.out hav.1 hav.2)
      go_enter Try.func176, Try.ntmps176
      go_wp2_with (first | (go_at_call 176; (with_reducible refine CA.out.mono ?_); rintro e w2 ⟨rfl, i2, b2, k2⟩; have hb2 := k2.blk (blk_new w _) HNE.out (by simp); have hq0 := (qC hb2 0).trans rfl; have hq1 := (qC hb2 1).trans rfl; have hq2 := (qC hb2 2).trans rfl; have HB2 := qM hb2; have I2 := qM i2; have B2 := qM b2; have K2 := qM (K1.out.trans k2 (.inl rfl)); clear hb2 i2 b2 k2 hx0 hx1 hx2 CA; obtain ⟨_, hx0, hx1, hx2⟩ := HXz.out w2 K2.out; simp [go_sem] at hx0 hx1 hx2; have CB := qM (CBB.out _ I2.out B2.out (fun W_ hk => (HXz.out W_ (K2.out.trans hk (.inl rfl))).1))) | (go_at_call 176; (with_reducible refine CB.out.mono ?_); rintro e w3 ⟨rfl, i3, b3, k3⟩; have hb3 := k3.blk HB2.out HNE.out (by simp); have hr0 := (qC hb3 0).trans rfl; have hr1 := (qC hb3 1).trans rfl; have hr2 := (qC hb3 2).trans rfl; have I3 := qM i3; have B3 := qM b3; have K3 := qM (K2.out.trans k3 (.inl rfl)); clear hb3 i3 b3 k3 hx0 hx1 hx2 hq0 hq1 hq2 CB))
      go_ret2
      exact ⟨rfl, I3.out, B3.out, K3.out⟩
    · rw [if_neg hv]
      have hzb : (va != 0) = true := bne_iff_ne.mpr hv
      have CBB := qM (fun w hI hB hC => ihy w aa la Ay cy hI hB hC HLy.out hav.1 hav.2)
      go_enter Try.func176, Try.ntmps176
      go_wp2_with (first | (go_at_call 176; (with_reducible refine CA.out.mono ?_); rintro e w2 ⟨rfl, i2, b2, k2⟩; have hb2 := k2.blk (blk_new w _) HNE.out (by simp); have hq0 := (qC hb2 0).trans rfl; have hq1 := (qC hb2 1).trans rfl; have hq2 := (qC hb2 2).trans rfl; have HB2 := qM hb2; have I2 := qM i2; have B2 := qM b2; have K2 := qM (K1.out.trans k2 (.inl rfl)); clear hb2 i2 b2 k2 hx0 hx1 hx2 CA; obtain ⟨_, hx0, hx1, hx2⟩ := HXy.out w2 K2.out; simp [go_sem] at hx0 hx1 hx2; have CB := qM (CBB.out _ I2.out B2.out (fun W_ hk => (HXy.out W_ (K2.out.trans hk (.inl rfl))).1))) | (go_at_call 176; (with_reducible refine CB.out.mono ?_); rintro e w3 ⟨rfl, i3, b3, k3⟩; have hb3 := k3.blk HB2.out HNE.out (by simp); have hr0 := (qC hb3 0).trans rfl; have hr1 := (qC hb3 1).trans rfl; have hr2 := (qC hb3 2).trans rfl; have I3 := qM i3; have B3 := qM b3; have K3 := qM (K2.out.trans k3 (.inl rfl)); clear hb3 i3 b3 k3 hx0 hx1 hx2 hq0 hq1 hq2 CB))
      go_ret2
      exact ⟨rfl, I3.out, B3.out, K3.out⟩
theorem does {w0 : World} {g : Nat} {got : List Int} (hg : got.all isVal = true) (hgl : got.length ≤ 1000000) {t : Tk} (h : Fits t) : Does w0 g got t := by
  induction h with
  | num n h0 h1 => exact does_num hg hgl n
  | get n h0 h1 => exact does_get hg hgl n
  | add a b ha hb iha ihb => exact does_add hg hgl a b ha hb iha ihb
  | mul a b ha hb iha ihb => exact does_mul hg hgl a b ha hb iha ihb
  | iff a b d ha hb hd iha ihb ihd => exact does_if hg hgl a b d ha hb hd iha ihb ihd
  | «at» n h0 h1 a ha iha => exact does_at hg hgl n h0 h1 a ha iha
def spec_l2Next.f (a0_0 : Int) (a0_1 : Int) (l0_2 : List Tk) (l1 : List Int) : Option (Int × Int × Bool) :=
  if fitT ⟨a0_0, a0_1, l0_2⟩ = true ∧ l1.all isVal = true ∧ l1.length ≤ 1000000 then some ((doT l1 ⟨a0_0, a0_1, l0_2⟩ 0 0).1, (doT l1 ⟨a0_0, a0_1, l0_2⟩ 0 0).2.2.2, (doT l1 ⟨a0_0, a0_1, l0_2⟩ 0 0).2.1) else none
theorem heapTk : Kd.Heap k30 := Kd.heap_fix (fun d hd => Kd.heap_iso _ (Kd.heap_pair (Kd.heap_int _) (Kd.heap_pair (Kd.heap_int _) (Kd.heap_slice _ hd))))
theorem spec_l2Next.calls (a0_0 : Int) (a0_1 : Int) (A0_2 : Option Addr) (c0_2 : Nat) (l0_2 : List Tk) (A1 : Option Addr) (c1 : Nat) (l1 : List Int) (r1 : Int) (r2 : Int) (r3 : Bool) (w : World) (hr0_2 : Kd.C k30 w A0_2 l0_2.length l0_2) (hc0_2 : l0_2.length ≤ c0_2) (hr1 : Kd.C (Kd.int .i64) w A1 l1.length l1) (hc1 : l1.length ≤ c1) (h : spec_l2Next.f a0_0 a0_1 l0_2 l1 = some (r1, r2, r3)) :
    Calls Try.prog 168 #[.agg #[.int .i64 a0_0, .int .i64 a0_1, .slice A0_2 l0_2.length c0_2], .slice A1 l1.length c1] w fun e w' => e = .returned (.tuple #[.int .i64 r1, .int .i64 r2, .bool r3]) ∧ Below w.heap.size w w' := by
  unfold spec_l2Next.f at h
  split at h
  case isFalse => cases h
  rename_i hg
  obtain ⟨hf, hv, hn⟩ := hg
  have hR := jF h
  obtain rfl : (doT l1 ⟨a0_0, a0_1, l0_2⟩ 0 0).1 = r1 := congrArg (·.1) hR
  obtain rfl : (doT l1 ⟨a0_0, a0_1, l0_2⟩ 0 0).2.2.2 = r2 := congrArg (·.2.1) hR
  obtain rfl : (doT l1 ⟨a0_0, a0_1, l0_2⟩ 0 0).2.1 = r3 := congrArg (·.2.2) hR
  have hB1 : Below w.heap.size w (w.alloc (.cells #[.int .i64 a0_0, .int .i64 a0_1, .slice A0_2 l0_2.length c0_2] 30 (0, 0))) := qA (Below.refl _ _) _
  have hI := IsS179.new w (w.alloc (.cells #[.int .i64 a0_0, .int .i64 a0_1, .slice A0_2 l0_2.length c0_2] 30 (0, 0))) A1 c1 l1 0 0 hB1 hr1
  have hB2 := qA hB1 (.cells #[.slice A1 l1.length c1, .int .i64 0, .int .i64 0] 179 (0, 0))
  have HA := qM (does (w0 := w) hv hn (fits_of _ hf) _ 0 0 A0_2 c0_2 hI hB2 (Kd.C_foot_came heapTk hr0_2 hB2 hI.ge) hc0_2 (Int.le_refl 0) (by omega))
  have hs : (w.alloc (.cells #[.int .i64 a0_0, .int .i64 a0_1, .slice A0_2 l0_2.length c0_2] 30 (0, 0))).heap.size = w.heap.size + 1 := by simp
  rw [hs] at HA
  have hu := Try.underlying30
  have hu2 := Try.underlying179
  clear h hR hI hB1 hB2 hf hv hn hr0_2 hc0_2 hr1 hc1 hs
  go_enter Try.func168, Try.ntmps168
  go_wp2_with ((go_at_call 176; (with_reducible refine HA.out.mono ?_); rintro e w2 ⟨rfl, i2, b2, k2⟩; obtain ⟨A0, c0, hb2, _, _⟩ := i2; have hq2 := (qC hb2 2).trans rfl; have HB2 := qM b2; clear b2 k2 hb2 HA))
  go_quiet (fail)
  go_wp2
  go_ret3
  exact ⟨rfl, qN HB2.out nq⟩
end Go.Proofs.Ytgbjbpjmbghlbaa.G
end
section
namespace Go.Proofs.Ytgbjbpjmbghlbaa.G
open Go.RowKit Go.Proofs.YtgbjbpjmbghlbaaW.PrintWords Go.Proofs.YtgbjbpjmbghlbaaW.PrintLast Go.Proofs.YtgbjbpjmbghlbaaW.PrintMore
attribute [local go_sem] max2_int min2_int max_two min_two max_three min_three max_four min_four
def spec_l2Of.f (l0 : List Int) (a1 : Int) : Option (Int) := if a1 < (l0.length : Int) then (if 0 ≤ a1 then (some (rd l0 a1)) else (none)) else (some 0)
theorem spec_l2Of.calls (A0 : Option Addr) (c0 : Nat) (l0 : List Int) (a1 : Int) (r : Int) (w : World) (hr0 : Kd.C (Kd.int .i64) w A0 l0.length l0) (hc0 : l0.length ≤ c0) (h : spec_l2Of.f l0 a1 = some r) :
    Calls Try.prog 169 #[.slice A0 l0.length c0, .int .i64 a1] w fun e w' => e = .returned (.int .i64 r) ∧ Drawn0 w w' := by
  have HR0 := qM hr0
  have HC0 := qM hc0
  clear hr0 hc0
  have H : (if a1 < (l0.length : Int) then (if 0 ≤ a1 then (some (rd l0 a1)) else (none)) else (some 0)) = some r := h
  clear h
  by_cases c3 : a1 < (l0.length : Int)
  rotate_left
  · rw [if_neg c3] at H
    have c3b0 : decide (a1 < (l0.length : Int)) = false := decide_eq_false c3
    clear c3
    obtain rfl := jF H
    go_enter Try.func169, Try.ntmps169
    go_wp2
    go_ret
    exact ⟨by first | rfl | (simp; done) | (simp [*]; done), by repeat (first | exact Drawn0.refl _ | apply Drawn0.step)⟩
  rw [if_pos c3] at H
  have c3b0 : decide (a1 < (l0.length : Int)) = true := decide_eq_true c3
  clear c3
  by_cases c4 : 0 ≤ a1
  rotate_left
  · rw [if_neg c4] at H
    exact absurd H (by simp)
  rw [if_pos c4] at H
  have c4b0 : decide (0 ≤ a1) = true := decide_eq_true c4
  clear c4
  obtain rfl := jF H
  have p394 : 0 ≤ (a1 : Int) := qO (by first | (with_reducible assumption) | assumption)
  have q394 : a1 < (l0.length : Int) := qO (by first | (with_reducible assumption) | assumption)
  obtain ⟨ad394, e394, hx394_0⟩ := Kd.at_int HR0.out a1 p394 q394
  cases e394
  replace p394 := eq_true p394
  replace q394 := eq_true q394
  go_enter Try.func169, Try.ntmps169
  go_wp2
  go_ret
  exact ⟨by first | rfl | (simp; done) | (simp [*]; done), by repeat (first | exact Drawn0.refl _ | apply Drawn0.step)⟩
def spec_l2Run.l0 : Nat → List Int → List (S117) → List Int → Int → Int → Bool → Int → Int → List (S30) → Option (Int × (List (S117)))
  | 0, _, _, _, _, _, _, _, _, _ => none
  | k + 1, x1, x6, x7, x8, x9, x10, x396000, x396001, x396002 => if x10 = true then (some (x8, x6)) else ((spec_l2Of.f x1 x9).bind fun t405 => (if x6.length < 8796093022208 then ((spec_l2Of.f x1 x9).bind fun t409 => (if x7.length < 17592186044416 then ((some (x7 ++ [t409] : List Int)).bind fun y410 => ((spec_l2Next.f x396000 x396001 x396002 y410).bind fun bt413 => (spec_l2Run.l0 k x1 (x6 ++ [(⟨x9, t405⟩ : S117)]) y410 bt413.1 bt413.2.1 bt413.2.2 x396000 x396001 x396002))) else (none))) else (none)))
def spec_l2Run.f (k : Nat) (a0_0 : Int) (a0_1 : Int) (l0_2 : List (S30)) (l1 : List Int) : Option (Int × (List (S117))) := (some (([] : List Int) : List Int)).bind fun y399 => ((spec_l2Next.f a0_0 a0_1 l0_2 y399).bind fun bt402 => (spec_l2Run.l0 k l1 (([] : List (S117))) y399 bt402.1 bt402.2.1 bt402.2.2 a0_0 a0_1 l0_2))
theorem spec_l2Run.calls (k : Nat) (a0_0 : Int) (a0_1 : Int) (A0_2 : Option Addr) (c0_2 : Nat) (l0_2 : List (S30)) (A1 : Option Addr) (c1 : Nat) (l1 : List Int) (r1 : Int) (r2 : List (S117)) (w : World) (hr0_2 : Kd.C k30 w A0_2 l0_2.length l0_2) (hc0_2 : l0_2.length ≤ c0_2) (hr1 : Kd.C (Kd.int .i64) w A1 l1.length l1) (hc1 : l1.length ≤ c1) (h : spec_l2Run.f k a0_0 a0_1 l0_2 l1 = some (r1, r2)) :
    Calls Try.prog 141 #[.agg #[.int .i64 a0_0, .int .i64 a0_1, .slice A0_2 l0_2.length c0_2], .slice A1 l1.length c1] w fun e w' => ∃ v1_ : Value, e = .returned (.tuple #[.int .i64 r1, v1_]) ∧ Kd.R k117 117 w' w.heap.size (fun _ => True) v1_ r2 ∧ Below w.heap.size w w' := by
  have hu30 := Try.underlying30
  have hu117 := Try.underlying117
  have HR0_2 := qM hr0_2
  have HC0_2 := qM hc0_2
  clear hr0_2 hc0_2
  have HR1 := qM hr1
  have HC1 := qM hc1
  clear hr1 hc1
  have HB := qM (Below.refl w.heap.size w)
  have H : ((some (([] : List Int) : List Int)).bind fun y399 => ((spec_l2Next.f a0_0 a0_1 l0_2 y399).bind fun bt402 => (spec_l2Run.l0 k l1 (([] : List (S117))) y399 bt402.1 bt402.2.1 bt402.2.2 a0_0 a0_1 l0_2))) = some (r1, r2) := h
  clear h
  obtain ⟨y396, hy396⟩ : ∃ y_ : List (S117), y_ = (([] : List (S117))) := ⟨_, rfl⟩
  replace H : ((some (([] : List Int) : List Int)).bind fun y399 => ((spec_l2Next.f a0_0 a0_1 l0_2 y399).bind fun bt402 => (spec_l2Run.l0 k l1 y396 y399 bt402.1 bt402.2.1 bt402.2.2 a0_0 a0_1 l0_2))) = some (r1, r2) := by first | (rw [hy396]; with_reducible exact H) | (have H2_ := (Option.bind_some _ _).symm.trans H; rw [hy396]; with_reducible exact H2_) | (have H2_ := (Option.bind_some _ _).symm.trans H; with_reducible exact H2_) | with_reducible exact H | (rw [hy396]; exact H) | exact H
  have Ny396 := qM hy396
  clear hy396
  obtain ⟨y399, hy399⟩ : ∃ y_ : List Int, y_ = (([] : List Int)) := ⟨_, rfl⟩
  replace H : ((spec_l2Next.f a0_0 a0_1 l0_2 y399).bind fun bt402 => (spec_l2Run.l0 k l1 y396 y399 bt402.1 bt402.2.1 bt402.2.2 a0_0 a0_1 l0_2)) = some (r1, r2) := by first | (rw [hy399]; with_reducible exact H) | (have H2_ := (Option.bind_some _ _).symm.trans H; rw [hy399]; with_reducible exact H2_) | (have H2_ := (Option.bind_some _ _).symm.trans H; with_reducible exact H2_) | with_reducible exact H | (rw [hy399]; exact H) | exact H
  have Ny399 := qM hy399
  clear hy399
  replace H := jG H
  obtain ⟨⟨t402, t403, t404⟩, A30, H⟩ := H
  replace H : (spec_l2Run.l0 k l1 y396 y399 t402 t403 t404 a0_0 a0_1 l0_2) = some (r1, r2) := H
  have A3 := qM A30
  clear A30
  have H' := qM H
  clear H
  go_enter Try.func141, Try.ntmps141
  go_wp2_with (first | ((with_reducible refine gate_dst (N := 2) rfl ?_); refine box_event ?hg (N := 2) ?hd (cs := #[.int .i64 a0_0, .int .i64 a0_1, .slice A0_2 l0_2.length c0_2]) (t := 30) ?hr ?_; (case hd => rfl); (case hg => rfl); (case hr => first | (go_simp; done) | (go_simp; rfl)); intro gb395 hg w4 hbox hb; have n0_ := qM (qs (by repeat (first | (with_reducible first | exact HB.out | apply qA | apply qN | apply qD) | exact HB.out)) hb); have n1_ := qM (hbox); have n2_ := qM ((by rw [hg]; exact (qz (by repeat (first | (with_reducible first | exact HB.out | apply qA | apply qN | apply qD) | exact HB.out))) : w.heap.size ≤ gb395)); have n3_ := qM ((by rw [hg]; exact (qz (by repeat (first | (with_reducible first | exact HB.out | apply qA | apply qN | apply qD) | exact HB.out))) : w.heap.size ≤ gb395)); clear HB; have HB := n0_; have BK395 := n1_; have GW395 := n2_; have GE395 := n3_; clear n0_ n1_ n2_ n3_; clear hb hbox hg) | ((with_reducible refine gate_dst (N := 11) rfl ?_); refine Kd.R_lit k117 _ 117 ?hg (N := 11) ?hd (xs := ([] : List (S117))) (inner := []) (ok := fun _ => True) (okp := fun _ => True) ?hr ?hp (fun _ hk => hk) trivial (Below.refl _ _) (Nat.le_refl _) (by simp) ?_; (case hd => rfl); (case hg => rfl); (case hr => first | (go_simp; done) | (go_simp; rfl)); (case hp => exact (Reps.none _ _)); intro v397 w5 ho6 hb hg_ hnew_; clear hg_ hnew_; (first | rw [← Ny396.out] at ho6 | (simp only [Int.reduceToNat] at ho6; rw [← Ny396.out] at ho6)); have n0_ := qM (Kd.R_lower ho6 (qz (by repeat (first | (with_reducible first | exact HB.out | apply qA | apply qN | apply qD | refine qS ?_ GE395.out) | exact HB.out)))); have n1_ := qM (blk_below (g := gb395) (o := .cells #[.int .i64 a0_0, .int .i64 a0_1, .slice A0_2 l0_2.length c0_2] 30 (0, 0)) (by (with_reducible repeat (first | apply qn | apply qd | apply qa)); exact BK395.out) hb); have n2_ := qM (qs (by repeat (first | (with_reducible first | exact HB.out | apply qA | apply qN | apply qD | refine qS ?_ GE395.out) | exact HB.out)) hb); clear BK395; clear HB; have HO398 := n0_; have BK395 := n1_; have HB := n2_; clear n0_ n1_ n2_; clear hb ho6) | ((with_reducible refine gate_dst (N := 12) rfl ?_); refine Kd.R_lit (Kd.int .i64) _ 3 ?hg (N := 12) ?hd (xs := ([] : List Int)) (inner := []) (ok := fun _ => True) (okp := fun _ => True) ?hr ?hp (fun _ hk => hk) trivial (Below.refl _ _) (Nat.le_refl _) (by simp) ?_; (case hd => rfl); (case hg => rfl); (case hr => first | (go_simp; done) | (go_simp; rfl)); (case hp => exact (Reps.none _ _)); intro v400 w7 ho8 hb hg_ hnew_; clear hg_ hnew_; (first | rw [← Ny399.out] at ho8 | (simp only [Int.reduceToNat] at ho8; rw [← Ny399.out] at ho8)); have n0_ := qM (Kd.R_below (by (with_reducible repeat (first | apply Kd.R_alloc | apply Kd.R_drewN | apply Kd.R_drew)); exact HO398.out) hb); have n1_ := qM (Kd.R_lower ho8 (qz (by repeat (first | (with_reducible first | exact HB.out | apply qA | apply qN | apply qD | refine qS ?_ GE395.out) | exact HB.out)))); have n2_ := qM (blk_below (g := gb395) (o := .cells #[.int .i64 a0_0, .int .i64 a0_1, .slice A0_2 l0_2.length c0_2] 30 (0, 0)) (by (with_reducible repeat (first | apply qn | apply qd | apply qa)); exact BK395.out) hb); have n3_ := qM (qs (by repeat (first | (with_reducible first | exact HB.out | apply qA | apply qN | apply qD | refine qS ?_ GE395.out) | exact HB.out)) hb); clear HO398; clear BK395; clear HB; have HO398 := n0_; have HO401 := n1_; have BK395 := n2_; have HB := n3_; clear n0_ n1_ n2_ n3_; clear hb ho8; have hcz9_0 : w7.cell? ⟨gb395, 0, none⟩ = some (.int .i64 a0_0) := (qC BK395.out 0).trans rfl; have hcz9_1 : w7.cell? ⟨gb395, 1, none⟩ = some (.int .i64 a0_1) := (qC BK395.out 1).trans rfl; have hcz9_2 : w7.cell? ⟨gb395, 2, none⟩ = some (.slice A0_2 l0_2.length c0_2) := (qC BK395.out 2).trans rfl; have hfz9_0 := qF BK395.out 0; have hfz9_1 := qF BK395.out 1; have hfz9_2 := qF BK395.out 2; obtain ⟨Ao10, co10, eo10⟩ := Kd.R_slice HO401.out; subst eo10) | ((with_reducible refine gate_callee (f := 168) rfl ?_); refine goesL_ (some 16) rfl rfl Try.func168 (by kernel_rfl) rfl #[.agg #[.int .i64 a0_0, .int .i64 a0_1, .slice A0_2 l0_2.length c0_2], .slice Ao10 y399.length co10] rfl (by (try simp only [jC, jD, jE]); first | done | rfl | (simp only [jB, jA]; rfl)) ?_; (with_reducible refine (spec_l2Next.calls a0_0 a0_1 _ _ l0_2 _ _ y399 t402 t403 t404 _ ?side1 ?side2 ?side3 ?side4 A3.out).mono ?_); (case side1 => repeat (first | exact (qB HR0_2.out HB.out) | (with_reducible refine qc ?_ _) | (with_reducible refine qe ?_ _) | (with_reducible refine qf ?_))); (case side2 => exact HC0_2.out); (case side3 => repeat (first | exact (Kd.R_reads' HO401.out).2.2 | (with_reducible refine qc ?_ _) | (with_reducible refine qe ?_ _) | (with_reducible refine qf ?_))); (case side4 => exact (Kd.R_reads' HO401.out).2.1); rintro e w11 ⟨rfl, hb⟩; refine ⟨_, rfl, ?_⟩; have n0_ := qM (Kd.R_below (by (with_reducible repeat (first | apply Kd.R_alloc | apply Kd.R_drewN | apply Kd.R_drew)); exact HO398.out) hb); have n1_ := qM (Kd.R_below (by (with_reducible repeat (first | apply Kd.R_alloc | apply Kd.R_drewN | apply Kd.R_drew)); exact HO401.out) hb); have n2_ := qM (blk_below (g := gb395) (o := .cells #[.int .i64 a0_0, .int .i64 a0_1, .slice A0_2 l0_2.length c0_2] 30 (0, 0)) (by (with_reducible repeat (first | apply qn | apply qd | apply qa)); exact BK395.out) hb); have n3_ := qM (qs (by repeat (first | (with_reducible first | exact HB.out | apply qA | apply qN | apply qD | refine qS ?_ GE395.out) | exact HB.out)) hb); clear HO398; clear HO401; clear BK395; clear HB; have HO398 := n0_; have HO401 := n1_; have BK395 := n2_; have HB := n3_; clear n0_ n1_ n2_ n3_; (try clear hb); (try clear hb2); (try clear hk); (try clear hi)))
  go_loopg [6, 7, 8, 9, 10] k (fun kq v6 v7 v8 v9 v10 w' => ∃ (x6_1 : List (S117)) (x7_1 : List Int) (x8_1 : Int) (x9_1 : Int) (x10_1 : Bool), v8 = .int .i64 x8_1 ∧ v9 = .int .i64 x9_1 ∧ v10 = .bool x10_1 ∧ Aside0 (spec_l2Run.l0 kq l1 x6_1 x7_1 x8_1 x9_1 x10_1 a0_0 a0_1 l0_2 = some (r1, r2)) ∧ Aside0 (kq ≤ k) ∧ Aside0 (Kd.R k117 117 w' w.heap.size (fun _ => True) v6 x6_1) ∧ Aside0 (Kd.R (Kd.int .i64) 3 w' w.heap.size (fun _ => True) v7 x7_1) ∧ Aside0 (w'.heap[gb395]? = some (.cells #[.int .i64 a0_0, .int .i64 a0_1, (.slice A0_2 l0_2.length c0_2)] 30 (0, 0))) ∧ Aside0 (Below w.heap.size w w'))
  case atStart => exact ⟨(y396), (y399), (t402), (t403), (t404), (by first | rfl | (simp; done) | (simp [*]; done)), (by first | rfl | (simp; done) | (simp [*]; done)), (by first | rfl | (simp; done) | (simp [*]; done)), H', ⟨Nat.le_refl _⟩, ⟨by (with_reducible repeat (first | apply Kd.R_alloc | apply Kd.R_drewN | apply Kd.R_drew)); exact HO398.out⟩, ⟨by (with_reducible repeat (first | apply Kd.R_alloc | apply Kd.R_drewN | apply Kd.R_drew)); exact HO401.out⟩, ⟨by (with_reducible repeat (first | apply qn | apply qd | apply qa)); exact BK395.out⟩, ⟨by repeat (first | (with_reducible first | exact HB.out | apply qA | apply qN | apply qD | refine qS ?_ GE395.out) | exact HB.out)⟩⟩
  case round =>
    clear H'
    try clear c1
    try clear p2
    try clear hcz9_0
    try clear hcz9_1
    try clear hcz9_2
    try clear hfz9_0
    try clear hfz9_1
    try clear hfz9_2
    obtain ⟨x6_1, x7_1, x8_1, x9_1, x10_1, rfl, rfl, rfl, HA, HK1, HO_6, HO_7, BK395, HB⟩ := hrel
    cases gk with
    | zero => exact absurd HA.out (by simp [spec_l2Run.l0])
    | succ k1 =>
      have H := HA.out
      clear HA
      simp only [spec_l2Run.l0] at H
      by_cases c12 : x10_1 = true
      · subst c12
        have H1 : (some (x8_1, x6_1)) = some (r1, r2) := by rw [if_pos rfl] at H; exact H
        clear H
        have H := H1
        clear H1
        simp only [Option.some.injEq, Prod.mk.injEq] at H
        obtain ⟨rfl, rfl⟩ := H
        go_wp2
        go_ret2
        exact ⟨_, by first | rfl | (simp [errW_none, errW_some] <;> rfl) | (simp [*, errW_none, errW_some] <;> rfl), by (with_reducible repeat (first | apply Kd.R_alloc | apply Kd.R_drewN | apply Kd.R_drew)); exact HO_6.out, by repeat (first | (with_reducible first | exact HB.out | apply qA | apply qN | apply qD | refine qS ?_ GE395.out) | exact HB.out)⟩
      replace c12 := Bool.eq_false_iff.mpr c12
      subst c12
      have H1 : ((spec_l2Of.f l1 x9_1).bind fun t405 => (if x6_1.length < 8796093022208 then ((spec_l2Of.f l1 x9_1).bind fun t409 => (if x7_1.length < 17592186044416 then ((some (x7_1 ++ [t409] : List Int)).bind fun y410 => ((spec_l2Next.f a0_0 a0_1 l0_2 y410).bind fun bt413 => (spec_l2Run.l0 k1 l1 (x6_1 ++ [(⟨x9_1, t405⟩ : S117)]) y410 bt413.1 bt413.2.1 bt413.2.2 a0_0 a0_1 l0_2))) else (none))) else (none))) = some (r1, r2) := by rw [if_neg (show ¬ (false = true) by decide)] at H; exact H
      clear H
      have H := H1
      clear H1
      replace H := jG H
      obtain ⟨t405, A130, H⟩ := H
      replace H : (if x6_1.length < 8796093022208 then ((spec_l2Of.f l1 x9_1).bind fun t409 => (if x7_1.length < 17592186044416 then ((some (x7_1 ++ [t409] : List Int)).bind fun y410 => ((spec_l2Next.f a0_0 a0_1 l0_2 y410).bind fun bt413 => (spec_l2Run.l0 k1 l1 (x6_1 ++ [(⟨x9_1, t405⟩ : S117)]) y410 bt413.1 bt413.2.1 bt413.2.2 a0_0 a0_1 l0_2))) else (none))) else (none)) = some (r1, r2) := H
      have A13 := qM A130
      clear A130
      by_cases c14 : x6_1.length < 8796093022208
      rotate_left
      · rw [if_neg c14] at H
        exact absurd H (by simp)
      rw [if_pos c14] at H
      have LMc14 := qM c14
      clear c14
      obtain ⟨y406, hy406⟩ : ∃ y_ : List (S117), y_ = (x6_1 ++ [(⟨x9_1, t405⟩ : S117)]) := ⟨_, rfl⟩
      replace H : ((spec_l2Of.f l1 x9_1).bind fun t409 => (if x7_1.length < 17592186044416 then ((some (x7_1 ++ [t409] : List Int)).bind fun y410 => ((spec_l2Next.f a0_0 a0_1 l0_2 y410).bind fun bt413 => (spec_l2Run.l0 k1 l1 y406 y410 bt413.1 bt413.2.1 bt413.2.2 a0_0 a0_1 l0_2))) else (none))) = some (r1, r2) := by first | (rw [hy406]; with_reducible exact H) | (have H2_ := (Option.bind_some _ _).symm.trans H; rw [hy406]; with_reducible exact H2_) | (have H2_ := (Option.bind_some _ _).symm.trans H; with_reducible exact H2_) | with_reducible exact H | (rw [hy406]; exact H) | exact H
      have Ny406 := qM hy406
      clear hy406
      replace H := jG H
      obtain ⟨t409, A150, H⟩ := H
      replace H : (if x7_1.length < 17592186044416 then ((some (x7_1 ++ [t409] : List Int)).bind fun y410 => ((spec_l2Next.f a0_0 a0_1 l0_2 y410).bind fun bt413 => (spec_l2Run.l0 k1 l1 y406 y410 bt413.1 bt413.2.1 bt413.2.2 a0_0 a0_1 l0_2))) else (none)) = some (r1, r2) := H
      have A15 := qM A150
      clear A150
      by_cases c16 : x7_1.length < 17592186044416
      rotate_left
      · rw [if_neg c16] at H
        exact absurd H (by simp)
      rw [if_pos c16] at H
      have LMc16 := qM c16
      clear c16
      obtain ⟨y410, hy410⟩ : ∃ y_ : List Int, y_ = (x7_1 ++ [t409]) := ⟨_, rfl⟩
      replace H : ((spec_l2Next.f a0_0 a0_1 l0_2 y410).bind fun bt413 => (spec_l2Run.l0 k1 l1 y406 y410 bt413.1 bt413.2.1 bt413.2.2 a0_0 a0_1 l0_2)) = some (r1, r2) := by first | (rw [hy410]; with_reducible exact H) | (have H2_ := (Option.bind_some _ _).symm.trans H; rw [hy410]; with_reducible exact H2_) | (have H2_ := (Option.bind_some _ _).symm.trans H; with_reducible exact H2_) | with_reducible exact H | (rw [hy410]; exact H) | exact H
      have Ny410 := qM hy410
      clear hy410
      replace H := jG H
      obtain ⟨⟨t413, t414, t415⟩, A170, H⟩ := H
      replace H : (spec_l2Run.l0 k1 l1 y406 y410 t413 t414 t415 a0_0 a0_1 l0_2) = some (r1, r2) := H
      have A17 := qM A170
      clear A170
      have H' := qM H
      clear H
      go_wp2_with (first | ((with_reducible refine gate_callee (f := 169) rfl ?_); refine goesL_ (some 26) rfl rfl Try.func169 (by kernel_rfl) rfl #[.slice A1 l1.length c1, .int .i64 x9_1] rfl (by (try simp only [jC, jD, jE]); first | done | rfl | (simp only [jB, jA]; rfl)) ?_; (with_reducible refine (spec_l2Of.calls _ _ l1 x9_1 t405 _ ?side1 ?side2 A13.out).mono ?_); (case side1 => repeat (first | exact (qB HR1.out HB.out) | (with_reducible refine qc ?_ _) | (with_reducible refine qe ?_ _) | (with_reducible refine qf ?_))); (case side2 => exact HC1.out); rintro e w' ⟨rfl, ⟨nd, rfl⟩⟩; refine ⟨_, rfl, ?_⟩) | ((with_reducible refine gate_builtin (b := .append) (xs := #[.tmp 22, .tmp 28]) rfl ?_); at_builtin; refine Kd.R_append k117 (w0 := w) w.heap.size rfl (.tmp 22) (.tmp 28) 85 117 (.agg #[(.int .i64 0), (.int .i64 0)]) 16 rfl Try.underlying85 info117 rfl (by decide) (by omega) u6 x6_1 (⟨x9_1, t405⟩ : S117) [.int .i64 x9_1, .int .i64 t405] (fun _ => True) (fun _ => False) rfl rfl ?aP (fun _ hk => hk.elim) ?aF ?aO ?aB ?aS ?aL ?_; (case aP => exact k117_mkM _ _ _ (⟨x9_1, t405⟩ : S117)); (case aB => exact (by repeat (first | (with_reducible first | exact HB.out | apply qA | apply qN | apply qD | refine qS ?_ GE395.out) | exact HB.out))); (case aF => exact (fun _ _ => trivial)); (case aO => exact (by (with_reducible repeat (first | apply Kd.R_alloc | apply Kd.R_drewN | apply Kd.R_drew)); exact HO_6.out)); (case aS => exact (qz (by repeat (first | (with_reducible first | exact HB.out | apply qA | apply qN | apply qD | refine qS ?_ GE395.out) | exact HB.out)))); (case aL => have := LMc14.out; omega); intro v407 w18 ho hb hg hat; rw [← Ny406.out] at ho; have n0_ := qM (Kd.R_over' (by (with_reducible repeat (first | apply Kd.R_alloc | apply Kd.R_drewN | apply Kd.R_drew)); exact HO_7.out) (Kd.R_typed (by (with_reducible repeat (first | apply Kd.R_alloc | apply Kd.R_drewN | apply Kd.R_drew)); exact HO_6.out)) (by decide) hg); have n1_ := qM (blk_grown (g := gb395) (o := .cells #[.int .i64 a0_0, .int .i64 a0_1, .slice A0_2 l0_2.length c0_2] 30 (0, 0)) (by (with_reducible repeat (first | apply qn | apply qd | apply qa)); exact BK395.out) hg (Kd.R_ne HO_6.out BK395.out (by decide))); have n2_ := qM (hb); have n3_ := qM (ho); clear HO_7; clear BK395; clear HB; clear HO_6; have HO_7 := n0_; have BK395 := n1_; have HB := n2_; have HO408 := n3_; clear n0_ n1_ n2_ n3_; clear ho hb hg hat) | ((with_reducible refine gate_callee (f := 169) rfl ?_); refine goesL_ (some 33) rfl rfl Try.func169 (by kernel_rfl) rfl #[.slice A1 l1.length c1, .int .i64 x9_1] rfl (by (try simp only [jC, jD, jE]); first | done | rfl | (simp only [jB, jA]; rfl)) ?_; (with_reducible refine (spec_l2Of.calls _ _ l1 x9_1 t409 _ ?side1 ?side2 A15.out).mono ?_); (case side1 => repeat (first | exact (qB HR1.out HB.out) | (with_reducible refine qc ?_ _) | (with_reducible refine qe ?_ _) | (with_reducible refine qf ?_))); (case side2 => exact HC1.out); rintro e w' ⟨rfl, ⟨nd, rfl⟩⟩; refine ⟨_, rfl, ?_⟩) | ((with_reducible refine gate_builtin (b := .append) (xs := #[.tmp 30, .tmp 34]) rfl ?_); at_builtin; refine Kd.R_append (Kd.int .i64) (w0 := w) w.heap.size rfl (.tmp 30) (.tmp 34) 26 3 (.int .i64 0) 8 rfl Try.underlying26 info3 rfl (by decide) (by omega) u7 x7_1 t409 [.int .i64 t409] (fun _ => True) (fun _ => False) rfl rfl ?aP (fun _ hk => hk.elim) ?aF ?aO ?aB ?aS ?aL ?_; (case aP => exact rfl); (case aB => exact (by repeat (first | (with_reducible first | exact HB.out | apply qA | apply qN | apply qD | refine qS ?_ GE395.out) | exact HB.out))); (case aF => exact (fun _ _ => trivial)); (case aO => exact (by (with_reducible repeat (first | apply Kd.R_alloc | apply Kd.R_drewN | apply Kd.R_drew)); exact HO_7.out)); (case aS => exact (qz (by repeat (first | (with_reducible first | exact HB.out | apply qA | apply qN | apply qD | refine qS ?_ GE395.out) | exact HB.out)))); (case aL => have := LMc16.out; omega); intro v411 w19 ho hb hg hat; rw [← Ny410.out] at ho; have n0_ := qM (blk_grown (g := gb395) (o := .cells #[.int .i64 a0_0, .int .i64 a0_1, .slice A0_2 l0_2.length c0_2] 30 (0, 0)) (by (with_reducible repeat (first | apply qn | apply qd | apply qa)); exact BK395.out) hg (Kd.R_ne HO_7.out BK395.out (by decide))); have n1_ := qM (Kd.R_over' (by (with_reducible repeat (first | apply Kd.R_alloc | apply Kd.R_drewN | apply Kd.R_drew)); exact HO408.out) (Kd.R_typed (by (with_reducible repeat (first | apply Kd.R_alloc | apply Kd.R_drewN | apply Kd.R_drew)); exact HO_7.out)) (by decide) hg); have n2_ := qM (hb); have n3_ := qM (ho); clear BK395; clear HO408; clear HB; clear HO_7; have BK395 := n0_; have HO408 := n1_; have HB := n2_; have HO412 := n3_; clear n0_ n1_ n2_ n3_; clear ho hb hg hat; have hcz20_0 : w19.cell? ⟨gb395, 0, none⟩ = some (.int .i64 a0_0) := (qC BK395.out 0).trans rfl; have hcz20_1 : w19.cell? ⟨gb395, 1, none⟩ = some (.int .i64 a0_1) := (qC BK395.out 1).trans rfl; have hcz20_2 : w19.cell? ⟨gb395, 2, none⟩ = some (.slice A0_2 l0_2.length c0_2) := (qC BK395.out 2).trans rfl; have hfz20_0 := qF BK395.out 0; have hfz20_1 := qF BK395.out 1; have hfz20_2 := qF BK395.out 2; obtain ⟨Ao21, co21, eo21⟩ := Kd.R_slice HO412.out; subst eo21) | ((with_reducible refine gate_callee (f := 168) rfl ?_); refine goesL_ (some 39) rfl rfl Try.func168 (by kernel_rfl) rfl #[.agg #[.int .i64 a0_0, .int .i64 a0_1, .slice A0_2 l0_2.length c0_2], .slice Ao21 y410.length co21] rfl (by (try simp only [jC, jD, jE]); first | done | rfl | (simp only [jB, jA]; rfl)) ?_; (with_reducible refine (spec_l2Next.calls a0_0 a0_1 _ _ l0_2 _ _ y410 t413 t414 t415 _ ?side1 ?side2 ?side3 ?side4 A17.out).mono ?_); (case side1 => repeat (first | exact (qB HR0_2.out HB.out) | (with_reducible refine qc ?_ _) | (with_reducible refine qe ?_ _) | (with_reducible refine qf ?_))); (case side2 => exact HC0_2.out); (case side3 => repeat (first | exact (Kd.R_reads' HO412.out).2.2 | (with_reducible refine qc ?_ _) | (with_reducible refine qe ?_ _) | (with_reducible refine qf ?_))); (case side4 => exact (Kd.R_reads' HO412.out).2.1); rintro e w22 ⟨rfl, hb⟩; refine ⟨_, rfl, ?_⟩; have n0_ := qM (Kd.R_below (by (with_reducible repeat (first | apply Kd.R_alloc | apply Kd.R_drewN | apply Kd.R_drew)); exact HO408.out) hb); have n1_ := qM (Kd.R_below (by (with_reducible repeat (first | apply Kd.R_alloc | apply Kd.R_drewN | apply Kd.R_drew)); exact HO412.out) hb); have n2_ := qM (blk_below (g := gb395) (o := .cells #[.int .i64 a0_0, .int .i64 a0_1, .slice A0_2 l0_2.length c0_2] 30 (0, 0)) (by (with_reducible repeat (first | apply qn | apply qd | apply qa)); exact BK395.out) hb); have n3_ := qM (qs (by repeat (first | (with_reducible first | exact HB.out | apply qA | apply qN | apply qD | refine qS ?_ GE395.out) | exact HB.out)) hb); clear HO408; clear HO412; clear BK395; clear HB; have HO408 := n0_; have HO412 := n1_; have BK395 := n2_; have HB := n3_; clear n0_ n1_ n2_ n3_; (try clear hb); (try clear hb2); (try clear hk); (try clear hi)))
      go_roundg k1
      case measure => have := HK1.out; omega
      case rel => exact ⟨(y406), (y410), (t413), (t414), (t415), (by first | rfl | (simp; done) | (simp [*]; done)), (by first | rfl | (simp; done) | (simp [*]; done)), (by first | rfl | (simp; done) | (simp [*]; done)), H', ⟨by have := HK1.out; omega⟩, ⟨by (with_reducible repeat (first | apply Kd.R_alloc | apply Kd.R_drewN | apply Kd.R_drew)); exact HO408.out⟩, ⟨by (with_reducible repeat (first | apply Kd.R_alloc | apply Kd.R_drewN | apply Kd.R_drew)); exact HO412.out⟩, ⟨by (with_reducible repeat (first | apply qn | apply qd | apply qa)); exact BK395.out⟩, ⟨by repeat (first | (with_reducible first | exact HB.out | apply qA | apply qN | apply qD | refine qS ?_ GE395.out) | exact HB.out)⟩⟩
def laws_szBoolS.f (l0 : List Bool) (a1 : Int) : Option (Int) := if (wrap64 (a1 - (l0.length : Int))) < 0 then (some (-1)) else (some (wrap64 (a1 - (l0.length : Int))))
theorem laws_szBoolS.calls (A0 : Option Addr) (c0 : Nat) (l0 : List Bool) (a1 : Int) (r : Int) (w : World) (hr0 : Kd.C Kd.bool w A0 l0.length l0) (hc0 : l0.length ≤ c0) (h : laws_szBoolS.f l0 a1 = some r) :
    Calls Try.prog 83 #[.slice A0 l0.length c0, .int .i64 a1] w fun e w' => e = .returned (.int .i64 r) ∧ Drawn0 w w' := by
  have HR0 := qM hr0
  have HC0 := qM hc0
  clear hr0 hc0
  have H : (if (wrap64 (a1 - (l0.length : Int))) < 0 then (some (-1)) else (some (wrap64 (a1 - (l0.length : Int))))) = some r := h
  clear h
  by_cases c3 : (wrap64 (a1 - (l0.length : Int))) < 0
  rotate_left
  · rw [if_neg c3] at H
    have c3b0 : decide ((wrap64 (a1 - (l0.length : Int))) < 0) = false := decide_eq_false c3
    clear c3
    obtain rfl := jF H
    go_enter Try.func83, Try.ntmps83
    go_wp2
    go_ret
    exact ⟨by first | rfl | (simp; done) | (simp [*]; done), by repeat (first | exact Drawn0.refl _ | apply Drawn0.step)⟩
  rw [if_pos c3] at H
  have c3b0 : decide ((wrap64 (a1 - (l0.length : Int))) < 0) = true := decide_eq_true c3
  clear c3
  obtain rfl := jF H
  go_enter Try.func83, Try.ntmps83
  go_wp2
  go_ret
  exact ⟨by first | rfl | (simp; done) | (simp [*]; done), by repeat (first | exact Drawn0.refl _ | apply Drawn0.step)⟩
def laws_szSheet.f (k : Nat) (l0_0 : List Bool) (l0_1 : List (S24)) (a1 : Int) : Option (Int) := (laws_szBoolS.f l0_0 a1).bind fun t477 => (if t477 < 0 then (some (-1)) else ((laws_szTaskS.f k l0_1 t477).bind fun t478 => (if t478 < 0 then (some (-1)) else (some t478))))
theorem laws_szSheet.calls (k : Nat) (A0_0 : Option Addr) (c0_0 : Nat) (l0_0 : List Bool) (A0_1 : Option Addr) (c0_1 : Nat) (l0_1 : List (S24)) (a1 : Int) (r : Int) (w : World) (hr0_0 : Kd.C Kd.bool w A0_0 l0_0.length l0_0) (hc0_0 : l0_0.length ≤ c0_0) (hr0_1 : Kd.C k24 w A0_1 l0_1.length l0_1) (hc0_1 : l0_1.length ≤ c0_1) (h : laws_szSheet.f k l0_0 l0_1 a1 = some r) :
    Calls Try.prog 32 #[.agg #[.slice A0_0 l0_0.length c0_0, .slice A0_1 l0_1.length c0_1], .int .i64 a1] w fun e w' => e = .returned (.int .i64 r) ∧ Below w.heap.size w w' := by
  have hu48 := Try.underlying48
  have HR0_0 := qM hr0_0
  have HC0_0 := qM hc0_0
  clear hr0_0 hc0_0
  have HR0_1 := qM hr0_1
  have HC0_1 := qM hc0_1
  clear hr0_1 hc0_1
  have HB := qM (Below.refl w.heap.size w)
  have H : ((laws_szBoolS.f l0_0 a1).bind fun t477 => (if t477 < 0 then (some (-1)) else ((laws_szTaskS.f k l0_1 t477).bind fun t478 => (if t478 < 0 then (some (-1)) else (some t478))))) = some r := h
  clear h
  replace H := jG H
  obtain ⟨t477, A30, H⟩ := H
  replace H : (if t477 < 0 then (some (-1)) else ((laws_szTaskS.f k l0_1 t477).bind fun t478 => (if t478 < 0 then (some (-1)) else (some t478)))) = some r := H
  have A3 := qM A30
  clear A30
  by_cases c4 : t477 < 0
  · rw [if_pos c4] at H
    have c4b0 : decide (t477 < 0) = true := decide_eq_true c4
    clear c4
    obtain rfl := jF H
    go_enter Try.func32, Try.ntmps32
    go_wp2_with (first | ((with_reducible refine gate_dst (N := 2) rfl ?_); refine box_event ?hg (N := 2) ?hd (cs := #[.slice A0_0 l0_0.length c0_0, .slice A0_1 l0_1.length c0_1]) (t := 48) ?hr ?_; (case hd => rfl); (case hg => rfl); (case hr => first | (go_simp; done) | (go_simp; rfl)); intro gb476 hg w5 hbox hb; have n0_ := qM (qs (by repeat (first | (with_reducible first | exact HB.out | apply qA | apply qN | apply qD) | exact HB.out)) hb); have n1_ := qM (hbox); have n2_ := qM ((by rw [hg]; exact (qz (by repeat (first | (with_reducible first | exact HB.out | apply qA | apply qN | apply qD) | exact HB.out))) : w.heap.size ≤ gb476)); have n3_ := qM ((by rw [hg]; exact (qz (by repeat (first | (with_reducible first | exact HB.out | apply qA | apply qN | apply qD) | exact HB.out))) : w.heap.size ≤ gb476)); clear HB; have HB := n0_; have BK476 := n1_; have GW476 := n2_; have GE476 := n3_; clear n0_ n1_ n2_ n3_; clear hb hbox hg; have hcz6_0 : w5.cell? ⟨gb476, 0, none⟩ = some (.slice A0_0 l0_0.length c0_0) := (qC BK476.out 0).trans rfl; have hcz6_1 : w5.cell? ⟨gb476, 1, none⟩ = some (.slice A0_1 l0_1.length c0_1) := (qC BK476.out 1).trans rfl; have hfz6_0 := qF BK476.out 0; have hfz6_1 := qF BK476.out 1) | ((with_reducible refine gate_callee (f := 83) rfl ?_); refine goesL_ (some 8) rfl rfl Try.func83 (by kernel_rfl) rfl #[.slice A0_0 l0_0.length c0_0, .int .i64 a1] rfl (by (try simp only [jC, jD, jE]); first | done | rfl | (simp only [jB, jA]; rfl)) ?_; (with_reducible refine (laws_szBoolS.calls _ _ l0_0 a1 t477 _ ?side1 ?side2 A3.out).mono ?_); (case side1 => repeat (first | exact (qB HR0_0.out HB.out) | (with_reducible refine qc ?_ _) | (with_reducible refine qe ?_ _) | (with_reducible refine qf ?_))); (case side2 => exact HC0_0.out); rintro e w' ⟨rfl, ⟨nd, rfl⟩⟩; refine ⟨_, rfl, ?_⟩))
    go_ret
    exact ⟨by first | rfl | (simp [errW_none, errW_some] <;> rfl) | (simp [*, errW_none, errW_some] <;> rfl), by repeat (first | (with_reducible first | exact HB.out | apply qA | apply qN | apply qD | refine qS ?_ GE476.out) | exact HB.out)⟩
  rw [if_neg c4] at H
  have c4b0 : decide (t477 < 0) = false := decide_eq_false c4
  clear c4
  replace H := jG H
  obtain ⟨t478, A70, H⟩ := H
  replace H : (if t478 < 0 then (some (-1)) else (some t478)) = some r := H
  have A7 := qM A70
  clear A70
  by_cases c8 : t478 < 0
  rotate_left
  · rw [if_neg c8] at H
    have c8b0 : decide (t478 < 0) = false := decide_eq_false c8
    clear c8
    obtain rfl := jF H
    go_enter Try.func32, Try.ntmps32
    go_wp2_with (first | ((with_reducible refine gate_dst (N := 2) rfl ?_); refine box_event ?hg (N := 2) ?hd (cs := #[.slice A0_0 l0_0.length c0_0, .slice A0_1 l0_1.length c0_1]) (t := 48) ?hr ?_; (case hd => rfl); (case hg => rfl); (case hr => first | (go_simp; done) | (go_simp; rfl)); intro gb476 hg w12 hbox hb; have n0_ := qM (qs (by repeat (first | (with_reducible first | exact HB.out | apply qA | apply qN | apply qD) | exact HB.out)) hb); have n1_ := qM (hbox); have n2_ := qM ((by rw [hg]; exact (qz (by repeat (first | (with_reducible first | exact HB.out | apply qA | apply qN | apply qD) | exact HB.out))) : w.heap.size ≤ gb476)); have n3_ := qM ((by rw [hg]; exact (qz (by repeat (first | (with_reducible first | exact HB.out | apply qA | apply qN | apply qD) | exact HB.out))) : w.heap.size ≤ gb476)); clear HB; have HB := n0_; have BK476 := n1_; have GW476 := n2_; have GE476 := n3_; clear n0_ n1_ n2_ n3_; clear hb hbox hg; have hcz13_0 : w12.cell? ⟨gb476, 0, none⟩ = some (.slice A0_0 l0_0.length c0_0) := (qC BK476.out 0).trans rfl; have hcz13_1 : w12.cell? ⟨gb476, 1, none⟩ = some (.slice A0_1 l0_1.length c0_1) := (qC BK476.out 1).trans rfl; have hfz13_0 := qF BK476.out 0; have hfz13_1 := qF BK476.out 1) | ((with_reducible refine gate_callee (f := 83) rfl ?_); refine goesL_ (some 8) rfl rfl Try.func83 (by kernel_rfl) rfl #[.slice A0_0 l0_0.length c0_0, .int .i64 a1] rfl (by (try simp only [jC, jD, jE]); first | done | rfl | (simp only [jB, jA]; rfl)) ?_; (with_reducible refine (laws_szBoolS.calls _ _ l0_0 a1 t477 _ ?side1 ?side2 A3.out).mono ?_); (case side1 => repeat (first | exact (qB HR0_0.out HB.out) | (with_reducible refine qc ?_ _) | (with_reducible refine qe ?_ _) | (with_reducible refine qf ?_))); (case side2 => exact HC0_0.out); rintro e w' ⟨rfl, ⟨nd, rfl⟩⟩; refine ⟨_, rfl, ?_⟩) | ((with_reducible refine gate_callee (f := 68) rfl ?_); refine goesL_ (some 14) rfl rfl Try.func68 (by kernel_rfl) rfl #[.slice A0_1 l0_1.length c0_1, .int .i64 t477] rfl (by (try simp only [jC, jD, jE]); first | done | rfl | (simp only [jB, jA]; rfl)) ?_; (with_reducible refine (laws_szTaskS.calls k _ _ l0_1 t477 t478 _ ?side1 ?side2 A7.out).mono ?_); (case side1 => repeat (first | exact (qB HR0_1.out (by repeat (first | (with_reducible first | exact HB.out | apply qA | apply qN | apply qD | refine qS ?_ GE476.out) | exact HB.out))) | (with_reducible refine qc ?_ _) | (with_reducible refine qe ?_ _) | (with_reducible refine qf ?_))); (case side2 => exact HC0_1.out); rintro e w14 ⟨rfl, hb⟩; refine ⟨_, rfl, ?_⟩; have n0_ := qM (blk_below (g := gb476) (o := .cells #[.slice A0_0 l0_0.length c0_0, .slice A0_1 l0_1.length c0_1] 48 (0, 0)) (by (with_reducible repeat (first | apply qn | apply qd | apply qa)); exact BK476.out) hb); have n1_ := qM (qs (by repeat (first | (with_reducible first | exact HB.out | apply qA | apply qN | apply qD | refine qS ?_ GE476.out) | exact HB.out)) hb); clear BK476; clear HB; have BK476 := n0_; have HB := n1_; clear n0_ n1_; (try clear hb); (try clear hb2); (try clear hk); (try clear hi)))
    go_ret
    exact ⟨by first | rfl | (simp [errW_none, errW_some] <;> rfl) | (simp [*, errW_none, errW_some] <;> rfl), by repeat (first | (with_reducible first | exact HB.out | apply qA | apply qN | apply qD | refine qS ?_ GE476.out) | exact HB.out)⟩
  rw [if_pos c8] at H
  have c8b0 : decide (t478 < 0) = true := decide_eq_true c8
  clear c8
  obtain rfl := jF H
  go_enter Try.func32, Try.ntmps32
  go_wp2_with (first | ((with_reducible refine gate_dst (N := 2) rfl ?_); refine box_event ?hg (N := 2) ?hd (cs := #[.slice A0_0 l0_0.length c0_0, .slice A0_1 l0_1.length c0_1]) (t := 48) ?hr ?_; (case hd => rfl); (case hg => rfl); (case hr => first | (go_simp; done) | (go_simp; rfl)); intro gb476 hg w9 hbox hb; have n0_ := qM (qs (by repeat (first | (with_reducible first | exact HB.out | apply qA | apply qN | apply qD) | exact HB.out)) hb); have n1_ := qM (hbox); have n2_ := qM ((by rw [hg]; exact (qz (by repeat (first | (with_reducible first | exact HB.out | apply qA | apply qN | apply qD) | exact HB.out))) : w.heap.size ≤ gb476)); have n3_ := qM ((by rw [hg]; exact (qz (by repeat (first | (with_reducible first | exact HB.out | apply qA | apply qN | apply qD) | exact HB.out))) : w.heap.size ≤ gb476)); clear HB; have HB := n0_; have BK476 := n1_; have GW476 := n2_; have GE476 := n3_; clear n0_ n1_ n2_ n3_; clear hb hbox hg; have hcz10_0 : w9.cell? ⟨gb476, 0, none⟩ = some (.slice A0_0 l0_0.length c0_0) := (qC BK476.out 0).trans rfl; have hcz10_1 : w9.cell? ⟨gb476, 1, none⟩ = some (.slice A0_1 l0_1.length c0_1) := (qC BK476.out 1).trans rfl; have hfz10_0 := qF BK476.out 0; have hfz10_1 := qF BK476.out 1) | ((with_reducible refine gate_callee (f := 83) rfl ?_); refine goesL_ (some 8) rfl rfl Try.func83 (by kernel_rfl) rfl #[.slice A0_0 l0_0.length c0_0, .int .i64 a1] rfl (by (try simp only [jC, jD, jE]); first | done | rfl | (simp only [jB, jA]; rfl)) ?_; (with_reducible refine (laws_szBoolS.calls _ _ l0_0 a1 t477 _ ?side1 ?side2 A3.out).mono ?_); (case side1 => repeat (first | exact (qB HR0_0.out HB.out) | (with_reducible refine qc ?_ _) | (with_reducible refine qe ?_ _) | (with_reducible refine qf ?_))); (case side2 => exact HC0_0.out); rintro e w' ⟨rfl, ⟨nd, rfl⟩⟩; refine ⟨_, rfl, ?_⟩) | ((with_reducible refine gate_callee (f := 68) rfl ?_); refine goesL_ (some 14) rfl rfl Try.func68 (by kernel_rfl) rfl #[.slice A0_1 l0_1.length c0_1, .int .i64 t477] rfl (by (try simp only [jC, jD, jE]); first | done | rfl | (simp only [jB, jA]; rfl)) ?_; (with_reducible refine (laws_szTaskS.calls k _ _ l0_1 t477 t478 _ ?side1 ?side2 A7.out).mono ?_); (case side1 => repeat (first | exact (qB HR0_1.out (by repeat (first | (with_reducible first | exact HB.out | apply qA | apply qN | apply qD | refine qS ?_ GE476.out) | exact HB.out))) | (with_reducible refine qc ?_ _) | (with_reducible refine qe ?_ _) | (with_reducible refine qf ?_))); (case side2 => exact HC0_1.out); rintro e w11 ⟨rfl, hb⟩; refine ⟨_, rfl, ?_⟩; have n0_ := qM (blk_below (g := gb476) (o := .cells #[.slice A0_0 l0_0.length c0_0, .slice A0_1 l0_1.length c0_1] 48 (0, 0)) (by (with_reducible repeat (first | apply qn | apply qd | apply qa)); exact BK476.out) hb); have n1_ := qM (qs (by repeat (first | (with_reducible first | exact HB.out | apply qA | apply qN | apply qD | refine qS ?_ GE476.out) | exact HB.out)) hb); clear BK476; clear HB; have BK476 := n0_; have HB := n1_; clear n0_ n1_; (try clear hb); (try clear hb2); (try clear hk); (try clear hi)))
  go_ret
  exact ⟨by first | rfl | (simp [errW_none, errW_some] <;> rfl) | (simp [*, errW_none, errW_some] <;> rfl), by repeat (first | (with_reducible first | exact HB.out | apply qA | apply qN | apply qD | refine qS ?_ GE476.out) | exact HB.out)⟩
def laws_szFetchS.f (l0 : List (S165)) (a1 : Int) : Option (Int) := if (wrap64 (a1 - (l0.length : Int))) < 0 then (some (-1)) else (some (wrap64 (a1 - (l0.length : Int))))
theorem laws_szFetchS.calls (A0 : Option Addr) (c0 : Nat) (l0 : List (S165)) (a1 : Int) (r : Int) (w : World) (hr0 : Kd.C k165 w A0 l0.length l0) (hc0 : l0.length ≤ c0) (h : laws_szFetchS.f l0 a1 = some r) :
    Calls Try.prog 107 #[.slice A0 l0.length c0, .int .i64 a1] w fun e w' => e = .returned (.int .i64 r) ∧ Drawn0 w w' := by
  have HR0 := qM hr0
  have HC0 := qM hc0
  clear hr0 hc0
  have H : (if (wrap64 (a1 - (l0.length : Int))) < 0 then (some (-1)) else (some (wrap64 (a1 - (l0.length : Int))))) = some r := h
  clear h
  by_cases c3 : (wrap64 (a1 - (l0.length : Int))) < 0
  rotate_left
  · rw [if_neg c3] at H
    have c3b0 : decide ((wrap64 (a1 - (l0.length : Int))) < 0) = false := decide_eq_false c3
    clear c3
    obtain rfl := jF H
    go_enter Try.func107, Try.ntmps107
    go_wp2
    go_ret
    exact ⟨by first | rfl | (simp; done) | (simp [*]; done), by repeat (first | exact Drawn0.refl _ | apply Drawn0.step)⟩
  rw [if_pos c3] at H
  have c3b0 : decide ((wrap64 (a1 - (l0.length : Int))) < 0) = true := decide_eq_true c3
  clear c3
  obtain rfl := jF H
  go_enter Try.func107, Try.ntmps107
  go_wp2
  go_ret
  exact ⟨by first | rfl | (simp; done) | (simp [*]; done), by repeat (first | exact Drawn0.refl _ | apply Drawn0.step)⟩
def laws_szTrace.f (a0_0 : Int) (l0_1 : List (S165)) (a0_2 : Int) (a1 : Int) : Option (Int) := (laws_szFetchS.f l0_1 a1).bind fun t480 => (if t480 < 0 then (some (-1)) else (some t480))
theorem laws_szTrace.calls (a0_0 : Int) (A0_1 : Option Addr) (c0_1 : Nat) (l0_1 : List (S165)) (a0_2 : Int) (a1 : Int) (r : Int) (w : World) (hr0_1 : Kd.C k165 w A0_1 l0_1.length l0_1) (hc0_1 : l0_1.length ≤ c0_1) (h : laws_szTrace.f a0_0 l0_1 a0_2 a1 = some r) :
    Calls Try.prog 52 #[.agg #[.int .i64 a0_0, .slice A0_1 l0_1.length c0_1, .int .i64 a0_2], .int .i64 a1] w fun e w' => e = .returned (.int .i64 r) ∧ Below w.heap.size w w' := by
  have hu81 := Try.underlying81
  have HR0_1 := qM hr0_1
  have HC0_1 := qM hc0_1
  clear hr0_1 hc0_1
  have HB := qM (Below.refl w.heap.size w)
  have H : ((laws_szFetchS.f l0_1 a1).bind fun t480 => (if t480 < 0 then (some (-1)) else (some t480))) = some r := h
  clear h
  replace H := jG H
  obtain ⟨t480, A30, H⟩ := H
  replace H : (if t480 < 0 then (some (-1)) else (some t480)) = some r := H
  have A3 := qM A30
  clear A30
  by_cases c4 : t480 < 0
  rotate_left
  · rw [if_neg c4] at H
    have c4b0 : decide (t480 < 0) = false := decide_eq_false c4
    clear c4
    obtain rfl := jF H
    go_enter Try.func52, Try.ntmps52
    go_wp2_with (first | ((with_reducible refine gate_dst (N := 2) rfl ?_); refine box_event ?hg (N := 2) ?hd (cs := #[.int .i64 a0_0, .slice A0_1 l0_1.length c0_1, .int .i64 a0_2]) (t := 81) ?hr ?_; (case hd => rfl); (case hg => rfl); (case hr => first | (go_simp; done) | (go_simp; rfl)); intro gb479 hg w7 hbox hb; have n0_ := qM (qs (by repeat (first | (with_reducible first | exact HB.out | apply qA | apply qN | apply qD) | exact HB.out)) hb); have n1_ := qM (hbox); have n2_ := qM ((by rw [hg]; exact (qz (by repeat (first | (with_reducible first | exact HB.out | apply qA | apply qN | apply qD) | exact HB.out))) : w.heap.size ≤ gb479)); have n3_ := qM ((by rw [hg]; exact (qz (by repeat (first | (with_reducible first | exact HB.out | apply qA | apply qN | apply qD) | exact HB.out))) : w.heap.size ≤ gb479)); clear HB; have HB := n0_; have BK479 := n1_; have GW479 := n2_; have GE479 := n3_; clear n0_ n1_ n2_ n3_; clear hb hbox hg; have hcz8_0 : w7.cell? ⟨gb479, 0, none⟩ = some (.int .i64 a0_0) := (qC BK479.out 0).trans rfl; have hcz8_1 : w7.cell? ⟨gb479, 1, none⟩ = some (.slice A0_1 l0_1.length c0_1) := (qC BK479.out 1).trans rfl; have hcz8_2 : w7.cell? ⟨gb479, 2, none⟩ = some (.int .i64 a0_2) := (qC BK479.out 2).trans rfl; have hfz8_0 := qF BK479.out 0; have hfz8_1 := qF BK479.out 1; have hfz8_2 := qF BK479.out 2) | ((with_reducible refine gate_callee (f := 107) rfl ?_); refine goesL_ (some 8) rfl rfl Try.func107 (by kernel_rfl) rfl #[.slice A0_1 l0_1.length c0_1, .int .i64 a1] rfl (by (try simp only [jC, jD, jE]); first | done | rfl | (simp only [jB, jA]; rfl)) ?_; (with_reducible refine (laws_szFetchS.calls _ _ l0_1 a1 t480 _ ?side1 ?side2 A3.out).mono ?_); (case side1 => repeat (first | exact (qB HR0_1.out HB.out) | (with_reducible refine qc ?_ _) | (with_reducible refine qe ?_ _) | (with_reducible refine qf ?_))); (case side2 => exact HC0_1.out); rintro e w' ⟨rfl, ⟨nd, rfl⟩⟩; refine ⟨_, rfl, ?_⟩))
    go_ret
    exact ⟨by first | rfl | (simp [errW_none, errW_some] <;> rfl) | (simp [*, errW_none, errW_some] <;> rfl), by repeat (first | (with_reducible first | exact HB.out | apply qA | apply qN | apply qD | refine qS ?_ GE479.out) | exact HB.out)⟩
  rw [if_pos c4] at H
  have c4b0 : decide (t480 < 0) = true := decide_eq_true c4
  clear c4
  obtain rfl := jF H
  go_enter Try.func52, Try.ntmps52
  go_wp2_with (first | ((with_reducible refine gate_dst (N := 2) rfl ?_); refine box_event ?hg (N := 2) ?hd (cs := #[.int .i64 a0_0, .slice A0_1 l0_1.length c0_1, .int .i64 a0_2]) (t := 81) ?hr ?_; (case hd => rfl); (case hg => rfl); (case hr => first | (go_simp; done) | (go_simp; rfl)); intro gb479 hg w5 hbox hb; have n0_ := qM (qs (by repeat (first | (with_reducible first | exact HB.out | apply qA | apply qN | apply qD) | exact HB.out)) hb); have n1_ := qM (hbox); have n2_ := qM ((by rw [hg]; exact (qz (by repeat (first | (with_reducible first | exact HB.out | apply qA | apply qN | apply qD) | exact HB.out))) : w.heap.size ≤ gb479)); have n3_ := qM ((by rw [hg]; exact (qz (by repeat (first | (with_reducible first | exact HB.out | apply qA | apply qN | apply qD) | exact HB.out))) : w.heap.size ≤ gb479)); clear HB; have HB := n0_; have BK479 := n1_; have GW479 := n2_; have GE479 := n3_; clear n0_ n1_ n2_ n3_; clear hb hbox hg; have hcz6_0 : w5.cell? ⟨gb479, 0, none⟩ = some (.int .i64 a0_0) := (qC BK479.out 0).trans rfl; have hcz6_1 : w5.cell? ⟨gb479, 1, none⟩ = some (.slice A0_1 l0_1.length c0_1) := (qC BK479.out 1).trans rfl; have hcz6_2 : w5.cell? ⟨gb479, 2, none⟩ = some (.int .i64 a0_2) := (qC BK479.out 2).trans rfl; have hfz6_0 := qF BK479.out 0; have hfz6_1 := qF BK479.out 1; have hfz6_2 := qF BK479.out 2) | ((with_reducible refine gate_callee (f := 107) rfl ?_); refine goesL_ (some 8) rfl rfl Try.func107 (by kernel_rfl) rfl #[.slice A0_1 l0_1.length c0_1, .int .i64 a1] rfl (by (try simp only [jC, jD, jE]); first | done | rfl | (simp only [jB, jA]; rfl)) ?_; (with_reducible refine (laws_szFetchS.calls _ _ l0_1 a1 t480 _ ?side1 ?side2 A3.out).mono ?_); (case side1 => repeat (first | exact (qB HR0_1.out HB.out) | (with_reducible refine qc ?_ _) | (with_reducible refine qe ?_ _) | (with_reducible refine qf ?_))); (case side2 => exact HC0_1.out); rintro e w' ⟨rfl, ⟨nd, rfl⟩⟩; refine ⟨_, rfl, ?_⟩))
  go_ret
  exact ⟨by first | rfl | (simp [errW_none, errW_some] <;> rfl) | (simp [*, errW_none, errW_some] <;> rfl), by repeat (first | (with_reducible first | exact HB.out | apply qA | apply qN | apply qD | refine qS ?_ GE479.out) | exact HB.out)⟩
def laws_szTraceS.l0 : Nat → List (S81) → Int → Int → Option (Int)
  | 0, _, _, _ => none
  | k + 1, x0, x1, x5 => if x5 < (x0.length : Int) then (if 0 ≤ x5 then ((laws_szTrace.f ((rd_T81 x0 x5).f0) ((rd_T81 x0 x5).f1) ((rd_T81 x0 x5).f2) x1).bind fun t482 => (if t482 < 0 then (some (-1)) else (laws_szTraceS.l0 k x0 t482 (wrap64 (x5 + 1))))) else (none)) else (some x1)
def laws_szTraceS.f (k : Nat) (l0 : List (S81)) (a1 : Int) : Option (Int) := if (wrap64 (a1 - (l0.length : Int))) < 0 then (some (-1)) else (laws_szTraceS.l0 k l0 (wrap64 (a1 - (l0.length : Int))) 0)
theorem laws_szTraceS.calls (k : Nat) (A0 : Option Addr) (c0 : Nat) (l0 : List (S81)) (a1 : Int) (r : Int) (w : World) (hr0 : Kd.C k81 w A0 l0.length l0) (hc0 : l0.length ≤ c0) (h : laws_szTraceS.f k l0 a1 = some r) :
    Calls Try.prog 40 #[.slice A0 l0.length c0, .int .i64 a1] w fun e w' => e = .returned (.int .i64 r) ∧ Below w.heap.size w w' := by
  have hu81 := Try.underlying81
  have HR0 := qM hr0
  have HC0 := qM hc0
  clear hr0 hc0
  have HB := qM (Below.refl w.heap.size w)
  have H : (if (wrap64 (a1 - (l0.length : Int))) < 0 then (some (-1)) else (laws_szTraceS.l0 k l0 (wrap64 (a1 - (l0.length : Int))) 0)) = some r := h
  clear h
  by_cases c3 : (wrap64 (a1 - (l0.length : Int))) < 0
  · rw [if_pos c3] at H
    have c3b0 : decide ((wrap64 (a1 - (l0.length : Int))) < 0) = true := decide_eq_true c3
    clear c3
    obtain rfl := jF H
    go_enter Try.func40, Try.ntmps40
    go_wp2
    go_ret
    exact ⟨by first | rfl | (simp [errW_none, errW_some] <;> rfl) | (simp [*, errW_none, errW_some] <;> rfl), by repeat (first | (with_reducible first | exact HB.out | apply qA | apply qN | apply qD) | exact HB.out)⟩
  rw [if_neg c3] at H
  have c3b0 : decide ((wrap64 (a1 - (l0.length : Int))) < 0) = false := decide_eq_false c3
  clear c3
  have H' := qM H
  clear H
  go_enter Try.func40, Try.ntmps40
  go_wp2
  go_loopg [1, 5] k (fun kq v1 v5 w' => ∃ (x1_1 : Int) (x5_1 : Int), v1 = .int .i64 x1_1 ∧ v5 = .int .i64 x5_1 ∧ Aside0 (laws_szTraceS.l0 kq l0 x1_1 x5_1 = some r) ∧ Aside0 (kq ≤ k) ∧ Aside0 (Below w.heap.size w w'))
  case atStart => exact ⟨(wrap64 (a1 - (l0.length : Int))), (0), (by first | rfl | (simp; done) | (simp [*]; done)), (by first | rfl | (simp; done) | (simp [*]; done)), H', ⟨Nat.le_refl _⟩, ⟨by repeat (first | (with_reducible first | exact HB.out | apply qA | apply qN | apply qD) | exact HB.out)⟩⟩
  case round =>
    clear H'
    try clear p2
    try clear c3
    try clear c3b0
    obtain ⟨x1_1, x5_1, rfl, rfl, HA, HK1, HB⟩ := hrel
    cases gk with
    | zero => exact absurd HA.out (by simp [laws_szTraceS.l0])
    | succ k1 =>
      have H := HA.out
      clear HA
      simp only [laws_szTraceS.l0] at H
      by_cases c4 : x5_1 < (l0.length : Int)
      rotate_left
      · rw [if_neg c4] at H
        have c4b0 : decide (x5_1 < (l0.length : Int)) = false := decide_eq_false c4
        clear c4
        obtain rfl := jF H
        go_wp2
        go_ret
        exact ⟨by first | rfl | (simp [errW_none, errW_some] <;> rfl) | (simp [*, errW_none, errW_some] <;> rfl), by repeat (first | (with_reducible first | exact HB.out | apply qA | apply qN | apply qD) | exact HB.out)⟩
      rw [if_pos c4] at H
      have c4b0 : decide (x5_1 < (l0.length : Int)) = true := decide_eq_true c4
      clear c4
      by_cases c5 : 0 ≤ x5_1
      rotate_left
      · rw [if_neg c5] at H
        exact absurd H (by simp)
      rw [if_pos c5] at H
      have c5b0 : decide (0 ≤ x5_1) = true := decide_eq_true c5
      clear c5
      replace H := jG H
      obtain ⟨t482, A60, H⟩ := H
      replace H : (if t482 < 0 then (some (-1)) else (laws_szTraceS.l0 k1 l0 t482 (wrap64 (x5_1 + 1)))) = some r := H
      have A6 := qM A60
      clear A60
      by_cases c7 : t482 < 0
      · rw [if_pos c7] at H
        have c7b0 : decide (t482 < 0) = true := decide_eq_true c7
        clear c7
        obtain rfl := jF H
        have p481 : 0 ≤ (x5_1 : Int) := qO (by first | (with_reducible assumption) | assumption)
        have q481 : x5_1 < (l0.length : Int) := qO (by first | (with_reducible assumption) | assumption)
        obtain ⟨ad481, A481_1, c481_1, e481, hx481_0, hx481_1, hx481_2, hl481_1, hi481_1⟩ := at_T81 HR0.out x5_1 p481 q481
        cases e481
        replace hx481_0 := (HB.out.cell (qL w _ hx481_0)).trans hx481_0
        replace hx481_1 := (HB.out.cell (qL w _ hx481_1)).trans hx481_1
        replace hx481_2 := (HB.out.cell (qL w _ hx481_2)).trans hx481_2
        have HR481_1 := qM hi481_1
        have HC481_1 := qM hl481_1
        clear hi481_1 hl481_1
        replace p481 := eq_true p481
        replace q481 := eq_true q481
        go_wp2_with (first | ((with_reducible refine gate_callee (f := 52) rfl ?_); refine goesL_ (some 23) rfl rfl Try.func52 (by kernel_rfl) rfl #[.agg #[.int .i64 ((rd_T81 l0 x5_1).f0), .slice A481_1 ((rd_T81 l0 x5_1).f1).length c481_1, .int .i64 ((rd_T81 l0 x5_1).f2)], .int .i64 x1_1] rfl (by (try simp only [jC, jD, jE]); first | done | rfl | (simp only [jB, jA]; rfl)) ?_; (with_reducible refine (laws_szTrace.calls ((rd_T81 l0 x5_1).f0) _ _ ((rd_T81 l0 x5_1).f1) ((rd_T81 l0 x5_1).f2) x1_1 t482 _ ?side1 ?side2 A6.out).mono ?_); (case side1 => repeat (first | exact (qB HR481_1.out HB.out) | (with_reducible refine qc ?_ _) | (with_reducible refine qe ?_ _) | (with_reducible refine qf ?_))); (case side2 => exact HC481_1.out); rintro e w8 ⟨rfl, hb⟩; refine ⟨_, rfl, ?_⟩; have n0_ := qM (qs (by repeat (first | (with_reducible first | exact HB.out | apply qA | apply qN | apply qD) | exact HB.out)) hb); clear HB; have HB := n0_; clear n0_; (try clear hb); (try clear hb2); (try clear hk); (try clear hi)))
        go_ret
        exact ⟨by first | rfl | (simp [errW_none, errW_some] <;> rfl) | (simp [*, errW_none, errW_some] <;> rfl), by repeat (first | (with_reducible first | exact HB.out | apply qA | apply qN | apply qD) | exact HB.out)⟩
      rw [if_neg c7] at H
      have c7b0 : decide (t482 < 0) = false := decide_eq_false c7
      clear c7
      have H' := qM H
      clear H
      have p481 : 0 ≤ (x5_1 : Int) := qO (by first | (with_reducible assumption) | assumption)
      have q481 : x5_1 < (l0.length : Int) := qO (by first | (with_reducible assumption) | assumption)
      obtain ⟨ad481, A481_1, c481_1, e481, hx481_0, hx481_1, hx481_2, hl481_1, hi481_1⟩ := at_T81 HR0.out x5_1 p481 q481
      cases e481
      replace hx481_0 := (HB.out.cell (qL w _ hx481_0)).trans hx481_0
      replace hx481_1 := (HB.out.cell (qL w _ hx481_1)).trans hx481_1
      replace hx481_2 := (HB.out.cell (qL w _ hx481_2)).trans hx481_2
      have HR481_1 := qM hi481_1
      have HC481_1 := qM hl481_1
      clear hi481_1 hl481_1
      replace p481 := eq_true p481
      replace q481 := eq_true q481
      go_wp2_with (first | ((with_reducible refine gate_callee (f := 52) rfl ?_); refine goesL_ (some 23) rfl rfl Try.func52 (by kernel_rfl) rfl #[.agg #[.int .i64 ((rd_T81 l0 x5_1).f0), .slice A481_1 ((rd_T81 l0 x5_1).f1).length c481_1, .int .i64 ((rd_T81 l0 x5_1).f2)], .int .i64 x1_1] rfl (by (try simp only [jC, jD, jE]); first | done | rfl | (simp only [jB, jA]; rfl)) ?_; (with_reducible refine (laws_szTrace.calls ((rd_T81 l0 x5_1).f0) _ _ ((rd_T81 l0 x5_1).f1) ((rd_T81 l0 x5_1).f2) x1_1 t482 _ ?side1 ?side2 A6.out).mono ?_); (case side1 => repeat (first | exact (qB HR481_1.out HB.out) | (with_reducible refine qc ?_ _) | (with_reducible refine qe ?_ _) | (with_reducible refine qf ?_))); (case side2 => exact HC481_1.out); rintro e w9 ⟨rfl, hb⟩; refine ⟨_, rfl, ?_⟩; have n0_ := qM (qs (by repeat (first | (with_reducible first | exact HB.out | apply qA | apply qN | apply qD) | exact HB.out)) hb); clear HB; have HB := n0_; clear n0_; (try clear hb); (try clear hb2); (try clear hk); (try clear hi)))
      go_roundg k1
      case measure => have := HK1.out; omega
      case rel => exact ⟨(t482), (wrap64 (x5_1 + 1)), (by first | rfl | (simp; done) | (simp [*]; done)), (by first | rfl | (simp; done) | (simp [*]; done)), H', ⟨by have := HK1.out; omega⟩, ⟨by repeat (first | (with_reducible first | exact HB.out | apply qA | apply qN | apply qD) | exact HB.out)⟩⟩
def laws_toBoolS.l0 : Nat → List Bool → List Bool → Int → Option (List Bool)
  | 0, _, _, _ => none
  | k + 1, x0, x3, x4 => if x4 < (x0.length : Int) then (if 0 ≤ x4 then (if x4 < (x3.length : Int) then (laws_toBoolS.l0 k x0 (x3.set (x4 : Int).toNat (rdOf false x0 x4)) (wrap64 (x4 + 1))) else (none)) else (none)) else (some x3)
def laws_toBoolS.f (k : Nat) (l0 : List Bool) : Option (List Bool) := if 0 ≤ (l0.length : Int) then (if ((l0.length : Int) : Int).toNat ≤ 281474976710656 then (laws_toBoolS.l0 k l0 (List.replicate ((l0.length : Int) : Int).toNat false) 0) else (none)) else (none)
theorem laws_toBoolS.calls (k : Nat) (A0 : Option Addr) (c0 : Nat) (l0 : List Bool) (r : List Bool) (w : World) (hr0 : Kd.C Kd.bool w A0 l0.length l0) (hc0 : l0.length ≤ c0) (h : laws_toBoolS.f k l0 = some r) :
    Calls Try.prog 89 #[.slice A0 l0.length c0] w fun e w' => ∃ v0_ : Value, e = .returned (v0_) ∧ Kd.R Kd.bool 4 w' w.heap.size (fun _ => True) v0_ r ∧ Below w.heap.size w w' := by
  have HR0 := qM hr0
  have HC0 := qM hc0
  clear hr0 hc0
  have HB := qM (Below.refl w.heap.size w)
  have H : (if 0 ≤ (l0.length : Int) then (if ((l0.length : Int) : Int).toNat ≤ 281474976710656 then (laws_toBoolS.l0 k l0 (List.replicate ((l0.length : Int) : Int).toNat false) 0) else (none)) else (none)) = some r := h
  clear h
  by_cases c2 : 0 ≤ (l0.length : Int)
  rotate_left
  · rw [if_neg c2] at H
    exact absurd H (by simp)
  rw [if_pos c2] at H
  have c2b0 := eq_true c2
  have c2b1 : decide (0 ≤ (l0.length : Int)) = true := decide_eq_true c2
  clear c2
  by_cases c3 : ((l0.length : Int) : Int).toNat ≤ 281474976710656
  rotate_left
  · rw [if_neg c3] at H
    exact absurd H (by simp)
  rw [if_pos c3] at H
  have c3b0 := eq_true c3
  have c3b1 : decide (((l0.length : Int) : Int).toNat ≤ 281474976710656) = true := decide_eq_true c3
  clear c3
  obtain ⟨y532, hy532⟩ : ∃ y_ : List Bool, y_ = (List.replicate ((l0.length : Int) : Int).toNat false) := ⟨_, rfl⟩
  replace H : (laws_toBoolS.l0 k l0 y532 0) = some r := by first | (rw [hy532]; with_reducible exact H) | (have H2_ := (Option.bind_some _ _).symm.trans H; rw [hy532]; with_reducible exact H2_) | (have H2_ := (Option.bind_some _ _).symm.trans H; with_reducible exact H2_) | with_reducible exact H | (rw [hy532]; exact H) | exact H
  have Ny532 := qM hy532
  clear hy532
  have H' := qM H
  clear H
  go_enter Try.func89, Try.ntmps89
  go_wp2_with (first | ((with_reducible refine gate_dst (N := 7) rfl ?_); refine Kd.R_make Kd.bool _ 4 rfl (N := 7) rfl 46 _ _ rfl (l0.length : Int) rfl rfl Try.underlying46 (.bool false) 1 info4 rfl (by decide) (by omega) false (ok := fun _ => True) (okp := fun _ => True) rfl (fun _ hk => hk) trivial (qO (by first | (with_reducible assumption) | assumption)) (Nat.le_trans (Nat.mul_le_mul_right _ (qO (by first | (with_reducible assumption) | assumption) : (l0.length : Int).toNat ≤ 281474976710656)) (by omega)) (Below.refl _ _) (Nat.le_refl _) ?_; intro v533 w4 ho5 hb hg_ hnew_; clear hg_ hnew_; (first | rw [← Ny532.out] at ho5 | (simp only [Int.reduceToNat] at ho5; rw [← Ny532.out] at ho5)); have n0_ := qM (Kd.R_lower ho5 (qz (by repeat (first | (with_reducible first | exact HB.out | apply qA | apply qN | apply qD) | exact HB.out)))); have n1_ := qM (qs (by repeat (first | (with_reducible first | exact HB.out | apply qA | apply qN | apply qD) | exact HB.out)) hb); clear HB; have HO534 := n0_; have HB := n1_; clear n0_ n1_; clear hb ho5))
  go_loopg [4] k (fun kq v4 w' => ∃ (x3_1 : List Bool) (x4_1 : Int), v4 = .int .i64 x4_1 ∧ Aside0 (laws_toBoolS.l0 kq l0 x3_1 x4_1 = some r) ∧ Aside0 (kq ≤ k) ∧ Aside0 (Kd.R Kd.bool 4 w' w.heap.size (fun _ => True) v533 x3_1) ∧ Aside0 (Below w.heap.size w w'))
  case atStart => exact ⟨(y532), (0), (by first | rfl | (simp; done) | (simp [*]; done)), H', ⟨Nat.le_refl _⟩, ⟨by (with_reducible repeat (first | apply Kd.R_alloc | apply Kd.R_drewN | apply Kd.R_drew)); exact HO534.out⟩, ⟨by repeat (first | (with_reducible first | exact HB.out | apply qA | apply qN | apply qD) | exact HB.out)⟩⟩
  case round =>
    clear H'
    try clear c2
    try clear c2b0
    try clear c2b1
    try clear p2
    try clear c3
    try clear c3b0
    try clear c3b1
    obtain ⟨x3_1, x4_1, rfl, HA, HK1, HO_3, HB⟩ := hrel
    cases gk with
    | zero => exact absurd HA.out (by simp [laws_toBoolS.l0])
    | succ k1 =>
      have H := HA.out
      clear HA
      simp only [laws_toBoolS.l0] at H
      by_cases c6 : x4_1 < (l0.length : Int)
      rotate_left
      · rw [if_neg c6] at H
        have c6b0 : decide (x4_1 < (l0.length : Int)) = false := decide_eq_false c6
        clear c6
        obtain rfl := jF H
        go_wp2
        go_ret
        exact ⟨_, by first | rfl | (simp [errW_none, errW_some] <;> rfl) | (simp [*, errW_none, errW_some] <;> rfl), by (with_reducible repeat (first | apply Kd.R_alloc | apply Kd.R_drewN | apply Kd.R_drew)); exact HO_3.out, by repeat (first | (with_reducible first | exact HB.out | apply qA | apply qN | apply qD) | exact HB.out)⟩
      rw [if_pos c6] at H
      have c6b0 : decide (x4_1 < (l0.length : Int)) = true := decide_eq_true c6
      clear c6
      by_cases c7 : 0 ≤ x4_1
      rotate_left
      · rw [if_neg c7] at H
        exact absurd H (by simp)
      rw [if_pos c7] at H
      have c7b0 : decide (0 ≤ x4_1) = true := decide_eq_true c7
      clear c7
      by_cases c8 : x4_1 < (x3_1.length : Int)
      rotate_left
      · rw [if_neg c8] at H
        exact absurd H (by simp)
      rw [if_pos c8] at H
      have c8b0 : decide (x4_1 < (x3_1.length : Int)) = true := decide_eq_true c8
      clear c8
      obtain ⟨y536, hy536⟩ : ∃ y_ : List Bool, y_ = (x3_1.set (x4_1 : Int).toNat (rdOf false l0 x4_1)) := ⟨_, rfl⟩
      replace H : (laws_toBoolS.l0 k1 l0 y536 (wrap64 (x4_1 + 1))) = some r := by first | (rw [hy536]; with_reducible exact H) | (have H2_ := (Option.bind_some _ _).symm.trans H; rw [hy536]; with_reducible exact H2_) | (have H2_ := (Option.bind_some _ _).symm.trans H; with_reducible exact H2_) | with_reducible exact H | (rw [hy536]; exact H) | exact H
      have Ny536 := qM hy536
      clear hy536
      have H' := qM H
      clear H
      have p535 : 0 ≤ (x4_1 : Int) := qO (by first | (with_reducible assumption) | assumption)
      have q535 : x4_1 < (l0.length : Int) := qO (by first | (with_reducible assumption) | assumption)
      obtain ⟨ad535, e535, hx535_0⟩ := Kd.at_bool HR0.out x4_1 p535 q535
      cases e535
      replace hx535_0 := (HB.out.cell (qL w _ hx535_0)).trans hx535_0
      replace p535 := eq_true p535
      replace q535 := eq_true q535
      have p9 : 0 ≤ (x4_1 : Int) := qO (by first | (with_reducible assumption) | assumption)
      have q9 : (x4_1 : Int) < ((x3_1.length : Int) : Int) := qO (by first | (with_reducible assumption) | assumption)
      obtain ⟨go9, co9, eo9, gb9, gl9, cl9, HG9⟩ := Kd.R_form HO_3.out (by omega)
      (first | cases eo9 | (injection eo9 with ea_ en_ ec_; (first | subst ea_ | (injection ea_ with ea_; subst ea_)); subst ec_; clear en_))
      have GB9 := qM gb9
      have GG9 := qM HG9
      clear gb9 gl9 HG9
      obtain ⟨hx9_0, hf9_0⟩ := Kd.R_celln false HO_3.out (x4_1 : Int) p9 q9
      replace p9 := eq_true p9
      replace q9 := eq_true q9
      have HP10 := Kd.R_putg HO_3.out (x4_1 : Int) (rdOf false l0 x4_1)
      go_wp2_with (first | ((with_reducible refine gate_store (t := 4) (p := 20) rfl ?_); refine store_event (t := 4) (p := 20) (v := ?vo_w11) (w1 := (wr.setCell ⟨go9, (x4_1 : Int).toNat, none⟩ (.bool (rdOf false l0 x4_1)))) ?hg ?ho ?hn ?hr ?_; (case ho => rfl); (case hg => rfl); (case hn => rfl); (case hr => first | (go_simp; done) | (go_simp; rfl)); intro w11 hw; have hg : wr.grownBy w11 (some go9) := (by rw [hw]; exact HP10.2); have hp_ : Kd.R Kd.bool 4 w11 w.heap.size (fun _ => True) (.slice (some ⟨go9, 0, none⟩) x3_1.length co9) y536 := (by rw [hw, Ny536.out]; exact HP10.1); clear HP10; have n0_ := qM (hp_); have n1_ := qM ((by rw [hw]; exact qS (HB.out) GB9.out : Below w.heap.size w w11)); clear HO_3; clear HB; have HO_3 := n0_; have HB := n1_; clear n0_ n1_; clear hg hw hp_))
      go_roundg k1
      case measure => have := HK1.out; omega
      case rel => exact ⟨(y536), (wrap64 (x4_1 + 1)), (by first | rfl | (simp; done) | (simp [*]; done)), H', ⟨by have := HK1.out; omega⟩, ⟨by (with_reducible repeat (first | apply Kd.R_alloc | apply Kd.R_drewN | apply Kd.R_drew)); exact HO_3.out⟩, ⟨by repeat (first | (with_reducible first | exact HB.out | apply qA | apply qN | apply qD) | exact HB.out)⟩⟩
def laws_toSheet.f (k : Nat) (l0_0 : List Bool) (l0_1 : List (S24)) : Option (List Bool × (List (S30))) := (laws_toBoolS.f k l0_0).bind fun t540 => ((laws_toTaskS.f k l0_1).bind fun t543 => (some (t540, t543)))
theorem laws_toSheet.calls (k : Nat) (A0_0 : Option Addr) (c0_0 : Nat) (l0_0 : List Bool) (A0_1 : Option Addr) (c0_1 : Nat) (l0_1 : List (S24)) (r1 : List Bool) (r2 : List (S30)) (w : World) (hr0_0 : Kd.C Kd.bool w A0_0 l0_0.length l0_0) (hc0_0 : l0_0.length ≤ c0_0) (hr0_1 : Kd.C k24 w A0_1 l0_1.length l0_1) (hc0_1 : l0_1.length ≤ c0_1) (h : laws_toSheet.f k l0_0 l0_1 = some (r1, r2)) :
    Calls Try.prog 35 #[.agg #[.slice A0_0 l0_0.length c0_0, .slice A0_1 l0_1.length c0_1]] w fun e w' => ∃ v0_ v1_ : Value, e = .returned (.agg #[v0_, v1_]) ∧ Kd.R Kd.bool 4 w' w.heap.size (fun _ => True) v0_ r1 ∧ Kd.R k30 30 w' w.heap.size (fun _ => True) v1_ r2 ∧ Below w.heap.size w w' := by
  have hu48 := Try.underlying48
  have hu56 := Try.underlying56
  have HR0_0 := qM hr0_0
  have HC0_0 := qM hc0_0
  clear hr0_0 hc0_0
  have HR0_1 := qM hr0_1
  have HC0_1 := qM hc0_1
  clear hr0_1 hc0_1
  have HB := qM (Below.refl w.heap.size w)
  have H : ((laws_toBoolS.f k l0_0).bind fun t540 => ((laws_toTaskS.f k l0_1).bind fun t543 => (some (t540, t543)))) = some (r1, r2) := h
  clear h
  replace H := jG H
  obtain ⟨t540, A20, H⟩ := H
  replace H : ((laws_toTaskS.f k l0_1).bind fun t543 => (some (t540, t543))) = some (r1, r2) := H
  have A2 := qM A20
  clear A20
  replace H := jG H
  obtain ⟨t543, A30, H⟩ := H
  replace H : (some (t540, t543)) = some (r1, r2) := H
  have A3 := qM A30
  clear A30
  simp only [Option.some.injEq, Prod.mk.injEq] at H
  obtain ⟨rfl, rfl⟩ := H
  go_enter Try.func35, Try.ntmps35
  go_wp2_with (first | ((with_reducible refine gate_dst (N := 1) rfl ?_); refine box_event ?hg (N := 1) ?hd (cs := #[.slice A0_0 l0_0.length c0_0, .slice A0_1 l0_1.length c0_1]) (t := 48) ?hr ?_; (case hd => rfl); (case hg => rfl); (case hr => first | (go_simp; done) | (go_simp; rfl)); intro gb537 hg w4 hbox hb; have n0_ := qM (qs (by repeat (first | (with_reducible first | exact HB.out | apply qA | apply qN | apply qD) | exact HB.out)) hb); have n1_ := qM (hbox); have n2_ := qM ((by rw [hg]; exact (qz (by repeat (first | (with_reducible first | exact HB.out | apply qA | apply qN | apply qD) | exact HB.out))) : w.heap.size ≤ gb537)); have n3_ := qM ((by rw [hg]; exact (qz (by repeat (first | (with_reducible first | exact HB.out | apply qA | apply qN | apply qD) | exact HB.out))) : w.heap.size ≤ gb537)); clear HB; have HB := n0_; have BK537 := n1_; have GW537 := n2_; have GE537 := n3_; clear n0_ n1_ n2_ n3_; clear hb hbox hg) | ((with_reducible refine gate_dst (N := 2) rfl ?_); refine box_event ?hg (N := 2) ?hd (cs := #[.slice none 0 0, .slice none 0 0]) (t := 56) ?hr ?_; (case hd => rfl); (case hg => rfl); (case hr => first | (go_simp; done) | (go_simp; rfl)); intro gb538 hg w5 hbox hb; have n0_ := qM (blk_below (g := gb537) (o := .cells #[.slice A0_0 l0_0.length c0_0, .slice A0_1 l0_1.length c0_1] 48 (0, 0)) (by (with_reducible repeat (first | apply qn | apply qd | apply qa)); exact BK537.out) hb); have n1_ := qM (qs (by repeat (first | (with_reducible first | exact HB.out | apply qA | apply qN | apply qD | refine qS ?_ GE537.out) | exact HB.out)) hb); have n2_ := qM (hbox); have n3_ := qM ((by rw [hg]; exact (qz (by repeat (first | (with_reducible first | exact HB.out | apply qA | apply qN | apply qD | refine qS ?_ GE537.out) | exact HB.out))) : w.heap.size ≤ gb538)); have n4_ := qM ((by rw [hg]; exact (qz (by repeat (first | (with_reducible first | exact HB.out | apply qA | apply qN | apply qD | refine qS ?_ GE537.out) | exact HB.out))) : w.heap.size ≤ gb538)); have n5_ := qM ((by rw [hg]; exact Nat.ne_of_lt (blk_lt (g := gb537) (o := .cells #[.slice A0_0 l0_0.length c0_0, .slice A0_1 l0_1.length c0_1] 48 (0, 0)) (by (with_reducible repeat (first | apply qn | apply qd | apply qa)); exact BK537.out)) : gb537 ≠ gb538)); have n6_ := qM ((by rw [hg]; exact Nat.ne_of_gt (blk_lt (g := gb537) (o := .cells #[.slice A0_0 l0_0.length c0_0, .slice A0_1 l0_1.length c0_1] 48 (0, 0)) (by (with_reducible repeat (first | apply qn | apply qd | apply qa)); exact BK537.out)) : gb538 ≠ gb537)); clear BK537; clear HB; have BK537 := n0_; have HB := n1_; have BK538 := n2_; have GW538 := n3_; have GE538 := n4_; have NB537_538 := n5_; have NB538_537 := n6_; clear n0_ n1_ n2_ n3_ n4_ n5_ n6_; clear hb hbox hg) | ((with_reducible refine gate_dst (N := 3) rfl ?_); refine box_event ?hg (N := 3) ?hd (cs := #[.slice none 0 0, .slice none 0 0]) (t := 56) ?hr ?_; (case hd => rfl); (case hg => rfl); (case hr => first | (go_simp; done) | (go_simp; rfl)); intro gb539 hg w6 hbox hb; have n0_ := qM (blk_below (g := gb537) (o := .cells #[.slice A0_0 l0_0.length c0_0, .slice A0_1 l0_1.length c0_1] 48 (0, 0)) (by (with_reducible repeat (first | apply qn | apply qd | apply qa)); exact BK537.out) hb); have n1_ := qM (blk_below (g := gb538) (o := .cells #[.slice none 0 0, .slice none 0 0] 56 (0, 0)) (by (with_reducible repeat (first | apply qn | apply qd | apply qa)); exact BK538.out) hb); have n2_ := qM (qs (by repeat (first | (with_reducible first | exact HB.out | apply qA | apply qN | apply qD | refine qS ?_ GE537.out | refine qS ?_ GE538.out) | exact HB.out)) hb); have n3_ := qM (hbox); have n4_ := qM ((by rw [hg]; exact (qz (by repeat (first | (with_reducible first | exact HB.out | apply qA | apply qN | apply qD | refine qS ?_ GE537.out | refine qS ?_ GE538.out) | exact HB.out))) : w.heap.size ≤ gb539)); have n5_ := qM ((by rw [hg]; exact (qz (by repeat (first | (with_reducible first | exact HB.out | apply qA | apply qN | apply qD | refine qS ?_ GE537.out | refine qS ?_ GE538.out) | exact HB.out))) : w.heap.size ≤ gb539)); have n6_ := qM ((by rw [hg]; exact Nat.ne_of_lt (blk_lt (g := gb537) (o := .cells #[.slice A0_0 l0_0.length c0_0, .slice A0_1 l0_1.length c0_1] 48 (0, 0)) (by (with_reducible repeat (first | apply qn | apply qd | apply qa)); exact BK537.out)) : gb537 ≠ gb539)); have n7_ := qM ((by rw [hg]; exact Nat.ne_of_gt (blk_lt (g := gb537) (o := .cells #[.slice A0_0 l0_0.length c0_0, .slice A0_1 l0_1.length c0_1] 48 (0, 0)) (by (with_reducible repeat (first | apply qn | apply qd | apply qa)); exact BK537.out)) : gb539 ≠ gb537)); have n8_ := qM ((by rw [hg]; exact Nat.ne_of_lt (blk_lt (g := gb538) (o := .cells #[.slice none 0 0, .slice none 0 0] 56 (0, 0)) (by (with_reducible repeat (first | apply qn | apply qd | apply qa)); exact BK538.out)) : gb538 ≠ gb539)); have n9_ := qM ((by rw [hg]; exact Nat.ne_of_gt (blk_lt (g := gb538) (o := .cells #[.slice none 0 0, .slice none 0 0] 56 (0, 0)) (by (with_reducible repeat (first | apply qn | apply qd | apply qa)); exact BK538.out)) : gb539 ≠ gb538)); clear BK537; clear BK538; clear HB; have BK537 := n0_; have BK538 := n1_; have HB := n2_; have BK539 := n3_; have GW539 := n4_; have GE539 := n5_; have NB537_539 := n6_; have NB539_537 := n7_; have NB538_539 := n8_; have NB539_538 := n9_; clear n0_ n1_ n2_ n3_ n4_ n5_ n6_ n7_ n8_ n9_; clear hb hbox hg; have hnb7 := NB537_538.out; have hnc7 := NB538_537.out; have hnb8 := NB537_539.out; have hnc8 := NB539_537.out; have hcz9_0 : w6.cell? ⟨gb537, 0, none⟩ = some (.slice A0_0 l0_0.length c0_0) := (qC BK537.out 0).trans rfl; have hcz9_1 : w6.cell? ⟨gb537, 1, none⟩ = some (.slice A0_1 l0_1.length c0_1) := (qC BK537.out 1).trans rfl; have hfz9_0 := qF BK537.out 0; have hfz9_1 := qF BK537.out 1) | ((with_reducible refine gate_callee (f := 89) rfl ?_); refine goesL_ (some 6) rfl rfl Try.func89 (by kernel_rfl) rfl #[.slice A0_0 l0_0.length c0_0] rfl (by (try simp only [jC, jD, jE]); first | done | rfl | (simp only [jB, jA]; rfl)) ?_; (with_reducible refine (laws_toBoolS.calls k _ _ l0_0 t540 _ ?side1 ?side2 A2.out).mono ?_); (case side1 => repeat (first | exact (qB HR0_0.out HB.out) | (with_reducible refine qc ?_ _) | (with_reducible refine qe ?_ _) | (with_reducible refine qf ?_))); (case side2 => exact HC0_0.out); rintro e w10 ⟨v541, rfl, ho0, hb⟩; refine ⟨_, rfl, ?_⟩; have n0_ := qM (Kd.R_lower ho0 (qz (by repeat (first | (with_reducible first | exact HB.out | apply qA | apply qN | apply qD | refine qS ?_ GE537.out | refine qS ?_ GE538.out | refine qS ?_ GE539.out) | exact HB.out)))); have n1_ := qM (blk_below (g := gb537) (o := .cells #[.slice A0_0 l0_0.length c0_0, .slice A0_1 l0_1.length c0_1] 48 (0, 0)) (by (with_reducible repeat (first | apply qn | apply qd | apply qa)); exact BK537.out) hb); have n2_ := qM (blk_below (g := gb538) (o := .cells #[.slice none 0 0, .slice none 0 0] 56 (0, 0)) (by (with_reducible repeat (first | apply qn | apply qd | apply qa)); exact BK538.out) hb); have n3_ := qM (blk_below (g := gb539) (o := .cells #[.slice none 0 0, .slice none 0 0] 56 (0, 0)) (by (with_reducible repeat (first | apply qn | apply qd | apply qa)); exact BK539.out) hb); have n4_ := qM (qs (by repeat (first | (with_reducible first | exact HB.out | apply qA | apply qN | apply qD | refine qS ?_ GE537.out | refine qS ?_ GE538.out | refine qS ?_ GE539.out) | exact HB.out)) hb); clear BK537; clear BK538; clear BK539; clear HB; have HO542 := n0_; have BK537 := n1_; have BK538 := n2_; have BK539 := n3_; have HB := n4_; clear n0_ n1_ n2_ n3_ n4_; (try clear hb); (try clear hb2); (try clear hk); (try clear hi); (try clear ho0); obtain ⟨Ao11, co11, eo11⟩ := Kd.R_slice HO542.out; subst eo11; have hnb12 := NB539_538.out; have hnc12 := NB538_539.out; have hcz13_0 : w10.cell? ⟨gb539, 0, none⟩ = some (.slice none 0 0) := (qC BK539.out 0).trans rfl; have hcz13_1 : w10.cell? ⟨gb539, 1, none⟩ = some (.slice none 0 0) := (qC BK539.out 1).trans rfl; have hfz13_0 := qF BK539.out 0; have hfz13_1 := qF BK539.out 1; have hcz14_0 : w10.cell? ⟨gb537, 0, none⟩ = some (.slice A0_0 l0_0.length c0_0) := (qC BK537.out 0).trans rfl; have hcz14_1 : w10.cell? ⟨gb537, 1, none⟩ = some (.slice A0_1 l0_1.length c0_1) := (qC BK537.out 1).trans rfl; have hfz14_0 := qF BK537.out 0; have hfz14_1 := qF BK537.out 1) | ((with_reducible refine gate_callee (f := 71) rfl ?_); refine goesL_ (some 10) rfl rfl Try.func71 (by kernel_rfl) rfl #[.slice A0_1 l0_1.length c0_1] rfl (by (try simp only [jC, jD, jE]); first | done | rfl | (simp only [jB, jA]; rfl)) ?_; (with_reducible refine (laws_toTaskS.calls k _ _ l0_1 t543 _ ?side1 ?side2 A3.out).mono ?_); (case side1 => exact qB HR0_1.out (by repeat (first | (with_reducible first | exact HB.out | apply qA | apply qN | apply qD | refine qS ?_ GE537.out | refine qS ?_ GE538.out | refine qS ?_ GE539.out) | exact HB.out))); (case side2 => exact HC0_1.out); rintro e w15 ⟨v544, rfl, ho0, hb⟩; refine ⟨_, rfl, ?_⟩; have n0_ := qM (Kd.R_below (by (with_reducible repeat (first | apply Kd.R_alloc | apply Kd.R_drewN | apply Kd.R_drew)); exact (Kd.R_mono (Kd.R_far (p := ⟨gb539, 0, none⟩) (Kd.R_types HO542.out BK539.out (by decide)) (fun _ hk => hk.2) (.slice Ao11 t540.length co11)) (fun _ h_ => h_.1))) hb); have n1_ := qM (Kd.R_lower ho0 (qz (by repeat (first | (with_reducible first | exact HB.out | apply qA | apply qN | apply qD | refine qS ?_ GE537.out | refine qS ?_ GE538.out | refine qS ?_ GE539.out) | exact HB.out)))); have n2_ := qM (blk_below (g := gb537) (o := .cells #[.slice A0_0 l0_0.length c0_0, .slice A0_1 l0_1.length c0_1] 48 (0, 0)) (by (with_reducible repeat (first | apply qn | apply qd | apply qa)); refine blk_far ?_ NB537_539.out _; (with_reducible repeat (first | apply qn | apply qd | apply qa)); exact BK537.out) hb); have n3_ := qM (blk_below (g := gb538) (o := .cells #[.slice none 0 0, .slice none 0 0] 56 (0, 0)) (by (with_reducible repeat (first | apply qn | apply qd | apply qa)); refine blk_far ?_ NB538_539.out _; (with_reducible repeat (first | apply qn | apply qd | apply qa)); exact BK538.out) hb); have n4_ := qM (blk_below (g := gb539) (o := .cells #[.slice Ao11 t540.length co11, .slice none 0 0] 56 (0, 0)) (by (with_reducible repeat (first | apply qn | apply qd | apply qa)); refine blk_put (cs := #[.slice none 0 0, .slice none 0 0]) ?_ 0 _ rfl; (with_reducible repeat (first | apply qn | apply qd | apply qa)); exact BK539.out) hb); have n5_ := qM (qs (by repeat (first | (with_reducible first | exact HB.out | apply qA | apply qN | apply qD | refine qS ?_ GE537.out | refine qS ?_ GE538.out | refine qS ?_ GE539.out) | exact HB.out)) hb); clear HO542; clear BK537; clear BK538; clear BK539; clear HB; have HO542 := n0_; have HO545 := n1_; have BK537 := n2_; have BK538 := n3_; have BK539 := n4_; have HB := n5_; clear n0_ n1_ n2_ n3_ n4_ n5_; (try clear hb); (try clear hb2); (try clear hk); (try clear hi); (try clear ho0); obtain ⟨Ao16, co16, eo16⟩ := Kd.R_slice HO545.out; subst eo16; have hcz17_0 : w15.cell? ⟨gb539, 0, none⟩ = some (.slice Ao11 t540.length co11) := (qC BK539.out 0).trans rfl; have hcz17_1 : w15.cell? ⟨gb539, 1, none⟩ = some (.slice none 0 0) := (qC BK539.out 1).trans rfl; have hfz17_0 := qF BK539.out 0; have hfz17_1 := qF BK539.out 1; have hcz18_0 : w15.cell? ⟨gb538, 0, none⟩ = some (.slice none 0 0) := (qC BK538.out 0).trans rfl; have hcz18_1 : w15.cell? ⟨gb538, 1, none⟩ = some (.slice none 0 0) := (qC BK538.out 1).trans rfl; have hfz18_0 := qF BK538.out 0; have hfz18_1 := qF BK538.out 1))
  refine bodyPost_ret (results_cell_row rfl _ _ gb538 56 #[.slice Ao11 t540.length co11, .slice Ao16 t543.length co16] (0, 0) _ rfl (by (with_reducible repeat (first | apply qn | apply qd | apply qa)); refine blk_put (cs := #[.slice Ao11 t540.length co11, .slice none 0 0]) ?_ 1 _ rfl; (with_reducible repeat (first | apply qn | apply qd | apply qa)); refine blk_put (cs := #[.slice none 0 0, .slice none 0 0]) ?_ 0 _ rfl; (with_reducible repeat (first | apply qn | apply qd | apply qa)); refine blk_far ?_ NB538_539.out _; (with_reducible repeat (first | apply qn | apply qd | apply qa)); exact BK538.out) Try.underlying56 rfl (by kernel_rfl)) rfl ?_
  exact ⟨_, _, by first | rfl | (simp [errW_none, errW_some] <;> rfl) | (simp [*, errW_none, errW_some] <;> rfl), by (with_reducible repeat (first | apply Kd.R_alloc | apply Kd.R_drewN | apply Kd.R_drew)); exact Kd.R_mono (Kd.R_far (p := ⟨gb538, 1, none⟩) (Kd.R_far (p := ⟨gb538, 0, none⟩) (Kd.R_far (p := ⟨gb539, 1, none⟩) (Kd.R_types (Kd.R_types HO542.out BK539.out (by decide)) BK538.out (by decide)) (fun _ hk => hk.1.2) (.slice Ao16 t543.length co16)) (fun _ hk => hk.2) (.slice Ao11 t540.length co11)) (fun _ hk => hk.2) (.slice Ao16 t543.length co16)) (fun _ hk => trivial), by (with_reducible repeat (first | apply Kd.R_alloc | apply Kd.R_drewN | apply Kd.R_drew)); exact Kd.R_mono (Kd.R_far (p := ⟨gb538, 1, none⟩) (Kd.R_far (p := ⟨gb538, 0, none⟩) (Kd.R_far (p := ⟨gb539, 1, none⟩) (Kd.R_types (Kd.R_types HO545.out BK539.out (by decide)) BK538.out (by decide)) (fun _ hk => hk.1.2) (.slice Ao16 t543.length co16)) (fun _ hk => hk.2) (.slice Ao11 t540.length co11)) (fun _ hk => hk.2) (.slice Ao16 t543.length co16)) (fun _ hk => trivial), by repeat (first | (with_reducible first | exact HB.out | apply qA | apply qN | apply qD | refine qS ?_ GE537.out | refine qS ?_ GE538.out | refine qS ?_ GE539.out) | exact HB.out)⟩
def laws_toFetch.f (a0_0 : Int) (a0_1 : Int) : Option (Int × Int) := some (a0_0, a0_1)
theorem laws_toFetch.calls (a0_0 : Int) (a0_1 : Int) (r1 : Int) (r2 : Int) (w : World) (h : laws_toFetch.f a0_0 a0_1 = some (r1, r2)) :
    Calls Try.prog 156 #[.agg #[.int .i64 a0_0, .int .i64 a0_1]] w fun e w' => e = .returned (.agg #[.int .i64 r1, .int .i64 r2]) ∧ Below w.heap.size w w' := by
  have hu165 := Try.underlying165
  have hu117 := Try.underlying117
  have HB := qM (Below.refl w.heap.size w)
  have H : (some (a0_0, a0_1)) = some (r1, r2) := h
  clear h
  simp only [Option.some.injEq, Prod.mk.injEq] at H
  obtain ⟨rfl, rfl⟩ := H
  go_enter Try.func156, Try.ntmps156
  go_wp2_with (first | ((with_reducible refine gate_dst (N := 1) rfl ?_); refine box_event ?hg (N := 1) ?hd (cs := #[.int .i64 a0_0, .int .i64 a0_1]) (t := 165) ?hr ?_; (case hd => rfl); (case hg => rfl); (case hr => first | (go_simp; done) | (go_simp; rfl)); intro gb546 hg w2 hbox hb; have n0_ := qM (qs (by repeat (first | (with_reducible first | exact HB.out | apply qA | apply qN | apply qD) | exact HB.out)) hb); have n1_ := qM (hbox); have n2_ := qM ((by rw [hg]; exact (qz (by repeat (first | (with_reducible first | exact HB.out | apply qA | apply qN | apply qD) | exact HB.out))) : w.heap.size ≤ gb546)); have n3_ := qM ((by rw [hg]; exact (qz (by repeat (first | (with_reducible first | exact HB.out | apply qA | apply qN | apply qD) | exact HB.out))) : w.heap.size ≤ gb546)); clear HB; have HB := n0_; have BK546 := n1_; have GW546 := n2_; have GE546 := n3_; clear n0_ n1_ n2_ n3_; clear hb hbox hg) | ((with_reducible refine gate_dst (N := 2) rfl ?_); refine box_event ?hg (N := 2) ?hd (cs := #[.int .i64 0, .int .i64 0]) (t := 117) ?hr ?_; (case hd => rfl); (case hg => rfl); (case hr => first | (go_simp; done) | (go_simp; rfl)); intro gb547 hg w3 hbox hb; have n0_ := qM (blk_below (g := gb546) (o := .cells #[.int .i64 a0_0, .int .i64 a0_1] 165 (0, 0)) (by (with_reducible repeat (first | apply qn | apply qd | apply qa)); exact BK546.out) hb); have n1_ := qM (qs (by repeat (first | (with_reducible first | exact HB.out | apply qA | apply qN | apply qD | refine qS ?_ GE546.out) | exact HB.out)) hb); have n2_ := qM (hbox); have n3_ := qM ((by rw [hg]; exact (qz (by repeat (first | (with_reducible first | exact HB.out | apply qA | apply qN | apply qD | refine qS ?_ GE546.out) | exact HB.out))) : w.heap.size ≤ gb547)); have n4_ := qM ((by rw [hg]; exact (qz (by repeat (first | (with_reducible first | exact HB.out | apply qA | apply qN | apply qD | refine qS ?_ GE546.out) | exact HB.out))) : w.heap.size ≤ gb547)); have n5_ := qM ((by rw [hg]; exact Nat.ne_of_lt (blk_lt (g := gb546) (o := .cells #[.int .i64 a0_0, .int .i64 a0_1] 165 (0, 0)) (by (with_reducible repeat (first | apply qn | apply qd | apply qa)); exact BK546.out)) : gb546 ≠ gb547)); have n6_ := qM ((by rw [hg]; exact Nat.ne_of_gt (blk_lt (g := gb546) (o := .cells #[.int .i64 a0_0, .int .i64 a0_1] 165 (0, 0)) (by (with_reducible repeat (first | apply qn | apply qd | apply qa)); exact BK546.out)) : gb547 ≠ gb546)); clear BK546; clear HB; have BK546 := n0_; have HB := n1_; have BK547 := n2_; have GW547 := n3_; have GE547 := n4_; have NB546_547 := n5_; have NB547_546 := n6_; clear n0_ n1_ n2_ n3_ n4_ n5_ n6_; clear hb hbox hg) | ((with_reducible refine gate_dst (N := 3) rfl ?_); refine box_event ?hg (N := 3) ?hd (cs := #[.int .i64 0, .int .i64 0]) (t := 117) ?hr ?_; (case hd => rfl); (case hg => rfl); (case hr => first | (go_simp; done) | (go_simp; rfl)); intro gb548 hg w4 hbox hb; have n0_ := qM (blk_below (g := gb546) (o := .cells #[.int .i64 a0_0, .int .i64 a0_1] 165 (0, 0)) (by (with_reducible repeat (first | apply qn | apply qd | apply qa)); exact BK546.out) hb); have n1_ := qM (blk_below (g := gb547) (o := .cells #[.int .i64 0, .int .i64 0] 117 (0, 0)) (by (with_reducible repeat (first | apply qn | apply qd | apply qa)); exact BK547.out) hb); have n2_ := qM (qs (by repeat (first | (with_reducible first | exact HB.out | apply qA | apply qN | apply qD | refine qS ?_ GE546.out | refine qS ?_ GE547.out) | exact HB.out)) hb); have n3_ := qM (hbox); have n4_ := qM ((by rw [hg]; exact (qz (by repeat (first | (with_reducible first | exact HB.out | apply qA | apply qN | apply qD | refine qS ?_ GE546.out | refine qS ?_ GE547.out) | exact HB.out))) : w.heap.size ≤ gb548)); have n5_ := qM ((by rw [hg]; exact (qz (by repeat (first | (with_reducible first | exact HB.out | apply qA | apply qN | apply qD | refine qS ?_ GE546.out | refine qS ?_ GE547.out) | exact HB.out))) : w.heap.size ≤ gb548)); have n6_ := qM ((by rw [hg]; exact Nat.ne_of_lt (blk_lt (g := gb546) (o := .cells #[.int .i64 a0_0, .int .i64 a0_1] 165 (0, 0)) (by (with_reducible repeat (first | apply qn | apply qd | apply qa)); exact BK546.out)) : gb546 ≠ gb548)); have n7_ := qM ((by rw [hg]; exact Nat.ne_of_gt (blk_lt (g := gb546) (o := .cells #[.int .i64 a0_0, .int .i64 a0_1] 165 (0, 0)) (by (with_reducible repeat (first | apply qn | apply qd | apply qa)); exact BK546.out)) : gb548 ≠ gb546)); have n8_ := qM ((by rw [hg]; exact Nat.ne_of_lt (blk_lt (g := gb547) (o := .cells #[.int .i64 0, .int .i64 0] 117 (0, 0)) (by (with_reducible repeat (first | apply qn | apply qd | apply qa)); exact BK547.out)) : gb547 ≠ gb548)); have n9_ := qM ((by rw [hg]; exact Nat.ne_of_gt (blk_lt (g := gb547) (o := .cells #[.int .i64 0, .int .i64 0] 117 (0, 0)) (by (with_reducible repeat (first | apply qn | apply qd | apply qa)); exact BK547.out)) : gb548 ≠ gb547)); clear BK546; clear BK547; clear HB; have BK546 := n0_; have BK547 := n1_; have HB := n2_; have BK548 := n3_; have GW548 := n4_; have GE548 := n5_; have NB546_548 := n6_; have NB548_546 := n7_; have NB547_548 := n8_; have NB548_547 := n9_; clear n0_ n1_ n2_ n3_ n4_ n5_ n6_ n7_ n8_ n9_; clear hb hbox hg; have hnb5 := NB546_547.out; have hnc5 := NB547_546.out; have hnb6 := NB546_548.out; have hnc6 := NB548_546.out; have hcz7_0 : w4.cell? ⟨gb546, 0, none⟩ = some (.int .i64 a0_0) := (qC BK546.out 0).trans rfl; have hcz7_1 : w4.cell? ⟨gb546, 1, none⟩ = some (.int .i64 a0_1) := (qC BK546.out 1).trans rfl; have hfz7_0 := qF BK546.out 0; have hfz7_1 := qF BK546.out 1; have hnb8 := NB548_547.out; have hnc8 := NB547_548.out; have hcz9_0 : w4.cell? ⟨gb548, 0, none⟩ = some (.int .i64 0) := (qC BK548.out 0).trans rfl; have hcz9_1 : w4.cell? ⟨gb548, 1, none⟩ = some (.int .i64 0) := (qC BK548.out 1).trans rfl; have hfz9_0 := qF BK548.out 0; have hfz9_1 := qF BK548.out 1; have hcz10_0 : w4.cell? ⟨gb547, 0, none⟩ = some (.int .i64 0) := (qC BK547.out 0).trans rfl; have hcz10_1 : w4.cell? ⟨gb547, 1, none⟩ = some (.int .i64 0) := (qC BK547.out 1).trans rfl; have hfz10_0 := qF BK547.out 0; have hfz10_1 := qF BK547.out 1))
  refine bodyPost_ret (results_cell_row rfl _ _ gb547 117 #[.int .i64 a0_0, .int .i64 a0_1] (0, 0) _ rfl (by (with_reducible repeat (first | apply qn | apply qd | apply qa)); refine blk_put (cs := #[.int .i64 a0_0, .int .i64 0]) ?_ 1 _ rfl; (with_reducible repeat (first | apply qn | apply qd | apply qa)); refine blk_put (cs := #[.int .i64 0, .int .i64 0]) ?_ 0 _ rfl; (with_reducible repeat (first | apply qn | apply qd | apply qa)); refine blk_far ?_ NB547_548.out _; (with_reducible repeat (first | apply qn | apply qd | apply qa)); refine blk_far ?_ NB547_548.out _; (with_reducible repeat (first | apply qn | apply qd | apply qa)); exact BK547.out) Try.underlying117 rfl (by kernel_rfl)) rfl ?_
  exact ⟨by first | rfl | (simp [errW_none, errW_some] <;> rfl) | (simp [*, errW_none, errW_some] <;> rfl), by repeat (first | (with_reducible first | exact HB.out | apply qA | apply qN | apply qD | refine qS ?_ GE546.out | refine qS ?_ GE547.out | refine qS ?_ GE548.out) | exact HB.out)⟩
def laws_toFetchS.l0 : Nat → List (S165) → List (S117) → Int → Option ((List (S117)))
  | 0, _, _, _ => none
  | k + 1, x0, x3, x4 => if x4 < (x0.length : Int) then (if 0 ≤ x4 then ((laws_toFetch.f ((rd_T165 x0 x4).f0) ((rd_T165 x0 x4).f1)).bind fun bt553 => (if x4 < (x3.length : Int) then (laws_toFetchS.l0 k x0 (x3.set (x4 : Int).toNat (⟨bt553.1, bt553.2⟩ : S117)) (wrap64 (x4 + 1))) else (none))) else (none)) else (some x3)
def laws_toFetchS.f (k : Nat) (l0 : List (S165)) : Option ((List (S117))) := if 0 ≤ (l0.length : Int) then (if ((l0.length : Int) : Int).toNat ≤ 17592186044416 then (laws_toFetchS.l0 k l0 (List.replicate ((l0.length : Int) : Int).toNat z117) 0) else (none)) else (none)
theorem laws_toFetchS.calls (k : Nat) (A0 : Option Addr) (c0 : Nat) (l0 : List (S165)) (r : List (S117)) (w : World) (hr0 : Kd.C k165 w A0 l0.length l0) (hc0 : l0.length ≤ c0) (h : laws_toFetchS.f k l0 = some r) :
    Calls Try.prog 111 #[.slice A0 l0.length c0] w fun e w' => ∃ v0_ : Value, e = .returned (v0_) ∧ Kd.R k117 117 w' w.heap.size (fun _ => True) v0_ r ∧ Below w.heap.size w w' := by
  have hu165 := Try.underlying165
  have hu117 := Try.underlying117
  have HR0 := qM hr0
  have HC0 := qM hc0
  clear hr0 hc0
  have HB := qM (Below.refl w.heap.size w)
  have H : (if 0 ≤ (l0.length : Int) then (if ((l0.length : Int) : Int).toNat ≤ 17592186044416 then (laws_toFetchS.l0 k l0 (List.replicate ((l0.length : Int) : Int).toNat z117) 0) else (none)) else (none)) = some r := h
  clear h
  by_cases c2 : 0 ≤ (l0.length : Int)
  rotate_left
  · rw [if_neg c2] at H
    exact absurd H (by simp)
  rw [if_pos c2] at H
  have c2b0 := eq_true c2
  have c2b1 : decide (0 ≤ (l0.length : Int)) = true := decide_eq_true c2
  clear c2
  by_cases c3 : ((l0.length : Int) : Int).toNat ≤ 17592186044416
  rotate_left
  · rw [if_neg c3] at H
    exact absurd H (by simp)
  rw [if_pos c3] at H
  have c3b0 := eq_true c3
  have c3b1 : decide (((l0.length : Int) : Int).toNat ≤ 17592186044416) = true := decide_eq_true c3
  clear c3
  obtain ⟨y549, hy549⟩ : ∃ y_ : List (S117), y_ = (List.replicate ((l0.length : Int) : Int).toNat z117) := ⟨_, rfl⟩
  replace H : (laws_toFetchS.l0 k l0 y549 0) = some r := by first | (rw [hy549]; with_reducible exact H) | (have H2_ := (Option.bind_some _ _).symm.trans H; rw [hy549]; with_reducible exact H2_) | (have H2_ := (Option.bind_some _ _).symm.trans H; with_reducible exact H2_) | with_reducible exact H | (rw [hy549]; exact H) | exact H
  have Ny549 := qM hy549
  clear hy549
  have H' := qM H
  clear H
  go_enter Try.func111, Try.ntmps111
  go_wp2_with (first | ((with_reducible refine gate_dst (N := 7) rfl ?_); refine Kd.R_make k117 _ 117 rfl (N := 7) rfl 85 _ _ rfl (l0.length : Int) rfl rfl Try.underlying85 (.agg #[(.int .i64 0), (.int .i64 0)]) 16 info117 rfl (by decide) (by omega) z117 (ok := fun _ => True) (okp := fun _ => True) (k117_mkM _ _ _ z117 ) (fun _ hk => hk) trivial (qO (by first | (with_reducible assumption) | assumption)) (Nat.le_trans (Nat.mul_le_mul_right _ (qO (by first | (with_reducible assumption) | assumption) : (l0.length : Int).toNat ≤ 17592186044416)) (by omega)) (Below.refl _ _) (Nat.le_refl _) ?_; intro v550 w4 ho5 hb hg_ hnew_; clear hg_ hnew_; (first | rw [← Ny549.out] at ho5 | (simp only [Int.reduceToNat] at ho5; rw [← Ny549.out] at ho5)); have n0_ := qM (Kd.R_lower ho5 (qz (by repeat (first | (with_reducible first | exact HB.out | apply qA | apply qN | apply qD) | exact HB.out)))); have n1_ := qM (qs (by repeat (first | (with_reducible first | exact HB.out | apply qA | apply qN | apply qD) | exact HB.out)) hb); clear HB; have HO551 := n0_; have HB := n1_; clear n0_ n1_; clear hb ho5))
  go_loopg [4] k (fun kq v4 w' => ∃ (x3_1 : List (S117)) (x4_1 : Int), v4 = .int .i64 x4_1 ∧ Aside0 (laws_toFetchS.l0 kq l0 x3_1 x4_1 = some r) ∧ Aside0 (kq ≤ k) ∧ Aside0 (Kd.R k117 117 w' w.heap.size (fun _ => True) v550 x3_1) ∧ Aside0 (Below w.heap.size w w'))
  case atStart => exact ⟨(y549), (0), (by first | rfl | (simp; done) | (simp [*]; done)), H', ⟨Nat.le_refl _⟩, ⟨by (with_reducible repeat (first | apply Kd.R_alloc | apply Kd.R_drewN | apply Kd.R_drew)); exact HO551.out⟩, ⟨by repeat (first | (with_reducible first | exact HB.out | apply qA | apply qN | apply qD) | exact HB.out)⟩⟩
  case round =>
    clear H'
    try clear c1
    try clear c2
    try clear c2b0
    try clear c2b1
    try clear p2
    try clear c3
    try clear c3b0
    try clear c3b1
    obtain ⟨x3_1, x4_1, rfl, HA, HK1, HO_3, HB⟩ := hrel
    cases gk with
    | zero => exact absurd HA.out (by simp [laws_toFetchS.l0])
    | succ k1 =>
      have H := HA.out
      clear HA
      simp only [laws_toFetchS.l0] at H
      by_cases c6 : x4_1 < (l0.length : Int)
      rotate_left
      · rw [if_neg c6] at H
        have c6b0 : decide (x4_1 < (l0.length : Int)) = false := decide_eq_false c6
        clear c6
        obtain rfl := jF H
        go_wp2
        go_ret
        exact ⟨_, by first | rfl | (simp [errW_none, errW_some] <;> rfl) | (simp [*, errW_none, errW_some] <;> rfl), by (with_reducible repeat (first | apply Kd.R_alloc | apply Kd.R_drewN | apply Kd.R_drew)); exact HO_3.out, by repeat (first | (with_reducible first | exact HB.out | apply qA | apply qN | apply qD) | exact HB.out)⟩
      rw [if_pos c6] at H
      have c6b0 : decide (x4_1 < (l0.length : Int)) = true := decide_eq_true c6
      clear c6
      by_cases c7 : 0 ≤ x4_1
      rotate_left
      · rw [if_neg c7] at H
        exact absurd H (by simp)
      rw [if_pos c7] at H
      have c7b0 : decide (0 ≤ x4_1) = true := decide_eq_true c7
      clear c7
      replace H := jG H
      obtain ⟨⟨t553, t554⟩, A80, H⟩ := H
      replace H : (if x4_1 < (x3_1.length : Int) then (laws_toFetchS.l0 k1 l0 (x3_1.set (x4_1 : Int).toNat (⟨t553, t554⟩ : S117)) (wrap64 (x4_1 + 1))) else (none)) = some r := H
      have A8 := qM A80
      clear A80
      by_cases c9 : x4_1 < (x3_1.length : Int)
      rotate_left
      · rw [if_neg c9] at H
        exact absurd H (by simp)
      rw [if_pos c9] at H
      have c9b0 : decide (x4_1 < (x3_1.length : Int)) = true := decide_eq_true c9
      clear c9
      obtain ⟨y555, hy555⟩ : ∃ y_ : List (S117), y_ = (x3_1.set (x4_1 : Int).toNat (⟨t553, t554⟩ : S117)) := ⟨_, rfl⟩
      replace H : (laws_toFetchS.l0 k1 l0 y555 (wrap64 (x4_1 + 1))) = some r := by first | (rw [hy555]; with_reducible exact H) | (have H2_ := (Option.bind_some _ _).symm.trans H; rw [hy555]; with_reducible exact H2_) | (have H2_ := (Option.bind_some _ _).symm.trans H; with_reducible exact H2_) | with_reducible exact H | (rw [hy555]; exact H) | exact H
      have Ny555 := qM hy555
      clear hy555
      have H' := qM H
      clear H
      have p552 : 0 ≤ (x4_1 : Int) := qO (by first | (with_reducible assumption) | assumption)
      have q552 : x4_1 < (l0.length : Int) := qO (by first | (with_reducible assumption) | assumption)
      obtain ⟨ad552, e552, hx552_0, hx552_1⟩ := at_T165 HR0.out x4_1 p552 q552
      cases e552
      replace hx552_0 := (HB.out.cell (qL w _ hx552_0)).trans hx552_0
      replace hx552_1 := (HB.out.cell (qL w _ hx552_1)).trans hx552_1
      replace p552 := eq_true p552
      replace q552 := eq_true q552
      go_wp2_with (first | ((with_reducible refine gate_callee (f := 156) rfl ?_); refine goesL_ (some 20) rfl rfl Try.func156 (by kernel_rfl) rfl #[.agg #[.int .i64 ((rd_T165 l0 x4_1).f0), .int .i64 ((rd_T165 l0 x4_1).f1)]] rfl (by (try simp only [jC, jD, jE]); first | done | rfl | (simp only [jB, jA]; rfl)) ?_; (with_reducible refine (laws_toFetch.calls ((rd_T165 l0 x4_1).f0) ((rd_T165 l0 x4_1).f1) t553 t554 _ A8.out).mono ?_); rintro e w11 ⟨rfl, hb⟩; refine ⟨_, rfl, ?_⟩; have n0_ := qM (Kd.R_below (by (with_reducible repeat (first | apply Kd.R_alloc | apply Kd.R_drewN | apply Kd.R_drew)); exact HO_3.out) hb); have n1_ := qM (qs (by repeat (first | (with_reducible first | exact HB.out | apply qA | apply qN | apply qD) | exact HB.out)) hb); clear HO_3; clear HB; have HO_3 := n0_; have HB := n1_; clear n0_ n1_; (try clear hb); (try clear hb2); (try clear hk); (try clear hi); have p10 : 0 ≤ (x4_1 : Int) := qO (by first | (with_reducible assumption) | assumption); have q10 : (x4_1 : Int) < ((x3_1.length : Int) : Int) := qO (by first | (with_reducible assumption) | assumption); obtain ⟨go10, co10, eo10, gb10, gl10, cl10, HG10⟩ := Kd.R_form HO_3.out (by omega); (first | cases eo10 | (injection eo10 with ea_ en_ ec_; (first | subst ea_ | (injection ea_ with ea_; subst ea_)); subst ec_; clear en_)); have GB10 := qM gb10; have GG10 := qM HG10; clear gb10 gl10 HG10; obtain ⟨ce10, hcl10, hM10, hcc10, hfr10⟩ := Kd.R_elem HO_3.out z117 (x4_1 : Int) p10 q10; obtain rfl := k117_openM hM10; have hx10_0 : w11.cell? ⟨go10, (x4_1 : Int).toNat * 2, none⟩ = some (.int .i64 ((rd_T117 x3_1 x4_1).f0)) := hcc10 0 _ rfl; have hx10_1 : w11.cell? ⟨go10, (x4_1 : Int).toNat * 2 + 1, none⟩ = some (.int .i64 ((rd_T117 x3_1 x4_1).f1)) := hcc10 1 _ rfl; have hf10_0 : w11.frozen? ⟨go10, (x4_1 : Int).toNat * 2, none⟩ = false := hfr10 0; have hf10_1 : w11.frozen? ⟨go10, (x4_1 : Int).toNat * 2 + 1, none⟩ = false := hfr10 1; clear hcl10 hcc10 hfr10 hM10; replace p10 := eq_true p10; replace q10 := eq_true q10; have HX12 := qM (show Kd.R k117 117 w11 w.heap.size (fun _ => True) (.slice (some ⟨go10, 0, none⟩) x3_1.length co10) x3_1 from (by (with_reducible repeat (first | apply Kd.R_alloc | apply Kd.R_drewN | apply Kd.R_drew)); exact HO_3.out)); obtain ⟨ce12, hcl12, hM12, hcc12, hfr12⟩ := Kd.R_elem HX12.out z117 (x4_1 : Int) (qO (by first | (with_reducible assumption) | assumption)) (by have h_ : (x4_1 : Int) < ((x3_1.length : Int) : Int) := qO (by first | (with_reducible assumption) | assumption); first | exact h_ | (have e_ := (Kd.R_reads' HO_3.out).1; omega) | simpa using h_); obtain rfl := k117_openM hM12; have HP12 := Kd.R_seg HX12.out (x4_1 : Int) (qO (by first | (with_reducible assumption) | assumption)) (by have h_ : (x4_1 : Int) < ((x3_1.length : Int) : Int) := qO (by first | (with_reducible assumption) | assumption); first | exact h_ | (have e_ := (Kd.R_reads' HO_3.out).1; omega) | simpa using h_) (seg := [.int .i64 t553, .int .i64 t554]) (j := 0) hcl12 hcc12 (show 2 ≤ 2 from by decide) (x' := (⟨t553, t554⟩ : S117)) (k117_mkM _ _ _ (⟨t553, t554⟩ : S117) ) (fun _ hk => hk); have hx12_0 := hcc12 0 _ rfl; (try simp only [show (k117).sz = 2 from rfl, Nat.mul_one, Nat.add_zero] at hx12_0); have hf12_0 := hfr12 0; (try simp only [show (k117).sz = 2 from rfl, Nat.mul_one, Nat.add_zero] at hf12_0); have hx12_1 := hcc12 1 _ rfl; (try simp only [show (k117).sz = 2 from rfl, Nat.mul_one, Nat.add_zero] at hx12_1); have hf12_1 := hfr12 1; (try simp only [show (k117).sz = 2 from rfl, Nat.mul_one, Nat.add_zero] at hf12_1); clear hcl12 hcc12 hfr12 hM12) | ((with_reducible refine gate_store (t := 117) (p := 21) rfl ?_); refine store_event (t := 117) (p := 21) (v := ?vo_w13) (w1 := ((w11.setCell ⟨go10, (x4_1 : Int).toNat * 2, none⟩ (.int .i64 t553)).setCell ⟨go10, (x4_1 : Int).toNat * 2 + 1, none⟩ (.int .i64 t554))) ?hg ?ho ?hn ?hr ?_; (case ho => rfl); (case hg => rfl); (case hn => rfl); (case hr => first | (go_simp; done) | (go_simp; rfl)); intro w13 hw; have hg : w11.grownBy w13 (some go10) := (by rw [hw]; exact HP12.2); have hp_ : Kd.R k117 117 w13 w.heap.size (fun _ => True) (.slice (some ⟨go10, 0, none⟩) x3_1.length co10) y555 := (by rw [hw, Ny555.out]; exact HP12.1); clear HP12; have n0_ := qM (hp_); have n1_ := qM ((by rw [hw]; exact qS (qS (HB.out) GB10.out) GB10.out : Below w.heap.size w w13)); clear HO_3; clear HB; have HO_3 := n0_; have HB := n1_; clear n0_ n1_; clear hg hw hp_))
      go_roundg k1
      case measure => have := HK1.out; omega
      case rel => exact ⟨(y555), (wrap64 (x4_1 + 1)), (by first | rfl | (simp; done) | (simp [*]; done)), H', ⟨by have := HK1.out; omega⟩, ⟨by (with_reducible repeat (first | apply Kd.R_alloc | apply Kd.R_drewN | apply Kd.R_drew)); exact HO_3.out⟩, ⟨by repeat (first | (with_reducible first | exact HB.out | apply qA | apply qN | apply qD) | exact HB.out)⟩⟩
def laws_toTrace.f (k : Nat) (a0_0 : Int) (l0_1 : List (S165)) (a0_2 : Int) : Option (Int × (List (S117)) × Int) := (laws_toFetchS.f k l0_1).bind fun t559 => (some (a0_0, t559, a0_2))
theorem laws_toTrace.calls (k : Nat) (a0_0 : Int) (A0_1 : Option Addr) (c0_1 : Nat) (l0_1 : List (S165)) (a0_2 : Int) (r1 : Int) (r2 : List (S117)) (r3 : Int) (w : World) (hr0_1 : Kd.C k165 w A0_1 l0_1.length l0_1) (hc0_1 : l0_1.length ≤ c0_1) (h : laws_toTrace.f k a0_0 l0_1 a0_2 = some (r1, r2, r3)) :
    Calls Try.prog 54 #[.agg #[.int .i64 a0_0, .slice A0_1 l0_1.length c0_1, .int .i64 a0_2]] w fun e w' => ∃ v1_ : Value, e = .returned (.agg #[.int .i64 r1, v1_, .int .i64 r3]) ∧ Kd.R k117 117 w' w.heap.size (fun _ => True) v1_ r2 ∧ Below w.heap.size w w' := by
  have hu81 := Try.underlying81
  have hu87 := Try.underlying87
  have HR0_1 := qM hr0_1
  have HC0_1 := qM hc0_1
  clear hr0_1 hc0_1
  have HB := qM (Below.refl w.heap.size w)
  have H : ((laws_toFetchS.f k l0_1).bind fun t559 => (some (a0_0, t559, a0_2))) = some (r1, r2, r3) := h
  clear h
  replace H := jG H
  obtain ⟨t559, A20, H⟩ := H
  replace H : (some (a0_0, t559, a0_2)) = some (r1, r2, r3) := H
  have A2 := qM A20
  clear A20
  simp only [Option.some.injEq, Prod.mk.injEq] at H
  obtain ⟨rfl, rfl, rfl⟩ := H
  go_enter Try.func54, Try.ntmps54
  go_wp2_with (first | ((with_reducible refine gate_dst (N := 1) rfl ?_); refine box_event ?hg (N := 1) ?hd (cs := #[.int .i64 a0_0, .slice A0_1 l0_1.length c0_1, .int .i64 a0_2]) (t := 81) ?hr ?_; (case hd => rfl); (case hg => rfl); (case hr => first | (go_simp; done) | (go_simp; rfl)); intro gb556 hg w3 hbox hb; have n0_ := qM (qs (by repeat (first | (with_reducible first | exact HB.out | apply qA | apply qN | apply qD) | exact HB.out)) hb); have n1_ := qM (hbox); have n2_ := qM ((by rw [hg]; exact (qz (by repeat (first | (with_reducible first | exact HB.out | apply qA | apply qN | apply qD) | exact HB.out))) : w.heap.size ≤ gb556)); have n3_ := qM ((by rw [hg]; exact (qz (by repeat (first | (with_reducible first | exact HB.out | apply qA | apply qN | apply qD) | exact HB.out))) : w.heap.size ≤ gb556)); clear HB; have HB := n0_; have BK556 := n1_; have GW556 := n2_; have GE556 := n3_; clear n0_ n1_ n2_ n3_; clear hb hbox hg) | ((with_reducible refine gate_dst (N := 2) rfl ?_); refine box_event ?hg (N := 2) ?hd (cs := #[.int .i64 0, .slice none 0 0, .int .i64 0]) (t := 87) ?hr ?_; (case hd => rfl); (case hg => rfl); (case hr => first | (go_simp; done) | (go_simp; rfl)); intro gb557 hg w4 hbox hb; have n0_ := qM (blk_below (g := gb556) (o := .cells #[.int .i64 a0_0, .slice A0_1 l0_1.length c0_1, .int .i64 a0_2] 81 (0, 0)) (by (with_reducible repeat (first | apply qn | apply qd | apply qa)); exact BK556.out) hb); have n1_ := qM (qs (by repeat (first | (with_reducible first | exact HB.out | apply qA | apply qN | apply qD | refine qS ?_ GE556.out) | exact HB.out)) hb); have n2_ := qM (hbox); have n3_ := qM ((by rw [hg]; exact (qz (by repeat (first | (with_reducible first | exact HB.out | apply qA | apply qN | apply qD | refine qS ?_ GE556.out) | exact HB.out))) : w.heap.size ≤ gb557)); have n4_ := qM ((by rw [hg]; exact (qz (by repeat (first | (with_reducible first | exact HB.out | apply qA | apply qN | apply qD | refine qS ?_ GE556.out) | exact HB.out))) : w.heap.size ≤ gb557)); have n5_ := qM ((by rw [hg]; exact Nat.ne_of_lt (blk_lt (g := gb556) (o := .cells #[.int .i64 a0_0, .slice A0_1 l0_1.length c0_1, .int .i64 a0_2] 81 (0, 0)) (by (with_reducible repeat (first | apply qn | apply qd | apply qa)); exact BK556.out)) : gb556 ≠ gb557)); have n6_ := qM ((by rw [hg]; exact Nat.ne_of_gt (blk_lt (g := gb556) (o := .cells #[.int .i64 a0_0, .slice A0_1 l0_1.length c0_1, .int .i64 a0_2] 81 (0, 0)) (by (with_reducible repeat (first | apply qn | apply qd | apply qa)); exact BK556.out)) : gb557 ≠ gb556)); clear BK556; clear HB; have BK556 := n0_; have HB := n1_; have BK557 := n2_; have GW557 := n3_; have GE557 := n4_; have NB556_557 := n5_; have NB557_556 := n6_; clear n0_ n1_ n2_ n3_ n4_ n5_ n6_; clear hb hbox hg) | ((with_reducible refine gate_dst (N := 3) rfl ?_); refine box_event ?hg (N := 3) ?hd (cs := #[.int .i64 0, .slice none 0 0, .int .i64 0]) (t := 87) ?hr ?_; (case hd => rfl); (case hg => rfl); (case hr => first | (go_simp; done) | (go_simp; rfl)); intro gb558 hg w5 hbox hb; have n0_ := qM (blk_below (g := gb556) (o := .cells #[.int .i64 a0_0, .slice A0_1 l0_1.length c0_1, .int .i64 a0_2] 81 (0, 0)) (by (with_reducible repeat (first | apply qn | apply qd | apply qa)); exact BK556.out) hb); have n1_ := qM (blk_below (g := gb557) (o := .cells #[.int .i64 0, .slice none 0 0, .int .i64 0] 87 (0, 0)) (by (with_reducible repeat (first | apply qn | apply qd | apply qa)); exact BK557.out) hb); have n2_ := qM (qs (by repeat (first | (with_reducible first | exact HB.out | apply qA | apply qN | apply qD | refine qS ?_ GE556.out | refine qS ?_ GE557.out) | exact HB.out)) hb); have n3_ := qM (hbox); have n4_ := qM ((by rw [hg]; exact (qz (by repeat (first | (with_reducible first | exact HB.out | apply qA | apply qN | apply qD | refine qS ?_ GE556.out | refine qS ?_ GE557.out) | exact HB.out))) : w.heap.size ≤ gb558)); have n5_ := qM ((by rw [hg]; exact (qz (by repeat (first | (with_reducible first | exact HB.out | apply qA | apply qN | apply qD | refine qS ?_ GE556.out | refine qS ?_ GE557.out) | exact HB.out))) : w.heap.size ≤ gb558)); have n6_ := qM ((by rw [hg]; exact Nat.ne_of_lt (blk_lt (g := gb556) (o := .cells #[.int .i64 a0_0, .slice A0_1 l0_1.length c0_1, .int .i64 a0_2] 81 (0, 0)) (by (with_reducible repeat (first | apply qn | apply qd | apply qa)); exact BK556.out)) : gb556 ≠ gb558)); have n7_ := qM ((by rw [hg]; exact Nat.ne_of_gt (blk_lt (g := gb556) (o := .cells #[.int .i64 a0_0, .slice A0_1 l0_1.length c0_1, .int .i64 a0_2] 81 (0, 0)) (by (with_reducible repeat (first | apply qn | apply qd | apply qa)); exact BK556.out)) : gb558 ≠ gb556)); have n8_ := qM ((by rw [hg]; exact Nat.ne_of_lt (blk_lt (g := gb557) (o := .cells #[.int .i64 0, .slice none 0 0, .int .i64 0] 87 (0, 0)) (by (with_reducible repeat (first | apply qn | apply qd | apply qa)); exact BK557.out)) : gb557 ≠ gb558)); have n9_ := qM ((by rw [hg]; exact Nat.ne_of_gt (blk_lt (g := gb557) (o := .cells #[.int .i64 0, .slice none 0 0, .int .i64 0] 87 (0, 0)) (by (with_reducible repeat (first | apply qn | apply qd | apply qa)); exact BK557.out)) : gb558 ≠ gb557)); clear BK556; clear BK557; clear HB; have BK556 := n0_; have BK557 := n1_; have HB := n2_; have BK558 := n3_; have GW558 := n4_; have GE558 := n5_; have NB556_558 := n6_; have NB558_556 := n7_; have NB557_558 := n8_; have NB558_557 := n9_; clear n0_ n1_ n2_ n3_ n4_ n5_ n6_ n7_ n8_ n9_; clear hb hbox hg; have hnb6 := NB556_557.out; have hnc6 := NB557_556.out; have hnb7 := NB556_558.out; have hnc7 := NB558_556.out; have hcz8_0 : w5.cell? ⟨gb556, 0, none⟩ = some (.int .i64 a0_0) := (qC BK556.out 0).trans rfl; have hcz8_1 : w5.cell? ⟨gb556, 1, none⟩ = some (.slice A0_1 l0_1.length c0_1) := (qC BK556.out 1).trans rfl; have hcz8_2 : w5.cell? ⟨gb556, 2, none⟩ = some (.int .i64 a0_2) := (qC BK556.out 2).trans rfl; have hfz8_0 := qF BK556.out 0; have hfz8_1 := qF BK556.out 1; have hfz8_2 := qF BK556.out 2; have hnb9 := NB558_557.out; have hnc9 := NB557_558.out; have hcz10_0 : w5.cell? ⟨gb558, 0, none⟩ = some (.int .i64 0) := (qC BK558.out 0).trans rfl; have hcz10_1 : w5.cell? ⟨gb558, 1, none⟩ = some (.slice none 0 0) := (qC BK558.out 1).trans rfl; have hcz10_2 : w5.cell? ⟨gb558, 2, none⟩ = some (.int .i64 0) := (qC BK558.out 2).trans rfl; have hfz10_0 := qF BK558.out 0; have hfz10_1 := qF BK558.out 1; have hfz10_2 := qF BK558.out 2) | ((with_reducible refine gate_callee (f := 111) rfl ?_); refine goesL_ (some 9) rfl rfl Try.func111 (by kernel_rfl) rfl #[.slice A0_1 l0_1.length c0_1] rfl (by (try simp only [jC, jD, jE]); first | done | rfl | (simp only [jB, jA]; rfl)) ?_; (with_reducible refine (laws_toFetchS.calls k _ _ l0_1 t559 _ ?side1 ?side2 A2.out).mono ?_); (case side1 => exact qB HR0_1.out (by repeat (first | (with_reducible first | exact HB.out | apply qA | apply qN | apply qD | refine qS ?_ GE556.out | refine qS ?_ GE557.out | refine qS ?_ GE558.out) | exact HB.out))); (case side2 => exact HC0_1.out); rintro e w11 ⟨v560, rfl, ho0, hb⟩; refine ⟨_, rfl, ?_⟩; have n0_ := qM (Kd.R_lower ho0 (qz (by repeat (first | (with_reducible first | exact HB.out | apply qA | apply qN | apply qD | refine qS ?_ GE556.out | refine qS ?_ GE557.out | refine qS ?_ GE558.out) | exact HB.out)))); have n1_ := qM (blk_below (g := gb556) (o := .cells #[.int .i64 a0_0, .slice A0_1 l0_1.length c0_1, .int .i64 a0_2] 81 (0, 0)) (by (with_reducible repeat (first | apply qn | apply qd | apply qa)); refine blk_far ?_ NB556_558.out _; (with_reducible repeat (first | apply qn | apply qd | apply qa)); exact BK556.out) hb); have n2_ := qM (blk_below (g := gb557) (o := .cells #[.int .i64 0, .slice none 0 0, .int .i64 0] 87 (0, 0)) (by (with_reducible repeat (first | apply qn | apply qd | apply qa)); refine blk_far ?_ NB557_558.out _; (with_reducible repeat (first | apply qn | apply qd | apply qa)); exact BK557.out) hb); have n3_ := qM (blk_below (g := gb558) (o := .cells #[.int .i64 a0_0, .slice none 0 0, .int .i64 0] 87 (0, 0)) (by (with_reducible repeat (first | apply qn | apply qd | apply qa)); refine blk_put (cs := #[.int .i64 0, .slice none 0 0, .int .i64 0]) ?_ 0 _ rfl; (with_reducible repeat (first | apply qn | apply qd | apply qa)); exact BK558.out) hb); have n4_ := qM (qs (by repeat (first | (with_reducible first | exact HB.out | apply qA | apply qN | apply qD | refine qS ?_ GE556.out | refine qS ?_ GE557.out | refine qS ?_ GE558.out) | exact HB.out)) hb); clear BK556; clear BK557; clear BK558; clear HB; have HO561 := n0_; have BK556 := n1_; have BK557 := n2_; have BK558 := n3_; have HB := n4_; clear n0_ n1_ n2_ n3_ n4_; (try clear hb); (try clear hb2); (try clear hk); (try clear hi); (try clear ho0); obtain ⟨Ao12, co12, eo12⟩ := Kd.R_slice HO561.out; subst eo12; have hcz13_0 : w11.cell? ⟨gb558, 0, none⟩ = some (.int .i64 a0_0) := (qC BK558.out 0).trans rfl; have hcz13_1 : w11.cell? ⟨gb558, 1, none⟩ = some (.slice none 0 0) := (qC BK558.out 1).trans rfl; have hcz13_2 : w11.cell? ⟨gb558, 2, none⟩ = some (.int .i64 0) := (qC BK558.out 2).trans rfl; have hfz13_0 := qF BK558.out 0; have hfz13_1 := qF BK558.out 1; have hfz13_2 := qF BK558.out 2; have hcz14_0 : w11.cell? ⟨gb556, 0, none⟩ = some (.int .i64 a0_0) := (qC BK556.out 0).trans rfl; have hcz14_1 : w11.cell? ⟨gb556, 1, none⟩ = some (.slice A0_1 l0_1.length c0_1) := (qC BK556.out 1).trans rfl; have hcz14_2 : w11.cell? ⟨gb556, 2, none⟩ = some (.int .i64 a0_2) := (qC BK556.out 2).trans rfl; have hfz14_0 := qF BK556.out 0; have hfz14_1 := qF BK556.out 1; have hfz14_2 := qF BK556.out 2; have hcz15_0 : w11.cell? ⟨gb557, 0, none⟩ = some (.int .i64 0) := (qC BK557.out 0).trans rfl; have hcz15_1 : w11.cell? ⟨gb557, 1, none⟩ = some (.slice none 0 0) := (qC BK557.out 1).trans rfl; have hcz15_2 : w11.cell? ⟨gb557, 2, none⟩ = some (.int .i64 0) := (qC BK557.out 2).trans rfl; have hfz15_0 := qF BK557.out 0; have hfz15_1 := qF BK557.out 1; have hfz15_2 := qF BK557.out 2))
  refine bodyPost_ret (results_cell_row rfl _ _ gb557 87 #[.int .i64 a0_0, .slice Ao12 t559.length co12, .int .i64 a0_2] (0, 0) _ rfl (by (with_reducible repeat (first | apply qn | apply qd | apply qa)); refine blk_put (cs := #[.int .i64 a0_0, .slice Ao12 t559.length co12, .int .i64 0]) ?_ 2 _ rfl; (with_reducible repeat (first | apply qn | apply qd | apply qa)); refine blk_put (cs := #[.int .i64 a0_0, .slice none 0 0, .int .i64 0]) ?_ 1 _ rfl; (with_reducible repeat (first | apply qn | apply qd | apply qa)); refine blk_put (cs := #[.int .i64 0, .slice none 0 0, .int .i64 0]) ?_ 0 _ rfl; (with_reducible repeat (first | apply qn | apply qd | apply qa)); refine blk_far ?_ NB557_558.out _; (with_reducible repeat (first | apply qn | apply qd | apply qa)); refine blk_far ?_ NB557_558.out _; (with_reducible repeat (first | apply qn | apply qd | apply qa)); exact BK557.out) Try.underlying87 rfl (by kernel_rfl)) rfl ?_
  exact ⟨_, by first | rfl | (simp [errW_none, errW_some] <;> rfl) | (simp [*, errW_none, errW_some] <;> rfl), by (with_reducible repeat (first | apply Kd.R_alloc | apply Kd.R_drewN | apply Kd.R_drew)); exact Kd.R_mono (Kd.R_far (p := ⟨gb557, 2, none⟩) (Kd.R_far (p := ⟨gb557, 1, none⟩) (Kd.R_far (p := ⟨gb557, 0, none⟩) (Kd.R_far (p := ⟨gb558, 2, none⟩) (Kd.R_far (p := ⟨gb558, 1, none⟩) (Kd.R_types (Kd.R_types HO561.out BK558.out (by decide)) BK557.out (by decide)) (fun _ hk => hk.1.2) (.slice Ao12 t559.length co12)) (fun _ hk => hk.1.2) (.int .i64 a0_2)) (fun _ hk => hk.2) (.int .i64 a0_0)) (fun _ hk => hk.2) (.slice Ao12 t559.length co12)) (fun _ hk => hk.2) (.int .i64 a0_2)) (fun _ hk => trivial), by repeat (first | (with_reducible first | exact HB.out | apply qA | apply qN | apply qD | refine qS ?_ GE556.out | refine qS ?_ GE557.out | refine qS ?_ GE558.out) | exact HB.out)⟩
def laws_toTraceS.l0 : Nat → List (S81) → List (S87) → Int → Option ((List (S87)))
  | 0, _, _, _ => none
  | k + 1, x0, x3, x4 => if x4 < (x0.length : Int) then (if 0 ≤ x4 then ((laws_toTrace.f k ((rd_T81 x0 x4).f0) ((rd_T81 x0 x4).f1) ((rd_T81 x0 x4).f2)).bind fun bt566 => (if x4 < (x3.length : Int) then (laws_toTraceS.l0 k x0 (x3.set (x4 : Int).toNat (⟨bt566.1, bt566.2.1, bt566.2.2⟩ : S87)) (wrap64 (x4 + 1))) else (none))) else (none)) else (some x3)
def laws_toTraceS.f (k : Nat) (l0 : List (S81)) : Option ((List (S87))) := if 0 ≤ (l0.length : Int) then (if ((l0.length : Int) : Int).toNat ≤ 7036874417766 then (laws_toTraceS.l0 k l0 (List.replicate ((l0.length : Int) : Int).toNat z87) 0) else (none)) else (none)
theorem laws_toTraceS.calls (k : Nat) (A0 : Option Addr) (c0 : Nat) (l0 : List (S81)) (r : List (S87)) (w : World) (hr0 : Kd.C k81 w A0 l0.length l0) (hc0 : l0.length ≤ c0) (h : laws_toTraceS.f k l0 = some r) :
    Calls Try.prog 42 #[.slice A0 l0.length c0] w fun e w' => ∃ v0_ : Value, e = .returned (v0_) ∧ Kd.S k87 87 w' w.heap.size (fun _ => True) v0_ r ∧ Below w.heap.size w w' := by
  have hu81 := Try.underlying81
  have hu87 := Try.underlying87
  have HR0 := qM hr0
  have HC0 := qM hc0
  clear hr0 hc0
  have HB := qM (Below.refl w.heap.size w)
  have H : (if 0 ≤ (l0.length : Int) then (if ((l0.length : Int) : Int).toNat ≤ 7036874417766 then (laws_toTraceS.l0 k l0 (List.replicate ((l0.length : Int) : Int).toNat z87) 0) else (none)) else (none)) = some r := h
  clear h
  by_cases c2 : 0 ≤ (l0.length : Int)
  rotate_left
  · rw [if_neg c2] at H
    exact absurd H (by simp)
  rw [if_pos c2] at H
  have c2b0 := eq_true c2
  have c2b1 : decide (0 ≤ (l0.length : Int)) = true := decide_eq_true c2
  clear c2
  by_cases c3 : ((l0.length : Int) : Int).toNat ≤ 7036874417766
  rotate_left
  · rw [if_neg c3] at H
    exact absurd H (by simp)
  rw [if_pos c3] at H
  have c3b0 := eq_true c3
  have c3b1 : decide (((l0.length : Int) : Int).toNat ≤ 7036874417766) = true := decide_eq_true c3
  clear c3
  obtain ⟨y562, hy562⟩ : ∃ y_ : List (S87), y_ = (List.replicate ((l0.length : Int) : Int).toNat z87) := ⟨_, rfl⟩
  replace H : (laws_toTraceS.l0 k l0 y562 0) = some r := by first | (rw [hy562]; with_reducible exact H) | (have H2_ := (Option.bind_some _ _).symm.trans H; rw [hy562]; with_reducible exact H2_) | (have H2_ := (Option.bind_some _ _).symm.trans H; with_reducible exact H2_) | with_reducible exact H | (rw [hy562]; exact H) | exact H
  have Ny562 := qM hy562
  clear hy562
  have H' := qM H
  clear H
  go_enter Try.func42, Try.ntmps42
  go_wp2_with (first | ((with_reducible refine gate_dst (N := 7) rfl ?_); refine Kd.S_make k87 _ 87 rfl (N := 7) rfl 58 _ _ rfl (l0.length : Int) rfl rfl Try.underlying58 (.agg #[(.int .i64 0), (.slice none 0 0), (.int .i64 0)]) 40 info87 rfl (by decide) (by omega) z87 (ok := fun _ => True) (okp := fun _ => True) (k87_mkM _ _ _ z87 (Kd.R_nil _ _ _ _ _)) (fun _ hk => hk) trivial (qO (by first | (with_reducible assumption) | assumption)) (Nat.le_trans (Nat.mul_le_mul_right _ (qO (by first | (with_reducible assumption) | assumption) : (l0.length : Int).toNat ≤ 7036874417766)) (by omega)) (Below.refl _ _) (Nat.le_refl _) ?_; intro v563 w4 ho5 hb hg_ hnew_; clear hg_ hnew_; (first | rw [← Ny562.out] at ho5 | (simp only [Int.reduceToNat] at ho5; rw [← Ny562.out] at ho5)); have n0_ := qM (Kd.S_lower ho5 (qz (by repeat (first | (with_reducible first | exact HB.out | apply qA | apply qN | apply qD) | exact HB.out)))); have n1_ := qM (qs (by repeat (first | (with_reducible first | exact HB.out | apply qA | apply qN | apply qD) | exact HB.out)) hb); clear HB; have HO564 := n0_; have HB := n1_; clear n0_ n1_; clear hb ho5))
  go_loopg [4] k (fun kq v4 w' => ∃ (x3_1 : List (S87)) (x4_1 : Int), v4 = .int .i64 x4_1 ∧ Aside0 (laws_toTraceS.l0 kq l0 x3_1 x4_1 = some r) ∧ Aside0 (kq ≤ k) ∧ Aside0 (Kd.S k87 87 w' w.heap.size (fun _ => True) v563 x3_1) ∧ Aside0 (Below w.heap.size w w'))
  case atStart => exact ⟨(y562), (0), (by first | rfl | (simp; done) | (simp [*]; done)), H', ⟨Nat.le_refl _⟩, ⟨by (with_reducible repeat (first | apply Kd.S_alloc | apply Kd.S_drewN | apply Kd.S_drew)); exact HO564.out⟩, ⟨by repeat (first | (with_reducible first | exact HB.out | apply qA | apply qN | apply qD) | exact HB.out)⟩⟩
  case round =>
    clear H'
    try clear c2
    try clear c2b0
    try clear c2b1
    try clear p2
    try clear c3
    try clear c3b0
    try clear c3b1
    try clear c4
    obtain ⟨x3_1, x4_1, rfl, HA, HK1, HO_3, HB⟩ := hrel
    cases gk with
    | zero => exact absurd HA.out (by simp [laws_toTraceS.l0])
    | succ k1 =>
      have H := HA.out
      clear HA
      simp only [laws_toTraceS.l0] at H
      by_cases c6 : x4_1 < (l0.length : Int)
      rotate_left
      · rw [if_neg c6] at H
        have c6b0 : decide (x4_1 < (l0.length : Int)) = false := decide_eq_false c6
        clear c6
        obtain rfl := jF H
        go_wp2
        go_ret
        exact ⟨_, by first | rfl | (simp [errW_none, errW_some] <;> rfl) | (simp [*, errW_none, errW_some] <;> rfl), by (with_reducible repeat (first | apply Kd.S_alloc | apply Kd.S_drewN | apply Kd.S_drew)); exact HO_3.out, by repeat (first | (with_reducible first | exact HB.out | apply qA | apply qN | apply qD) | exact HB.out)⟩
      rw [if_pos c6] at H
      have c6b0 : decide (x4_1 < (l0.length : Int)) = true := decide_eq_true c6
      clear c6
      by_cases c7 : 0 ≤ x4_1
      rotate_left
      · rw [if_neg c7] at H
        exact absurd H (by simp)
      rw [if_pos c7] at H
      have c7b0 : decide (0 ≤ x4_1) = true := decide_eq_true c7
      clear c7
      replace H := jG H
      obtain ⟨⟨t566, t567, t570⟩, A80, H⟩ := H
      replace H : (if x4_1 < (x3_1.length : Int) then (laws_toTraceS.l0 k1 l0 (x3_1.set (x4_1 : Int).toNat (⟨t566, t567, t570⟩ : S87)) (wrap64 (x4_1 + 1))) else (none)) = some r := H
      have A8 := qM A80
      clear A80
      by_cases c9 : x4_1 < (x3_1.length : Int)
      rotate_left
      · rw [if_neg c9] at H
        exact absurd H (by simp)
      rw [if_pos c9] at H
      have c9b0 : decide (x4_1 < (x3_1.length : Int)) = true := decide_eq_true c9
      clear c9
      obtain ⟨y571, hy571⟩ : ∃ y_ : List (S87), y_ = (x3_1.set (x4_1 : Int).toNat (⟨t566, t567, t570⟩ : S87)) := ⟨_, rfl⟩
      replace H : (laws_toTraceS.l0 k1 l0 y571 (wrap64 (x4_1 + 1))) = some r := by first | (rw [hy571]; with_reducible exact H) | (have H2_ := (Option.bind_some _ _).symm.trans H; rw [hy571]; with_reducible exact H2_) | (have H2_ := (Option.bind_some _ _).symm.trans H; with_reducible exact H2_) | with_reducible exact H | (rw [hy571]; exact H) | exact H
      have Ny571 := qM hy571
      clear hy571
      have H' := qM H
      clear H
      have p565 : 0 ≤ (x4_1 : Int) := qO (by first | (with_reducible assumption) | assumption)
      have q565 : x4_1 < (l0.length : Int) := qO (by first | (with_reducible assumption) | assumption)
      obtain ⟨ad565, A565_1, c565_1, e565, hx565_0, hx565_1, hx565_2, hl565_1, hi565_1⟩ := at_T81 HR0.out x4_1 p565 q565
      cases e565
      replace hx565_0 := (HB.out.cell (qL w _ hx565_0)).trans hx565_0
      replace hx565_1 := (HB.out.cell (qL w _ hx565_1)).trans hx565_1
      replace hx565_2 := (HB.out.cell (qL w _ hx565_2)).trans hx565_2
      have HR565_1 := qM hi565_1
      have HC565_1 := qM hl565_1
      clear hi565_1 hl565_1
      replace p565 := eq_true p565
      replace q565 := eq_true q565
      go_wp2_with (first | ((with_reducible refine gate_callee (f := 54) rfl ?_); refine goesL_ (some 20) rfl rfl Try.func54 (by kernel_rfl) rfl #[.agg #[.int .i64 ((rd_T81 l0 x4_1).f0), .slice A565_1 ((rd_T81 l0 x4_1).f1).length c565_1, .int .i64 ((rd_T81 l0 x4_1).f2)]] rfl (by (try simp only [jC, jD, jE]); first | done | rfl | (simp only [jB, jA]; rfl)) ?_; (with_reducible refine (laws_toTrace.calls k1 ((rd_T81 l0 x4_1).f0) _ _ ((rd_T81 l0 x4_1).f1) ((rd_T81 l0 x4_1).f2) t566 t567 t570 _ ?side1 ?side2 A8.out).mono ?_); (case side1 => repeat (first | exact (qB HR565_1.out HB.out) | (with_reducible refine qc ?_ _) | (with_reducible refine qe ?_ _) | (with_reducible refine qf ?_))); (case side2 => exact HC565_1.out); rintro e w11 ⟨v568, rfl, ho0, hb⟩; refine ⟨_, rfl, ?_⟩; have n0_ := qM (Kd.S_elder' (by (with_reducible repeat (first | apply Kd.S_alloc | apply Kd.S_drewN | apply Kd.S_drew)); exact HO_3.out) (Kd.R_base ho0) hb); have n1_ := qM (Kd.R_lower ho0 (qz (by repeat (first | (with_reducible first | exact HB.out | apply qA | apply qN | apply qD) | exact HB.out)))); have n2_ := qM (qs (by repeat (first | (with_reducible first | exact HB.out | apply qA | apply qN | apply qD) | exact HB.out)) hb); clear HO_3; clear HB; have HO_3 := n0_; have HO569 := n1_; have HB := n2_; clear n0_ n1_ n2_; (try clear hb); (try clear hb2); (try clear hk); (try clear hi); (try clear ho0); have p10 : 0 ≤ (x4_1 : Int) := qO (by first | (with_reducible assumption) | assumption); have q10 : (x4_1 : Int) < ((x3_1.length : Int) : Int) := qO (by first | (with_reducible assumption) | assumption); obtain ⟨go10, co10, eo10, gb10, gl10, cl10, HG10⟩ := Kd.S_form HO_3.out (by omega); (first | cases eo10 | (injection eo10 with ea_ en_ ec_; (first | subst ea_ | (injection ea_ with ea_; subst ea_)); subst ec_; clear en_)); have GB10 := qM gb10; have GG10 := qM HG10; clear gb10 gl10 HG10; obtain ⟨_, ce10, hcl10, hM10, hcc10, hfr10, _, _⟩ := Kd.S_elem HO_3.out z87 (x4_1 : Int) p10 q10; obtain ⟨ve10_1, rfl, ge10_1⟩ := k87_openM hM10; have hx10_0 : w11.cell? ⟨go10, (x4_1 : Int).toNat * 3, none⟩ = some (.int .i64 ((rd_T87 x3_1 x4_1).f0)) := hcc10 0 _ rfl; have hx10_1 : w11.cell? ⟨go10, (x4_1 : Int).toNat * 3 + 1, none⟩ = some (ve10_1) := hcc10 1 _ rfl; have hx10_2 : w11.cell? ⟨go10, (x4_1 : Int).toNat * 3 + 2, none⟩ = some (.int .i64 ((rd_T87 x3_1 x4_1).f2)) := hcc10 2 _ rfl; have hf10_0 : w11.frozen? ⟨go10, (x4_1 : Int).toNat * 3, none⟩ = false := hfr10 0; have hf10_1 : w11.frozen? ⟨go10, (x4_1 : Int).toNat * 3 + 1, none⟩ = false := hfr10 1; have hf10_2 : w11.frozen? ⟨go10, (x4_1 : Int).toNat * 3 + 2, none⟩ = false := hfr10 2; clear hcl10 hcc10 hfr10 hM10; replace p10 := eq_true p10; replace q10 := eq_true q10; obtain ⟨Ao12, co12, eo12⟩ := Kd.R_slice HO569.out; subst eo12; have n_ := qM (Kd.S_mono (ok' := (fun k_ => some k_ ≠ (.slice Ao12 t567.length co12 : Value).ownBlock)) HO_3.out (fun k_ hk => hk.2)); clear HO_3; have HO_3 := n_; clear n_; have HX13 := qM (show Kd.S k87 87 w11 w.heap.size (fun k_ => ((fun _ => True)) k_ ∧ ¬ ((fun k_ => some k_ = (.slice Ao12 t567.length co12 : Value).ownBlock)) k_) (.slice (some ⟨go10, 0, none⟩) x3_1.length co10) x3_1 from (by (with_reducible repeat (first | apply Kd.S_alloc | apply Kd.S_drewN | apply Kd.S_drew)); exact Kd.S_mono HO_3.out (fun k_ hk => ⟨trivial, fun e_ => hk e_⟩))); obtain ⟨oki13, ce13, hcl13, hM13, hcc13, hfr13, hoki13, hH13⟩ := Kd.S_elem HX13.out z87 (x4_1 : Int) (qO (by first | (with_reducible assumption) | assumption)) (by have h_ : (x4_1 : Int) < ((x3_1.length : Int) : Int) := qO (by first | (with_reducible assumption) | assumption); first | exact h_ | (have e_ := (Kd.S_reads' HO_3.out).1; omega) | simpa using h_); obtain ⟨ve13_1, rfl, ge13_1⟩ := k87_openM hM13; have HP13 := Kd.S_seg hH13 (qO (by first | (with_reducible assumption) | assumption)) (by have h_ : (x4_1 : Int) < ((x3_1.length : Int) : Int) := qO (by first | (with_reducible assumption) | assumption); first | exact h_ | (have e_ := (Kd.S_reads' HO_3.out).1; omega) | simpa using h_) (seg := [.int .i64 t566, .slice Ao12 t567.length co12, .int .i64 t570]) (j := 0) (show 3 ≤ 3 from by decide) (x' := (⟨t566, t567, t570⟩ : S87)) (k87_mkM _ _ _ (⟨t566, t567, t570⟩ : S87) (Kd.R_mono (Kd.R_tight rfl (Kd.R_mono (ok' := fun k_ => ((fun _ => True)) k_ ∧ k_ ≠ go10) (Kd.R_apart' (HO569.out) (Kd.S_typed HO_3.out) (by decide)) (fun k_ hk => ⟨trivial, fun e_ => (hk.2) (by rw [e_]; rfl)⟩))) (fun _ h_ => Or.inr (h_)))) (fun _ hk => hk) (fun k_ hk_ => ((Kd.R_mono (ok' := fun k_ => ((fun _ => True)) k_ ∧ k_ ≠ go10) (Kd.R_apart' (HO569.out) (Kd.S_typed HO_3.out) (by decide)) (fun k_ hk => ⟨trivial, fun e_ => (hk.2) (by rw [e_]; rfl)⟩))).1 k_ hk_.symm); have hx13_0 := hcc13 0 _ rfl; (try simp only [show (k87).sz = 3 from rfl, Nat.mul_one, Nat.add_zero] at hx13_0); have hf13_0 := hfr13 0; (try simp only [show (k87).sz = 3 from rfl, Nat.mul_one, Nat.add_zero] at hf13_0); have hx13_1 := hcc13 1 _ rfl; (try simp only [show (k87).sz = 3 from rfl, Nat.mul_one, Nat.add_zero] at hx13_1); have hf13_1 := hfr13 1; (try simp only [show (k87).sz = 3 from rfl, Nat.mul_one, Nat.add_zero] at hf13_1); have hx13_2 := hcc13 2 _ rfl; (try simp only [show (k87).sz = 3 from rfl, Nat.mul_one, Nat.add_zero] at hx13_2); have hf13_2 := hfr13 2; (try simp only [show (k87).sz = 3 from rfl, Nat.mul_one, Nat.add_zero] at hf13_2); clear hcl13 hcc13 hfr13 hM13 hoki13 hH13) | ((with_reducible refine gate_store (t := 87) (p := 21) rfl ?_); refine store_event (t := 87) (p := 21) (v := ?vo_w14) (w1 := (((w11.setCell ⟨go10, (x4_1 : Int).toNat * 3, none⟩ (.int .i64 t566)).setCell ⟨go10, (x4_1 : Int).toNat * 3 + 1, none⟩ (.slice Ao12 t567.length co12)).setCell ⟨go10, (x4_1 : Int).toNat * 3 + 2, none⟩ (.int .i64 t570))) ?hg ?ho ?hn ?hr ?_; (case ho => rfl); (case hg => rfl); (case hn => rfl); (case hr => first | (go_simp; done) | (go_simp; rfl)); intro w14 hw; have hg : w11.grownBy w14 (some go10) := (by rw [hw]; exact HP13.2); have hp_ : Kd.S k87 87 w14 w.heap.size (fun _ => True) (.slice (some ⟨go10, 0, none⟩) x3_1.length co10) y571 := (by rw [hw, Ny571.out]; exact HP13.1); clear HP13; have n0_ := qM (hp_); have n1_ := qM ((by rw [hw]; exact qS (qS (qS (HB.out) GB10.out) GB10.out) GB10.out : Below w.heap.size w w14)); clear HO_3; clear HB; clear HO569; have HO_3 := n0_; have HB := n1_; clear n0_ n1_; clear hg hw hp_))
      go_roundg k1
      case measure => have := HK1.out; omega
      case rel => exact ⟨(y571), (wrap64 (x4_1 + 1)), (by first | rfl | (simp; done) | (simp [*]; done)), H', ⟨by have := HK1.out; omega⟩, ⟨by (with_reducible repeat (first | apply Kd.S_alloc | apply Kd.S_drewN | apply Kd.S_drew)); exact HO_3.out⟩, ⟨by repeat (first | (with_reducible first | exact HB.out | apply qA | apply qN | apply qD) | exact HB.out)⟩⟩
def impl_Trace_ok_1.f (a0_0 : Int) (a0_1 : Int) : Option (Bool) := (impl_isKey.f a0_0).bind fun t593 => (if t593 = true then ((impl_isValue.f a0_1).bind fun t594 => (some (!t594))) else (some true))
theorem impl_Trace_ok_1.calls (a0_0 : Int) (a0_1 : Int) (r : Bool) (w : World) (h : impl_Trace_ok_1.f a0_0 a0_1 = some r) :
    Calls Try.prog 157 #[.agg #[.int .i64 a0_0, .int .i64 a0_1]] w fun e w' => e = .returned (.bool r) ∧ Below w.heap.size w w' := by
  have hu117 := Try.underlying117
  have HB := qM (Below.refl w.heap.size w)
  have H : ((impl_isKey.f a0_0).bind fun t593 => (if t593 = true then ((impl_isValue.f a0_1).bind fun t594 => (some (!t594))) else (some true))) = some r := h
  clear h
  replace H := jG H
  obtain ⟨t593, A20, H⟩ := H
  replace H : (if t593 = true then ((impl_isValue.f a0_1).bind fun t594 => (some (!t594))) else (some true)) = some r := H
  have A2 := qM A20
  clear A20
  by_cases c3 : t593 = true
  rotate_left
  · replace c3 := Bool.eq_false_iff.mpr c3
    subst c3
    have H1 : (some true) = some r := by rw [if_neg (show ¬ (false = true) by decide)] at H; exact H
    clear H
    have H := H1
    clear H1
    obtain rfl := jF H
    go_enter Try.func157, Try.ntmps157
    go_wp2_with (first | ((with_reducible refine gate_dst (N := 1) rfl ?_); refine box_event ?hg (N := 1) ?hd (cs := #[.int .i64 a0_0, .int .i64 a0_1]) (t := 117) ?hr ?_; (case hd => rfl); (case hg => rfl); (case hr => first | (go_simp; done) | (go_simp; rfl)); intro gb592 hg w7 hbox hb; have n0_ := qM (qs (by repeat (first | (with_reducible first | exact HB.out | apply qA | apply qN | apply qD) | exact HB.out)) hb); have n1_ := qM (hbox); have n2_ := qM ((by rw [hg]; exact (qz (by repeat (first | (with_reducible first | exact HB.out | apply qA | apply qN | apply qD) | exact HB.out))) : w.heap.size ≤ gb592)); have n3_ := qM ((by rw [hg]; exact (qz (by repeat (first | (with_reducible first | exact HB.out | apply qA | apply qN | apply qD) | exact HB.out))) : w.heap.size ≤ gb592)); clear HB; have HB := n0_; have BK592 := n1_; have GW592 := n2_; have GE592 := n3_; clear n0_ n1_ n2_ n3_; clear hb hbox hg; have hcz8_0 : w7.cell? ⟨gb592, 0, none⟩ = some (.int .i64 a0_0) := (qC BK592.out 0).trans rfl; have hcz8_1 : w7.cell? ⟨gb592, 1, none⟩ = some (.int .i64 a0_1) := (qC BK592.out 1).trans rfl; have hfz8_0 := qF BK592.out 0; have hfz8_1 := qF BK592.out 1) | ((with_reducible refine gate_callee (f := 106) rfl ?_); refine goesL_ (some 5) rfl rfl Try.func106 (by kernel_rfl) rfl #[.int .i64 a0_0] rfl (by (try simp only [jC, jD, jE]); first | done | rfl | (simp only [jB, jA]; rfl)) ?_; (with_reducible refine (impl_isKey.calls a0_0 false _ A2.out).mono ?_); rintro e w' ⟨rfl, ⟨nd, rfl⟩⟩; refine ⟨_, rfl, ?_⟩))
    go_ret
    exact ⟨by first | rfl | (simp [errW_none, errW_some] <;> rfl) | (simp [*, errW_none, errW_some] <;> rfl), by repeat (first | (with_reducible first | exact HB.out | apply qA | apply qN | apply qD | refine qS ?_ GE592.out) | exact HB.out)⟩
  subst c3
  have H1 : ((impl_isValue.f a0_1).bind fun t594 => (some (!t594))) = some r := by rw [if_pos rfl] at H; exact H
  clear H
  have H := H1
  clear H1
  replace H := jG H
  obtain ⟨t594, A40, H⟩ := H
  replace H : (some (!t594)) = some r := H
  have A4 := qM A40
  clear A40
  obtain rfl := jF H
  go_enter Try.func157, Try.ntmps157
  go_wp2_with (first | ((with_reducible refine gate_dst (N := 1) rfl ?_); refine box_event ?hg (N := 1) ?hd (cs := #[.int .i64 a0_0, .int .i64 a0_1]) (t := 117) ?hr ?_; (case hd => rfl); (case hg => rfl); (case hr => first | (go_simp; done) | (go_simp; rfl)); intro gb592 hg w5 hbox hb; have n0_ := qM (qs (by repeat (first | (with_reducible first | exact HB.out | apply qA | apply qN | apply qD) | exact HB.out)) hb); have n1_ := qM (hbox); have n2_ := qM ((by rw [hg]; exact (qz (by repeat (first | (with_reducible first | exact HB.out | apply qA | apply qN | apply qD) | exact HB.out))) : w.heap.size ≤ gb592)); have n3_ := qM ((by rw [hg]; exact (qz (by repeat (first | (with_reducible first | exact HB.out | apply qA | apply qN | apply qD) | exact HB.out))) : w.heap.size ≤ gb592)); clear HB; have HB := n0_; have BK592 := n1_; have GW592 := n2_; have GE592 := n3_; clear n0_ n1_ n2_ n3_; clear hb hbox hg; have hcz6_0 : w5.cell? ⟨gb592, 0, none⟩ = some (.int .i64 a0_0) := (qC BK592.out 0).trans rfl; have hcz6_1 : w5.cell? ⟨gb592, 1, none⟩ = some (.int .i64 a0_1) := (qC BK592.out 1).trans rfl; have hfz6_0 := qF BK592.out 0; have hfz6_1 := qF BK592.out 1) | ((with_reducible refine gate_callee (f := 106) rfl ?_); refine goesL_ (some 5) rfl rfl Try.func106 (by kernel_rfl) rfl #[.int .i64 a0_0] rfl (by (try simp only [jC, jD, jE]); first | done | rfl | (simp only [jB, jA]; rfl)) ?_; (with_reducible refine (impl_isKey.calls a0_0 true _ A2.out).mono ?_); rintro e w' ⟨rfl, ⟨nd, rfl⟩⟩; refine ⟨_, rfl, ?_⟩) | (go_at_call 145; (with_reducible refine (impl_isValue.calls a0_1 t594 _ A4.out).mono ?_); rintro e w' ⟨rfl, ⟨nd, rfl⟩⟩))
  go_ret
  exact ⟨by first | rfl | (simp [errW_none, errW_some] <;> rfl) | (simp [*, errW_none, errW_some] <;> rfl), by repeat (first | (with_reducible first | exact HB.out | apply qA | apply qN | apply qD | refine qS ?_ GE592.out) | exact HB.out)⟩
end Go.Proofs.Ytgbjbpjmbghlbaa.G
end
section
namespace Go.Proofs.Ytgbjbpjmbghlbaa.G
open Go.RowKit Go.Proofs.YtgbjbpjmbghlbaaW.PrintWords Go.Proofs.YtgbjbpjmbghlbaaW.PrintLast Go.Proofs.YtgbjbpjmbghlbaaW.PrintMore
attribute [local go_sem] max2_int min2_int max_two min_two max_three min_three max_four min_four
mutual
def laws_eqTask.f : Nat → Int → Int → List (S30) → Int → Int → List (S30) → Option (Bool)
  | 0, _, _, _, _, _, _ => none
  | k + 1, a0_0, a0_1, l0_2, a1_0, a1_1, l1_2 => if a0_0 = a1_0 then (if a0_1 = a1_1 then ((laws_eqTaskS.f k l0_2 l1_2).bind fun t159 => (if t159 = true then (some true) else (some false))) else (some false)) else (some false)
def laws_eqTaskS.l0 : Nat → List (S30) → List (S30) → Int → Option (Bool)
  | 0, _, _, _ => none
  | k + 1, x0, x1, x5 => if x5 < (x0.length : Int) then (if 0 ≤ x5 then (if x5 < (x1.length : Int) then ((laws_eqTask.f k ((rd_T30 x0 x5).f0) ((rd_T30 x0 x5).f1) ((rd_T30 x0 x5).f2) ((rd_T30 x1 x5).f0) ((rd_T30 x1 x5).f1) ((rd_T30 x1 x5).f2)).bind fun t162 => (if t162 = true then (laws_eqTaskS.l0 k x0 x1 (wrap64 (x5 + 1))) else (some false))) else (none)) else (none)) else (some true)
def laws_eqTaskS.f : Nat → List (S30) → List (S30) → Option (Bool)
  | 0, _, _ => none
  | k + 1, l0, l1 => if (l0.length : Int) = (l1.length : Int) then (laws_eqTaskS.l0 k l0 l1 0) else (some false)
end
theorem laws_eqTask.calls_ih (k : Nat) (ih_20 : ∀ j, j < k → ∀ (a0_0 : Int) (a0_1 : Int) (A0_2 : Option Addr) (c0_2 : Nat) (l0_2 : List (S30)) (a1_0 : Int) (a1_1 : Int) (A1_2 : Option Addr) (c1_2 : Nat) (l1_2 : List (S30)) (r : Bool) (w : World) (hr0_2 : Kd.C k30 w A0_2 l0_2.length l0_2) (hc0_2 : l0_2.length ≤ c0_2) (hr1_2 : Kd.C k30 w A1_2 l1_2.length l1_2) (hc1_2 : l1_2.length ≤ c1_2) (h : laws_eqTask.f j a0_0 a0_1 l0_2 a1_0 a1_1 l1_2 = some r),
    Calls Try.prog 20 #[.agg #[.int .i64 a0_0, .int .i64 a0_1, .slice A0_2 l0_2.length c0_2], .agg #[.int .i64 a1_0, .int .i64 a1_1, .slice A1_2 l1_2.length c1_2]] w fun e w' => e = .returned (.bool r) ∧ Below w.heap.size w w') (ih_73 : ∀ j, j < k → ∀ (A0 : Option Addr) (c0 : Nat) (l0 : List (S30)) (A1 : Option Addr) (c1 : Nat) (l1 : List (S30)) (r : Bool) (w : World) (hr0 : Kd.C k30 w A0 l0.length l0) (hc0 : l0.length ≤ c0) (hr1 : Kd.C k30 w A1 l1.length l1) (hc1 : l1.length ≤ c1) (h : laws_eqTaskS.f j l0 l1 = some r),
    Calls Try.prog 73 #[.slice A0 l0.length c0, .slice A1 l1.length c1] w fun e w' => e = .returned (.bool r) ∧ Below w.heap.size w w') : ∀ (a0_0 : Int) (a0_1 : Int) (A0_2 : Option Addr) (c0_2 : Nat) (l0_2 : List (S30)) (a1_0 : Int) (a1_1 : Int) (A1_2 : Option Addr) (c1_2 : Nat) (l1_2 : List (S30)) (r : Bool) (w : World) (hr0_2 : Kd.C k30 w A0_2 l0_2.length l0_2) (hc0_2 : l0_2.length ≤ c0_2) (hr1_2 : Kd.C k30 w A1_2 l1_2.length l1_2) (hc1_2 : l1_2.length ≤ c1_2) (h : laws_eqTask.f k a0_0 a0_1 l0_2 a1_0 a1_1 l1_2 = some r),
    Calls Try.prog 20 #[.agg #[.int .i64 a0_0, .int .i64 a0_1, .slice A0_2 l0_2.length c0_2], .agg #[.int .i64 a1_0, .int .i64 a1_1, .slice A1_2 l1_2.length c1_2]] w fun e w' => e = .returned (.bool r) ∧ Below w.heap.size w w' := by
  intro a0_0 a0_1 A0_2 c0_2 l0_2 a1_0 a1_1 A1_2 c1_2 l1_2 r w hr0_2 hc0_2 hr1_2 hc1_2 h
  cases k with
  | zero => exact absurd h (by simp [laws_eqTask.f])
  | succ k =>
  simp only [laws_eqTask.f] at h
  have hu30 := Try.underlying30
  have HR0_2 := qM hr0_2
  have HC0_2 := qM hc0_2
  clear hr0_2 hc0_2
  have HR1_2 := qM hr1_2
  have HC1_2 := qM hc1_2
  clear hr1_2 hc1_2
  have HB := qM (Below.refl w.heap.size w)
  have H : (if a0_0 = a1_0 then (if a0_1 = a1_1 then ((laws_eqTaskS.f k l0_2 l1_2).bind fun t159 => (if t159 = true then (some true) else (some false))) else (some false)) else (some false)) = some r := h
  clear h
  by_cases c3 : a0_0 = a1_0
  rotate_left
  · rw [if_neg c3] at H
    have c3b0 : (a0_0 == a1_0) = false := beq_eq_false_iff_ne.mpr c3
    have c3b1 : (a0_0 != a1_0) = true := bne_iff_ne.mpr c3
    obtain rfl := jF H
    go_enter Try.func20, Try.ntmps20
    go_wp2_with (first | ((with_reducible refine gate_dst (N := 2) rfl ?_); refine box_event ?hg (N := 2) ?hd (cs := #[.int .i64 a0_0, .int .i64 a0_1, .slice A0_2 l0_2.length c0_2]) (t := 30) ?hr ?_; (case hd => rfl); (case hg => rfl); (case hr => first | (go_simp; done) | (go_simp; rfl)); intro gb157 hg w24 hbox hb; have n0_ := qM (qs (by repeat (first | (with_reducible first | exact HB.out | apply qA | apply qN | apply qD) | exact HB.out)) hb); have n1_ := qM (hbox); have n2_ := qM ((by rw [hg]; exact (qz (by repeat (first | (with_reducible first | exact HB.out | apply qA | apply qN | apply qD) | exact HB.out))) : w.heap.size ≤ gb157)); have n3_ := qM ((by rw [hg]; exact (qz (by repeat (first | (with_reducible first | exact HB.out | apply qA | apply qN | apply qD) | exact HB.out))) : w.heap.size ≤ gb157)); clear HB; have HB := n0_; have BK157 := n1_; have GW157 := n2_; have GE157 := n3_; clear n0_ n1_ n2_ n3_; clear hb hbox hg) | ((with_reducible refine gate_dst (N := 3) rfl ?_); refine box_event ?hg (N := 3) ?hd (cs := #[.int .i64 a1_0, .int .i64 a1_1, .slice A1_2 l1_2.length c1_2]) (t := 30) ?hr ?_; (case hd => rfl); (case hg => rfl); (case hr => first | (go_simp; done) | (go_simp; rfl)); intro gb158 hg w25 hbox hb; have n0_ := qM (blk_below (g := gb157) (o := .cells #[.int .i64 a0_0, .int .i64 a0_1, .slice A0_2 l0_2.length c0_2] 30 (0, 0)) (by (with_reducible repeat (first | apply qn | apply qd | apply qa)); exact BK157.out) hb); have n1_ := qM (qs (by repeat (first | (with_reducible first | exact HB.out | apply qA | apply qN | apply qD | refine qS ?_ GE157.out) | exact HB.out)) hb); have n2_ := qM (hbox); have n3_ := qM ((by rw [hg]; exact (qz (by repeat (first | (with_reducible first | exact HB.out | apply qA | apply qN | apply qD | refine qS ?_ GE157.out) | exact HB.out))) : w.heap.size ≤ gb158)); have n4_ := qM ((by rw [hg]; exact (qz (by repeat (first | (with_reducible first | exact HB.out | apply qA | apply qN | apply qD | refine qS ?_ GE157.out) | exact HB.out))) : w.heap.size ≤ gb158)); have n5_ := qM ((by rw [hg]; exact Nat.ne_of_lt (blk_lt (g := gb157) (o := .cells #[.int .i64 a0_0, .int .i64 a0_1, .slice A0_2 l0_2.length c0_2] 30 (0, 0)) (by (with_reducible repeat (first | apply qn | apply qd | apply qa)); exact BK157.out)) : gb157 ≠ gb158)); have n6_ := qM ((by rw [hg]; exact Nat.ne_of_gt (blk_lt (g := gb157) (o := .cells #[.int .i64 a0_0, .int .i64 a0_1, .slice A0_2 l0_2.length c0_2] 30 (0, 0)) (by (with_reducible repeat (first | apply qn | apply qd | apply qa)); exact BK157.out)) : gb158 ≠ gb157)); clear BK157; clear HB; have BK157 := n0_; have HB := n1_; have BK158 := n2_; have GW158 := n3_; have GE158 := n4_; have NB157_158 := n5_; have NB158_157 := n6_; clear n0_ n1_ n2_ n3_ n4_ n5_ n6_; clear hb hbox hg; have hnb26 := NB157_158.out; have hnc26 := NB158_157.out; have hcz27_0 : w25.cell? ⟨gb157, 0, none⟩ = some (.int .i64 a0_0) := (qC BK157.out 0).trans rfl; have hcz27_1 : w25.cell? ⟨gb157, 1, none⟩ = some (.int .i64 a0_1) := (qC BK157.out 1).trans rfl; have hcz27_2 : w25.cell? ⟨gb157, 2, none⟩ = some (.slice A0_2 l0_2.length c0_2) := (qC BK157.out 2).trans rfl; have hfz27_0 := qF BK157.out 0; have hfz27_1 := qF BK157.out 1; have hfz27_2 := qF BK157.out 2; have hcz28_0 : w25.cell? ⟨gb158, 0, none⟩ = some (.int .i64 a1_0) := (qC BK158.out 0).trans rfl; have hcz28_1 : w25.cell? ⟨gb158, 1, none⟩ = some (.int .i64 a1_1) := (qC BK158.out 1).trans rfl; have hcz28_2 : w25.cell? ⟨gb158, 2, none⟩ = some (.slice A1_2 l1_2.length c1_2) := (qC BK158.out 2).trans rfl; have hfz28_0 := qF BK158.out 0; have hfz28_1 := qF BK158.out 1; have hfz28_2 := qF BK158.out 2))
    go_ret
    exact ⟨by first | rfl | (simp [errW_none, errW_some] <;> rfl) | (simp [*, errW_none, errW_some] <;> rfl), by repeat (first | (with_reducible first | exact HB.out | apply qA | apply qN | apply qD | refine qS ?_ GE157.out | refine qS ?_ GE158.out) | exact HB.out)⟩
  rw [if_pos c3] at H
  have c3b0 : (a0_0 == a1_0) = true := beq_iff_eq.mpr c3
  have c3b1 : (a0_0 != a1_0) = false := bne_eq_false_iff_eq.mpr c3
  clear c3
  by_cases c4 : a0_1 = a1_1
  rotate_left
  · rw [if_neg c4] at H
    have c4b0 : (a0_1 == a1_1) = false := beq_eq_false_iff_ne.mpr c4
    have c4b1 : (a0_1 != a1_1) = true := bne_iff_ne.mpr c4
    obtain rfl := jF H
    go_enter Try.func20, Try.ntmps20
    go_wp2_with (first | ((with_reducible refine gate_dst (N := 2) rfl ?_); refine box_event ?hg (N := 2) ?hd (cs := #[.int .i64 a0_0, .int .i64 a0_1, .slice A0_2 l0_2.length c0_2]) (t := 30) ?hr ?_; (case hd => rfl); (case hg => rfl); (case hr => first | (go_simp; done) | (go_simp; rfl)); intro gb157 hg w19 hbox hb; have n0_ := qM (qs (by repeat (first | (with_reducible first | exact HB.out | apply qA | apply qN | apply qD) | exact HB.out)) hb); have n1_ := qM (hbox); have n2_ := qM ((by rw [hg]; exact (qz (by repeat (first | (with_reducible first | exact HB.out | apply qA | apply qN | apply qD) | exact HB.out))) : w.heap.size ≤ gb157)); have n3_ := qM ((by rw [hg]; exact (qz (by repeat (first | (with_reducible first | exact HB.out | apply qA | apply qN | apply qD) | exact HB.out))) : w.heap.size ≤ gb157)); clear HB; have HB := n0_; have BK157 := n1_; have GW157 := n2_; have GE157 := n3_; clear n0_ n1_ n2_ n3_; clear hb hbox hg) | ((with_reducible refine gate_dst (N := 3) rfl ?_); refine box_event ?hg (N := 3) ?hd (cs := #[.int .i64 a1_0, .int .i64 a1_1, .slice A1_2 l1_2.length c1_2]) (t := 30) ?hr ?_; (case hd => rfl); (case hg => rfl); (case hr => first | (go_simp; done) | (go_simp; rfl)); intro gb158 hg w20 hbox hb; have n0_ := qM (blk_below (g := gb157) (o := .cells #[.int .i64 a0_0, .int .i64 a0_1, .slice A0_2 l0_2.length c0_2] 30 (0, 0)) (by (with_reducible repeat (first | apply qn | apply qd | apply qa)); exact BK157.out) hb); have n1_ := qM (qs (by repeat (first | (with_reducible first | exact HB.out | apply qA | apply qN | apply qD | refine qS ?_ GE157.out) | exact HB.out)) hb); have n2_ := qM (hbox); have n3_ := qM ((by rw [hg]; exact (qz (by repeat (first | (with_reducible first | exact HB.out | apply qA | apply qN | apply qD | refine qS ?_ GE157.out) | exact HB.out))) : w.heap.size ≤ gb158)); have n4_ := qM ((by rw [hg]; exact (qz (by repeat (first | (with_reducible first | exact HB.out | apply qA | apply qN | apply qD | refine qS ?_ GE157.out) | exact HB.out))) : w.heap.size ≤ gb158)); have n5_ := qM ((by rw [hg]; exact Nat.ne_of_lt (blk_lt (g := gb157) (o := .cells #[.int .i64 a0_0, .int .i64 a0_1, .slice A0_2 l0_2.length c0_2] 30 (0, 0)) (by (with_reducible repeat (first | apply qn | apply qd | apply qa)); exact BK157.out)) : gb157 ≠ gb158)); have n6_ := qM ((by rw [hg]; exact Nat.ne_of_gt (blk_lt (g := gb157) (o := .cells #[.int .i64 a0_0, .int .i64 a0_1, .slice A0_2 l0_2.length c0_2] 30 (0, 0)) (by (with_reducible repeat (first | apply qn | apply qd | apply qa)); exact BK157.out)) : gb158 ≠ gb157)); clear BK157; clear HB; have BK157 := n0_; have HB := n1_; have BK158 := n2_; have GW158 := n3_; have GE158 := n4_; have NB157_158 := n5_; have NB158_157 := n6_; clear n0_ n1_ n2_ n3_ n4_ n5_ n6_; clear hb hbox hg; have hnb21 := NB157_158.out; have hnc21 := NB158_157.out; have hcz22_0 : w20.cell? ⟨gb157, 0, none⟩ = some (.int .i64 a0_0) := (qC BK157.out 0).trans rfl; have hcz22_1 : w20.cell? ⟨gb157, 1, none⟩ = some (.int .i64 a0_1) := (qC BK157.out 1).trans rfl; have hcz22_2 : w20.cell? ⟨gb157, 2, none⟩ = some (.slice A0_2 l0_2.length c0_2) := (qC BK157.out 2).trans rfl; have hfz22_0 := qF BK157.out 0; have hfz22_1 := qF BK157.out 1; have hfz22_2 := qF BK157.out 2; have hcz23_0 : w20.cell? ⟨gb158, 0, none⟩ = some (.int .i64 a1_0) := (qC BK158.out 0).trans rfl; have hcz23_1 : w20.cell? ⟨gb158, 1, none⟩ = some (.int .i64 a1_1) := (qC BK158.out 1).trans rfl; have hcz23_2 : w20.cell? ⟨gb158, 2, none⟩ = some (.slice A1_2 l1_2.length c1_2) := (qC BK158.out 2).trans rfl; have hfz23_0 := qF BK158.out 0; have hfz23_1 := qF BK158.out 1; have hfz23_2 := qF BK158.out 2))
    go_ret
    exact ⟨by first | rfl | (simp [errW_none, errW_some] <;> rfl) | (simp [*, errW_none, errW_some] <;> rfl), by repeat (first | (with_reducible first | exact HB.out | apply qA | apply qN | apply qD | refine qS ?_ GE157.out | refine qS ?_ GE158.out) | exact HB.out)⟩
  rw [if_pos c4] at H
  have c4b0 : (a0_1 == a1_1) = true := beq_iff_eq.mpr c4
  have c4b1 : (a0_1 != a1_1) = false := bne_eq_false_iff_eq.mpr c4
  clear c4
  replace H := jG H
  obtain ⟨t159, A50, H⟩ := H
  replace H : (if t159 = true then (some true) else (some false)) = some r := H
  have A5 := qM A50
  clear A50
  by_cases c6 : t159 = true
  · subst c6
    have H1 : (some true) = some r := by rw [if_pos rfl] at H; exact H
    clear H
    have H := H1
    clear H1
    obtain rfl := jF H
    go_enter Try.func20, Try.ntmps20
    go_wp2_with (first | ((with_reducible refine gate_dst (N := 2) rfl ?_); refine box_event ?hg (N := 2) ?hd (cs := #[.int .i64 a0_0, .int .i64 a0_1, .slice A0_2 l0_2.length c0_2]) (t := 30) ?hr ?_; (case hd => rfl); (case hg => rfl); (case hr => first | (go_simp; done) | (go_simp; rfl)); intro gb157 hg w7 hbox hb; have n0_ := qM (qs (by repeat (first | (with_reducible first | exact HB.out | apply qA | apply qN | apply qD) | exact HB.out)) hb); have n1_ := qM (hbox); have n2_ := qM ((by rw [hg]; exact (qz (by repeat (first | (with_reducible first | exact HB.out | apply qA | apply qN | apply qD) | exact HB.out))) : w.heap.size ≤ gb157)); have n3_ := qM ((by rw [hg]; exact (qz (by repeat (first | (with_reducible first | exact HB.out | apply qA | apply qN | apply qD) | exact HB.out))) : w.heap.size ≤ gb157)); clear HB; have HB := n0_; have BK157 := n1_; have GW157 := n2_; have GE157 := n3_; clear n0_ n1_ n2_ n3_; clear hb hbox hg) | ((with_reducible refine gate_dst (N := 3) rfl ?_); refine box_event ?hg (N := 3) ?hd (cs := #[.int .i64 a1_0, .int .i64 a1_1, .slice A1_2 l1_2.length c1_2]) (t := 30) ?hr ?_; (case hd => rfl); (case hg => rfl); (case hr => first | (go_simp; done) | (go_simp; rfl)); intro gb158 hg w8 hbox hb; have n0_ := qM (blk_below (g := gb157) (o := .cells #[.int .i64 a0_0, .int .i64 a0_1, .slice A0_2 l0_2.length c0_2] 30 (0, 0)) (by (with_reducible repeat (first | apply qn | apply qd | apply qa)); exact BK157.out) hb); have n1_ := qM (qs (by repeat (first | (with_reducible first | exact HB.out | apply qA | apply qN | apply qD | refine qS ?_ GE157.out) | exact HB.out)) hb); have n2_ := qM (hbox); have n3_ := qM ((by rw [hg]; exact (qz (by repeat (first | (with_reducible first | exact HB.out | apply qA | apply qN | apply qD | refine qS ?_ GE157.out) | exact HB.out))) : w.heap.size ≤ gb158)); have n4_ := qM ((by rw [hg]; exact (qz (by repeat (first | (with_reducible first | exact HB.out | apply qA | apply qN | apply qD | refine qS ?_ GE157.out) | exact HB.out))) : w.heap.size ≤ gb158)); have n5_ := qM ((by rw [hg]; exact Nat.ne_of_lt (blk_lt (g := gb157) (o := .cells #[.int .i64 a0_0, .int .i64 a0_1, .slice A0_2 l0_2.length c0_2] 30 (0, 0)) (by (with_reducible repeat (first | apply qn | apply qd | apply qa)); exact BK157.out)) : gb157 ≠ gb158)); have n6_ := qM ((by rw [hg]; exact Nat.ne_of_gt (blk_lt (g := gb157) (o := .cells #[.int .i64 a0_0, .int .i64 a0_1, .slice A0_2 l0_2.length c0_2] 30 (0, 0)) (by (with_reducible repeat (first | apply qn | apply qd | apply qa)); exact BK157.out)) : gb158 ≠ gb157)); clear BK157; clear HB; have BK157 := n0_; have HB := n1_; have BK158 := n2_; have GW158 := n3_; have GE158 := n4_; have NB157_158 := n5_; have NB158_157 := n6_; clear n0_ n1_ n2_ n3_ n4_ n5_ n6_; clear hb hbox hg; have hnb9 := NB157_158.out; have hnc9 := NB158_157.out; have hcz10_0 : w8.cell? ⟨gb157, 0, none⟩ = some (.int .i64 a0_0) := (qC BK157.out 0).trans rfl; have hcz10_1 : w8.cell? ⟨gb157, 1, none⟩ = some (.int .i64 a0_1) := (qC BK157.out 1).trans rfl; have hcz10_2 : w8.cell? ⟨gb157, 2, none⟩ = some (.slice A0_2 l0_2.length c0_2) := (qC BK157.out 2).trans rfl; have hfz10_0 := qF BK157.out 0; have hfz10_1 := qF BK157.out 1; have hfz10_2 := qF BK157.out 2; have hcz11_0 : w8.cell? ⟨gb158, 0, none⟩ = some (.int .i64 a1_0) := (qC BK158.out 0).trans rfl; have hcz11_1 : w8.cell? ⟨gb158, 1, none⟩ = some (.int .i64 a1_1) := (qC BK158.out 1).trans rfl; have hcz11_2 : w8.cell? ⟨gb158, 2, none⟩ = some (.slice A1_2 l1_2.length c1_2) := (qC BK158.out 2).trans rfl; have hfz11_0 := qF BK158.out 0; have hfz11_1 := qF BK158.out 1; have hfz11_2 := qF BK158.out 2) | ((with_reducible refine gate_callee (f := 73) rfl ?_); refine goesL_ (some 19) rfl rfl Try.func73 (by kernel_rfl) rfl #[.slice A0_2 l0_2.length c0_2, .slice A1_2 l1_2.length c1_2] rfl (by (try simp only [jC, jD, jE]); first | done | rfl | (simp only [jB, jA]; rfl)) ?_; (with_reducible refine (ih_73 k (by omega) _ _ l0_2 _ _ l1_2 true _ ?side1 ?side2 ?side3 ?side4 A5.out).mono ?_); (case side1 => repeat (first | exact (qB HR0_2.out HB.out) | (with_reducible refine qc ?_ _) | (with_reducible refine qe ?_ _) | (with_reducible refine qf ?_))); (case side2 => exact HC0_2.out); (case side3 => repeat (first | exact (qB HR1_2.out HB.out) | (with_reducible refine qc ?_ _) | (with_reducible refine qe ?_ _) | (with_reducible refine qf ?_))); (case side4 => exact HC1_2.out); rintro e w12 ⟨rfl, hb⟩; refine ⟨_, rfl, ?_⟩; have n0_ := qM (blk_below (g := gb157) (o := .cells #[.int .i64 a0_0, .int .i64 a0_1, .slice A0_2 l0_2.length c0_2] 30 (0, 0)) (by (with_reducible repeat (first | apply qn | apply qd | apply qa)); exact BK157.out) hb); have n1_ := qM (blk_below (g := gb158) (o := .cells #[.int .i64 a1_0, .int .i64 a1_1, .slice A1_2 l1_2.length c1_2] 30 (0, 0)) (by (with_reducible repeat (first | apply qn | apply qd | apply qa)); exact BK158.out) hb); have n2_ := qM (qs (by repeat (first | (with_reducible first | exact HB.out | apply qA | apply qN | apply qD | refine qS ?_ GE157.out | refine qS ?_ GE158.out) | exact HB.out)) hb); clear BK157; clear BK158; clear HB; have BK157 := n0_; have BK158 := n1_; have HB := n2_; clear n0_ n1_ n2_; (try clear hb); (try clear hb2); (try clear hk); (try clear hi)))
    go_ret
    exact ⟨by first | rfl | (simp [errW_none, errW_some] <;> rfl) | (simp [*, errW_none, errW_some] <;> rfl), by repeat (first | (with_reducible first | exact HB.out | apply qA | apply qN | apply qD | refine qS ?_ GE157.out | refine qS ?_ GE158.out) | exact HB.out)⟩
  replace c6 := Bool.eq_false_iff.mpr c6
  subst c6
  have H1 : (some false) = some r := by rw [if_neg (show ¬ (false = true) by decide)] at H; exact H
  clear H
  have H := H1
  clear H1
  obtain rfl := jF H
  go_enter Try.func20, Try.ntmps20
  go_wp2_with (first | ((with_reducible refine gate_dst (N := 2) rfl ?_); refine box_event ?hg (N := 2) ?hd (cs := #[.int .i64 a0_0, .int .i64 a0_1, .slice A0_2 l0_2.length c0_2]) (t := 30) ?hr ?_; (case hd => rfl); (case hg => rfl); (case hr => first | (go_simp; done) | (go_simp; rfl)); intro gb157 hg w13 hbox hb; have n0_ := qM (qs (by repeat (first | (with_reducible first | exact HB.out | apply qA | apply qN | apply qD) | exact HB.out)) hb); have n1_ := qM (hbox); have n2_ := qM ((by rw [hg]; exact (qz (by repeat (first | (with_reducible first | exact HB.out | apply qA | apply qN | apply qD) | exact HB.out))) : w.heap.size ≤ gb157)); have n3_ := qM ((by rw [hg]; exact (qz (by repeat (first | (with_reducible first | exact HB.out | apply qA | apply qN | apply qD) | exact HB.out))) : w.heap.size ≤ gb157)); clear HB; have HB := n0_; have BK157 := n1_; have GW157 := n2_; have GE157 := n3_; clear n0_ n1_ n2_ n3_; clear hb hbox hg) | ((with_reducible refine gate_dst (N := 3) rfl ?_); refine box_event ?hg (N := 3) ?hd (cs := #[.int .i64 a1_0, .int .i64 a1_1, .slice A1_2 l1_2.length c1_2]) (t := 30) ?hr ?_; (case hd => rfl); (case hg => rfl); (case hr => first | (go_simp; done) | (go_simp; rfl)); intro gb158 hg w14 hbox hb; have n0_ := qM (blk_below (g := gb157) (o := .cells #[.int .i64 a0_0, .int .i64 a0_1, .slice A0_2 l0_2.length c0_2] 30 (0, 0)) (by (with_reducible repeat (first | apply qn | apply qd | apply qa)); exact BK157.out) hb); have n1_ := qM (qs (by repeat (first | (with_reducible first | exact HB.out | apply qA | apply qN | apply qD | refine qS ?_ GE157.out) | exact HB.out)) hb); have n2_ := qM (hbox); have n3_ := qM ((by rw [hg]; exact (qz (by repeat (first | (with_reducible first | exact HB.out | apply qA | apply qN | apply qD | refine qS ?_ GE157.out) | exact HB.out))) : w.heap.size ≤ gb158)); have n4_ := qM ((by rw [hg]; exact (qz (by repeat (first | (with_reducible first | exact HB.out | apply qA | apply qN | apply qD | refine qS ?_ GE157.out) | exact HB.out))) : w.heap.size ≤ gb158)); have n5_ := qM ((by rw [hg]; exact Nat.ne_of_lt (blk_lt (g := gb157) (o := .cells #[.int .i64 a0_0, .int .i64 a0_1, .slice A0_2 l0_2.length c0_2] 30 (0, 0)) (by (with_reducible repeat (first | apply qn | apply qd | apply qa)); exact BK157.out)) : gb157 ≠ gb158)); have n6_ := qM ((by rw [hg]; exact Nat.ne_of_gt (blk_lt (g := gb157) (o := .cells #[.int .i64 a0_0, .int .i64 a0_1, .slice A0_2 l0_2.length c0_2] 30 (0, 0)) (by (with_reducible repeat (first | apply qn | apply qd | apply qa)); exact BK157.out)) : gb158 ≠ gb157)); clear BK157; clear HB; have BK157 := n0_; have HB := n1_; have BK158 := n2_; have GW158 := n3_; have GE158 := n4_; have NB157_158 := n5_; have NB158_157 := n6_; clear n0_ n1_ n2_ n3_ n4_ n5_ n6_; clear hb hbox hg; have hnb15 := NB157_158.out; have hnc15 := NB158_157.out; have hcz16_0 : w14.cell? ⟨gb157, 0, none⟩ = some (.int .i64 a0_0) := (qC BK157.out 0).trans rfl; have hcz16_1 : w14.cell? ⟨gb157, 1, none⟩ = some (.int .i64 a0_1) := (qC BK157.out 1).trans rfl; have hcz16_2 : w14.cell? ⟨gb157, 2, none⟩ = some (.slice A0_2 l0_2.length c0_2) := (qC BK157.out 2).trans rfl; have hfz16_0 := qF BK157.out 0; have hfz16_1 := qF BK157.out 1; have hfz16_2 := qF BK157.out 2; have hcz17_0 : w14.cell? ⟨gb158, 0, none⟩ = some (.int .i64 a1_0) := (qC BK158.out 0).trans rfl; have hcz17_1 : w14.cell? ⟨gb158, 1, none⟩ = some (.int .i64 a1_1) := (qC BK158.out 1).trans rfl; have hcz17_2 : w14.cell? ⟨gb158, 2, none⟩ = some (.slice A1_2 l1_2.length c1_2) := (qC BK158.out 2).trans rfl; have hfz17_0 := qF BK158.out 0; have hfz17_1 := qF BK158.out 1; have hfz17_2 := qF BK158.out 2) | ((with_reducible refine gate_callee (f := 73) rfl ?_); refine goesL_ (some 19) rfl rfl Try.func73 (by kernel_rfl) rfl #[.slice A0_2 l0_2.length c0_2, .slice A1_2 l1_2.length c1_2] rfl (by (try simp only [jC, jD, jE]); first | done | rfl | (simp only [jB, jA]; rfl)) ?_; (with_reducible refine (ih_73 k (by omega) _ _ l0_2 _ _ l1_2 false _ ?side1 ?side2 ?side3 ?side4 A5.out).mono ?_); (case side1 => repeat (first | exact (qB HR0_2.out HB.out) | (with_reducible refine qc ?_ _) | (with_reducible refine qe ?_ _) | (with_reducible refine qf ?_))); (case side2 => exact HC0_2.out); (case side3 => repeat (first | exact (qB HR1_2.out HB.out) | (with_reducible refine qc ?_ _) | (with_reducible refine qe ?_ _) | (with_reducible refine qf ?_))); (case side4 => exact HC1_2.out); rintro e w18 ⟨rfl, hb⟩; refine ⟨_, rfl, ?_⟩; have n0_ := qM (blk_below (g := gb157) (o := .cells #[.int .i64 a0_0, .int .i64 a0_1, .slice A0_2 l0_2.length c0_2] 30 (0, 0)) (by (with_reducible repeat (first | apply qn | apply qd | apply qa)); exact BK157.out) hb); have n1_ := qM (blk_below (g := gb158) (o := .cells #[.int .i64 a1_0, .int .i64 a1_1, .slice A1_2 l1_2.length c1_2] 30 (0, 0)) (by (with_reducible repeat (first | apply qn | apply qd | apply qa)); exact BK158.out) hb); have n2_ := qM (qs (by repeat (first | (with_reducible first | exact HB.out | apply qA | apply qN | apply qD | refine qS ?_ GE157.out | refine qS ?_ GE158.out) | exact HB.out)) hb); clear BK157; clear BK158; clear HB; have BK157 := n0_; have BK158 := n1_; have HB := n2_; clear n0_ n1_ n2_; (try clear hb); (try clear hb2); (try clear hk); (try clear hi)))
  go_ret
  exact ⟨by first | rfl | (simp [errW_none, errW_some] <;> rfl) | (simp [*, errW_none, errW_some] <;> rfl), by repeat (first | (with_reducible first | exact HB.out | apply qA | apply qN | apply qD | refine qS ?_ GE157.out | refine qS ?_ GE158.out) | exact HB.out)⟩
def laws_eqTaskS.T6 : Bool × List (List Nat × List Nat) := (true, [([], []), ([], []), ([0, 1], [0, 1]), ([2], [2]), ([], []), ([], []), ([4, 5], [4, 5]), ([6], [6]), ([3, 7], [3, 7]), ([8], [8])])
def laws_eqTaskS.B6 : List Nat := [0, 0, 3, 7, 0, 0, 48, 112, 255, 511]
theorem laws_eqTaskS.tab6 : rtab .any (opsOf Try.f73 6) = laws_eqTaskS.T6 := by kernel_rfl
theorem laws_eqTaskS.bits6 : waitsOk laws_eqTaskS.T6.2 laws_eqTaskS.B6 = true := by kernel_rfl
theorem laws_eqTaskS.calls_ih (k : Nat) (ih_20 : ∀ j, j < k → ∀ (a0_0 : Int) (a0_1 : Int) (A0_2 : Option Addr) (c0_2 : Nat) (l0_2 : List (S30)) (a1_0 : Int) (a1_1 : Int) (A1_2 : Option Addr) (c1_2 : Nat) (l1_2 : List (S30)) (r : Bool) (w : World) (hr0_2 : Kd.C k30 w A0_2 l0_2.length l0_2) (hc0_2 : l0_2.length ≤ c0_2) (hr1_2 : Kd.C k30 w A1_2 l1_2.length l1_2) (hc1_2 : l1_2.length ≤ c1_2) (h : laws_eqTask.f j a0_0 a0_1 l0_2 a1_0 a1_1 l1_2 = some r),
    Calls Try.prog 20 #[.agg #[.int .i64 a0_0, .int .i64 a0_1, .slice A0_2 l0_2.length c0_2], .agg #[.int .i64 a1_0, .int .i64 a1_1, .slice A1_2 l1_2.length c1_2]] w fun e w' => e = .returned (.bool r) ∧ Below w.heap.size w w') (ih_73 : ∀ j, j < k → ∀ (A0 : Option Addr) (c0 : Nat) (l0 : List (S30)) (A1 : Option Addr) (c1 : Nat) (l1 : List (S30)) (r : Bool) (w : World) (hr0 : Kd.C k30 w A0 l0.length l0) (hc0 : l0.length ≤ c0) (hr1 : Kd.C k30 w A1 l1.length l1) (hc1 : l1.length ≤ c1) (h : laws_eqTaskS.f j l0 l1 = some r),
    Calls Try.prog 73 #[.slice A0 l0.length c0, .slice A1 l1.length c1] w fun e w' => e = .returned (.bool r) ∧ Below w.heap.size w w') : ∀ (A0 : Option Addr) (c0 : Nat) (l0 : List (S30)) (A1 : Option Addr) (c1 : Nat) (l1 : List (S30)) (r : Bool) (w : World) (hr0 : Kd.C k30 w A0 l0.length l0) (hc0 : l0.length ≤ c0) (hr1 : Kd.C k30 w A1 l1.length l1) (hc1 : l1.length ≤ c1) (h : laws_eqTaskS.f k l0 l1 = some r),
    Calls Try.prog 73 #[.slice A0 l0.length c0, .slice A1 l1.length c1] w fun e w' => e = .returned (.bool r) ∧ Below w.heap.size w w' := by
  intro A0 c0 l0 A1 c1 l1 r w hr0 hc0 hr1 hc1 h
  cases k with
  | zero => exact absurd h (by simp [laws_eqTaskS.f])
  | succ k =>
  simp only [laws_eqTaskS.f] at h
  have hu30 := Try.underlying30
  have HR0 := qM hr0
  have HC0 := qM hc0
  clear hr0 hc0
  have HR1 := qM hr1
  have HC1 := qM hc1
  clear hr1 hc1
  have HB := qM (Below.refl w.heap.size w)
  have H : (if (l0.length : Int) = (l1.length : Int) then (laws_eqTaskS.l0 k l0 l1 0) else (some false)) = some r := h
  clear h
  by_cases c3 : (l0.length : Int) = (l1.length : Int)
  rotate_left
  · rw [if_neg c3] at H
    have c3b0 : ((l0.length : Int) == (l1.length : Int)) = false := beq_eq_false_iff_ne.mpr c3
    have c3b1 : ((l0.length : Int) != (l1.length : Int)) = true := bne_iff_ne.mpr c3
    have c3b2 : (l0.length == l1.length) = false := by first | simpa using c3 | (simp at c3 ⊢; omega)
    obtain rfl := jF H
    go_enter Try.func73, Try.ntmps73
    go_wp2
    go_ret
    exact ⟨by first | rfl | (simp [errW_none, errW_some] <;> rfl) | (simp [*, errW_none, errW_some] <;> rfl), by repeat (first | (with_reducible first | exact HB.out | apply qA | apply qN | apply qD) | exact HB.out)⟩
  rw [if_pos c3] at H
  have c3b0 : ((l0.length : Int) == (l1.length : Int)) = true := beq_iff_eq.mpr c3
  have c3b1 : ((l0.length : Int) != (l1.length : Int)) = false := bne_eq_false_iff_eq.mpr c3
  have c3b2 : (l0.length == l1.length) = true := by first | simpa using c3 | (simp at c3 ⊢; omega)
  clear c3
  have H' := qM H
  clear H
  go_enter Try.func73, Try.ntmps73
  go_wp2
  go_loopg [5] k (fun kq v5 w' => ∃ (x5_1 : Int), v5 = .int .i64 x5_1 ∧ Aside0 (laws_eqTaskS.l0 kq l0 l1 x5_1 = some r) ∧ Aside0 (kq ≤ k) ∧ Aside0 (Below w.heap.size w w'))
  case atStart => exact ⟨(0), (by first | rfl | (simp; done) | (simp [*]; done)), H', ⟨Nat.le_refl _⟩, ⟨by repeat (first | (with_reducible first | exact HB.out | apply qA | apply qN | apply qD) | exact HB.out)⟩⟩
  case round =>
    clear H'
    try clear c1
    try clear p2
    try clear c3
    try clear c3b0
    try clear c3b1
    try clear c3b2
    obtain ⟨x5_1, rfl, HA, HK1, HB⟩ := hrel
    cases gk with
    | zero => exact absurd HA.out (by simp [laws_eqTaskS.l0])
    | succ k1 =>
      have H := HA.out
      clear HA
      simp only [laws_eqTaskS.l0] at H
      by_cases c4 : x5_1 < (l0.length : Int)
      rotate_left
      · rw [if_neg c4] at H
        have c4b0 : decide (x5_1 < (l0.length : Int)) = false := decide_eq_false c4
        clear c4
        obtain rfl := jF H
        go_wp2
        go_ret
        exact ⟨by first | rfl | (simp [errW_none, errW_some] <;> rfl) | (simp [*, errW_none, errW_some] <;> rfl), by repeat (first | (with_reducible first | exact HB.out | apply qA | apply qN | apply qD) | exact HB.out)⟩
      rw [if_pos c4] at H
      have c4b0 : decide (x5_1 < (l0.length : Int)) = true := decide_eq_true c4
      clear c4
      by_cases c5 : 0 ≤ x5_1
      rotate_left
      · rw [if_neg c5] at H
        exact absurd H (by simp)
      rw [if_pos c5] at H
      have c5b0 : decide (0 ≤ x5_1) = true := decide_eq_true c5
      clear c5
      by_cases c6 : x5_1 < (l1.length : Int)
      rotate_left
      · rw [if_neg c6] at H
        exact absurd H (by simp)
      rw [if_pos c6] at H
      have c6b0 : decide (x5_1 < (l1.length : Int)) = true := decide_eq_true c6
      clear c6
      replace H := jG H
      obtain ⟨t162, A70, H⟩ := H
      replace H : (if t162 = true then (laws_eqTaskS.l0 k1 l0 l1 (wrap64 (x5_1 + 1))) else (some false)) = some r := H
      have A7 := qM A70
      clear A70
      by_cases c8 : t162 = true
      rotate_left
      · replace c8 := Bool.eq_false_iff.mpr c8
        subst c8
        have H1 : (some false) = some r := by rw [if_neg (show ¬ (false = true) by decide)] at H; exact H
        clear H
        have H := H1
        clear H1
        obtain rfl := jF H
        try go_wp2
        have n0_ := qM (qD HB.out)
        clear HB
        have HB := n0_
        clear n0_
        have p160 : 0 ≤ (x5_1 : Int) := qO (by first | (with_reducible assumption) | assumption)
        have q160 : x5_1 < (l0.length : Int) := qO (by first | (with_reducible assumption) | assumption)
        obtain ⟨ad160, A160_2, c160_2, e160, hx160_0, hx160_1, hx160_2, hl160_2, hi160_2⟩ := at_T30 HR0.out x5_1 p160 q160
        have hw160_2 := hx160_2
        have hw160_1 := hx160_1
        have hw160_0 := hx160_0
        cases e160
        replace hx160_0 := (HB.out.cell (qL w _ hx160_0)).trans hx160_0
        replace hx160_1 := (HB.out.cell (qL w _ hx160_1)).trans hx160_1
        replace hx160_2 := (HB.out.cell (qL w _ hx160_2)).trans hx160_2
        have HR160_2 := qM hi160_2
        have HC160_2 := qM hl160_2
        clear hi160_2 hl160_2
        replace p160 := eq_true p160
        replace q160 := eq_true q160
        have p161 : 0 ≤ (x5_1 : Int) := qO (by first | (with_reducible assumption) | assumption)
        have q161 : x5_1 < (l1.length : Int) := qO (by first | (with_reducible assumption) | assumption)
        obtain ⟨ad161, A161_2, c161_2, e161, hx161_0, hx161_1, hx161_2, hl161_2, hi161_2⟩ := at_T30 HR1.out x5_1 p161 q161
        have hw161_2 := hx161_2
        have hw161_1 := hx161_1
        have hw161_0 := hx161_0
        cases e161
        replace hx161_0 := (HB.out.cell (qL w _ hx161_0)).trans hx161_0
        replace hx161_1 := (HB.out.cell (qL w _ hx161_1)).trans hx161_1
        replace hx161_2 := (HB.out.cell (qL w _ hx161_2)).trans hx161_2
        have HR161_2 := qM hi161_2
        have HC161_2 := qM hl161_2
        clear hi161_2 hl161_2
        replace p161 := eq_true p161
        replace q161 := eq_true q161
        refine start_ (n := 10) (S := fun w' => w'.cell? (ad160.add ((x5_1).toNat * 3)) = some (.int .i64 ((rd_T30 l0 x5_1).f0)) ∧ w'.cell? ⟨(ad160.add ((x5_1).toNat * 3)).block, (ad160.add ((x5_1).toNat * 3)).off + 1, none⟩ = some (.int .i64 ((rd_T30 l0 x5_1).f1)) ∧ w'.cell? ⟨(ad160.add ((x5_1).toNat * 3)).block, (ad160.add ((x5_1).toNat * 3)).off + 2, none⟩ = some (.slice A160_2 ((rd_T30 l0 x5_1).f2).length c160_2) ∧ w'.cell? (ad161.add ((x5_1).toNat * 3)) = some (.int .i64 ((rd_T30 l1 x5_1).f0)) ∧ w'.cell? ⟨(ad161.add ((x5_1).toNat * 3)).block, (ad161.add ((x5_1).toNat * 3)).off + 1, none⟩ = some (.int .i64 ((rd_T30 l1 x5_1).f1)) ∧ w'.cell? ⟨(ad161.add ((x5_1).toNat * 3)).block, (ad161.add ((x5_1).toNat * 3)).off + 2, none⟩ = some (.slice A161_2 ((rd_T30 l1 x5_1).f2).length c161_2)) (ds := []) #[false, false, false, false, false, false, false, false, false, false] (by kernel_rfl) rfl rfl ⟨((HB.out.cell (qL w _ hw160_0)).trans hw160_0), ((HB.out.cell (qL w _ hw160_1)).trans hw160_1), ((HB.out.cell (qL w _ hw160_2)).trans hw160_2), ((HB.out.cell (qL w _ hw161_0)).trans hw161_0), ((HB.out.cell (qL w _ hw161_1)).trans hw161_1), ((HB.out.cell (qL w _ hw161_2)).trans hw161_2)⟩ (fun hHeld => ?_); refine with_tabW laws_eqTaskS.tab6 laws_eqTaskS.bits6 (fun HT_ HW_ => ?_)
        generalize wr.drew = w11 at HB HR160_2 HR161_2 hx160_0 hx160_1 hx160_2 hx161_0 hx161_1 hx161_2 hHeld ⊢
        refine pure_ (i := 0) (N := some 17) (v := ?_) (a' := ?_) #[true, false, false, false, false, false, false, false, false, false] rfl rfl (any_of HT_.out (by kernel_rfl)) (fun _ _ _ h => h) (Or.inl ⟨by rfl, ?_⟩) ?_ ?_
        rotate_left
        · intro w'
          go_simp
          with_reducible rfl
        rotate_left
        · simp only [Act.put, qT, qU, qV, i64_w, i32_w]
          rfl
        refine pure_ (i := 1) (N := some 18) (v := ?_) (a' := ?_) #[true, true, false, false, false, false, false, false, false, false] rfl rfl (any_of HT_.out (by kernel_rfl)) (fun _ _ _ h => h) (Or.inl ⟨by rfl, ?_⟩) ?_ ?_
        rotate_left
        · intro w'
          go_simp
          with_reducible rfl
        rotate_left
        · simp only [Act.put, qT, qU, qV, i64_w, i32_w]
          rfl
        refine pure_ (i := 2) (N := some 19) (v := ?_) (a' := ?_) #[true, true, true, false, false, false, false, false, false, false] rfl rfl (any_of HT_.out (by kernel_rfl)) (fun _ _ _ h => h) (Or.inl ⟨by rfl, ?_⟩) ?_ ?_
        rotate_left
        · intro w'
          go_simp
          with_reducible rfl
        rotate_left
        · simp only [Act.put, qT, qU, qV, i64_w, i32_w]
          rfl
        refine pure_ (i := 4) (N := some 21) (v := ?_) (a' := ?_) #[true, true, true, false, true, false, false, false, false, false] rfl rfl (any_of HT_.out (by kernel_rfl)) (fun _ _ _ h => h) (Or.inl ⟨by rfl, ?_⟩) ?_ ?_
        rotate_left
        · intro w'
          go_simp
          with_reducible rfl
        rotate_left
        · simp only [Act.put, qT, qU, qV, i64_w, i32_w]
          rfl
        refine pure_ (i := 5) (N := some 22) (v := ?_) (a' := ?_) #[true, true, true, false, true, true, false, false, false, false] rfl rfl (any_of HT_.out (by kernel_rfl)) (fun _ _ _ h => h) (Or.inl ⟨by rfl, ?_⟩) ?_ ?_
        rotate_left
        · intro w'
          go_simp
          with_reducible rfl
        rotate_left
        · simp only [Act.put, qT, qU, qV, i64_w, i32_w]
          rfl
        refine pure_ (i := 6) (N := some 23) (v := ?_) (a' := ?_) #[true, true, true, false, true, true, true, false, false, false] rfl rfl (any_of HT_.out (by kernel_rfl)) (fun _ _ _ h => h) (Or.inl ⟨by rfl, ?_⟩) ?_ ?_
        rotate_left
        · intro w'
          go_simp
          with_reducible rfl
        rotate_left
        · simp only [Act.put, qT, qU, qV, i64_w, i32_w]
          rfl
        refine take_ (i := 3) (N := some 20) (v := ?_) (a' := ?_) #[true, true, true, true, true, true, true, false, false, false] rfl rfl (take_ofW HT_.out HW_.out (by kernel_rfl)) (fun _ _ _ h => h) (Or.inl ⟨by rfl, ?_⟩) hHeld ?_ ?_
        rotate_left
        · rintro w' ⟨s0, s1, s2, s3, s4, s5⟩
          go_simp
          with_reducible rfl
        rotate_left
        · simp only [Act.put, qT, qU, qV, i64_w, i32_w]
          rfl
        refine take_ (i := 7) (N := some 24) (v := ?_) (a' := ?_) #[true, true, true, true, true, true, true, true, false, false] rfl rfl (take_ofW HT_.out HW_.out (by kernel_rfl)) (fun _ _ _ h => h) (Or.inl ⟨by rfl, ?_⟩) hHeld ?_ ?_
        rotate_left
        · rintro w' ⟨s0, s1, s2, s3, s4, s5⟩
          go_simp
          with_reducible rfl
        rotate_left
        · simp only [Act.put, qT, qU, qV, i64_w, i32_w]
          rfl
        refine one_ (i := 8) (N := some 25) #[true, true, true, true, true, true, true, true, true, false] rfl rfl (one_of HT_.out (by kernel_rfl)) (by decide) (fun K hK => ?_)
        refine goes_ Try.func20 (by kernel_rfl) rfl #[.agg #[.int .i64 ((rd_T30 l0 x5_1).f0), .int .i64 ((rd_T30 l0 x5_1).f1), .slice A160_2 ((rd_T30 l0 x5_1).f2).length c160_2], .agg #[.int .i64 ((rd_T30 l1 x5_1).f0), .int .i64 ((rd_T30 l1 x5_1).f1), .slice A161_2 ((rd_T30 l1 x5_1).f2).length c161_2]] (by rfl) rfl rfl (by (try simp only [jC, jD, jE]); first | done | rfl | (simp only [jB, jA]; rfl)) ?_
        with_reducible refine (ih_20 k1 (by have := HK1.out; omega) ((rd_T30 l0 x5_1).f0) ((rd_T30 l0 x5_1).f1) _ _ ((rd_T30 l0 x5_1).f2) ((rd_T30 l1 x5_1).f0) ((rd_T30 l1 x5_1).f1) _ _ ((rd_T30 l1 x5_1).f2) false _ ?side1 ?side2 ?side3 ?side4 A7.out).mono ?_
        (case side1 => repeat (first | exact (qB HR160_2.out HB.out) | (with_reducible refine qc ?_ _) | (with_reducible refine qe ?_ _) | (with_reducible refine qf ?_)))
        (case side2 => exact HC160_2.out)
        (case side3 => repeat (first | exact (qB HR161_2.out HB.out) | (with_reducible refine qc ?_ _) | (with_reducible refine qe ?_ _) | (with_reducible refine qf ?_)))
        (case side4 => exact HC161_2.out)
        rintro e w12 ⟨rfl, hb⟩
        refine ⟨_, rfl, ?_⟩
        have n0_ := qM (qs (by repeat (first | (with_reducible first | exact HB.out | apply qA | apply qN | apply qD) | exact HB.out)) hb)
        clear HB
        have HB := n0_
        clear n0_
        (try clear hb)
        (try clear hb2)
        (try clear hk)
        (try clear hi)
        refine hK.out _ _ ⟨((HB.out.cell (qL w _ hw160_0)).trans hw160_0), ((HB.out.cell (qL w _ hw160_1)).trans hw160_1), ((HB.out.cell (qL w _ hw160_2)).trans hw160_2), ((HB.out.cell (qL w _ hw161_0)).trans hw161_0), ((HB.out.cell (qL w _ hw161_1)).trans hw161_1), ((HB.out.cell (qL w _ hw161_2)).trans hw161_2)⟩ (fun hHeld => ?_)
        clear hK K
        refine norm_ (a' := ?_) ?_ ?_
        rotate_left
        · show Act.put _ (some 25) _ = _
          simp only [Act.put, qT, qU, qV, i64_w, i32_w]
          rfl
        refine pure_ (i := 9) (N := some 26) (v := ?_) (a' := ?_) #[true, true, true, true, true, true, true, true, true, true] rfl rfl (any_of HT_.out (by kernel_rfl)) (fun _ _ _ h => h) (Or.inl ⟨by rfl, ?_⟩) ?_ ?_
        rotate_left
        · intro w'
          go_simp
          with_reducible rfl
        rotate_left
        · simp only [Act.put, qT, qU, qV, i64_w, i32_w]
          rfl
        refine done_ (done_of HT_.out (by kernel_rfl)) ?_
        try go_wp2
        go_ret
        exact ⟨by first | rfl | (simp [errW_none, errW_some] <;> rfl) | (simp [*, errW_none, errW_some] <;> rfl), by repeat (first | (with_reducible first | exact HB.out | apply qA | apply qN | apply qD) | exact HB.out)⟩
      subst c8
      have H1 : (laws_eqTaskS.l0 k1 l0 l1 (wrap64 (x5_1 + 1))) = some r := by rw [if_pos rfl] at H; exact H
      clear H
      have H := H1
      clear H1
      have H' := qM H
      clear H
      try go_wp2
      have n0_ := qM (qD HB.out)
      clear HB
      have HB := n0_
      clear n0_
      have p160 : 0 ≤ (x5_1 : Int) := qO (by first | (with_reducible assumption) | assumption)
      have q160 : x5_1 < (l0.length : Int) := qO (by first | (with_reducible assumption) | assumption)
      obtain ⟨ad160, A160_2, c160_2, e160, hx160_0, hx160_1, hx160_2, hl160_2, hi160_2⟩ := at_T30 HR0.out x5_1 p160 q160
      have hw160_2 := hx160_2
      have hw160_1 := hx160_1
      have hw160_0 := hx160_0
      cases e160
      replace hx160_0 := (HB.out.cell (qL w _ hx160_0)).trans hx160_0
      replace hx160_1 := (HB.out.cell (qL w _ hx160_1)).trans hx160_1
      replace hx160_2 := (HB.out.cell (qL w _ hx160_2)).trans hx160_2
      have HR160_2 := qM hi160_2
      have HC160_2 := qM hl160_2
      clear hi160_2 hl160_2
      replace p160 := eq_true p160
      replace q160 := eq_true q160
      have p161 : 0 ≤ (x5_1 : Int) := qO (by first | (with_reducible assumption) | assumption)
      have q161 : x5_1 < (l1.length : Int) := qO (by first | (with_reducible assumption) | assumption)
      obtain ⟨ad161, A161_2, c161_2, e161, hx161_0, hx161_1, hx161_2, hl161_2, hi161_2⟩ := at_T30 HR1.out x5_1 p161 q161
      have hw161_2 := hx161_2
      have hw161_1 := hx161_1
      have hw161_0 := hx161_0
      cases e161
      replace hx161_0 := (HB.out.cell (qL w _ hx161_0)).trans hx161_0
      replace hx161_1 := (HB.out.cell (qL w _ hx161_1)).trans hx161_1
      replace hx161_2 := (HB.out.cell (qL w _ hx161_2)).trans hx161_2
      have HR161_2 := qM hi161_2
      have HC161_2 := qM hl161_2
      clear hi161_2 hl161_2
      replace p161 := eq_true p161
      replace q161 := eq_true q161
      refine start_ (n := 10) (S := fun w' => w'.cell? (ad160.add ((x5_1).toNat * 3)) = some (.int .i64 ((rd_T30 l0 x5_1).f0)) ∧ w'.cell? ⟨(ad160.add ((x5_1).toNat * 3)).block, (ad160.add ((x5_1).toNat * 3)).off + 1, none⟩ = some (.int .i64 ((rd_T30 l0 x5_1).f1)) ∧ w'.cell? ⟨(ad160.add ((x5_1).toNat * 3)).block, (ad160.add ((x5_1).toNat * 3)).off + 2, none⟩ = some (.slice A160_2 ((rd_T30 l0 x5_1).f2).length c160_2) ∧ w'.cell? (ad161.add ((x5_1).toNat * 3)) = some (.int .i64 ((rd_T30 l1 x5_1).f0)) ∧ w'.cell? ⟨(ad161.add ((x5_1).toNat * 3)).block, (ad161.add ((x5_1).toNat * 3)).off + 1, none⟩ = some (.int .i64 ((rd_T30 l1 x5_1).f1)) ∧ w'.cell? ⟨(ad161.add ((x5_1).toNat * 3)).block, (ad161.add ((x5_1).toNat * 3)).off + 2, none⟩ = some (.slice A161_2 ((rd_T30 l1 x5_1).f2).length c161_2)) (ds := []) #[false, false, false, false, false, false, false, false, false, false] (by kernel_rfl) rfl rfl ⟨((HB.out.cell (qL w _ hw160_0)).trans hw160_0), ((HB.out.cell (qL w _ hw160_1)).trans hw160_1), ((HB.out.cell (qL w _ hw160_2)).trans hw160_2), ((HB.out.cell (qL w _ hw161_0)).trans hw161_0), ((HB.out.cell (qL w _ hw161_1)).trans hw161_1), ((HB.out.cell (qL w _ hw161_2)).trans hw161_2)⟩ (fun hHeld => ?_); refine with_tabW laws_eqTaskS.tab6 laws_eqTaskS.bits6 (fun HT_ HW_ => ?_)
      generalize wr.drew = w9 at HB HR160_2 HR161_2 hx160_0 hx160_1 hx160_2 hx161_0 hx161_1 hx161_2 hHeld ⊢
      refine pure_ (i := 0) (N := some 17) (v := ?_) (a' := ?_) #[true, false, false, false, false, false, false, false, false, false] rfl rfl (any_of HT_.out (by kernel_rfl)) (fun _ _ _ h => h) (Or.inl ⟨by rfl, ?_⟩) ?_ ?_
      rotate_left
      · intro w'
        go_simp
        with_reducible rfl
      rotate_left
      · simp only [Act.put, qT, qU, qV, i64_w, i32_w]
        rfl
      refine pure_ (i := 1) (N := some 18) (v := ?_) (a' := ?_) #[true, true, false, false, false, false, false, false, false, false] rfl rfl (any_of HT_.out (by kernel_rfl)) (fun _ _ _ h => h) (Or.inl ⟨by rfl, ?_⟩) ?_ ?_
      rotate_left
      · intro w'
        go_simp
        with_reducible rfl
      rotate_left
      · simp only [Act.put, qT, qU, qV, i64_w, i32_w]
        rfl
      refine pure_ (i := 2) (N := some 19) (v := ?_) (a' := ?_) #[true, true, true, false, false, false, false, false, false, false] rfl rfl (any_of HT_.out (by kernel_rfl)) (fun _ _ _ h => h) (Or.inl ⟨by rfl, ?_⟩) ?_ ?_
      rotate_left
      · intro w'
        go_simp
        with_reducible rfl
      rotate_left
      · simp only [Act.put, qT, qU, qV, i64_w, i32_w]
        rfl
      refine pure_ (i := 4) (N := some 21) (v := ?_) (a' := ?_) #[true, true, true, false, true, false, false, false, false, false] rfl rfl (any_of HT_.out (by kernel_rfl)) (fun _ _ _ h => h) (Or.inl ⟨by rfl, ?_⟩) ?_ ?_
      rotate_left
      · intro w'
        go_simp
        with_reducible rfl
      rotate_left
      · simp only [Act.put, qT, qU, qV, i64_w, i32_w]
        rfl
      refine pure_ (i := 5) (N := some 22) (v := ?_) (a' := ?_) #[true, true, true, false, true, true, false, false, false, false] rfl rfl (any_of HT_.out (by kernel_rfl)) (fun _ _ _ h => h) (Or.inl ⟨by rfl, ?_⟩) ?_ ?_
      rotate_left
      · intro w'
        go_simp
        with_reducible rfl
      rotate_left
      · simp only [Act.put, qT, qU, qV, i64_w, i32_w]
        rfl
      refine pure_ (i := 6) (N := some 23) (v := ?_) (a' := ?_) #[true, true, true, false, true, true, true, false, false, false] rfl rfl (any_of HT_.out (by kernel_rfl)) (fun _ _ _ h => h) (Or.inl ⟨by rfl, ?_⟩) ?_ ?_
      rotate_left
      · intro w'
        go_simp
        with_reducible rfl
      rotate_left
      · simp only [Act.put, qT, qU, qV, i64_w, i32_w]
        rfl
      refine take_ (i := 3) (N := some 20) (v := ?_) (a' := ?_) #[true, true, true, true, true, true, true, false, false, false] rfl rfl (take_ofW HT_.out HW_.out (by kernel_rfl)) (fun _ _ _ h => h) (Or.inl ⟨by rfl, ?_⟩) hHeld ?_ ?_
      rotate_left
      · rintro w' ⟨s0, s1, s2, s3, s4, s5⟩
        go_simp
        with_reducible rfl
      rotate_left
      · simp only [Act.put, qT, qU, qV, i64_w, i32_w]
        rfl
      refine take_ (i := 7) (N := some 24) (v := ?_) (a' := ?_) #[true, true, true, true, true, true, true, true, false, false] rfl rfl (take_ofW HT_.out HW_.out (by kernel_rfl)) (fun _ _ _ h => h) (Or.inl ⟨by rfl, ?_⟩) hHeld ?_ ?_
      rotate_left
      · rintro w' ⟨s0, s1, s2, s3, s4, s5⟩
        go_simp
        with_reducible rfl
      rotate_left
      · simp only [Act.put, qT, qU, qV, i64_w, i32_w]
        rfl
      refine one_ (i := 8) (N := some 25) #[true, true, true, true, true, true, true, true, true, false] rfl rfl (one_of HT_.out (by kernel_rfl)) (by decide) (fun K hK => ?_)
      refine goes_ Try.func20 (by kernel_rfl) rfl #[.agg #[.int .i64 ((rd_T30 l0 x5_1).f0), .int .i64 ((rd_T30 l0 x5_1).f1), .slice A160_2 ((rd_T30 l0 x5_1).f2).length c160_2], .agg #[.int .i64 ((rd_T30 l1 x5_1).f0), .int .i64 ((rd_T30 l1 x5_1).f1), .slice A161_2 ((rd_T30 l1 x5_1).f2).length c161_2]] (by rfl) rfl rfl (by (try simp only [jC, jD, jE]); first | done | rfl | (simp only [jB, jA]; rfl)) ?_
      with_reducible refine (ih_20 k1 (by have := HK1.out; omega) ((rd_T30 l0 x5_1).f0) ((rd_T30 l0 x5_1).f1) _ _ ((rd_T30 l0 x5_1).f2) ((rd_T30 l1 x5_1).f0) ((rd_T30 l1 x5_1).f1) _ _ ((rd_T30 l1 x5_1).f2) true _ ?side1 ?side2 ?side3 ?side4 A7.out).mono ?_
      (case side1 => repeat (first | exact (qB HR160_2.out HB.out) | (with_reducible refine qc ?_ _) | (with_reducible refine qe ?_ _) | (with_reducible refine qf ?_)))
      (case side2 => exact HC160_2.out)
      (case side3 => repeat (first | exact (qB HR161_2.out HB.out) | (with_reducible refine qc ?_ _) | (with_reducible refine qe ?_ _) | (with_reducible refine qf ?_)))
      (case side4 => exact HC161_2.out)
      rintro e w10 ⟨rfl, hb⟩
      refine ⟨_, rfl, ?_⟩
      have n0_ := qM (qs (by repeat (first | (with_reducible first | exact HB.out | apply qA | apply qN | apply qD) | exact HB.out)) hb)
      clear HB
      have HB := n0_
      clear n0_
      (try clear hb)
      (try clear hb2)
      (try clear hk)
      (try clear hi)
      refine hK.out _ _ ⟨((HB.out.cell (qL w _ hw160_0)).trans hw160_0), ((HB.out.cell (qL w _ hw160_1)).trans hw160_1), ((HB.out.cell (qL w _ hw160_2)).trans hw160_2), ((HB.out.cell (qL w _ hw161_0)).trans hw161_0), ((HB.out.cell (qL w _ hw161_1)).trans hw161_1), ((HB.out.cell (qL w _ hw161_2)).trans hw161_2)⟩ (fun hHeld => ?_)
      clear hK K
      refine norm_ (a' := ?_) ?_ ?_
      rotate_left
      · show Act.put _ (some 25) _ = _
        simp only [Act.put, qT, qU, qV, i64_w, i32_w]
        rfl
      refine pure_ (i := 9) (N := some 26) (v := ?_) (a' := ?_) #[true, true, true, true, true, true, true, true, true, true] rfl rfl (any_of HT_.out (by kernel_rfl)) (fun _ _ _ h => h) (Or.inl ⟨by rfl, ?_⟩) ?_ ?_
      rotate_left
      · intro w'
        go_simp
        with_reducible rfl
      rotate_left
      · simp only [Act.put, qT, qU, qV, i64_w, i32_w]
        rfl
      refine done_ (done_of HT_.out (by kernel_rfl)) ?_
      try go_wp2
      go_roundg k1
      case measure => have := HK1.out; omega
      case rel => exact ⟨(wrap64 (x5_1 + 1)), (by first | rfl | (simp; done) | (simp [*]; done)), H', ⟨by have := HK1.out; omega⟩, ⟨by repeat (first | (with_reducible first | exact HB.out | apply qA | apply qN | apply qD) | exact HB.out)⟩⟩
theorem laws_eqTask.calls_all (k : Nat) : (∀ (a0_0 : Int) (a0_1 : Int) (A0_2 : Option Addr) (c0_2 : Nat) (l0_2 : List (S30)) (a1_0 : Int) (a1_1 : Int) (A1_2 : Option Addr) (c1_2 : Nat) (l1_2 : List (S30)) (r : Bool) (w : World) (hr0_2 : Kd.C k30 w A0_2 l0_2.length l0_2) (hc0_2 : l0_2.length ≤ c0_2) (hr1_2 : Kd.C k30 w A1_2 l1_2.length l1_2) (hc1_2 : l1_2.length ≤ c1_2) (h : laws_eqTask.f k a0_0 a0_1 l0_2 a1_0 a1_1 l1_2 = some r),
    Calls Try.prog 20 #[.agg #[.int .i64 a0_0, .int .i64 a0_1, .slice A0_2 l0_2.length c0_2], .agg #[.int .i64 a1_0, .int .i64 a1_1, .slice A1_2 l1_2.length c1_2]] w fun e w' => e = .returned (.bool r) ∧ Below w.heap.size w w') ∧ (∀ (A0 : Option Addr) (c0 : Nat) (l0 : List (S30)) (A1 : Option Addr) (c1 : Nat) (l1 : List (S30)) (r : Bool) (w : World) (hr0 : Kd.C k30 w A0 l0.length l0) (hc0 : l0.length ≤ c0) (hr1 : Kd.C k30 w A1 l1.length l1) (hc1 : l1.length ≤ c1) (h : laws_eqTaskS.f k l0 l1 = some r),
    Calls Try.prog 73 #[.slice A0 l0.length c0, .slice A1 l1.length c1] w fun e w' => e = .returned (.bool r) ∧ Below w.heap.size w w') := by
  induction k using Nat.strongRecOn with
  | _ k ih =>
  exact ⟨laws_eqTask.calls_ih k (fun j hj => (ih j hj).1) (fun j hj => (ih j hj).2), laws_eqTaskS.calls_ih k (fun j hj => (ih j hj).1) (fun j hj => (ih j hj).2)⟩
theorem laws_eqTaskS.calls (k : Nat) : ∀ (A0 : Option Addr) (c0 : Nat) (l0 : List (S30)) (A1 : Option Addr) (c1 : Nat) (l1 : List (S30)) (r : Bool) (w : World) (hr0 : Kd.C k30 w A0 l0.length l0) (hc0 : l0.length ≤ c0) (hr1 : Kd.C k30 w A1 l1.length l1) (hc1 : l1.length ≤ c1) (h : laws_eqTaskS.f k l0 l1 = some r),
    Calls Try.prog 73 #[.slice A0 l0.length c0, .slice A1 l1.length c1] w fun e w' => e = .returned (.bool r) ∧ Below w.heap.size w w' := (laws_eqTask.calls_all k).2
end Go.Proofs.Ytgbjbpjmbghlbaa.G
end
