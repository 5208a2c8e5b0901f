-- Written by pack.py (ours): the claim's texts, cut down to what its theorem reaches.
import Derived.Test.YthfemojaabejiaaKFnExactRowOk3
section
namespace Go.Proofs.Ythfemojaabejiaa.G
open Go.RowKit Go.Proofs.YthfemojaabejiaaW.PrintWords Go.Proofs.YthfemojaabejiaaW.PrintLast Go.Proofs.YthfemojaabejiaaW.PrintMore
set_option linter.unusedVariables false
set_option linter.unusedSimpArgs false
set_option maxHeartbeats 8000000 in
set_option maxRecDepth 100000 in
theorem l2may_w : ∀ (t : Tk) (A : Option Addr) (c : Nat) (g : Nat) (bs : List Bool) (w0 w : World) (_ : fitT t = true) (_ : bs.length = 10) (_ : Kd.C k141 w0 A t.f2.length t.f2) (_ : t.f2.length ≤ c) (_ : w0.heap.size ≤ g) (_ : Below w0.heap.size w0 w) (_ : w.heap[g]? = some (.cells (arr10 bs) 4 (0, 0))),
    Calls Try.prog 146 #[.agg #[.int .i64 t.f0, .int .i64 t.f1, .slice A t.f2.length c], .slice (some ⟨g, 0, none⟩) 10 10] w fun e w' => e = .returned (.tuple #[]) ∧ w'.heap[g]? = some (.cells (arr10 (mayT t bs)) 4 (0, 0)) ∧ Below w0.heap.size w0 w' ∧ ∀ (j : Nat) (o : Obj), j ≠ g → w.heap[j]? = some o → w'.heap[j]? = some o := by
  refine tk_ind fun t ih A c g bs w0 w hf hb hr hc hg hB hbs => ?_
  have hu1 := Try.underlying141
  have hu2 := Try.underlying22
  have hu3 := Try.underlying28
  rw [fitT_eq, Bool.and_eq_true] at hf
  rw [mayT_eq]
  obtain ⟨k, n, ps⟩ := t
  simp only at ih hf hr hc ⊢
  have HI := Aside0.mk ih
  have HF := Aside0.mk hf
  have HLB := Aside0.mk hb
  have HR := Aside0.mk hr
  have HC := Aside0.mk hc
  have HG := Aside0.mk hg
  have HB := Aside0.mk (hB.alloc hB.size (.cells #[.int .i64 k, .int .i64 n, .slice A ps.length c] 141))
  have HS := Aside0.mk (blk_alloc hbs (.cells #[.int .i64 k, .int .i64 n, .slice A ps.length c] 141))
  have HX := Aside0.mk (heap_alloc_new w (.cells #[.int .i64 k, .int .i64 n, .slice A ps.length c] 141))
  have HWG := Aside0.mk (show w.heap.size ≠ g from fun e => by have := blk_lt hbs; omega)
  have hml := mark1_len (k := k) (n := n) hb
  obtain ⟨bs1, hbs1⟩ : ∃ x, x = mark1 k n bs := ⟨_, rfl⟩
  rw [← hbs1] at hml ⊢
  have HM1 := Aside0.mk hbs1
  have HML := Aside0.mk hml
  have HK : Aside0 (∀ (j : Nat) (o : Obj), j ≠ g → w.heap[j]? = some o → (w.alloc (.cells #[.int .i64 k, .int .i64 n, .slice A ps.length c] 141)).heap[j]? = some o) := ⟨fun j o _ h => blk_alloc h _⟩
  clear ih hf hb hr hc hg hB hbs hml hbs1
  by_cases h1 : k = 1
  · subst h1
    have hn : 0 ≤ n ∧ n < 10 := by
      have h2 := HF.out.1
      simp only [shapeB] at h2
      simp at h2
      exact h2.1
    have HN := Aside0.mk hn
    have hp : (0 ≤ n) = True := eq_true hn.1
    have hq : (n < 10) = True := eq_true hn.2
    have hnl : n.toNat < bs.length := by have := HLB.out; omega
    have hx : (w.alloc (.cells #[.int .i64 1, .int .i64 n, .slice A ps.length c] 141)).cell? ⟨g, n.toNat, none⟩ = some (.bool (bs[n.toNat]'hnl)) := (blk_cell HS.out n.toNat).trans (arr10_at _)
    have hfz : (w.alloc (.cells #[.int .i64 1, .int .i64 n, .slice A ps.length c] 141)).frozen? ⟨g, n.toNat, none⟩ = false := blk_frozen HS.out n.toNat
    have h3 := blk_set HS.out n.toNat (.bool true)
    rw [arr10_set] at h3
    have hm : mark1 1 n bs = bs.set n.toNat true := by unfold mark1; rw [if_pos rfl]
    rw [← hm, ← HM1.out] at h3
    have HS1 := Aside0.mk h3
    have HB1 : Aside0 _ := ⟨HB.out.setCell (p := ⟨g, n.toNat, none⟩) HG.out (.bool true)⟩
    have HX1 := Aside0.mk (blk_far (p := ⟨g, n.toNat, none⟩) HX.out HWG.out (.bool true))
    have HK1 : Aside0 (∀ (j : Nat) (o : Obj), j ≠ g → w.heap[j]? = some o → ((w.alloc (.cells #[.int .i64 1, .int .i64 n, .slice A ps.length c] 141)).setCell ⟨g, n.toNat, none⟩ (.bool true)).heap[j]? = some o) := ⟨fun j o hj h => (Below.heap_setCell _ _ _ _ hj).trans (HK.out j o hj h)⟩
    clear h3 hm
    go_enter Try.func146, Try.ntmps146
    go_wp2
    go_loopg [4] 0 (fun kq v4 w' => v4 = .int .i64 0 ∧ Aside0 (kq = 0) ∧ Aside0 (w'.heap[g]? = some (.cells (arr10 bs1) 4 (0, 0))) ∧ Aside0 (Below w0.heap.size w0 w') ∧ Aside0 (w'.heap[w.heap.size]? = some (.cells #[.int .i64 1, .int .i64 n, .slice A ps.length c] 141 (0, 0))) ∧ Aside0 (∀ (j : Nat) (o : Obj), j ≠ g → w.heap[j]? = some o → w'.heap[j]? = some o))
    case atStart => exact ⟨rfl, ⟨rfl⟩, HS1, HB1, HX1, HK1⟩
    case round =>
      obtain ⟨rfl, HQ, HS1, HB1, HX1, HK1⟩ := hrel
      have hx0 : wr.cell? ⟨w.heap.size, 0, none⟩ = some (.int .i64 1) := (blk_cell HX1.out 0).trans rfl
      have hk5 : ((1 : Int) == 5) = false := rfl
      have hk5' : decide ((1 : Int) = 5) = false := by decide
      go_wp2
      go_loopg [5] ps.length (fun kq v5 w' => ∃ i : Nat, v5 = .int .i64 (i : Int) ∧ Aside0 (i + kq = ps.length) ∧ Aside0 (w'.heap[g]? = some (.cells (arr10 (mayL (ps.take i) bs1)) 4 (0, 0))) ∧ Aside0 (Below w0.heap.size w0 w') ∧ Aside0 (w'.heap[w.heap.size]? = some (.cells #[.int .i64 1, .int .i64 n, .slice A ps.length c] 141 (0, 0))) ∧ Aside0 (∀ (j : Nat) (o : Obj), j ≠ g → w.heap[j]? = some o → w'.heap[j]? = some o))
      case atStart => exact ⟨0, rfl, ⟨by omega⟩, ⟨by simpa [mayL] using HS1.out⟩, HB1, HX1, HK1⟩
      case round =>
        obtain ⟨i, rfl, HIK, HSr, HBr, HXr, HKr⟩ := hrel
        have hx2 : wr.cell? ⟨w.heap.size, 2, none⟩ = some (.slice A ps.length c) := (blk_cell HXr.out 2).trans rfl
        cases gk with
        | zero =>
          have hi : i = ps.length := by have := HIK.out; omega
          subst hi
          have hb : decide ((ps.length : Int) < (ps.length : Int)) = false := decide_eq_false (by omega)
          go_wp2
          go_end0
          refine ⟨rfl, ?_, HBr.out, HKr.out⟩
          have h3 := HSr.out
          rw [List.take_length] at h3
          exact h3
        | succ gk =>
          have hlt : i < ps.length := by have := HIK.out; omega
          have HLT := Aside0.mk hlt
          have hb : decide ((i : Int) < (ps.length : Int)) = true := decide_eq_true (by omega)
          obtain ⟨ad, A2, c2, e, hy0, hy1, hy2, hl2, hC2⟩ := at_T141 HR.out (i : Int) (by omega) (by omega)
          cases e
          have hlen := HR.out.2.1
          have hmax : (i : Int) + 1 ≤ 9223372036854775807 := by omega
          rw [rd_tk ps i hlt] at hy0 hy1 hy2 hl2 hC2
          have HIT := Aside0.mk (mayL_take ps bs1 i hlt)
          have HFP := Aside0.mk (fitL_mem HF.out.2 _ (List.getElem_mem hlt))
          have HIHP := Aside0.mk (HI.out _ (List.getElem_mem hlt))
          generalize ps[i] = p at hy0 hy1 hy2 hl2 hC2 HIT HFP HIHP
          have hc0 : wr.cell? (ad.add (i * 3)) = some (.int .i64 p.f0) := by
            have h1 := (HBr.out.cell (World.block_lt_of_cell? w0 _ hy0)).trans hy0
            simpa only [Int.toNat_natCast] using h1
          have hc1 : wr.cell? ⟨(ad.add (i * 3)).block, (ad.add (i * 3)).off + 1, none⟩ = some (.int .i64 p.f1) := by
            have h1 := (HBr.out.cell (World.block_lt_of_cell? w0 _ hy1)).trans hy1
            simpa only [Int.toNat_natCast] using h1
          have hc2 : wr.cell? ⟨(ad.add (i * 3)).block, (ad.add (i * 3)).off + 2, none⟩ = some (.slice A2 p.f2.length c2) := by
            have h1 := (HBr.out.cell (World.block_lt_of_cell? w0 _ hy2)).trans hy2
            simpa only [Int.toNat_natCast] using h1
          clear hy0 hy1 hy2
          have p0 : (0 ≤ (i : Int)) = True := eq_true (by omega)
          have q0 : ((i : Int) < (ps.length : Int)) = True := eq_true (by omega)
          have hml2 : (mayL (ps.take i) bs1).length = 10 := by
            rw [mayL_foldl]
            have key : ∀ (qs : List Tk) (b : List Bool), b.length = 10 → (qs.foldl (fun b p => mayT p b) b).length = 10 := by
              intro qs
              induction qs with
              | nil => intro b h; exact h
              | cons q qs ihq => intro b h; exact ihq _ (mayT_len q b h)
            exact key _ _ HML.out
          have CK := Aside0.mk (HIHP.out A2 c2 g (mayL (ps.take i) bs1) w0 wr HFP.out hml2 hC2 hl2 HG.out HBr.out HSr.out)
          clear hl2 hC2 hml2
          go_wp2_with fail
          with_reducible refine CK.out.mono ?_
          rintro e w2 ⟨rfl, h3, h4, h5⟩
          have HS2 := Aside0.mk h3
          have HB2 := Aside0.mk h4
          have HX2 := Aside0.mk (h5 _ _ HWG.out HXr.out)
          have HK2 : Aside0 (∀ (j : Nat) (o : Obj), j ≠ g → w.heap[j]? = some o → w2.heap[j]? = some o) := ⟨fun j o hj h => h5 j o hj (HKr.out j o hj h)⟩
          clear h3 h4 h5 CK hc0 hc1 hc2 hx2
          go_wp2
          go_roundg gk
          case measure => omega
          case rel => exact ⟨i + 1, by go_num, ⟨by have := HIK.out; omega⟩, ⟨by rw [HIT.out]; exact HS2.out⟩, HB2, HX2, HK2⟩
  by_cases h5 : k = 5
  · subst h5
    go_enter Try.func146, Try.ntmps146
    go_wp2
    go_loopg [4] 10 (fun kq v4 w' => ∃ i : Nat, v4 = .int .i64 (i : Int) ∧ Aside0 (i + kq = 10) ∧ Aside0 (w'.heap[g]? = some (.cells (arr10 (List.replicate i true ++ bs.drop i)) 4 (0, 0))) ∧ Aside0 (Below w0.heap.size w0 w') ∧ Aside0 (w'.heap[w.heap.size]? = some (.cells #[.int .i64 5, .int .i64 n, .slice A ps.length c] 141 (0, 0))) ∧ Aside0 (∀ (j : Nat) (o : Obj), j ≠ g → w.heap[j]? = some o → w'.heap[j]? = some o))
    case atStart => exact ⟨0, rfl, ⟨by omega⟩, ⟨by simpa using HS.out⟩, HB, HX, HK⟩
    case round =>
      obtain ⟨i, rfl, HIK, HSr, HBr, HX1, HK1⟩ := hrel
      have hx0 : wr.cell? ⟨w.heap.size, 0, none⟩ = some (.int .i64 5) := (blk_cell HX1.out 0).trans rfl
      cases gk with
      | zero =>
        have hi : i = 10 := by have := HIK.out; omega
        subst hi
        have h3 := HSr.out
        have hd : bs.drop 10 = [] := List.drop_of_length_le (by rw [HLB.out]; exact Nat.le_refl _)
        have hm : mark1 5 n bs = List.replicate 10 true := by unfold mark1; rw [if_neg (by decide), if_pos rfl]
        rw [hd, List.append_nil, ← hm, ← HM1.out] at h3
        have HS1 := Aside0.mk h3
        have HB1 := HBr
        clear h3 hd hm
        go_wp2
        go_loopg [5] ps.length (fun kq v5 w' => ∃ i : Nat, v5 = .int .i64 (i : Int) ∧ Aside0 (i + kq = ps.length) ∧ Aside0 (w'.heap[g]? = some (.cells (arr10 (mayL (ps.take i) bs1)) 4 (0, 0))) ∧ Aside0 (Below w0.heap.size w0 w') ∧ Aside0 (w'.heap[w.heap.size]? = some (.cells #[.int .i64 5, .int .i64 n, .slice A ps.length c] 141 (0, 0))) ∧ Aside0 (∀ (j : Nat) (o : Obj), j ≠ g → w.heap[j]? = some o → w'.heap[j]? = some o))
        case atStart => exact ⟨0, rfl, ⟨by omega⟩, ⟨by simpa [mayL] using HS1.out⟩, HB1, HX1, HK1⟩
        case round =>
          obtain ⟨i, rfl, HIK, HSr, HBr, HXr, HKr⟩ := hrel
          have hx2 : wr.cell? ⟨w.heap.size, 2, none⟩ = some (.slice A ps.length c) := (blk_cell HXr.out 2).trans rfl
          cases gk with
          | zero =>
            have hi : i = ps.length := by have := HIK.out; omega
            subst hi
            have hb : decide ((ps.length : Int) < (ps.length : Int)) = false := decide_eq_false (by omega)
            go_wp2
            go_end0
            refine ⟨rfl, ?_, HBr.out, HKr.out⟩
            have h3 := HSr.out
            rw [List.take_length] at h3
            exact h3
          | succ gk =>
            have hlt : i < ps.length := by have := HIK.out; omega
            have HLT := Aside0.mk hlt
            have hb : decide ((i : Int) < (ps.length : Int)) = true := decide_eq_true (by omega)
            obtain ⟨ad, A2, c2, e, hy0, hy1, hy2, hl2, hC2⟩ := at_T141 HR.out (i : Int) (by omega) (by omega)
            cases e
            have hlen := HR.out.2.1
            have hmax : (i : Int) + 1 ≤ 9223372036854775807 := by omega
            rw [rd_tk ps i hlt] at hy0 hy1 hy2 hl2 hC2
            have HIT := Aside0.mk (mayL_take ps bs1 i hlt)
            have HFP := Aside0.mk (fitL_mem HF.out.2 _ (List.getElem_mem hlt))
            have HIHP := Aside0.mk (HI.out _ (List.getElem_mem hlt))
            generalize ps[i] = p at hy0 hy1 hy2 hl2 hC2 HIT HFP HIHP
            have hc0 : wr.cell? (ad.add (i * 3)) = some (.int .i64 p.f0) := by
              have h1 := (HBr.out.cell (World.block_lt_of_cell? w0 _ hy0)).trans hy0
              simpa only [Int.toNat_natCast] using h1
            have hc1 : wr.cell? ⟨(ad.add (i * 3)).block, (ad.add (i * 3)).off + 1, none⟩ = some (.int .i64 p.f1) := by
              have h1 := (HBr.out.cell (World.block_lt_of_cell? w0 _ hy1)).trans hy1
              simpa only [Int.toNat_natCast] using h1
            have hc2 : wr.cell? ⟨(ad.add (i * 3)).block, (ad.add (i * 3)).off + 2, none⟩ = some (.slice A2 p.f2.length c2) := by
              have h1 := (HBr.out.cell (World.block_lt_of_cell? w0 _ hy2)).trans hy2
              simpa only [Int.toNat_natCast] using h1
            clear hy0 hy1 hy2
            have p0 : (0 ≤ (i : Int)) = True := eq_true (by omega)
            have q0 : ((i : Int) < (ps.length : Int)) = True := eq_true (by omega)
            have hml2 : (mayL (ps.take i) bs1).length = 10 := by
              rw [mayL_foldl]
              have key : ∀ (qs : List Tk) (b : List Bool), b.length = 10 → (qs.foldl (fun b p => mayT p b) b).length = 10 := by
                intro qs
                induction qs with
                | nil => intro b h; exact h
                | cons q qs ihq => intro b h; exact ihq _ (mayT_len q b h)
              exact key _ _ HML.out
            have CK := Aside0.mk (HIHP.out A2 c2 g (mayL (ps.take i) bs1) w0 wr HFP.out hml2 hC2 hl2 HG.out HBr.out HSr.out)
            clear hl2 hC2 hml2
            go_wp2_with fail
            with_reducible refine CK.out.mono ?_
            rintro e w2 ⟨rfl, h3, h4, h5⟩
            have HS2 := Aside0.mk h3
            have HB2 := Aside0.mk h4
            have HX2 := Aside0.mk (h5 _ _ HWG.out HXr.out)
            have HK2 : Aside0 (∀ (j : Nat) (o : Obj), j ≠ g → w.heap[j]? = some o → w2.heap[j]? = some o) := ⟨fun j o hj h => h5 j o hj (HKr.out j o hj h)⟩
            clear h3 h4 h5 CK hc0 hc1 hc2 hx2
            go_wp2
            go_roundg gk
            case measure => omega
            case rel => exact ⟨i + 1, by go_num, ⟨by have := HIK.out; omega⟩, ⟨by rw [HIT.out]; exact HS2.out⟩, HB2, HX2, HK2⟩
      | succ gk =>
        have hlt : i < 10 := by have := HIK.out; omega
        have HLT := Aside0.mk hlt
        have hb' : decide ((i : Int) < 10) = true := decide_eq_true (by omega)
        have hll : (List.replicate i true ++ bs.drop i).length = 10 := by rw [List.length_append, List.length_replicate, List.length_drop, HLB.out]; omega
        have hx : wr.cell? ⟨g, i, none⟩ = some (.bool ((List.replicate i true ++ bs.drop i)[i]'(by rw [hll]; exact hlt))) := (blk_cell HSr.out i).trans (arr10_at _)
        have hfz : wr.frozen? ⟨g, i, none⟩ = false := blk_frozen HSr.out i
        have hp : (0 ≤ (i : Int)) = True := eq_true (by omega)
        have hq : ((i : Int) < 10) = True := eq_true (by omega)
        go_wp2
        go_roundg gk
        case measure => omega
        case rel =>
          refine ⟨i + 1, by go_num, ⟨by have := HIK.out; omega⟩, ⟨?_⟩, ⟨HBr.out.setCell HG.out _⟩, ⟨blk_far HX1.out HWG.out _⟩, ⟨fun j o hj h => (Below.heap_setCell _ _ _ _ hj).trans (HK1.out j o hj h)⟩⟩
          have h3 := blk_set HSr.out i (.bool true)
          rw [arr10_set, fill_step bs HLB.out i HLT.out] at h3
          exact h3
  · have hk1 : decide (k = 1) = false := decide_eq_false h1
    have hk1' : (k == 1) = false := by simp [h1]
    have HS1 : Aside0 ((w.alloc (.cells #[.int .i64 k, .int .i64 n, .slice A ps.length c] 141)).heap[g]? = some (.cells (arr10 bs1) 4 (0, 0))) := ⟨by rw [HM1.out]; unfold mark1; rw [if_neg h1, if_neg h5]; exact HS.out⟩
    have HB1 := HB
    have HX1 := HX
    have HK1 := HK
    have H5 := Aside0.mk h5
    clear h1 h5
    go_enter Try.func146, Try.ntmps146
    go_wp2
    go_loopg [4] 0 (fun kq v4 w' => v4 = .int .i64 0 ∧ Aside0 (kq = 0) ∧ Aside0 (w'.heap[g]? = some (.cells (arr10 bs1) 4 (0, 0))) ∧ Aside0 (Below w0.heap.size w0 w') ∧ Aside0 (w'.heap[w.heap.size]? = some (.cells #[.int .i64 k, .int .i64 n, .slice A ps.length c] 141 (0, 0))) ∧ Aside0 (∀ (j : Nat) (o : Obj), j ≠ g → w.heap[j]? = some o → w'.heap[j]? = some o))
    case atStart => exact ⟨rfl, ⟨rfl⟩, HS1, HB1, HX1, HK1⟩
    case round =>
      obtain ⟨rfl, HQ, HS1, HB1, HX1, HK1⟩ := hrel
      have hx0 : wr.cell? ⟨w.heap.size, 0, none⟩ = some (.int .i64 k) := (blk_cell HX1.out 0).trans rfl
      have hk5 : ((k : Int) == 5) = false := by simp [H5.out]
      have hk5' : decide ((k : Int) = 5) = false := decide_eq_false H5.out
      go_wp2
      go_loopg [5] ps.length (fun kq v5 w' => ∃ i : Nat, v5 = .int .i64 (i : Int) ∧ Aside0 (i + kq = ps.length) ∧ Aside0 (w'.heap[g]? = some (.cells (arr10 (mayL (ps.take i) bs1)) 4 (0, 0))) ∧ Aside0 (Below w0.heap.size w0 w') ∧ Aside0 (w'.heap[w.heap.size]? = some (.cells #[.int .i64 k, .int .i64 n, .slice A ps.length c] 141 (0, 0))) ∧ Aside0 (∀ (j : Nat) (o : Obj), j ≠ g → w.heap[j]? = some o → w'.heap[j]? = some o))
      case atStart => exact ⟨0, rfl, ⟨by omega⟩, ⟨by simpa [mayL] using HS1.out⟩, HB1, HX1, HK1⟩
      case round =>
        obtain ⟨i, rfl, HIK, HSr, HBr, HXr, HKr⟩ := hrel
        have hx2 : wr.cell? ⟨w.heap.size, 2, none⟩ = some (.slice A ps.length c) := (blk_cell HXr.out 2).trans rfl
        cases gk with
        | zero =>
          have hi : i = ps.length := by have := HIK.out; omega
          subst hi
          have hb : decide ((ps.length : Int) < (ps.length : Int)) = false := decide_eq_false (by omega)
          go_wp2
          go_end0
          refine ⟨rfl, ?_, HBr.out, HKr.out⟩
          have h3 := HSr.out
          rw [List.take_length] at h3
          exact h3
        | succ gk =>
          have hlt : i < ps.length := by have := HIK.out; omega
          have HLT := Aside0.mk hlt
          have hb : decide ((i : Int) < (ps.length : Int)) = true := decide_eq_true (by omega)
          obtain ⟨ad, A2, c2, e, hy0, hy1, hy2, hl2, hC2⟩ := at_T141 HR.out (i : Int) (by omega) (by omega)
          cases e
          have hlen := HR.out.2.1
          have hmax : (i : Int) + 1 ≤ 9223372036854775807 := by omega
          rw [rd_tk ps i hlt] at hy0 hy1 hy2 hl2 hC2
          have HIT := Aside0.mk (mayL_take ps bs1 i hlt)
          have HFP := Aside0.mk (fitL_mem HF.out.2 _ (List.getElem_mem hlt))
          have HIHP := Aside0.mk (HI.out _ (List.getElem_mem hlt))
          generalize ps[i] = p at hy0 hy1 hy2 hl2 hC2 HIT HFP HIHP
          have hc0 : wr.cell? (ad.add (i * 3)) = some (.int .i64 p.f0) := by
            have h1 := (HBr.out.cell (World.block_lt_of_cell? w0 _ hy0)).trans hy0
            simpa only [Int.toNat_natCast] using h1
          have hc1 : wr.cell? ⟨(ad.add (i * 3)).block, (ad.add (i * 3)).off + 1, none⟩ = some (.int .i64 p.f1) := by
            have h1 := (HBr.out.cell (World.block_lt_of_cell? w0 _ hy1)).trans hy1
            simpa only [Int.toNat_natCast] using h1
          have hc2 : wr.cell? ⟨(ad.add (i * 3)).block, (ad.add (i * 3)).off + 2, none⟩ = some (.slice A2 p.f2.length c2) := by
            have h1 := (HBr.out.cell (World.block_lt_of_cell? w0 _ hy2)).trans hy2
            simpa only [Int.toNat_natCast] using h1
          clear hy0 hy1 hy2
          have p0 : (0 ≤ (i : Int)) = True := eq_true (by omega)
          have q0 : ((i : Int) < (ps.length : Int)) = True := eq_true (by omega)
          have hml2 : (mayL (ps.take i) bs1).length = 10 := by
            rw [mayL_foldl]
            have key : ∀ (qs : List Tk) (b : List Bool), b.length = 10 → (qs.foldl (fun b p => mayT p b) b).length = 10 := by
              intro qs
              induction qs with
              | nil => intro b h; exact h
              | cons q qs ihq => intro b h; exact ihq _ (mayT_len q b h)
            exact key _ _ HML.out
          have CK := Aside0.mk (HIHP.out A2 c2 g (mayL (ps.take i) bs1) w0 wr HFP.out hml2 hC2 hl2 HG.out HBr.out HSr.out)
          clear hl2 hC2 hml2
          go_wp2_with fail
          with_reducible refine CK.out.mono ?_
          rintro e w2 ⟨rfl, h3, h4, h5⟩
          have HS2 := Aside0.mk h3
          have HB2 := Aside0.mk h4
          have HX2 := Aside0.mk (h5 _ _ HWG.out HXr.out)
          have HK2 : Aside0 (∀ (j : Nat) (o : Obj), j ≠ g → w.heap[j]? = some o → w2.heap[j]? = some o) := ⟨fun j o hj h => h5 j o hj (HKr.out j o hj h)⟩
          clear h3 h4 h5 CK hc0 hc1 hc2 hx2
          go_wp2
          go_roundg gk
          case measure => omega
          case rel => exact ⟨i + 1, by go_num, ⟨by have := HIK.out; omega⟩, ⟨by rw [HIT.out]; exact HS2.out⟩, HB2, HX2, HK2⟩
end Go.Proofs.Ythfemojaabejiaa.G
end
section
namespace Go.Proofs.Ythfemojaabejiaa.G
open Go.RowKit Go.Proofs.YthfemojaabejiaaW.PrintWords
set_option linter.unusedVariables false
set_option linter.unusedSimpArgs false
def isVal (n : Int) : Bool := decide (0 ≤ n ∧ n ≤ 96)
end Go.Proofs.Ythfemojaabejiaa.G
end
section
namespace Go.Proofs.Ythfemojaabejiaa.G
open Go.RowKit Go.Proofs.YthfemojaabejiaaW.PrintWords
set_option linter.unusedVariables false
set_option linter.unusedSimpArgs false
theorem idxTo_mem (bs : List Bool) (n : Nat) (j : Int) : j ∈ idxTo bs n ↔ ∃ i : Nat, i < n ∧ j = (i : Int) ∧ bs.getD i false = true := by
  induction n with
  | zero => simp [idxTo]
  | succ n ih =>
    rw [idxTo]
    split
    · rename_i h
      rw [List.mem_append, ih, List.mem_singleton]
      constructor
      · rintro (⟨i, a, b, c⟩ | rfl)
        · exact ⟨i, by omega, b, c⟩
        · exact ⟨n, by omega, rfl, h⟩
      · rintro ⟨i, a, b, c⟩
        by_cases e : i = n
        · exact .inr (by rw [b, e])
        · exact .inl ⟨i, by omega, b, c⟩
    · rename_i h
      rw [ih]
      constructor
      · rintro ⟨i, a, b, c⟩; exact ⟨i, by omega, b, c⟩
      · rintro ⟨i, a, b, c⟩
        by_cases e : i = n
        · rw [e] at c; exact absurd c h
        · exact ⟨i, by omega, b, c⟩
def mayK (t : Tk) : List Int := if okT t = true then idxTo (mayT t (List.replicate 10 false)) 10 else []
theorem mayK_len (t : Tk) : (mayK t).length ≤ 10 := by
  unfold mayK
  split
  · exact idxTo_len _ _
  · simp
theorem mayK_rng (t : Tk) (j : Int) (h : j ∈ mayK t) : 0 ≤ j ∧ j ≤ 9 := by
  unfold mayK at h
  split at h
  · obtain ⟨i, a, b, _⟩ := (idxTo_mem _ _ _).1 h
    omega
  · cases h
end Go.Proofs.Ythfemojaabejiaa.G
end
section
namespace Go.Proofs.Ythfemojaabejiaa.G
open Go.RowKit Go.Proofs.YthfemojaabejiaaW.PrintWords Go.Proofs.YthfemojaabejiaaW.PrintLast Go.Proofs.YthfemojaabejiaaW.PrintMore
set_option linter.unusedVariables false
set_option linter.unusedSimpArgs false
def spec_TaskMay.f (k : Nat) (a0_0 : Int) (a0_1 : Int) (l0_2 : List Tk) : Option (List Int) := (spec_TaskOk.f k a0_0 a0_1 l0_2).bind fun b => if b = true then (if fitT ⟨a0_0, a0_1, l0_2⟩ = true then some (idxTo (mayT ⟨a0_0, a0_1, l0_2⟩ (List.replicate 10 false)) 10) else none) else some []
theorem infoBool : (Try.prog.info? 4).map (fun i => (i.zero, i.size, i.bytes)) = some (some (.bool false), 1, 1) := by kernel_rfl
theorem make10 (w : World) : (Instr.makeSlice 22 (.int .i64 10) (.int .i64 10)).run Try.prog w = .ok (.slice (some ⟨w.heap.size, 0, none⟩) 10 10) (w.alloc (.cells #[.bool false, .bool false, .bool false, .bool false, .bool false, .bool false, .bool false, .bool false, .bool false, .bool false] 4)) := by
  have h := infoBool
  cases hi : Try.prog.info? 4 with
  | none => rw [hi] at h; cases h
  | some i =>
    rw [hi] at h
    simp only [Option.map_some, Option.some.injEq, Prod.mk.injEq] at h
    obtain ⟨hz, hs, hb⟩ := h
    have h1 := run_make w 22 4 i (.bool false) Try.underlying22 hi hz .i64 .i64 10 10 (by omega) (by omega) (by rw [hb]; decide) (by omega)
    rw [hs] at h1
    rw [show madeCells (Value.bool false).cells (Int.toNat 10 * 1) = #[.bool false, .bool false, .bool false, .bool false, .bool false, .bool false, .bool false, .bool false, .bool false, .bool false] from by kernel_rfl] at h1
    exact h1
set_option maxHeartbeats 8000000 in
set_option maxRecDepth 100000 in
theorem spec_TaskMay.calls (k : Nat) (a0_0 : Int) (a0_1 : Int) (A0_2 : Option Addr) (c0_2 : Nat) (l0_2 : List S141) (r : List Int) (w : World) (hr0_2 : Kd.C k141 w A0_2 l0_2.length l0_2) (hc0_2 : l0_2.length ≤ c0_2) (h : spec_TaskMay.f k a0_0 a0_1 l0_2 = some r) :
    Calls Try.prog 108 #[.agg #[.int .i64 a0_0, .int .i64 a0_1, .slice A0_2 l0_2.length c0_2]] w fun e w' => ∃ v0_ : Value, e = .returned v0_ ∧ Kd.R (Kd.int .i64) 3 w' w.heap.size (fun _ => True) v0_ r ∧ Below w.heap.size w w' := by
  have hu1 := Try.underlying141
  have hu2 := Try.underlying22
  have hu3 := Try.underlying34
  have hmk := make10
  unfold spec_TaskMay.f at h
  obtain ⟨b, hb, h⟩ := Option.bind_eq_some_iff.mp h
  have hbx := heap_alloc_new w (.cells #[.int .i64 a0_0, .int .i64 a0_1, .slice A0_2 l0_2.length c0_2] 141)
  have BX := Aside0.mk hbx
  have HR := Aside0.mk hr0_2
  have HC := Aside0.mk hc0_2
  have HOK := Aside0.mk hb
  have HA := Aside0.mk ((Below.refl w.heap.size w).alloc (Nat.le_refl _) (.cells #[.int .i64 a0_0, .int .i64 a0_1, .slice A0_2 l0_2.length c0_2] 141))
  clear hbx hr0_2 hc0_2 hb
  have H := Aside0.mk h
  clear h
  go_enter Try.func108, Try.ntmps108
  go_wp2_with (first | ((with_reducible refine gate_dst (N := 6) rfl ?_); refine Kd.R_lit (Kd.int .i64) (w0 := w) w.heap.size 3 ?hg (N := 6) ?hd (xs := ([] : List Int)) (inner := []) (ok := fun _ => True) (okp := fun _ => True) ?hr ?hp (fun _ hk => hk) trivial HA.out HA.out.size (by simp) ?_; (case hd => rfl); (case hg => rfl); (case hr => first | (go_simp; done) | (go_simp; rfl)); (case hp => exact (Reps.none _ _)); intro v1 w1 ho hb hg hnew; have HO := Aside0.mk ho; have HB := Aside0.mk hb; have BX1 := Aside0.mk ((hg.block _ (blk_lt BX.out) (by simp)).trans BX.out); clear ho hb hg hnew BX HA; have hx0 : w1.cell? ⟨w.heap.size, 0, none⟩ = some (.int .i64 a0_0) := (blk_cell BX1.out 0).trans rfl; have hx1 : w1.cell? ⟨w.heap.size, 1, none⟩ = some (.int .i64 a0_1) := (blk_cell BX1.out 1).trans rfl; have hx2 : w1.cell? ⟨w.heap.size, 2, none⟩ = some (.slice A0_2 l0_2.length c0_2) := (blk_cell BX1.out 2).trans rfl))
  have CK := Aside0.mk (spec_TaskOk.calls k a0_0 a0_1 A0_2 c0_2 l0_2 b w1 (Kd.C_below HR.out HB.out) HC.out HOK.out)
  clear HOK
  with_reducible refine CK.out.mono ?_
  rintro e w2 ⟨rfl, hb1⟩
  have HB2 := Aside0.mk (HB.out.trans (hb1.mono HB.out.size))
  have BX2 := Aside0.mk ((hb1.block _ (blk_lt BX1.out)).trans BX1.out)
  have HO2 := Aside0.mk (Kd.R_below HO.out hb1)
  clear CK hb1 hx0 hx1 hx2 BX1 HO HB
  have hx0 : w2.cell? ⟨w.heap.size, 0, none⟩ = some (.int .i64 a0_0) := (blk_cell BX2.out 0).trans rfl
  have hx1 : w2.cell? ⟨w.heap.size, 1, none⟩ = some (.int .i64 a0_1) := (blk_cell BX2.out 1).trans rfl
  have hx2 : w2.cell? ⟨w.heap.size, 2, none⟩ = some (.slice A0_2 l0_2.length c0_2) := (blk_cell BX2.out 2).trans rfl
  cases b with
  | false =>
    have h := H.out
    simp only [Bool.false_eq_true, if_false] at h
    obtain rfl := Option.some.inj h
    clear h H
    go_wp2
    go_ret
    exact ⟨_, rfl, HO2.out, HB2.out⟩
  | true =>
    have h := H.out
    simp only [if_true] at h
    clear H
    split at h
    · rename_i hf
      have hr := Option.some.inj h
      have hml := mayT_len ⟨a0_0, a0_1, l0_2⟩ (List.replicate 10 false) (by simp)
      have HF := Aside0.mk hf
      obtain ⟨g, hg⟩ : ∃ g, g = w2.heap.size := ⟨_, rfl⟩
      have HG := Aside0.mk hg
      have hal : (w2.alloc (.cells #[.bool false, .bool false, .bool false, .bool false, .bool false, .bool false, .bool false, .bool false, .bool false, .bool false] 4)).heap[w2.heap.size]? = some (.cells (arr10 (List.replicate 10 false)) 4 (0, 0)) := heap_alloc_new w2 _
      have BXa := Aside0.mk (blk_alloc BX2.out (.cells #[.bool false, .bool false, .bool false, .bool false, .bool false, .bool false, .bool false, .bool false, .bool false, .bool false] 4))
      have HBa := Aside0.mk (HB2.out.alloc HB2.out.size (.cells #[.bool false, .bool false, .bool false, .bool false, .bool false, .bool false, .bool false, .bool false, .bool false, .bool false] 4))
      have CK := Aside0.mk (l2may_w ⟨a0_0, a0_1, l0_2⟩ A0_2 c0_2 w2.heap.size (List.replicate 10 false) w (w2.alloc (.cells #[.bool false, .bool false, .bool false, .bool false, .bool false, .bool false, .bool false, .bool false, .bool false, .bool false] 4)) hf (by simp) HR.out HC.out HB2.out.size HBa.out hal)
      have HOa : Aside0 (Kd.R (Kd.int .i64) 3 (w2.alloc (.cells #[.bool false, .bool false, .bool false, .bool false, .bool false, .bool false, .bool false, .bool false, .bool false, .bool false] 4)) w.heap.size (fun j => j ≠ w2.heap.size) v1 []) := ⟨Kd.R_alloc (Kd.R_mono (Kd.R_bound HO2.out) (fun j hj => by have := hj.2.2.1; omega)) _⟩
      have HWS := Aside0.mk HB2.out.size
      have hxa0 : (w2.alloc (.cells #[.bool false, .bool false, .bool false, .bool false, .bool false, .bool false, .bool false, .bool false, .bool false, .bool false] 4)).cell? ⟨w.heap.size, 0, none⟩ = some (.int .i64 a0_0) := (blk_cell BXa.out 0).trans rfl
      have hxa1 : (w2.alloc (.cells #[.bool false, .bool false, .bool false, .bool false, .bool false, .bool false, .bool false, .bool false, .bool false, .bool false] 4)).cell? ⟨w.heap.size, 1, none⟩ = some (.int .i64 a0_1) := (blk_cell BXa.out 1).trans rfl
      have hxa2 : (w2.alloc (.cells #[.bool false, .bool false, .bool false, .bool false, .bool false, .bool false, .bool false, .bool false, .bool false, .bool false] 4)).cell? ⟨w.heap.size, 2, none⟩ = some (.slice A0_2 l0_2.length c0_2) := (blk_cell BXa.out 2).trans rfl
      generalize mayT ⟨a0_0, a0_1, l0_2⟩ (List.replicate 10 false) = bs at hr hml CK
      subst hr
      have HML := Aside0.mk hml
      clear h hf hml hal hx0 hx1 hx2 HO2 BX2 BXa hg HG
      go_wp2_with fail
      with_reducible refine CK.out.mono ?_
      rintro e w3 ⟨rfl, h3, h4, h5⟩
      have HS := Aside0.mk h3
      have HB3 := Aside0.mk h4
      have HO3 : Aside0 (Kd.R (Kd.int .i64) 3 w3 w.heap.size (fun j => j ≠ w2.heap.size) v1 []) := ⟨Kd.R_mono (Kd.R_move (Kd.R_bound HOa.out) (fun j hj => by
        obtain ⟨q1, q2, q3, q4⟩ := hj
        have hq : ∃ o, (w2.alloc (.cells #[.bool false, .bool false, .bool false, .bool false, .bool false, .bool false, .bool false, .bool false, .bool false, .bool false] 4)).heap[j]? = some o := ⟨_, Array.getElem?_eq_getElem q3⟩
        obtain ⟨o, ho⟩ := hq
        rw [ho]
        exact h5 j o q1 ho)) (fun j hj => hj.1)⟩
      clear CK h3 h4 h5 hxa0 hxa1 hxa2 HBa HOa
      obtain ⟨g, hg⟩ : ∃ g, g = w2.heap.size := ⟨_, rfl⟩
      rw [← hg] at HS HO3
      have HGW : Aside0 (w.heap.size ≤ g) := ⟨by rw [hg]; exact HWS.out⟩
      have HG := Aside0.mk hg
      clear hg HWS
      go_wp2
      go_loopg [3, 5] 10 (fun kq v3 v5 w' => ∃ i : Nat, v5 = .int .i64 (i : Int) ∧ Aside0 (i + kq = 10) ∧ Aside0 (Kd.R (Kd.int .i64) 3 w' w.heap.size (fun j => j ≠ g) v3 (idxTo bs i)) ∧ Aside0 (Below w.heap.size w w') ∧ Aside0 (w'.heap[g]? = some (.cells (arr10 bs) 4 (0, 0))))
      case atStart => exact ⟨0, by simp, ⟨by omega⟩, HO3, HB3, HS⟩
      case round =>
        obtain ⟨i, rfl, HI, HO, HB4, HS4⟩ := hrel
        cases gk with
        | zero =>
          have hi : i = 10 := by have := HI.out; omega
          subst hi
          go_wp2
          go_ret
          exact ⟨_, rfl, Kd.R_mono HO.out (fun _ _ => trivial), HB4.out⟩
        | succ gk =>
          have hlt : i < 10 := by have := HI.out; omega
          have HLT := Aside0.mk hlt
          have HOL := Aside0.mk (idxTo_len bs i)
          have hb' : decide ((i : Int) < 10) = true := decide_eq_true (by omega)
          have hp : (0 ≤ (i : Int)) = True := eq_true (by omega)
          have hq : ((i : Int) < 10) = True := eq_true (by omega)
          have hlb : i < bs.length := by rw [HML.out]; exact hlt
          have hx : wr.cell? ⟨g, i, none⟩ = some (.bool (bs.getD i false)) := (blk_cell HS4.out i).trans (by rw [arr10_at hlb, List.getD_eq_getElem?_getD, List.getElem?_eq_getElem hlb, Option.getD_some])
          have hx' : wr.cell? ⟨w2.heap.size, i, none⟩ = some (.bool (bs.getD i false)) := by rw [← HG.out]; exact hx
          cases hbi : bs.getD i false with
          | true =>
            rw [hbi] at hx hx'
            have HN : Aside0 (idxTo bs (i + 1) = idxTo bs i ++ [(i : Int)]) := ⟨by rw [idxTo, if_pos hbi]⟩
            clear hbi hlb
            generalize idxTo bs i = out at HO HOL HN
            obtain ⟨Ao, co, eo⟩ := Kd.R_slice HO.out
            subst eo
            go_wp2_with (first | (at_builtin; refine Kd.R_append (Kd.int .i64) (w0 := w) w.heap.size rfl (.tmp 25) (.tmp 27) 34 3 (.int .i64 0) 8 rfl Try.underlying34 infoInt rfl (by decide) (by omega) (.slice Ao out.length co) out (i : Int) [.int .i64 (i : Int)] (fun j => j ≠ g) (fun _ => False) rfl rfl ?aP (fun _ hk => hk.elim) ?aF ?aO ?aB ?aS ?aL ?_; (case aP => rfl); (case aB => exact HB4.out); (case aF => exact (fun j hj e => by have := blk_lt HS4.out; omega)); (case aO => exact HO.out); (case aS => exact HB4.out.size); (case aL => have := HOL.out; have := HLT.out; omega); intro v2 w4 ho hb hg hat; have HO2 := Aside0.mk ho; have HB5 := Aside0.mk hb; have HS5 := Aside0.mk ((hg.block g (blk_lt HS4.out) (fun e => HO.out.1 g e.symm rfl)).trans HS4.out); clear ho hb hg hat))
            go_roundg gk
            case measure => omega
            case rel => exact ⟨i + 1, by go_num, ⟨by have := HI.out; omega⟩, ⟨by rw [HN.out]; exact HO2.out⟩, HB5, HS5⟩
          | false =>
            rw [hbi] at hx hx'
            have HN : Aside0 (idxTo bs (i + 1) = idxTo bs i) := ⟨by rw [idxTo, if_neg (by rw [hbi]; decide)]⟩
            clear hbi hlb
            go_wp2
            go_roundg gk
            case measure => omega
            case rel => exact ⟨i + 1, by go_num, ⟨by have := HI.out; omega⟩, ⟨by rw [HN.out]; exact HO.out⟩, HB4, HS4⟩
    · cases h
end Go.Proofs.Ythfemojaabejiaa.G
end
section
namespace Go.Proofs.Ythfemojaabejiaa.G
open Go.RowKit Go.Proofs.YthfemojaabejiaaW.PrintWords Go.Proofs.YthfemojaabejiaaW.PrintLast Go.Proofs.YthfemojaabejiaaW.PrintMore
attribute [local go_sem] max2_int min2_int max_two min_two max_three min_three max_four min_four
set_option linter.unusedVariables false
set_option linter.unusedSimpArgs false
def spec_l3May.l0 : Nat → List Int → List Int → Int → List Bool → List (S141) → Option (List Int)
  | 0, _, _, _, _, _ => none
  | k + 1, x5, x6, x7, x133000, x133001 => if x7 < (x6.length : Int) then (if 0 ≤ x7 then (if (rd x6 x7) < (x133000.length : Int) then (if 0 ≤ (rd x6 x7) then (if rdOf false x133000 (rd x6 x7) = true then (if x5.length < 17592186044416 then (spec_l3May.l0 k (x5 ++ [rd x6 x7]) x6 (wrap64 (x7 + 1)) x133000 x133001) else (none)) else (spec_l3May.l0 k x5 x6 (wrap64 (x7 + 1)) x133000 x133001)) else (none)) else (spec_l3May.l0 k x5 x6 (wrap64 (x7 + 1)) x133000 x133001)) else (none)) else (some x5)
def spec_l3May.f (k : Nat) (l0_0 : List Bool) (l0_1 : List (S141)) (a1 : Int) : Option (List Int) := if 0 ≤ a1 then (if a1 < (l0_1.length : Int) then ((spec_TaskMay.f k ((rd_T141 l0_1 a1).f0) ((rd_T141 l0_1 a1).f1) ((rd_T141 l0_1 a1).f2)).bind fun t137 => (spec_l3May.l0 k (([] : List Int)) t137 0 l0_0 l0_1)) else (none)) else (none)
set_option maxHeartbeats 8000000 in
set_option maxRecDepth 100000 in
theorem spec_l3May.calls (k : Nat) (A0_0 : Option Addr) (c0_0 : Nat) (l0_0 : List Bool) (A0_1 : Option Addr) (c0_1 : Nat) (l0_1 : List (S141)) (a1 : Int) (r : List Int) (w : World) (hr0_0 : Kd.C Kd.bool w A0_0 l0_0.length l0_0) (hc0_0 : l0_0.length ≤ c0_0) (hr0_1 : Kd.C k141 w A0_1 l0_1.length l0_1) (hc0_1 : l0_1.length ≤ c0_1) (h : spec_l3May.f k l0_0 l0_1 a1 = some r) :
    Calls Try.prog 57 #[.agg #[.slice A0_0 l0_0.length c0_0, .slice A0_1 l0_1.length c0_1], .int .i64 a1] w fun e w' => ∃ v0_ : Value, e = .returned (v0_) ∧ Kd.R (Kd.int .i64) 3 w' w.heap.size (fun _ => True) v0_ r ∧ Below w.heap.size w w' := by
  have hu30 := Try.underlying30
  have hu141 := Try.underlying141
  have HR0_0 := Aside0.mk hr0_0
  have HC0_0 := Aside0.mk hc0_0
  clear hr0_0 hc0_0
  have HR0_1 := Aside0.mk hr0_1
  have HC0_1 := Aside0.mk hc0_1
  clear hr0_1 hc0_1
  have HB := Aside0.mk (Below.refl w.heap.size w)
  have H : (if 0 ≤ a1 then (if a1 < (l0_1.length : Int) then ((spec_TaskMay.f k ((rd_T141 l0_1 a1).f0) ((rd_T141 l0_1 a1).f1) ((rd_T141 l0_1 a1).f2)).bind fun t137 => (spec_l3May.l0 k (([] : List Int)) t137 0 l0_0 l0_1)) else (none)) else (none)) = some r := h
  clear h
  obtain ⟨y133, hy133⟩ : ∃ y_ : List Int, y_ = (([] : List Int)) := ⟨_, rfl⟩
  replace H : (if 0 ≤ a1 then (if a1 < (l0_1.length : Int) then ((spec_TaskMay.f k ((rd_T141 l0_1 a1).f0) ((rd_T141 l0_1 a1).f1) ((rd_T141 l0_1 a1).f2)).bind fun t137 => (spec_l3May.l0 k y133 t137 0 l0_0 l0_1)) else (none)) else (none)) = some r := by first | (rw [hy133]; with_reducible exact H) | (have H2_ := (Option.bind_some _ _).symm.trans H; rw [hy133]; with_reducible exact H2_) | (have H2_ := (Option.bind_some _ _).symm.trans H; with_reducible exact H2_) | with_reducible exact H | (rw [hy133]; exact H) | exact H
  have Ny133 := Aside0.mk hy133
  clear hy133
  by_cases c3 : 0 ≤ a1
  · rw [if_pos c3] at H
    have c3b0 : decide (0 ≤ a1) = true := decide_eq_true c3
    clear c3
    by_cases c4 : a1 < (l0_1.length : Int)
    · rw [if_pos c4] at H
      have c4b0 : decide (a1 < (l0_1.length : Int)) = true := decide_eq_true c4
      clear c4
      replace H := Option.bind_eq_some_iff.mp H
      obtain ⟨t137, A50, H⟩ := H
      replace H : (spec_l3May.l0 k y133 t137 0 l0_0 l0_1) = some r := H
      have A5 := Aside0.mk A50
      clear A50
      have H' := Aside0.mk H
      clear H
      go_enter Try.func57, Try.ntmps57
      go_wp2_with (first | ((with_reducible refine gate_dst (N := 2) rfl ?_); refine box_event ?hg (N := 2) ?hd (cs := #[.slice A0_0 l0_0.length c0_0, .slice A0_1 l0_1.length c0_1]) (t := 30) ?hr ?_; (case hd => rfl); (case hg => rfl); (case hr => first | (go_simp; done) | (go_simp; rfl)); intro gb132 hg w6 hbox hb; have n0_ := Aside0.mk (below_step (by repeat (first | (with_reducible first | exact HB.out | apply below_alloc | apply pw_below_drewN | apply below_drew1) | exact HB.out)) hb); have n1_ := Aside0.mk (hbox); have n2_ := Aside0.mk ((by rw [hg]; exact (below_size (by repeat (first | (with_reducible first | exact HB.out | apply below_alloc | apply pw_below_drewN | apply below_drew1) | exact HB.out))) : w.heap.size ≤ gb132)); have n3_ := Aside0.mk ((by rw [hg]; exact (below_size (by repeat (first | (with_reducible first | exact HB.out | apply below_alloc | apply pw_below_drewN | apply below_drew1) | exact HB.out))) : w.heap.size ≤ gb132)); clear HB; have HB := n0_; have BK132 := n1_; have GW132 := n2_; have GE132 := n3_; clear n0_ n1_ n2_ n3_; clear hb hbox hg) | ((with_reducible refine gate_dst (N := 8) rfl ?_); refine Kd.R_lit (Kd.int .i64) _ 3 ?hg (N := 8) ?hd (xs := ([] : List Int)) (inner := []) (ok := fun _ => True) (okp := fun _ => True) ?hr ?hp (fun _ hk => hk) trivial (Below.refl _ _) (Nat.le_refl _) (by simp) ?_; (case hd => rfl); (case hg => rfl); (case hr => first | (go_simp; done) | (go_simp; rfl)); (case hp => exact (Reps.none _ _)); intro v134 w7 ho8 hb hg_ hnew_; clear hg_ hnew_; (first | rw [← Ny133.out] at ho8 | (simp only [Int.reduceToNat] at ho8; rw [← Ny133.out] at ho8)); have n0_ := Aside0.mk (Kd.R_lower ho8 (below_size (by repeat (first | (with_reducible first | exact HB.out | apply below_alloc | apply pw_below_drewN | apply below_drew1 | refine below_set ?_ GE132.out) | exact HB.out)))); have n1_ := Aside0.mk (blk_below (g := gb132) (o := .cells #[.slice A0_0 l0_0.length c0_0, .slice A0_1 l0_1.length c0_1] 30 (0, 0)) (by (with_reducible repeat (first | refine blk_drewN ?_ _ | refine blk_drew ?_ | refine blk_alloc ?_ _)); exact BK132.out) hb); have n2_ := Aside0.mk (below_step (by repeat (first | (with_reducible first | exact HB.out | apply below_alloc | apply pw_below_drewN | apply below_drew1 | refine below_set ?_ GE132.out) | exact HB.out)) hb); clear BK132; clear HB; have HO135 := n0_; have BK132 := n1_; have HB := n2_; clear n0_ n1_ n2_; clear hb ho8; have hcz9_0 : w7.cell? ⟨gb132, 0, none⟩ = some (.slice A0_0 l0_0.length c0_0) := (blk_cell BK132.out 0).trans rfl; have hcz9_1 : w7.cell? ⟨gb132, 1, none⟩ = some (.slice A0_1 l0_1.length c0_1) := (blk_cell BK132.out 1).trans rfl; have hfz9_0 := blk_frozen BK132.out 0; have hfz9_1 := blk_frozen BK132.out 1; have p136 : 0 ≤ (a1 : Int) := of_decide_eq_true (by first | (with_reducible assumption) | assumption); have q136 : a1 < (l0_1.length : Int) := of_decide_eq_true (by first | (with_reducible assumption) | assumption); obtain ⟨ad136, A136_2, c136_2, e136, hx136_0, hx136_1, hx136_2, hl136_2, hi136_2⟩ := at_T141 HR0_1.out a1 p136 q136; cases e136; replace hx136_0 := (HB.out.cell (World.block_lt_of_cell? w _ hx136_0)).trans hx136_0; replace hx136_1 := (HB.out.cell (World.block_lt_of_cell? w _ hx136_1)).trans hx136_1; replace hx136_2 := (HB.out.cell (World.block_lt_of_cell? w _ hx136_2)).trans hx136_2; have HR136_2 := Aside0.mk hi136_2; have HC136_2 := Aside0.mk hl136_2; clear hi136_2 hl136_2; replace p136 := eq_true p136; replace q136 := eq_true q136) | (go_at_call 108; (with_reducible refine (spec_TaskMay.calls k ((rd_T141 l0_1 a1).f0) ((rd_T141 l0_1 a1).f1) _ _ ((rd_T141 l0_1 a1).f2) t137 _ ?side1 ?side2 A5.out).mono ?_); (case side1 => repeat (first | exact (Kd.C_below HR136_2.out HB.out) | (with_reducible refine Kd.C_alloc ?_ _) | (with_reducible refine Kd.C_drewN ?_ _) | (with_reducible refine Kd.C_drew ?_))); (case side2 => exact HC136_2.out); rintro e w10 ⟨v138, rfl, ho0, hb⟩; have n0_ := Aside0.mk (Kd.R_elder' (by (with_reducible repeat (first | apply Kd.R_alloc | apply Kd.R_drewN | apply Kd.R_drew)); exact HO135.out) (Kd.R_base ho0) hb); have n1_ := Aside0.mk (Kd.R_lower (Kd.R_new' ho0 (Kd.R_lt (by (with_reducible repeat (first | apply Kd.R_alloc | apply Kd.R_drewN | apply Kd.R_drew)); exact HO135.out))) (below_size (by repeat (first | (with_reducible first | exact HB.out | apply below_alloc | apply pw_below_drewN | apply below_drew1 | refine below_set ?_ GE132.out) | exact HB.out)))); have n2_ := Aside0.mk (blk_below (g := gb132) (o := .cells #[.slice A0_0 l0_0.length c0_0, .slice (some ad136) l0_1.length c0_1] 30 (0, 0)) (by (with_reducible repeat (first | refine blk_drewN ?_ _ | refine blk_drew ?_ | refine blk_alloc ?_ _)); exact BK132.out) hb); have n3_ := Aside0.mk (below_step (by repeat (first | (with_reducible first | exact HB.out | apply below_alloc | apply pw_below_drewN | apply below_drew1 | refine below_set ?_ GE132.out) | exact HB.out)) hb); clear HO135; clear BK132; clear HB; have HO135 := n0_; have HO139 := n1_; have BK132 := n2_; have HB := n3_; clear n0_ n1_ n2_ n3_; (try clear hb); (try clear hb2); (try clear hk); (try clear hi); (try clear ho0)))
      repeat (go_quiet (first | ((with_reducible refine gate_dst (N := 2) rfl ?_); refine box_event ?hg (N := 2) ?hd (cs := #[.slice A0_0 l0_0.length c0_0, .slice A0_1 l0_1.length c0_1]) (t := 30) ?hr ?_; (case hd => rfl); (case hg => rfl); (case hr => first | (go_simp; done) | (go_simp; rfl)); intro gb132 hg w6 hbox hb; have n0_ := Aside0.mk (below_step (by repeat (first | (with_reducible first | exact HB.out | apply below_alloc | apply pw_below_drewN | apply below_drew1) | exact HB.out)) hb); have n1_ := Aside0.mk (hbox); have n2_ := Aside0.mk ((by rw [hg]; exact (below_size (by repeat (first | (with_reducible first | exact HB.out | apply below_alloc | apply pw_below_drewN | apply below_drew1) | exact HB.out))) : w.heap.size ≤ gb132)); have n3_ := Aside0.mk ((by rw [hg]; exact (below_size (by repeat (first | (with_reducible first | exact HB.out | apply below_alloc | apply pw_below_drewN | apply below_drew1) | exact HB.out))) : w.heap.size ≤ gb132)); clear HB; have HB := n0_; have BK132 := n1_; have GW132 := n2_; have GE132 := n3_; clear n0_ n1_ n2_ n3_; clear hb hbox hg) | ((with_reducible refine gate_dst (N := 8) rfl ?_); refine Kd.R_lit (Kd.int .i64) _ 3 ?hg (N := 8) ?hd (xs := ([] : List Int)) (inner := []) (ok := fun _ => True) (okp := fun _ => True) ?hr ?hp (fun _ hk => hk) trivial (Below.refl _ _) (Nat.le_refl _) (by simp) ?_; (case hd => rfl); (case hg => rfl); (case hr => first | (go_simp; done) | (go_simp; rfl)); (case hp => exact (Reps.none _ _)); intro v134 w7 ho8 hb hg_ hnew_; clear hg_ hnew_; (first | rw [← Ny133.out] at ho8 | (simp only [Int.reduceToNat] at ho8; rw [← Ny133.out] at ho8)); have n0_ := Aside0.mk (Kd.R_lower ho8 (below_size (by repeat (first | (with_reducible first | exact HB.out | apply below_alloc | apply pw_below_drewN | apply below_drew1 | refine below_set ?_ GE132.out) | exact HB.out)))); have n1_ := Aside0.mk (blk_below (g := gb132) (o := .cells #[.slice A0_0 l0_0.length c0_0, .slice A0_1 l0_1.length c0_1] 30 (0, 0)) (by (with_reducible repeat (first | refine blk_drewN ?_ _ | refine blk_drew ?_ | refine blk_alloc ?_ _)); exact BK132.out) hb); have n2_ := Aside0.mk (below_step (by repeat (first | (with_reducible first | exact HB.out | apply below_alloc | apply pw_below_drewN | apply below_drew1 | refine below_set ?_ GE132.out) | exact HB.out)) hb); clear BK132; clear HB; have HO135 := n0_; have BK132 := n1_; have HB := n2_; clear n0_ n1_ n2_; clear hb ho8; have hcz9_0 : w7.cell? ⟨gb132, 0, none⟩ = some (.slice A0_0 l0_0.length c0_0) := (blk_cell BK132.out 0).trans rfl; have hcz9_1 : w7.cell? ⟨gb132, 1, none⟩ = some (.slice A0_1 l0_1.length c0_1) := (blk_cell BK132.out 1).trans rfl; have hfz9_0 := blk_frozen BK132.out 0; have hfz9_1 := blk_frozen BK132.out 1; have p136 : 0 ≤ (a1 : Int) := of_decide_eq_true (by first | (with_reducible assumption) | assumption); have q136 : a1 < (l0_1.length : Int) := of_decide_eq_true (by first | (with_reducible assumption) | assumption); obtain ⟨ad136, A136_2, c136_2, e136, hx136_0, hx136_1, hx136_2, hl136_2, hi136_2⟩ := at_T141 HR0_1.out a1 p136 q136; cases e136; replace hx136_0 := (HB.out.cell (World.block_lt_of_cell? w _ hx136_0)).trans hx136_0; replace hx136_1 := (HB.out.cell (World.block_lt_of_cell? w _ hx136_1)).trans hx136_1; replace hx136_2 := (HB.out.cell (World.block_lt_of_cell? w _ hx136_2)).trans hx136_2; have HR136_2 := Aside0.mk hi136_2; have HC136_2 := Aside0.mk hl136_2; clear hi136_2 hl136_2; replace p136 := eq_true p136; replace q136 := eq_true q136) | (go_at_call 108; (with_reducible refine (spec_TaskMay.calls k ((rd_T141 l0_1 a1).f0) ((rd_T141 l0_1 a1).f1) _ _ ((rd_T141 l0_1 a1).f2) t137 _ ?side1 ?side2 A5.out).mono ?_); (case side1 => repeat (first | exact (Kd.C_below HR136_2.out HB.out) | (with_reducible refine Kd.C_alloc ?_ _) | (with_reducible refine Kd.C_drewN ?_ _) | (with_reducible refine Kd.C_drew ?_))); (case side2 => exact HC136_2.out); rintro e w10 ⟨v138, rfl, ho0, hb⟩; have n0_ := Aside0.mk (Kd.R_elder' (by (with_reducible repeat (first | apply Kd.R_alloc | apply Kd.R_drewN | apply Kd.R_drew)); exact HO135.out) (Kd.R_base ho0) hb); have n1_ := Aside0.mk (Kd.R_lower (Kd.R_new' ho0 (Kd.R_lt (by (with_reducible repeat (first | apply Kd.R_alloc | apply Kd.R_drewN | apply Kd.R_drew)); exact HO135.out))) (below_size (by repeat (first | (with_reducible first | exact HB.out | apply below_alloc | apply pw_below_drewN | apply below_drew1 | refine below_set ?_ GE132.out) | exact HB.out)))); have n2_ := Aside0.mk (blk_below (g := gb132) (o := .cells #[.slice A0_0 l0_0.length c0_0, .slice (some ad136) l0_1.length c0_1] 30 (0, 0)) (by (with_reducible repeat (first | refine blk_drewN ?_ _ | refine blk_drew ?_ | refine blk_alloc ?_ _)); exact BK132.out) hb); have n3_ := Aside0.mk (below_step (by repeat (first | (with_reducible first | exact HB.out | apply below_alloc | apply pw_below_drewN | apply below_drew1 | refine below_set ?_ GE132.out) | exact HB.out)) hb); clear HO135; clear BK132; clear HB; have HO135 := n0_; have HO139 := n1_; have BK132 := n2_; have HB := n3_; clear n0_ n1_ n2_ n3_; (try clear hb); (try clear hb2); (try clear hk); (try clear hi); (try clear ho0))); try go_wp2_with (first | ((with_reducible refine gate_dst (N := 2) rfl ?_); refine box_event ?hg (N := 2) ?hd (cs := #[.slice A0_0 l0_0.length c0_0, .slice A0_1 l0_1.length c0_1]) (t := 30) ?hr ?_; (case hd => rfl); (case hg => rfl); (case hr => first | (go_simp; done) | (go_simp; rfl)); intro gb132 hg w6 hbox hb; have n0_ := Aside0.mk (below_step (by repeat (first | (with_reducible first | exact HB.out | apply below_alloc | apply pw_below_drewN | apply below_drew1) | exact HB.out)) hb); have n1_ := Aside0.mk (hbox); have n2_ := Aside0.mk ((by rw [hg]; exact (below_size (by repeat (first | (with_reducible first | exact HB.out | apply below_alloc | apply pw_below_drewN | apply below_drew1) | exact HB.out))) : w.heap.size ≤ gb132)); have n3_ := Aside0.mk ((by rw [hg]; exact (below_size (by repeat (first | (with_reducible first | exact HB.out | apply below_alloc | apply pw_below_drewN | apply below_drew1) | exact HB.out))) : w.heap.size ≤ gb132)); clear HB; have HB := n0_; have BK132 := n1_; have GW132 := n2_; have GE132 := n3_; clear n0_ n1_ n2_ n3_; clear hb hbox hg) | ((with_reducible refine gate_dst (N := 8) rfl ?_); refine Kd.R_lit (Kd.int .i64) _ 3 ?hg (N := 8) ?hd (xs := ([] : List Int)) (inner := []) (ok := fun _ => True) (okp := fun _ => True) ?hr ?hp (fun _ hk => hk) trivial (Below.refl _ _) (Nat.le_refl _) (by simp) ?_; (case hd => rfl); (case hg => rfl); (case hr => first | (go_simp; done) | (go_simp; rfl)); (case hp => exact (Reps.none _ _)); intro v134 w7 ho8 hb hg_ hnew_; clear hg_ hnew_; (first | rw [← Ny133.out] at ho8 | (simp only [Int.reduceToNat] at ho8; rw [← Ny133.out] at ho8)); have n0_ := Aside0.mk (Kd.R_lower ho8 (below_size (by repeat (first | (with_reducible first | exact HB.out | apply below_alloc | apply pw_below_drewN | apply below_drew1 | refine below_set ?_ GE132.out) | exact HB.out)))); have n1_ := Aside0.mk (blk_below (g := gb132) (o := .cells #[.slice A0_0 l0_0.length c0_0, .slice A0_1 l0_1.length c0_1] 30 (0, 0)) (by (with_reducible repeat (first | refine blk_drewN ?_ _ | refine blk_drew ?_ | refine blk_alloc ?_ _)); exact BK132.out) hb); have n2_ := Aside0.mk (below_step (by repeat (first | (with_reducible first | exact HB.out | apply below_alloc | apply pw_below_drewN | apply below_drew1 | refine below_set ?_ GE132.out) | exact HB.out)) hb); clear BK132; clear HB; have HO135 := n0_; have BK132 := n1_; have HB := n2_; clear n0_ n1_ n2_; clear hb ho8; have hcz9_0 : w7.cell? ⟨gb132, 0, none⟩ = some (.slice A0_0 l0_0.length c0_0) := (blk_cell BK132.out 0).trans rfl; have hcz9_1 : w7.cell? ⟨gb132, 1, none⟩ = some (.slice A0_1 l0_1.length c0_1) := (blk_cell BK132.out 1).trans rfl; have hfz9_0 := blk_frozen BK132.out 0; have hfz9_1 := blk_frozen BK132.out 1; have p136 : 0 ≤ (a1 : Int) := of_decide_eq_true (by first | (with_reducible assumption) | assumption); have q136 : a1 < (l0_1.length : Int) := of_decide_eq_true (by first | (with_reducible assumption) | assumption); obtain ⟨ad136, A136_2, c136_2, e136, hx136_0, hx136_1, hx136_2, hl136_2, hi136_2⟩ := at_T141 HR0_1.out a1 p136 q136; cases e136; replace hx136_0 := (HB.out.cell (World.block_lt_of_cell? w _ hx136_0)).trans hx136_0; replace hx136_1 := (HB.out.cell (World.block_lt_of_cell? w _ hx136_1)).trans hx136_1; replace hx136_2 := (HB.out.cell (World.block_lt_of_cell? w _ hx136_2)).trans hx136_2; have HR136_2 := Aside0.mk hi136_2; have HC136_2 := Aside0.mk hl136_2; clear hi136_2 hl136_2; replace p136 := eq_true p136; replace q136 := eq_true q136) | (go_at_call 108; (with_reducible refine (spec_TaskMay.calls k ((rd_T141 l0_1 a1).f0) ((rd_T141 l0_1 a1).f1) _ _ ((rd_T141 l0_1 a1).f2) t137 _ ?side1 ?side2 A5.out).mono ?_); (case side1 => repeat (first | exact (Kd.C_below HR136_2.out HB.out) | (with_reducible refine Kd.C_alloc ?_ _) | (with_reducible refine Kd.C_drewN ?_ _) | (with_reducible refine Kd.C_drew ?_))); (case side2 => exact HC136_2.out); rintro e w10 ⟨v138, rfl, ho0, hb⟩; have n0_ := Aside0.mk (Kd.R_elder' (by (with_reducible repeat (first | apply Kd.R_alloc | apply Kd.R_drewN | apply Kd.R_drew)); exact HO135.out) (Kd.R_base ho0) hb); have n1_ := Aside0.mk (Kd.R_lower (Kd.R_new' ho0 (Kd.R_lt (by (with_reducible repeat (first | apply Kd.R_alloc | apply Kd.R_drewN | apply Kd.R_drew)); exact HO135.out))) (below_size (by repeat (first | (with_reducible first | exact HB.out | apply below_alloc | apply pw_below_drewN | apply below_drew1 | refine below_set ?_ GE132.out) | exact HB.out)))); have n2_ := Aside0.mk (blk_below (g := gb132) (o := .cells #[.slice A0_0 l0_0.length c0_0, .slice (some ad136) l0_1.length c0_1] 30 (0, 0)) (by (with_reducible repeat (first | refine blk_drewN ?_ _ | refine blk_drew ?_ | refine blk_alloc ?_ _)); exact BK132.out) hb); have n3_ := Aside0.mk (below_step (by repeat (first | (with_reducible first | exact HB.out | apply below_alloc | apply pw_below_drewN | apply below_drew1 | refine below_set ?_ GE132.out) | exact HB.out)) hb); clear HO135; clear BK132; clear HB; have HO135 := n0_; have HO139 := n1_; have BK132 := n2_; have HB := n3_; clear n0_ n1_ n2_ n3_; (try clear hb); (try clear hb2); (try clear hk); (try clear hi); (try clear ho0))))
      go_loopg [5, 7] k (fun kq v5 v7 w' => ∃ (x5_1 : List Int) (x7_1 : Int), v7 = .int .i64 x7_1 ∧ Aside0 (spec_l3May.l0 kq x5_1 t137 x7_1 l0_0 l0_1 = some r) ∧ Aside0 (kq ≤ k) ∧ Aside0 (Kd.R (Kd.int .i64) 3 w' w.heap.size (fun k_ => some k_ ≠ (v138 : Value).ownBlock) v5 x5_1) ∧ Aside0 (Kd.R (Kd.int .i64) 3 w' w.heap.size (fun k_ => some k_ ≠ (v5 : Value).ownBlock) v138 t137) ∧ Aside0 (w'.heap[gb132]? = some (.cells #[(.slice A0_0 l0_0.length c0_0), (.slice (some ad136) l0_1.length c0_1)] 30 (0, 0))) ∧ Aside0 (Below w.heap.size w w'))
      case atStart => exact ⟨(y133), (0), (by first | rfl | (simp; done) | (simp [*]; done)), H', ⟨Nat.le_refl _⟩, ⟨by (with_reducible repeat (first | apply Kd.R_alloc | apply Kd.R_drewN | apply Kd.R_drew)); exact Kd.R_mono HO135.out (fun _ hk => hk.2)⟩, ⟨by (with_reducible repeat (first | apply Kd.R_alloc | apply Kd.R_drewN | apply Kd.R_drew)); exact Kd.R_mono HO139.out (fun _ hk => hk.2)⟩, ⟨by (with_reducible repeat (first | refine blk_drewN ?_ _ | refine blk_drew ?_ | refine blk_alloc ?_ _)); exact BK132.out⟩, ⟨by repeat (first | (with_reducible first | exact HB.out | apply below_alloc | apply pw_below_drewN | apply below_drew1 | refine below_set ?_ GE132.out) | exact HB.out)⟩⟩
      case round =>
        clear H'
        try clear c1
        try clear p1
        try clear q1
        try clear hx1
        try clear p2
        try clear c3
        try clear c3b0
        try clear c4
        try clear c4b0
        try clear c5
        try clear hcz9_0
        try clear hcz9_1
        try clear hfz9_0
        try clear hfz9_1
        try clear hx136_0
        try clear hx136_1
        try clear hx136_2
        try clear p136
        try clear q136
        obtain ⟨x5_1, x7_1, rfl, HA, HK1, HO_5, HO_6, BK132, HB⟩ := hrel
        cases gk with
        | zero => exact absurd HA.out (by simp [spec_l3May.l0])
        | succ k1 =>
          have H := HA.out
          clear HA
          simp only [spec_l3May.l0] at H
          by_cases c11 : x7_1 < (t137.length : Int)
          · rw [if_pos c11] at H
            have c11b0 : decide (x7_1 < (t137.length : Int)) = true := decide_eq_true c11
            clear c11
            by_cases c12 : 0 ≤ x7_1
            · rw [if_pos c12] at H
              have c12b0 : decide (0 ≤ x7_1) = true := decide_eq_true c12
              clear c12
              by_cases c13 : (rd t137 x7_1) < (l0_0.length : Int)
              · rw [if_pos c13] at H
                have c13b0 : decide ((rd t137 x7_1) < (l0_0.length : Int)) = true := decide_eq_true c13
                clear c13
                by_cases c14 : 0 ≤ (rd t137 x7_1)
                · rw [if_pos c14] at H
                  have c14b0 : decide (0 ≤ (rd t137 x7_1)) = true := decide_eq_true c14
                  clear c14
                  obtain ⟨bq15, hbq15⟩ : ∃ b_ : Bool, b_ = (rdOf false l0_0 (rd t137 x7_1)) := ⟨_, rfl⟩
                  replace H : (if bq15 = true then (if x5_1.length < 17592186044416 then (spec_l3May.l0 k1 (x5_1 ++ [rd t137 x7_1]) t137 (wrap64 (x7_1 + 1)) l0_0 l0_1) else (none)) else (spec_l3May.l0 k1 x5_1 t137 (wrap64 (x7_1 + 1)) l0_0 l0_1)) = some r := by rw [← hbq15] at H; exact H
                  have Nbq15 := Aside0.mk hbq15
                  clear hbq15
                  by_cases c16 : bq15 = true
                  · subst c16
                    have H1 : (if x5_1.length < 17592186044416 then (spec_l3May.l0 k1 (x5_1 ++ [rd t137 x7_1]) t137 (wrap64 (x7_1 + 1)) l0_0 l0_1) else (none)) = some r := by rw [if_pos rfl] at H; exact H
                    clear H
                    have H := H1
                    clear H1
                    by_cases c17 : x5_1.length < 17592186044416
                    · rw [if_pos c17] at H
                      have LMc17 := Aside0.mk c17
                      clear c17
                      obtain ⟨y144, hy144⟩ : ∃ y_ : List Int, y_ = (x5_1 ++ [rd t137 x7_1]) := ⟨_, rfl⟩
                      replace H : (spec_l3May.l0 k1 y144 t137 (wrap64 (x7_1 + 1)) l0_0 l0_1) = some r := by first | (rw [hy144]; with_reducible exact H) | (have H2_ := (Option.bind_some _ _).symm.trans H; rw [hy144]; with_reducible exact H2_) | (have H2_ := (Option.bind_some _ _).symm.trans H; with_reducible exact H2_) | with_reducible exact H | (rw [hy144]; exact H) | exact H
                      have Ny144 := Aside0.mk hy144
                      clear hy144
                      have H' := Aside0.mk H
                      clear H
                      obtain ⟨Ao18, co18, eo18⟩ := Kd.R_slice HO_6.out
                      subst eo18
                      have p140 : 0 ≤ (x7_1 : Int) := of_decide_eq_true (by first | (with_reducible assumption) | assumption)
                      have q140 : x7_1 < (t137.length : Int) := of_decide_eq_true (by first | (with_reducible assumption) | assumption)
                      obtain ⟨ad140, e140, hx140_0⟩ := Kd.at_int (Kd.R_reads' HO_6.out).2.2 x7_1 p140 q140
                      cases e140
                      replace p140 := eq_true p140
                      replace q140 := eq_true q140
                      have hcz19_0 : wr.cell? ⟨gb132, 0, none⟩ = some (.slice A0_0 l0_0.length c0_0) := (blk_cell BK132.out 0).trans rfl
                      have hcz19_1 : wr.cell? ⟨gb132, 1, none⟩ = some (.slice (some ad136) l0_1.length c0_1) := (blk_cell BK132.out 1).trans rfl
                      have hfz19_0 := blk_frozen BK132.out 0
                      have hfz19_1 := blk_frozen BK132.out 1
                      have p141 : 0 ≤ (x7_1 : Int) := of_decide_eq_true (by first | (with_reducible assumption) | assumption)
                      have q141 : x7_1 < (t137.length : Int) := of_decide_eq_true (by first | (with_reducible assumption) | assumption)
                      obtain ⟨ad141, e141, hx141_0⟩ := Kd.at_int (Kd.R_reads' HO_6.out).2.2 x7_1 p141 q141
                      obtain rfl : ad140 = ad141 := (by injection e141)
                      replace p141 := eq_true p141
                      replace q141 := eq_true q141
                      have p142 : 0 ≤ ((rd t137 x7_1) : Int) := of_decide_eq_true (by first | (with_reducible assumption) | assumption)
                      have q142 : (rd t137 x7_1) < (l0_0.length : Int) := of_decide_eq_true (by first | (with_reducible assumption) | assumption)
                      obtain ⟨ad142, e142, hx142_0⟩ := Kd.at_bool HR0_0.out (rd t137 x7_1) p142 q142
                      (try rw [← Nbq15.out] at hx142_0)
                      cases e142
                      replace hx142_0 := (HB.out.cell (World.block_lt_of_cell? w _ hx142_0)).trans hx142_0
                      replace p142 := eq_true p142
                      replace q142 := eq_true q142
                      have p143 : 0 ≤ (x7_1 : Int) := of_decide_eq_true (by first | (with_reducible assumption) | assumption)
                      have q143 : x7_1 < (t137.length : Int) := of_decide_eq_true (by first | (with_reducible assumption) | assumption)
                      obtain ⟨ad143, e143, hx143_0⟩ := Kd.at_int (Kd.R_reads' HO_6.out).2.2 x7_1 p143 q143
                      obtain rfl : ad140 = ad143 := (by injection e143)
                      replace p143 := eq_true p143
                      replace q143 := eq_true q143
                      go_wp2_with (first | ((with_reducible refine gate_builtin (b := .append) (xs := #[.tmp 39, .tmp 44]) rfl ?_); at_builtin; refine Kd.R_append (Kd.int .i64) (w0 := w) w.heap.size rfl (.tmp 39) (.tmp 44) 34 3 (.int .i64 0) 8 rfl Try.underlying34 info3 rfl (by decide) (by omega) u5 x5_1 (rd t137 x7_1) [.int .i64 (rd t137 x7_1)] (fun k_ => some k_ ≠ (.slice (some ad140) t137.length co18 : Value).ownBlock) (fun _ => False) rfl rfl ?aP (fun _ hk => hk.elim) ?aF ?aO ?aB ?aS ?aL ?_; (case aP => exact rfl); (case aB => exact (by repeat (first | (with_reducible first | exact HB.out | apply below_alloc | apply pw_below_drewN | apply below_drew1 | refine below_set ?_ GE132.out) | exact HB.out))); (case aF => exact (fun k_ hk => Kd.fresh' (Kd.R_lt (by (with_reducible repeat (first | apply Kd.R_alloc | apply Kd.R_drewN | apply Kd.R_drew)); exact HO_6.out)) k_ hk)); (case aO => exact (by (with_reducible repeat (first | apply Kd.R_alloc | apply Kd.R_drewN | apply Kd.R_drew)); exact HO_5.out)); (case aS => exact (below_size (by repeat (first | (with_reducible first | exact HB.out | apply below_alloc | apply pw_below_drewN | apply below_drew1 | refine below_set ?_ GE132.out) | exact HB.out)))); (case aL => have := LMc17.out; omega); intro v145 w20 ho hb hg hat; rw [← Ny144.out] at ho; have n0_ := Aside0.mk (Kd.R_after (ok := (fun _ => True)) (by (with_reducible repeat (first | apply Kd.R_alloc | apply Kd.R_drewN | apply Kd.R_drew)); exact Kd.R_mono HO_6.out (fun _ hk => ⟨trivial, hk⟩)) hg hat); have n1_ := Aside0.mk (blk_grown (g := gb132) (o := .cells #[.slice (some ad142) l0_0.length c0_0, .slice (some ad136) l0_1.length c0_1] 30 (0, 0)) (by (with_reducible repeat (first | refine blk_drewN ?_ _ | refine blk_drew ?_ | refine blk_alloc ?_ _)); exact BK132.out) hg (Kd.R_ne HO_5.out BK132.out (by decide))); have n2_ := Aside0.mk (hb); have n3_ := Aside0.mk (ho); clear HO_6; clear BK132; clear HB; clear HO_5; have HO_6 := n0_; have BK132 := n1_; have HB := n2_; have HO146 := n3_; clear n0_ n1_ n2_ n3_; clear ho hb hg hat))
                      repeat (go_quiet (first | ((with_reducible refine gate_builtin (b := .append) (xs := #[.tmp 39, .tmp 44]) rfl ?_); at_builtin; refine Kd.R_append (Kd.int .i64) (w0 := w) w.heap.size rfl (.tmp 39) (.tmp 44) 34 3 (.int .i64 0) 8 rfl Try.underlying34 info3 rfl (by decide) (by omega) u5 x5_1 (rd t137 x7_1) [.int .i64 (rd t137 x7_1)] (fun k_ => some k_ ≠ (.slice (some ad140) t137.length co18 : Value).ownBlock) (fun _ => False) rfl rfl ?aP (fun _ hk => hk.elim) ?aF ?aO ?aB ?aS ?aL ?_; (case aP => exact rfl); (case aB => exact (by repeat (first | (with_reducible first | exact HB.out | apply below_alloc | apply pw_below_drewN | apply below_drew1 | refine below_set ?_ GE132.out) | exact HB.out))); (case aF => exact (fun k_ hk => Kd.fresh' (Kd.R_lt (by (with_reducible repeat (first | apply Kd.R_alloc | apply Kd.R_drewN | apply Kd.R_drew)); exact HO_6.out)) k_ hk)); (case aO => exact (by (with_reducible repeat (first | apply Kd.R_alloc | apply Kd.R_drewN | apply Kd.R_drew)); exact HO_5.out)); (case aS => exact (below_size (by repeat (first | (with_reducible first | exact HB.out | apply below_alloc | apply pw_below_drewN | apply below_drew1 | refine below_set ?_ GE132.out) | exact HB.out)))); (case aL => have := LMc17.out; omega); intro v145 w20 ho hb hg hat; rw [← Ny144.out] at ho; have n0_ := Aside0.mk (Kd.R_after (ok := (fun _ => True)) (by (with_reducible repeat (first | apply Kd.R_alloc | apply Kd.R_drewN | apply Kd.R_drew)); exact Kd.R_mono HO_6.out (fun _ hk => ⟨trivial, hk⟩)) hg hat); have n1_ := Aside0.mk (blk_grown (g := gb132) (o := .cells #[.slice (some ad142) l0_0.length c0_0, .slice (some ad136) l0_1.length c0_1] 30 (0, 0)) (by (with_reducible repeat (first | refine blk_drewN ?_ _ | refine blk_drew ?_ | refine blk_alloc ?_ _)); exact BK132.out) hg (Kd.R_ne HO_5.out BK132.out (by decide))); have n2_ := Aside0.mk (hb); have n3_ := Aside0.mk (ho); clear HO_6; clear BK132; clear HB; clear HO_5; have HO_6 := n0_; have BK132 := n1_; have HB := n2_; have HO146 := n3_; clear n0_ n1_ n2_ n3_; clear ho hb hg hat)); try go_wp2_with (first | ((with_reducible refine gate_builtin (b := .append) (xs := #[.tmp 39, .tmp 44]) rfl ?_); at_builtin; refine Kd.R_append (Kd.int .i64) (w0 := w) w.heap.size rfl (.tmp 39) (.tmp 44) 34 3 (.int .i64 0) 8 rfl Try.underlying34 info3 rfl (by decide) (by omega) u5 x5_1 (rd t137 x7_1) [.int .i64 (rd t137 x7_1)] (fun k_ => some k_ ≠ (.slice (some ad140) t137.length co18 : Value).ownBlock) (fun _ => False) rfl rfl ?aP (fun _ hk => hk.elim) ?aF ?aO ?aB ?aS ?aL ?_; (case aP => exact rfl); (case aB => exact (by repeat (first | (with_reducible first | exact HB.out | apply below_alloc | apply pw_below_drewN | apply below_drew1 | refine below_set ?_ GE132.out) | exact HB.out))); (case aF => exact (fun k_ hk => Kd.fresh' (Kd.R_lt (by (with_reducible repeat (first | apply Kd.R_alloc | apply Kd.R_drewN | apply Kd.R_drew)); exact HO_6.out)) k_ hk)); (case aO => exact (by (with_reducible repeat (first | apply Kd.R_alloc | apply Kd.R_drewN | apply Kd.R_drew)); exact HO_5.out)); (case aS => exact (below_size (by repeat (first | (with_reducible first | exact HB.out | apply below_alloc | apply pw_below_drewN | apply below_drew1 | refine below_set ?_ GE132.out) | exact HB.out)))); (case aL => have := LMc17.out; omega); intro v145 w20 ho hb hg hat; rw [← Ny144.out] at ho; have n0_ := Aside0.mk (Kd.R_after (ok := (fun _ => True)) (by (with_reducible repeat (first | apply Kd.R_alloc | apply Kd.R_drewN | apply Kd.R_drew)); exact Kd.R_mono HO_6.out (fun _ hk => ⟨trivial, hk⟩)) hg hat); have n1_ := Aside0.mk (blk_grown (g := gb132) (o := .cells #[.slice (some ad142) l0_0.length c0_0, .slice (some ad136) l0_1.length c0_1] 30 (0, 0)) (by (with_reducible repeat (first | refine blk_drewN ?_ _ | refine blk_drew ?_ | refine blk_alloc ?_ _)); exact BK132.out) hg (Kd.R_ne HO_5.out BK132.out (by decide))); have n2_ := Aside0.mk (hb); have n3_ := Aside0.mk (ho); clear HO_6; clear BK132; clear HB; clear HO_5; have HO_6 := n0_; have BK132 := n1_; have HB := n2_; have HO146 := n3_; clear n0_ n1_ n2_ n3_; clear ho hb hg hat)))
                      go_roundg k1
                      case measure => have := HK1.out; omega
                      case rel => exact ⟨(y144), (wrap64 (x7_1 + 1)), (by first | rfl | (simp; done) | (simp [*]; done)), H', ⟨by have := HK1.out; omega⟩, ⟨by (with_reducible repeat (first | apply Kd.R_alloc | apply Kd.R_drewN | apply Kd.R_drew)); exact HO146.out⟩, ⟨by (with_reducible repeat (first | apply Kd.R_alloc | apply Kd.R_drewN | apply Kd.R_drew)); exact Kd.R_mono HO_6.out (fun _ hk => hk.2)⟩, ⟨by (with_reducible repeat (first | refine blk_drewN ?_ _ | refine blk_drew ?_ | refine blk_alloc ?_ _)); exact BK132.out⟩, ⟨by repeat (first | (with_reducible first | exact HB.out | apply below_alloc | apply pw_below_drewN | apply below_drew1 | refine below_set ?_ GE132.out) | exact HB.out)⟩⟩
                    · rw [if_neg c17] at H
                      exact absurd H (by simp)
                  · replace c16 := Bool.eq_false_iff.mpr c16
                    subst c16
                    have H1 : (spec_l3May.l0 k1 x5_1 t137 (wrap64 (x7_1 + 1)) l0_0 l0_1) = some r := by rw [if_neg (show ¬ (false = true) by decide)] at H; exact H
                    clear H
                    have H := H1
                    clear H1
                    have H' := Aside0.mk H
                    clear H
                    obtain ⟨Ao21, co21, eo21⟩ := Kd.R_slice HO_6.out
                    subst eo21
                    have p140 : 0 ≤ (x7_1 : Int) := of_decide_eq_true (by first | (with_reducible assumption) | assumption)
                    have q140 : x7_1 < (t137.length : Int) := of_decide_eq_true (by first | (with_reducible assumption) | assumption)
                    obtain ⟨ad140, e140, hx140_0⟩ := Kd.at_int (Kd.R_reads' HO_6.out).2.2 x7_1 p140 q140
                    cases e140
                    replace p140 := eq_true p140
                    replace q140 := eq_true q140
                    have hcz22_0 : wr.cell? ⟨gb132, 0, none⟩ = some (.slice A0_0 l0_0.length c0_0) := (blk_cell BK132.out 0).trans rfl
                    have hcz22_1 : wr.cell? ⟨gb132, 1, none⟩ = some (.slice (some ad136) l0_1.length c0_1) := (blk_cell BK132.out 1).trans rfl
                    have hfz22_0 := blk_frozen BK132.out 0
                    have hfz22_1 := blk_frozen BK132.out 1
                    have p141 : 0 ≤ (x7_1 : Int) := of_decide_eq_true (by first | (with_reducible assumption) | assumption)
                    have q141 : x7_1 < (t137.length : Int) := of_decide_eq_true (by first | (with_reducible assumption) | assumption)
                    obtain ⟨ad141, e141, hx141_0⟩ := Kd.at_int (Kd.R_reads' HO_6.out).2.2 x7_1 p141 q141
                    obtain rfl : ad140 = ad141 := (by injection e141)
                    replace p141 := eq_true p141
                    replace q141 := eq_true q141
                    have p142 : 0 ≤ ((rd t137 x7_1) : Int) := of_decide_eq_true (by first | (with_reducible assumption) | assumption)
                    have q142 : (rd t137 x7_1) < (l0_0.length : Int) := of_decide_eq_true (by first | (with_reducible assumption) | assumption)
                    obtain ⟨ad142, e142, hx142_0⟩ := Kd.at_bool HR0_0.out (rd t137 x7_1) p142 q142
                    (try rw [← Nbq15.out] at hx142_0)
                    cases e142
                    replace hx142_0 := (HB.out.cell (World.block_lt_of_cell? w _ hx142_0)).trans hx142_0
                    replace p142 := eq_true p142
                    replace q142 := eq_true q142
                    go_wp2
                    repeat (go_quiet (fail); try go_wp2)
                    go_roundg k1
                    case measure => have := HK1.out; omega
                    case rel => exact ⟨(x5_1), (wrap64 (x7_1 + 1)), (by first | rfl | (simp; done) | (simp [*]; done)), H', ⟨by have := HK1.out; omega⟩, ⟨by (with_reducible repeat (first | apply Kd.R_alloc | apply Kd.R_drewN | apply Kd.R_drew)); exact HO_5.out⟩, ⟨by (with_reducible repeat (first | apply Kd.R_alloc | apply Kd.R_drewN | apply Kd.R_drew)); exact HO_6.out⟩, ⟨by (with_reducible repeat (first | refine blk_drewN ?_ _ | refine blk_drew ?_ | refine blk_alloc ?_ _)); exact BK132.out⟩, ⟨by repeat (first | (with_reducible first | exact HB.out | apply below_alloc | apply pw_below_drewN | apply below_drew1 | refine below_set ?_ GE132.out) | exact HB.out)⟩⟩
                · rw [if_neg c14] at H
                  exact absurd H (by simp)
              · rw [if_neg c13] at H
                have c13b0 : decide ((rd t137 x7_1) < (l0_0.length : Int)) = false := decide_eq_false c13
                clear c13
                have H' := Aside0.mk H
                clear H
                obtain ⟨Ao23, co23, eo23⟩ := Kd.R_slice HO_6.out
                subst eo23
                have p140 : 0 ≤ (x7_1 : Int) := of_decide_eq_true (by first | (with_reducible assumption) | assumption)
                have q140 : x7_1 < (t137.length : Int) := of_decide_eq_true (by first | (with_reducible assumption) | assumption)
                obtain ⟨ad140, e140, hx140_0⟩ := Kd.at_int (Kd.R_reads' HO_6.out).2.2 x7_1 p140 q140
                cases e140
                replace p140 := eq_true p140
                replace q140 := eq_true q140
                have hcz24_0 : wr.cell? ⟨gb132, 0, none⟩ = some (.slice A0_0 l0_0.length c0_0) := (blk_cell BK132.out 0).trans rfl
                have hcz24_1 : wr.cell? ⟨gb132, 1, none⟩ = some (.slice (some ad136) l0_1.length c0_1) := (blk_cell BK132.out 1).trans rfl
                have hfz24_0 := blk_frozen BK132.out 0
                have hfz24_1 := blk_frozen BK132.out 1
                go_wp2
                repeat (go_quiet (fail); try go_wp2)
                go_roundg k1
                case measure => have := HK1.out; omega
                case rel => exact ⟨(x5_1), (wrap64 (x7_1 + 1)), (by first | rfl | (simp; done) | (simp [*]; done)), H', ⟨by have := HK1.out; omega⟩, ⟨by (with_reducible repeat (first | apply Kd.R_alloc | apply Kd.R_drewN | apply Kd.R_drew)); exact HO_5.out⟩, ⟨by (with_reducible repeat (first | apply Kd.R_alloc | apply Kd.R_drewN | apply Kd.R_drew)); exact HO_6.out⟩, ⟨by (with_reducible repeat (first | refine blk_drewN ?_ _ | refine blk_drew ?_ | refine blk_alloc ?_ _)); exact BK132.out⟩, ⟨by repeat (first | (with_reducible first | exact HB.out | apply below_alloc | apply pw_below_drewN | apply below_drew1 | refine below_set ?_ GE132.out) | exact HB.out)⟩⟩
            · rw [if_neg c12] at H
              exact absurd H (by simp)
          · rw [if_neg c11] at H
            have c11b0 : decide (x7_1 < (t137.length : Int)) = false := decide_eq_false c11
            clear c11
            obtain rfl := Option.some.inj H
            obtain ⟨Ao25, co25, eo25⟩ := Kd.R_slice HO_6.out
            subst eo25
            go_wp2
            repeat (go_quiet (fail); try go_wp2)
            go_ret
            exact ⟨_, by first | rfl | (simp [errW_none, errW_some] <;> rfl) | (simp [*, errW_none, errW_some] <;> rfl), by (with_reducible repeat (first | apply Kd.R_alloc | apply Kd.R_drewN | apply Kd.R_drew)); exact Kd.R_mono HO_5.out (fun _ hk => trivial), by repeat (first | (with_reducible first | exact HB.out | apply below_alloc | apply pw_below_drewN | apply below_drew1 | refine below_set ?_ GE132.out) | exact HB.out)⟩
    · rw [if_neg c4] at H
      exact absurd H (by simp)
  · rw [if_neg c3] at H
    exact absurd H (by simp)
mutual
def spec_SheetSafe.l0 : Nat → List Bool → Int → List Bool → List (S141) → Option (Bool)
  | 0, _, _, _, _ => none
  | k + 1, x3, x4, x148000, x148001 => if x4 ≤ (x148000.length : Int) then (spec_SheetSafe.l1 k x3 x4 0 x148000 x148001) else (spec_SheetSafe.l3 k x3 0)
def spec_SheetSafe.l1 : Nat → List Bool → Int → Int → List Bool → List (S141) → Option (Bool)
  | 0, _, _, _, _, _ => none
  | k + 1, x3, x4, x5, x148000, x148001 => if x5 < (x148000.length : Int) then ((spec_l3May.f k x148000 x148001 x5).bind fun t152 => (spec_SheetSafe.l2 k x3 x4 x5 true t152 0 x148000 x148001)) else (spec_SheetSafe.l0 k x3 (wrap64 (x4 + 1)) x148000 x148001)
def spec_SheetSafe.l2 : Nat → List Bool → Int → Int → Bool → List Int → Int → List Bool → List (S141) → Option (Bool)
  | 0, _, _, _, _, _, _, _, _ => none
  | k + 1, x3, x4, x5, x6, x7, x8, x148000, x148001 => if x8 < (x7.length : Int) then (if x6 = true then (if 0 ≤ x8 then (if 0 ≤ (rd x7 x8) then (if (rd x7 x8) < (x3.length : Int) then (spec_SheetSafe.l2 k x3 x4 x5 (rdOf false x3 (rd x7 x8)) x7 (wrap64 (x8 + 1)) x148000 x148001) else (none)) else (none)) else (none)) else (spec_SheetSafe.l2 k x3 x4 x5 false x7 (wrap64 (x8 + 1)) x148000 x148001)) else (if 0 ≤ x5 then (if x5 < (x3.length : Int) then (spec_SheetSafe.l1 k (x3.set (x5 : Int).toNat x6) x4 (wrap64 (x5 + 1)) x148000 x148001) else (none)) else (none))
def spec_SheetSafe.l3 : Nat → List Bool → Int → Option (Bool)
  | 0, _, _ => none
  | k + 1, x3, x9 => if x9 < (x3.length : Int) then (if 0 ≤ x9 then (if rdOf false x3 x9 = true then (spec_SheetSafe.l3 k x3 (wrap64 (x9 + 1))) else (some false)) else (none)) else (some true)
end
def spec_SheetSafe.f (k : Nat) (l0_0 : List Bool) (l0_1 : List (S141)) : Option (Bool) := (spec_SheetOk.f k l0_0 l0_1).bind fun t148 => (if t148 = true then (if 0 ≤ (l0_0.length : Int) then (if ((l0_0.length : Int) : Int).toNat ≤ 281474976710656 then (spec_SheetSafe.l0 k (List.replicate ((l0_0.length : Int) : Int).toNat false) 0 l0_0 l0_1) else (none)) else (none)) else (some false))
set_option maxHeartbeats 8000000 in
set_option maxRecDepth 100000 in
theorem spec_SheetSafe.calls (k : Nat) (A0_0 : Option Addr) (c0_0 : Nat) (l0_0 : List Bool) (A0_1 : Option Addr) (c0_1 : Nat) (l0_1 : List (S141)) (r : Bool) (w : World) (hr0_0 : Kd.C Kd.bool w A0_0 l0_0.length l0_0) (hc0_0 : l0_0.length ≤ c0_0) (hr0_1 : Kd.C k141 w A0_1 l0_1.length l0_1) (hc0_1 : l0_1.length ≤ c0_1) (h : spec_SheetSafe.f k l0_0 l0_1 = some r) :
    Calls Try.prog 15 #[.agg #[.slice A0_0 l0_0.length c0_0, .slice A0_1 l0_1.length c0_1]] w fun e w' => e = .returned (.bool r) ∧ Below w.heap.size w w' := by
  have hu30 := Try.underlying30
  have HR0_0 := Aside0.mk hr0_0
  have HC0_0 := Aside0.mk hc0_0
  clear hr0_0 hc0_0
  have HR0_1 := Aside0.mk hr0_1
  have HC0_1 := Aside0.mk hc0_1
  clear hr0_1 hc0_1
  have HB := Aside0.mk (Below.refl w.heap.size w)
  have H : ((spec_SheetOk.f k l0_0 l0_1).bind fun t148 => (if t148 = true then (if 0 ≤ (l0_0.length : Int) then (if ((l0_0.length : Int) : Int).toNat ≤ 281474976710656 then (spec_SheetSafe.l0 k (List.replicate ((l0_0.length : Int) : Int).toNat false) 0 l0_0 l0_1) else (none)) else (none)) else (some false))) = some r := h
  clear h
  replace H := Option.bind_eq_some_iff.mp H
  obtain ⟨t148, A20, H⟩ := H
  replace H : (if t148 = true then (if 0 ≤ (l0_0.length : Int) then (if ((l0_0.length : Int) : Int).toNat ≤ 281474976710656 then (spec_SheetSafe.l0 k (List.replicate ((l0_0.length : Int) : Int).toNat false) 0 l0_0 l0_1) else (none)) else (none)) else (some false)) = some r := H
  have A2 := Aside0.mk A20
  clear A20
  by_cases c3 : t148 = true
  · subst c3
    have H1 : (if 0 ≤ (l0_0.length : Int) then (if ((l0_0.length : Int) : Int).toNat ≤ 281474976710656 then (spec_SheetSafe.l0 k (List.replicate ((l0_0.length : Int) : Int).toNat false) 0 l0_0 l0_1) else (none)) else (none)) = some r := by rw [if_pos rfl] at H; exact H
    clear H
    have H := H1
    clear H1
    by_cases c4 : 0 ≤ (l0_0.length : Int)
    · rw [if_pos c4] at H
      have c4b0 := eq_true c4
      have c4b1 : decide (0 ≤ (l0_0.length : Int)) = true := decide_eq_true c4
      clear c4
      by_cases c5 : ((l0_0.length : Int) : Int).toNat ≤ 281474976710656
      · rw [if_pos c5] at H
        have c5b0 := eq_true c5
        have c5b1 : decide (((l0_0.length : Int) : Int).toNat ≤ 281474976710656) = true := decide_eq_true c5
        clear c5
        obtain ⟨y149, hy149⟩ : ∃ y_ : List Bool, y_ = (List.replicate ((l0_0.length : Int) : Int).toNat false) := ⟨_, rfl⟩
        replace H : (spec_SheetSafe.l0 k y149 0 l0_0 l0_1) = some r := by first | (rw [hy149]; with_reducible exact H) | (have H2_ := (Option.bind_some _ _).symm.trans H; rw [hy149]; with_reducible exact H2_) | (have H2_ := (Option.bind_some _ _).symm.trans H; with_reducible exact H2_) | with_reducible exact H | (rw [hy149]; exact H) | exact H
        have Ny149 := Aside0.mk hy149
        clear hy149
        have H' := Aside0.mk H
        clear H
        go_enter Try.func15, Try.ntmps15
        go_wp2_with (first | ((with_reducible refine gate_dst (N := 1) rfl ?_); refine box_event ?hg (N := 1) ?hd (cs := #[.slice A0_0 l0_0.length c0_0, .slice A0_1 l0_1.length c0_1]) (t := 30) ?hr ?_; (case hd => rfl); (case hg => rfl); (case hr => first | (go_simp; done) | (go_simp; rfl)); intro gb147 hg w6 hbox hb; have n0_ := Aside0.mk (below_step (by repeat (first | (with_reducible first | exact HB.out | apply below_alloc | apply pw_below_drewN | apply below_drew1) | exact HB.out)) hb); have n1_ := Aside0.mk (hbox); have n2_ := Aside0.mk ((by rw [hg]; exact (below_size (by repeat (first | (with_reducible first | exact HB.out | apply below_alloc | apply pw_below_drewN | apply below_drew1) | exact HB.out))) : w.heap.size ≤ gb147)); have n3_ := Aside0.mk ((by rw [hg]; exact (below_size (by repeat (first | (with_reducible first | exact HB.out | apply below_alloc | apply pw_below_drewN | apply below_drew1) | exact HB.out))) : w.heap.size ≤ gb147)); clear HB; have HB := n0_; have BK147 := n1_; have GW147 := n2_; have GE147 := n3_; clear n0_ n1_ n2_ n3_; clear hb hbox hg; have hcz7_0 : w6.cell? ⟨gb147, 0, none⟩ = some (.slice A0_0 l0_0.length c0_0) := (blk_cell BK147.out 0).trans rfl; have hcz7_1 : w6.cell? ⟨gb147, 1, none⟩ = some (.slice A0_1 l0_1.length c0_1) := (blk_cell BK147.out 1).trans rfl; have hfz7_0 := blk_frozen BK147.out 0; have hfz7_1 := blk_frozen BK147.out 1) | ((with_reducible refine gate_callee (f := 56) rfl ?_); refine goesL_ (some 11) rfl rfl Try.func56 (by kernel_rfl) rfl #[.agg #[.slice A0_0 l0_0.length c0_0, .slice A0_1 l0_1.length c0_1]] rfl (by (try simp only [List.map_toArray, List.map_cons, List.map_nil]); first | done | rfl | (simp only [List.length_drop, List.length_take]; rfl)) ?_; (with_reducible refine (spec_SheetOk.calls k _ _ l0_0 _ _ l0_1 true _ ?side1 ?side2 ?side3 ?side4 A2.out).mono ?_); (case side1 => repeat (first | exact (Kd.C_below HR0_0.out HB.out) | (with_reducible refine Kd.C_alloc ?_ _) | (with_reducible refine Kd.C_drewN ?_ _) | (with_reducible refine Kd.C_drew ?_))); (case side2 => exact HC0_0.out); (case side3 => repeat (first | exact (Kd.C_below HR0_1.out HB.out) | (with_reducible refine Kd.C_alloc ?_ _) | (with_reducible refine Kd.C_drewN ?_ _) | (with_reducible refine Kd.C_drew ?_))); (case side4 => exact HC0_1.out); rintro e w8 ⟨rfl, hb⟩; refine ⟨_, rfl, ?_⟩; have n0_ := Aside0.mk (blk_below (g := gb147) (o := .cells #[.slice A0_0 l0_0.length c0_0, .slice A0_1 l0_1.length c0_1] 30 (0, 0)) (by (with_reducible repeat (first | refine blk_drewN ?_ _ | refine blk_drew ?_ | refine blk_alloc ?_ _)); exact BK147.out) hb); have n1_ := Aside0.mk (below_step (by repeat (first | (with_reducible first | exact HB.out | apply below_alloc | apply pw_below_drewN | apply below_drew1 | refine below_set ?_ GE147.out) | exact HB.out)) hb); clear BK147; clear HB; have BK147 := n0_; have HB := n1_; clear n0_ n1_; (try clear hb); (try clear hb2); (try clear hk); (try clear hi); have hcz9_0 : w8.cell? ⟨gb147, 0, none⟩ = some (.slice A0_0 l0_0.length c0_0) := (blk_cell BK147.out 0).trans rfl; have hcz9_1 : w8.cell? ⟨gb147, 1, none⟩ = some (.slice A0_1 l0_1.length c0_1) := (blk_cell BK147.out 1).trans rfl; have hfz9_0 := blk_frozen BK147.out 0; have hfz9_1 := blk_frozen BK147.out 1) | ((with_reducible refine gate_dst (N := 16) rfl ?_); refine Kd.R_make Kd.bool _ 4 rfl (N := 16) rfl 22 _ _ rfl (l0_0.length : Int) rfl rfl Try.underlying22 (.bool false) 1 info4 rfl (by decide) (by omega) false (ok := fun _ => True) (okp := fun _ => True) rfl (fun _ hk => hk) trivial (of_decide_eq_true (by first | (with_reducible assumption) | assumption)) (Nat.le_trans (Nat.mul_le_mul_right _ (of_decide_eq_true (by first | (with_reducible assumption) | assumption) : (l0_0.length : Int).toNat ≤ 281474976710656)) (by omega)) (Below.refl _ _) (Nat.le_refl _) ?_; intro v150 w10 ho11 hb hg_ hnew_; clear hg_ hnew_; (first | rw [← Ny149.out] at ho11 | (simp only [Int.reduceToNat] at ho11; rw [← Ny149.out] at ho11)); have n0_ := Aside0.mk (Kd.R_lower ho11 (below_size (by repeat (first | (with_reducible first | exact HB.out | apply below_alloc | apply pw_below_drewN | apply below_drew1 | refine below_set ?_ GE147.out) | exact HB.out)))); have n1_ := Aside0.mk (blk_below (g := gb147) (o := .cells #[.slice A0_0 l0_0.length c0_0, .slice A0_1 l0_1.length c0_1] 30 (0, 0)) (by (with_reducible repeat (first | refine blk_drewN ?_ _ | refine blk_drew ?_ | refine blk_alloc ?_ _)); exact BK147.out) hb); have n2_ := Aside0.mk (below_step (by repeat (first | (with_reducible first | exact HB.out | apply below_alloc | apply pw_below_drewN | apply below_drew1 | refine below_set ?_ GE147.out) | exact HB.out)) hb); clear BK147; clear HB; have HO151 := n0_; have BK147 := n1_; have HB := n2_; clear n0_ n1_ n2_; clear hb ho11))
        go_loopg [4] k (fun kq v4 w' => ∃ (x3_1 : List Bool) (x4_1 : Int), v4 = .int .i64 x4_1 ∧ Aside0 (spec_SheetSafe.l0 kq x3_1 x4_1 l0_0 l0_1 = some r) ∧ Aside0 (kq ≤ k) ∧ Aside0 (Kd.R Kd.bool 4 w' w.heap.size (fun _ => True) v150 x3_1) ∧ Aside0 (w'.heap[gb147]? = some (.cells #[(.slice A0_0 l0_0.length c0_0), (.slice A0_1 l0_1.length c0_1)] 30 (0, 0))) ∧ Aside0 (Below w.heap.size w w'))
        case atStart => exact ⟨(y149), (0), (by first | rfl | (simp; done) | (simp [*]; done)), H', ⟨Nat.le_refl _⟩, ⟨by (with_reducible repeat (first | apply Kd.R_alloc | apply Kd.R_drewN | apply Kd.R_drew)); exact HO151.out⟩, ⟨by (with_reducible repeat (first | refine blk_drewN ?_ _ | refine blk_drew ?_ | refine blk_alloc ?_ _)); exact BK147.out⟩, ⟨by repeat (first | (with_reducible first | exact HB.out | apply below_alloc | apply pw_below_drewN | apply below_drew1 | refine below_set ?_ GE147.out) | exact HB.out)⟩⟩
        case round =>
          clear H'
          try clear c1
          try clear p2
          try clear c3
          try clear c4
          try clear c4b0
          try clear c4b1
          try clear c5
          try clear c5b0
          try clear c5b1
          try clear hcz7_0
          try clear hcz7_1
          try clear hcz9_0
          try clear hcz9_1
          try clear hfz7_0
          try clear hfz7_1
          try clear hfz9_0
          try clear hfz9_1
          obtain ⟨x3_1, x4_1, rfl, HA, HK1, HO_3, BK147, HB⟩ := hrel
          cases gk with
          | zero => exact absurd HA.out (by simp [spec_SheetSafe.l0])
          | succ k1 =>
            have H := HA.out
            clear HA
            simp only [spec_SheetSafe.l0] at H
            by_cases c12 : x4_1 ≤ (l0_0.length : Int)
            · rw [if_pos c12] at H
              have c12b0 : decide (x4_1 ≤ (l0_0.length : Int)) = true := decide_eq_true c12
              clear c12
              have H' := Aside0.mk H
              clear H
              have hcz13_0 : wr.cell? ⟨gb147, 0, none⟩ = some (.slice A0_0 l0_0.length c0_0) := (blk_cell BK147.out 0).trans rfl
              have hcz13_1 : wr.cell? ⟨gb147, 1, none⟩ = some (.slice A0_1 l0_1.length c0_1) := (blk_cell BK147.out 1).trans rfl
              have hfz13_0 := blk_frozen BK147.out 0
              have hfz13_1 := blk_frozen BK147.out 1
              go_wp2
              go_loopg [5] k1 (fun kq v5 w' => ∃ (x3_2 : List Bool) (x5_2 : Int), v5 = .int .i64 x5_2 ∧ Aside0 (spec_SheetSafe.l1 kq x3_2 x4_1 x5_2 l0_0 l0_1 = some r) ∧ Aside0 (kq ≤ k1) ∧ Aside0 (Kd.R Kd.bool 4 w' w.heap.size (fun _ => True) v150 x3_2) ∧ Aside0 (w'.heap[gb147]? = some (.cells #[(.slice A0_0 l0_0.length c0_0), (.slice A0_1 l0_1.length c0_1)] 30 (0, 0))) ∧ Aside0 (Below w.heap.size w w'))
              case atStart => exact ⟨(x3_1), (0), (by first | rfl | (simp; done) | (simp [*]; done)), H', ⟨Nat.le_refl _⟩, ⟨by (with_reducible repeat (first | apply Kd.R_alloc | apply Kd.R_drewN | apply Kd.R_drew)); exact HO_3.out⟩, ⟨by (with_reducible repeat (first | refine blk_drewN ?_ _ | refine blk_drew ?_ | refine blk_alloc ?_ _)); exact BK147.out⟩, ⟨by repeat (first | (with_reducible first | exact HB.out | apply below_alloc | apply pw_below_drewN | apply below_drew1 | refine below_set ?_ GE147.out) | exact HB.out)⟩⟩
              case round =>
                clear H'
                try clear c1
                try clear p2
                try clear c3
                try clear c4
                try clear c4b0
                try clear c4b1
                try clear c5
                try clear c5b0
                try clear c5b1
                try clear c12
                try clear c12b0
                try clear hcz13_0
                try clear hcz13_1
                try clear hcz7_0
                try clear hcz7_1
                try clear hcz9_0
                try clear hcz9_1
                try clear hfz13_0
                try clear hfz13_1
                try clear hfz7_0
                try clear hfz7_1
                try clear hfz9_0
                try clear hfz9_1
                try clear p2
                obtain ⟨x3_2, x5_2, rfl, HA, HK2, HO_3, BK147, HB⟩ := hrel
                cases gk with
                | zero => exact absurd HA.out (by simp [spec_SheetSafe.l1])
                | succ k2 =>
                  have H := HA.out
                  clear HA
                  simp only [spec_SheetSafe.l1] at H
                  by_cases c14 : x5_2 < (l0_0.length : Int)
                  · rw [if_pos c14] at H
                    have c14b0 : decide (x5_2 < (l0_0.length : Int)) = true := decide_eq_true c14
                    clear c14
                    replace H := Option.bind_eq_some_iff.mp H
                    obtain ⟨t152, A150, H⟩ := H
                    replace H : (spec_SheetSafe.l2 k2 x3_2 x4_1 x5_2 true t152 0 l0_0 l0_1) = some r := H
                    have A15 := Aside0.mk A150
                    clear A150
                    have H' := Aside0.mk H
                    clear H
                    have hcz16_0 : wr.cell? ⟨gb147, 0, none⟩ = some (.slice A0_0 l0_0.length c0_0) := (blk_cell BK147.out 0).trans rfl
                    have hcz16_1 : wr.cell? ⟨gb147, 1, none⟩ = some (.slice A0_1 l0_1.length c0_1) := (blk_cell BK147.out 1).trans rfl
                    have hfz16_0 := blk_frozen BK147.out 0
                    have hfz16_1 := blk_frozen BK147.out 1
                    go_wp2_with (first | ((with_reducible refine gate_callee (f := 57) rfl ?_); refine goesL_ (some 33) rfl rfl Try.func57 (by kernel_rfl) rfl #[.agg #[.slice A0_0 l0_0.length c0_0, .slice A0_1 l0_1.length c0_1], .int .i64 x5_2] rfl (by (try simp only [List.map_toArray, List.map_cons, List.map_nil]); first | done | rfl | (simp only [List.length_drop, List.length_take]; rfl)) ?_; (with_reducible refine (spec_l3May.calls k2 _ _ l0_0 _ _ l0_1 x5_2 t152 _ ?side1 ?side2 ?side3 ?side4 A15.out).mono ?_); (case side1 => repeat (first | exact (Kd.C_below HR0_0.out HB.out) | (with_reducible refine Kd.C_alloc ?_ _) | (with_reducible refine Kd.C_drewN ?_ _) | (with_reducible refine Kd.C_drew ?_))); (case side2 => exact HC0_0.out); (case side3 => repeat (first | exact (Kd.C_below HR0_1.out HB.out) | (with_reducible refine Kd.C_alloc ?_ _) | (with_reducible refine Kd.C_drewN ?_ _) | (with_reducible refine Kd.C_drew ?_))); (case side4 => exact HC0_1.out); rintro e w17 ⟨v153, rfl, ho0, hb⟩; refine ⟨_, rfl, ?_⟩; have n0_ := Aside0.mk (Kd.R_below (by (with_reducible repeat (first | apply Kd.R_alloc | apply Kd.R_drewN | apply Kd.R_drew)); exact HO_3.out) hb); have n1_ := Aside0.mk (Kd.R_lower ho0 (below_size (by repeat (first | (with_reducible first | exact HB.out | apply below_alloc | apply pw_below_drewN | apply below_drew1 | refine below_set ?_ GE147.out) | exact HB.out)))); have n2_ := Aside0.mk (blk_below (g := gb147) (o := .cells #[.slice A0_0 l0_0.length c0_0, .slice A0_1 l0_1.length c0_1] 30 (0, 0)) (by (with_reducible repeat (first | refine blk_drewN ?_ _ | refine blk_drew ?_ | refine blk_alloc ?_ _)); exact BK147.out) hb); have n3_ := Aside0.mk (below_step (by repeat (first | (with_reducible first | exact HB.out | apply below_alloc | apply pw_below_drewN | apply below_drew1 | refine below_set ?_ GE147.out) | exact HB.out)) hb); clear HO_3; clear BK147; clear HB; have HO_3 := n0_; have HO154 := n1_; have BK147 := n2_; have HB := n3_; clear n0_ n1_ n2_ n3_; (try clear hb); (try clear hb2); (try clear hk); (try clear hi); (try clear ho0)))
                    go_loopg [6, 8] k2 (fun kq v6 v8 w' => ∃ (x6_3 : Bool) (x8_3 : Int), v6 = .bool x6_3 ∧ v8 = .int .i64 x8_3 ∧ Aside0 (spec_SheetSafe.l2 kq x3_2 x4_1 x5_2 x6_3 t152 x8_3 l0_0 l0_1 = some r) ∧ Aside0 (kq ≤ k2) ∧ Aside0 (Kd.R Kd.bool 4 w' w.heap.size (fun _ => True) v150 x3_2) ∧ Aside0 (Kd.R (Kd.int .i64) 3 w' w.heap.size (fun _ => True) v153 t152) ∧ Aside0 (w'.heap[gb147]? = some (.cells #[(.slice A0_0 l0_0.length c0_0), (.slice A0_1 l0_1.length c0_1)] 30 (0, 0))) ∧ Aside0 (Below w.heap.size w w'))
                    case atStart => exact ⟨(true), (0), (by first | rfl | (simp; done) | (simp [*]; done)), (by first | rfl | (simp; done) | (simp [*]; done)), H', ⟨Nat.le_refl _⟩, ⟨by (with_reducible repeat (first | apply Kd.R_alloc | apply Kd.R_drewN | apply Kd.R_drew)); exact HO_3.out⟩, ⟨by (with_reducible repeat (first | apply Kd.R_alloc | apply Kd.R_drewN | apply Kd.R_drew)); exact HO154.out⟩, ⟨by (with_reducible repeat (first | refine blk_drewN ?_ _ | refine blk_drew ?_ | refine blk_alloc ?_ _)); exact BK147.out⟩, ⟨by repeat (first | (with_reducible first | exact HB.out | apply below_alloc | apply pw_below_drewN | apply below_drew1 | refine below_set ?_ GE147.out) | exact HB.out)⟩⟩
                    case round =>
                      clear H'
                      try clear c1
                      try clear p2
                      try clear c3
                      try clear c4
                      try clear c4b0
                      try clear c4b1
                      try clear c5
                      try clear c5b0
                      try clear c5b1
                      try clear c12
                      try clear c12b0
                      try clear c14
                      try clear c14b0
                      try clear c15
                      try clear hcz13_0
                      try clear hcz13_1
                      try clear hcz16_0
                      try clear hcz16_1
                      try clear hcz7_0
                      try clear hcz7_1
                      try clear hcz9_0
                      try clear hcz9_1
                      try clear hfz13_0
                      try clear hfz13_1
                      try clear hfz16_0
                      try clear hfz16_1
                      try clear hfz7_0
                      try clear hfz7_1
                      try clear hfz9_0
                      try clear hfz9_1
                      try clear p2
                      obtain ⟨x6_3, x8_3, rfl, rfl, HA, HK3, HO_3, HO_7, BK147, HB⟩ := hrel
                      cases gk with
                      | zero => exact absurd HA.out (by simp [spec_SheetSafe.l2])
                      | succ k3 =>
                        have H := HA.out
                        clear HA
                        simp only [spec_SheetSafe.l2] at H
                        by_cases c18 : x8_3 < (t152.length : Int)
                        · rw [if_pos c18] at H
                          have c18b0 : decide (x8_3 < (t152.length : Int)) = true := decide_eq_true c18
                          clear c18
                          by_cases c19 : x6_3 = true
                          · subst c19
                            have H1 : (if 0 ≤ x8_3 then (if 0 ≤ (rd t152 x8_3) then (if (rd t152 x8_3) < (x3_2.length : Int) then (spec_SheetSafe.l2 k3 x3_2 x4_1 x5_2 (rdOf false x3_2 (rd t152 x8_3)) t152 (wrap64 (x8_3 + 1)) l0_0 l0_1) else (none)) else (none)) else (none)) = some r := by rw [if_pos rfl] at H; exact H
                            clear H
                            have H := H1
                            clear H1
                            by_cases c20 : 0 ≤ x8_3
                            · rw [if_pos c20] at H
                              have c20b0 : decide (0 ≤ x8_3) = true := decide_eq_true c20
                              clear c20
                              by_cases c21 : 0 ≤ (rd t152 x8_3)
                              · rw [if_pos c21] at H
                                have c21b0 : decide (0 ≤ (rd t152 x8_3)) = true := decide_eq_true c21
                                clear c21
                                by_cases c22 : (rd t152 x8_3) < (x3_2.length : Int)
                                · rw [if_pos c22] at H
                                  have c22b0 : decide ((rd t152 x8_3) < (x3_2.length : Int)) = true := decide_eq_true c22
                                  clear c22
                                  have H' := Aside0.mk H
                                  clear H
                                  obtain ⟨Ao23, co23, eo23⟩ := Kd.R_slice HO_7.out
                                  subst eo23
                                  have p155 : 0 ≤ (x8_3 : Int) := of_decide_eq_true (by first | (with_reducible assumption) | assumption)
                                  have q155 : x8_3 < (t152.length : Int) := of_decide_eq_true (by first | (with_reducible assumption) | assumption)
                                  obtain ⟨ad155, e155, hx155_0⟩ := Kd.at_int (Kd.R_reads' HO_7.out).2.2 x8_3 p155 q155
                                  cases e155
                                  replace p155 := eq_true p155
                                  replace q155 := eq_true q155
                                  obtain ⟨Ao24, co24, eo24⟩ := Kd.R_slice HO_3.out
                                  subst eo24
                                  have p156 : 0 ≤ ((rd t152 x8_3) : Int) := of_decide_eq_true (by first | (with_reducible assumption) | assumption)
                                  have q156 : (rd t152 x8_3) < (x3_2.length : Int) := of_decide_eq_true (by first | (with_reducible assumption) | assumption)
                                  obtain ⟨ad156, e156, hx156_0⟩ := Kd.at_bool (Kd.R_reads' HO_3.out).2.2 (rd t152 x8_3) p156 q156
                                  cases e156
                                  replace p156 := eq_true p156
                                  replace q156 := eq_true q156
                                  go_wp2
                                  go_roundg k3
                                  case measure => have := HK1.out; have := HK2.out; have := HK3.out; omega
                                  case rel => exact ⟨(rdOf false x3_2 (rd t152 x8_3)), (wrap64 (x8_3 + 1)), (by first | rfl | (simp; done) | (simp [*]; done)), (by first | rfl | (simp; done) | (simp [*]; done)), H', ⟨by have := HK1.out; have := HK2.out; have := HK3.out; omega⟩, ⟨by (with_reducible repeat (first | apply Kd.R_alloc | apply Kd.R_drewN | apply Kd.R_drew)); exact HO_3.out⟩, ⟨by (with_reducible repeat (first | apply Kd.R_alloc | apply Kd.R_drewN | apply Kd.R_drew)); exact HO_7.out⟩, ⟨by (with_reducible repeat (first | refine blk_drewN ?_ _ | refine blk_drew ?_ | refine blk_alloc ?_ _)); exact BK147.out⟩, ⟨by repeat (first | (with_reducible first | exact HB.out | apply below_alloc | apply pw_below_drewN | apply below_drew1 | refine below_set ?_ GE147.out) | exact HB.out)⟩⟩
                                · rw [if_neg c22] at H
                                  exact absurd H (by simp)
                              · rw [if_neg c21] at H
                                exact absurd H (by simp)
                            · rw [if_neg c20] at H
                              exact absurd H (by simp)
                          · replace c19 := Bool.eq_false_iff.mpr c19
                            subst c19
                            have H1 : (spec_SheetSafe.l2 k3 x3_2 x4_1 x5_2 false t152 (wrap64 (x8_3 + 1)) l0_0 l0_1) = some r := by rw [if_neg (show ¬ (false = true) by decide)] at H; exact H
                            clear H
                            have H := H1
                            clear H1
                            have H' := Aside0.mk H
                            clear H
                            obtain ⟨Ao25, co25, eo25⟩ := Kd.R_slice HO_7.out
                            subst eo25
                            go_wp2
                            go_roundg k3
                            case measure => have := HK1.out; have := HK2.out; have := HK3.out; omega
                            case rel => exact ⟨(false), (wrap64 (x8_3 + 1)), (by first | rfl | (simp; done) | (simp [*]; done)), (by first | rfl | (simp; done) | (simp [*]; done)), H', ⟨by have := HK1.out; have := HK2.out; have := HK3.out; omega⟩, ⟨by (with_reducible repeat (first | apply Kd.R_alloc | apply Kd.R_drewN | apply Kd.R_drew)); exact HO_3.out⟩, ⟨by (with_reducible repeat (first | apply Kd.R_alloc | apply Kd.R_drewN | apply Kd.R_drew)); exact HO_7.out⟩, ⟨by (with_reducible repeat (first | refine blk_drewN ?_ _ | refine blk_drew ?_ | refine blk_alloc ?_ _)); exact BK147.out⟩, ⟨by repeat (first | (with_reducible first | exact HB.out | apply below_alloc | apply pw_below_drewN | apply below_drew1 | refine below_set ?_ GE147.out) | exact HB.out)⟩⟩
                        · rw [if_neg c18] at H
                          have c18b0 : decide (x8_3 < (t152.length : Int)) = false := decide_eq_false c18
                          clear c18
                          by_cases c26 : 0 ≤ x5_2
                          · rw [if_pos c26] at H
                            have c26b0 : decide (0 ≤ x5_2) = true := decide_eq_true c26
                            clear c26
                            by_cases c27 : x5_2 < (x3_2.length : Int)
                            · rw [if_pos c27] at H
                              have c27b0 : decide (x5_2 < (x3_2.length : Int)) = true := decide_eq_true c27
                              clear c27
                              obtain ⟨y157, hy157⟩ : ∃ y_ : List Bool, y_ = (x3_2.set (x5_2 : Int).toNat x6_3) := ⟨_, rfl⟩
                              replace H : (spec_SheetSafe.l1 k3 y157 x4_1 (wrap64 (x5_2 + 1)) l0_0 l0_1) = some r := by first | (rw [hy157]; with_reducible exact H) | (have H2_ := (Option.bind_some _ _).symm.trans H; rw [hy157]; with_reducible exact H2_) | (have H2_ := (Option.bind_some _ _).symm.trans H; with_reducible exact H2_) | with_reducible exact H | (rw [hy157]; exact H) | exact H
                              have Ny157 := Aside0.mk hy157
                              clear hy157
                              have H' := Aside0.mk H
                              clear H
                              obtain ⟨Ao29, co29, eo29⟩ := Kd.R_slice HO_7.out
                              subst eo29
                              have p28 : 0 ≤ (x5_2 : Int) := of_decide_eq_true (by first | (with_reducible assumption) | assumption)
                              have q28 : (x5_2 : Int) < ((x3_2.length : Int) : Int) := of_decide_eq_true (by first | (with_reducible assumption) | assumption)
                              obtain ⟨go28, co28, eo28, gb28, gl28, cl28, HG28⟩ := Kd.R_form HO_3.out (by omega)
                              (first | cases eo28 | (injection eo28 with ea_ en_ ec_; (first | subst ea_ | (injection ea_ with ea_; subst ea_)); subst ec_; clear en_))
                              have GB28 := Aside0.mk gb28
                              have GG28 := Aside0.mk HG28
                              clear gb28 gl28 HG28
                              obtain ⟨hx28_0, hf28_0⟩ := Kd.R_celln false HO_3.out (x5_2 : Int) p28 q28
                              replace p28 := eq_true p28
                              replace q28 := eq_true q28
                              have HP30 := Kd.R_putg HO_3.out (x5_2 : Int) x6_3
                              go_wp2_with (first | ((with_reducible refine gate_store (t := 4) (p := 53) rfl ?_); refine store_event (t := 4) (p := 53) (v := ?vo_w31) (w1 := (wr.setCell ⟨go28, (x5_2 : Int).toNat, none⟩ (.bool x6_3))) ?hg ?ho ?hn ?hr ?_; (case ho => rfl); (case hg => rfl); (case hn => rfl); (case hr => first | (go_simp; done) | (go_simp; rfl)); intro w31 hw; have hg : wr.grownBy w31 (some go28) := (by rw [hw]; exact HP30.2); have hp_ : Kd.R Kd.bool 4 w31 w.heap.size (fun _ => True) (.slice (some ⟨go28, 0, none⟩) x3_2.length co28) y157 := (by rw [hw, Ny157.out]; exact HP30.1); clear HP30; have n0_ := Aside0.mk (hp_); have n1_ := Aside0.mk (Kd.R_over' (v := (.slice (some ⟨go28, 0, none⟩) x3_2.length co28)) (by (with_reducible repeat (first | apply Kd.R_alloc | apply Kd.R_drewN | apply Kd.R_drew)); exact HO_7.out) (Kd.R_typed HO_3.out) (by decide) hg); have n2_ := Aside0.mk (blk_grown (g := gb147) (o := .cells #[.slice A0_0 l0_0.length c0_0, .slice A0_1 l0_1.length c0_1] 30 (0, 0)) (by (with_reducible repeat (first | refine blk_drewN ?_ _ | refine blk_drew ?_ | refine blk_alloc ?_ _)); exact BK147.out) hg (Kd.R_ne HO_3.out BK147.out (by decide))); have n3_ := Aside0.mk ((by rw [hw]; exact below_set (HB.out) GB28.out : Below w.heap.size w w31)); clear HO_3; clear HO_7; clear BK147; clear HB; have HO_3 := n0_; have HO_7 := n1_; have BK147 := n2_; have HB := n3_; clear n0_ n1_ n2_ n3_; clear hg hw hp_))
                              go_roundg k3
                              case measure => have := HK1.out; have := HK2.out; have := HK3.out; omega
                              case rel => exact ⟨(y157), (wrap64 (x5_2 + 1)), (by first | rfl | (simp; done) | (simp [*]; done)), H', ⟨by have := HK1.out; have := HK2.out; have := HK3.out; omega⟩, ⟨by (with_reducible repeat (first | apply Kd.R_alloc | apply Kd.R_drewN | apply Kd.R_drew)); exact HO_3.out⟩, ⟨by (with_reducible repeat (first | refine blk_drewN ?_ _ | refine blk_drew ?_ | refine blk_alloc ?_ _)); exact BK147.out⟩, ⟨by repeat (first | (with_reducible first | exact HB.out | apply below_alloc | apply pw_below_drewN | apply below_drew1 | refine below_set ?_ GE147.out) | exact HB.out)⟩⟩
                            · rw [if_neg c27] at H
                              exact absurd H (by simp)
                          · rw [if_neg c26] at H
                            exact absurd H (by simp)
                  · rw [if_neg c14] at H
                    have c14b0 : decide (x5_2 < (l0_0.length : Int)) = false := decide_eq_false c14
                    clear c14
                    have H' := Aside0.mk H
                    clear H
                    have hcz32_0 : wr.cell? ⟨gb147, 0, none⟩ = some (.slice A0_0 l0_0.length c0_0) := (blk_cell BK147.out 0).trans rfl
                    have hcz32_1 : wr.cell? ⟨gb147, 1, none⟩ = some (.slice A0_1 l0_1.length c0_1) := (blk_cell BK147.out 1).trans rfl
                    have hfz32_0 := blk_frozen BK147.out 0
                    have hfz32_1 := blk_frozen BK147.out 1
                    go_wp2
                    go_roundg k2
                    case measure => have := HK1.out; have := HK2.out; omega
                    case rel => exact ⟨(x3_2), (wrap64 (x4_1 + 1)), (by first | rfl | (simp; done) | (simp [*]; done)), H', ⟨by have := HK1.out; have := HK2.out; omega⟩, ⟨by (with_reducible repeat (first | apply Kd.R_alloc | apply Kd.R_drewN | apply Kd.R_drew)); exact HO_3.out⟩, ⟨by (with_reducible repeat (first | refine blk_drewN ?_ _ | refine blk_drew ?_ | refine blk_alloc ?_ _)); exact BK147.out⟩, ⟨by repeat (first | (with_reducible first | exact HB.out | apply below_alloc | apply pw_below_drewN | apply below_drew1 | refine below_set ?_ GE147.out) | exact HB.out)⟩⟩
            · rw [if_neg c12] at H
              have c12b0 : decide (x4_1 ≤ (l0_0.length : Int)) = false := decide_eq_false c12
              clear c12
              have H' := Aside0.mk H
              clear H
              have hcz33_0 : wr.cell? ⟨gb147, 0, none⟩ = some (.slice A0_0 l0_0.length c0_0) := (blk_cell BK147.out 0).trans rfl
              have hcz33_1 : wr.cell? ⟨gb147, 1, none⟩ = some (.slice A0_1 l0_1.length c0_1) := (blk_cell BK147.out 1).trans rfl
              have hfz33_0 := blk_frozen BK147.out 0
              have hfz33_1 := blk_frozen BK147.out 1
              go_wp2
              go_loopg [9] k1 (fun kq v9 w' => ∃ (x9_2 : Int), v9 = .int .i64 x9_2 ∧ Aside0 (spec_SheetSafe.l3 kq x3_1 x9_2 = some r) ∧ Aside0 (kq ≤ k1) ∧ Aside0 (Kd.R Kd.bool 4 w' w.heap.size (fun _ => True) v150 x3_1) ∧ Aside0 (w'.heap[gb147]? = some (.cells #[(.slice A0_0 l0_0.length c0_0), (.slice A0_1 l0_1.length c0_1)] 30 (0, 0))) ∧ Aside0 (Below w.heap.size w w'))
              case atStart => exact ⟨(0), (by first | rfl | (simp; done) | (simp [*]; done)), H', ⟨Nat.le_refl _⟩, ⟨by (with_reducible repeat (first | apply Kd.R_alloc | apply Kd.R_drewN | apply Kd.R_drew)); exact HO_3.out⟩, ⟨by (with_reducible repeat (first | refine blk_drewN ?_ _ | refine blk_drew ?_ | refine blk_alloc ?_ _)); exact BK147.out⟩, ⟨by repeat (first | (with_reducible first | exact HB.out | apply below_alloc | apply pw_below_drewN | apply below_drew1 | refine below_set ?_ GE147.out) | exact HB.out)⟩⟩
              case round =>
                clear H'
                try clear c1
                try clear p1
                try clear q1
                try clear hx1
                try clear c2
                try clear p2
                try clear q2
                try clear hx2
                try clear hf2
                try clear c3
                try clear c4
                try clear c4b0
                try clear c4b1
                try clear c5
                try clear c5b0
                try clear c5b1
                try clear p6
                try clear c12
                try clear c12b0
                try clear c14
                try clear c14b0
                try clear c15
                try clear p15
                try clear q15
                try clear hx15
                try clear c18
                try clear c18b0
                try clear c19
                try clear c20
                try clear c20b0
                try clear c21
                try clear c21b0
                try clear c22
                try clear c22b0
                try clear c26
                try clear c26b0
                try clear c27
                try clear c27b0
                try clear p28
                try clear q28
                try clear hx28
                try clear hf28
                try clear hcz13_0
                try clear hcz13_1
                try clear hcz16_0
                try clear hcz16_1
                try clear hcz32_0
                try clear hcz32_1
                try clear hcz33_0
                try clear hcz33_1
                try clear hcz7_0
                try clear hcz7_1
                try clear hcz9_0
                try clear hcz9_1
                try clear hfz13_0
                try clear hfz13_1
                try clear hfz16_0
                try clear hfz16_1
                try clear hfz32_0
                try clear hfz32_1
                try clear hfz33_0
                try clear hfz33_1
                try clear hfz7_0
                try clear hfz7_1
                try clear hfz9_0
                try clear hfz9_1
                try clear hx155_0
                try clear hx156_0
                try clear hx28_0
                try clear p155
                try clear p156
                try clear p2
                try clear p28
                try clear q155
                try clear q156
                try clear q28
                obtain ⟨x9_2, rfl, HA, HK2, HO_3, BK147, HB⟩ := hrel
                cases gk with
                | zero => exact absurd HA.out (by simp [spec_SheetSafe.l3])
                | succ k2 =>
                  have H := HA.out
                  clear HA
                  simp only [spec_SheetSafe.l3] at H
                  by_cases c34 : x9_2 < (x3_1.length : Int)
                  · rw [if_pos c34] at H
                    have c34b0 : decide (x9_2 < (x3_1.length : Int)) = true := decide_eq_true c34
                    clear c34
                    by_cases c35 : 0 ≤ x9_2
                    · rw [if_pos c35] at H
                      have c35b0 : decide (0 ≤ x9_2) = true := decide_eq_true c35
                      clear c35
                      obtain ⟨bq36, hbq36⟩ : ∃ b_ : Bool, b_ = (rdOf false x3_1 x9_2) := ⟨_, rfl⟩
                      replace H : (if bq36 = true then (spec_SheetSafe.l3 k2 x3_1 (wrap64 (x9_2 + 1))) else (some false)) = some r := by rw [← hbq36] at H; exact H
                      have Nbq36 := Aside0.mk hbq36
                      clear hbq36
                      by_cases c37 : bq36 = true
                      · subst c37
                        have H1 : (spec_SheetSafe.l3 k2 x3_1 (wrap64 (x9_2 + 1))) = some r := by rw [if_pos rfl] at H; exact H
                        clear H
                        have H := H1
                        clear H1
                        have H' := Aside0.mk H
                        clear H
                        obtain ⟨Ao38, co38, eo38⟩ := Kd.R_slice HO_3.out
                        subst eo38
                        have p158 : 0 ≤ (x9_2 : Int) := of_decide_eq_true (by first | (with_reducible assumption) | assumption)
                        have q158 : x9_2 < (x3_1.length : Int) := of_decide_eq_true (by first | (with_reducible assumption) | assumption)
                        obtain ⟨ad158, e158, hx158_0⟩ := Kd.at_bool (Kd.R_reads' HO_3.out).2.2 x9_2 p158 q158
                        (try rw [← Nbq36.out] at hx158_0)
                        cases e158
                        replace p158 := eq_true p158
                        replace q158 := eq_true q158
                        go_wp2
                        go_roundg k2
                        case measure => have := HK1.out; have := HK2.out; omega
                        case rel => exact ⟨(wrap64 (x9_2 + 1)), (by first | rfl | (simp; done) | (simp [*]; done)), H', ⟨by have := HK1.out; have := HK2.out; omega⟩, ⟨by (with_reducible repeat (first | apply Kd.R_alloc | apply Kd.R_drewN | apply Kd.R_drew)); exact HO_3.out⟩, ⟨by (with_reducible repeat (first | refine blk_drewN ?_ _ | refine blk_drew ?_ | refine blk_alloc ?_ _)); exact BK147.out⟩, ⟨by repeat (first | (with_reducible first | exact HB.out | apply below_alloc | apply pw_below_drewN | apply below_drew1 | refine below_set ?_ GE147.out) | exact HB.out)⟩⟩
                      · replace c37 := Bool.eq_false_iff.mpr c37
                        subst c37
                        have H1 : (some false) = some r := by rw [if_neg (show ¬ (false = true) by decide)] at H; exact H
                        clear H
                        have H := H1
                        clear H1
                        obtain rfl := Option.some.inj H
                        obtain ⟨Ao39, co39, eo39⟩ := Kd.R_slice HO_3.out
                        subst eo39
                        have p158 : 0 ≤ (x9_2 : Int) := of_decide_eq_true (by first | (with_reducible assumption) | assumption)
                        have q158 : x9_2 < (x3_1.length : Int) := of_decide_eq_true (by first | (with_reducible assumption) | assumption)
                        obtain ⟨ad158, e158, hx158_0⟩ := Kd.at_bool (Kd.R_reads' HO_3.out).2.2 x9_2 p158 q158
                        (try rw [← Nbq36.out] at hx158_0)
                        cases e158
                        replace p158 := eq_true p158
                        replace q158 := eq_true q158
                        go_wp2
                        go_ret
                        exact ⟨by first | rfl | (simp [errW_none, errW_some] <;> rfl) | (simp [*, errW_none, errW_some] <;> rfl), by repeat (first | (with_reducible first | exact HB.out | apply below_alloc | apply pw_below_drewN | apply below_drew1 | refine below_set ?_ GE147.out) | exact HB.out)⟩
                    · rw [if_neg c35] at H
                      exact absurd H (by simp)
                  · rw [if_neg c34] at H
                    have c34b0 : decide (x9_2 < (x3_1.length : Int)) = false := decide_eq_false c34
                    clear c34
                    obtain rfl := Option.some.inj H
                    obtain ⟨Ao40, co40, eo40⟩ := Kd.R_slice HO_3.out
                    subst eo40
                    go_wp2
                    go_ret
                    exact ⟨by first | rfl | (simp [errW_none, errW_some] <;> rfl) | (simp [*, errW_none, errW_some] <;> rfl), by repeat (first | (with_reducible first | exact HB.out | apply below_alloc | apply pw_below_drewN | apply below_drew1 | refine below_set ?_ GE147.out) | exact HB.out)⟩
      · rw [if_neg c5] at H
        exact absurd H (by simp)
    · rw [if_neg c4] at H
      exact absurd H (by simp)
  · replace c3 := Bool.eq_false_iff.mpr c3
    subst c3
    have H1 : (some false) = some r := by rw [if_neg (show ¬ (false = true) by decide)] at H; exact H
    clear H
    have H := H1
    clear H1
    obtain rfl := Option.some.inj H
    go_enter Try.func15, Try.ntmps15
    go_wp2_with (first | ((with_reducible refine gate_dst (N := 1) rfl ?_); refine box_event ?hg (N := 1) ?hd (cs := #[.slice A0_0 l0_0.length c0_0, .slice A0_1 l0_1.length c0_1]) (t := 30) ?hr ?_; (case hd => rfl); (case hg => rfl); (case hr => first | (go_simp; done) | (go_simp; rfl)); intro gb147 hg w41 hbox hb; have n0_ := Aside0.mk (below_step (by repeat (first | (with_reducible first | exact HB.out | apply below_alloc | apply pw_below_drewN | apply below_drew1) | exact HB.out)) hb); have n1_ := Aside0.mk (hbox); have n2_ := Aside0.mk ((by rw [hg]; exact (below_size (by repeat (first | (with_reducible first | exact HB.out | apply below_alloc | apply pw_below_drewN | apply below_drew1) | exact HB.out))) : w.heap.size ≤ gb147)); have n3_ := Aside0.mk ((by rw [hg]; exact (below_size (by repeat (first | (with_reducible first | exact HB.out | apply below_alloc | apply pw_below_drewN | apply below_drew1) | exact HB.out))) : w.heap.size ≤ gb147)); clear HB; have HB := n0_; have BK147 := n1_; have GW147 := n2_; have GE147 := n3_; clear n0_ n1_ n2_ n3_; clear hb hbox hg; have hcz42_0 : w41.cell? ⟨gb147, 0, none⟩ = some (.slice A0_0 l0_0.length c0_0) := (blk_cell BK147.out 0).trans rfl; have hcz42_1 : w41.cell? ⟨gb147, 1, none⟩ = some (.slice A0_1 l0_1.length c0_1) := (blk_cell BK147.out 1).trans rfl; have hfz42_0 := blk_frozen BK147.out 0; have hfz42_1 := blk_frozen BK147.out 1) | ((with_reducible refine gate_callee (f := 56) rfl ?_); refine goesL_ (some 11) rfl rfl Try.func56 (by kernel_rfl) rfl #[.agg #[.slice A0_0 l0_0.length c0_0, .slice A0_1 l0_1.length c0_1]] rfl (by (try simp only [List.map_toArray, List.map_cons, List.map_nil]); first | done | rfl | (simp only [List.length_drop, List.length_take]; rfl)) ?_; (with_reducible refine (spec_SheetOk.calls k _ _ l0_0 _ _ l0_1 false _ ?side1 ?side2 ?side3 ?side4 A2.out).mono ?_); (case side1 => repeat (first | exact (Kd.C_below HR0_0.out HB.out) | (with_reducible refine Kd.C_alloc ?_ _) | (with_reducible refine Kd.C_drewN ?_ _) | (with_reducible refine Kd.C_drew ?_))); (case side2 => exact HC0_0.out); (case side3 => repeat (first | exact (Kd.C_below HR0_1.out HB.out) | (with_reducible refine Kd.C_alloc ?_ _) | (with_reducible refine Kd.C_drewN ?_ _) | (with_reducible refine Kd.C_drew ?_))); (case side4 => exact HC0_1.out); rintro e w43 ⟨rfl, hb⟩; refine ⟨_, rfl, ?_⟩; have n0_ := Aside0.mk (blk_below (g := gb147) (o := .cells #[.slice A0_0 l0_0.length c0_0, .slice A0_1 l0_1.length c0_1] 30 (0, 0)) (by (with_reducible repeat (first | refine blk_drewN ?_ _ | refine blk_drew ?_ | refine blk_alloc ?_ _)); exact BK147.out) hb); have n1_ := Aside0.mk (below_step (by repeat (first | (with_reducible first | exact HB.out | apply below_alloc | apply pw_below_drewN | apply below_drew1 | refine below_set ?_ GE147.out) | exact HB.out)) hb); clear BK147; clear HB; have BK147 := n0_; have HB := n1_; clear n0_ n1_; (try clear hb); (try clear hb2); (try clear hk); (try clear hi)))
    go_ret
    exact ⟨by first | rfl | (simp [errW_none, errW_some] <;> rfl) | (simp [*, errW_none, errW_some] <;> rfl), by repeat (first | (with_reducible first | exact HB.out | apply below_alloc | apply pw_below_drewN | apply below_drew1 | refine below_set ?_ GE147.out) | exact HB.out)⟩
end Go.Proofs.Ythfemojaabejiaa.G
end
section
namespace Go.Proofs.Ythfemojaabejiaa.G
open Go.RowKit Go.Proofs.YthfemojaabejiaaW.PrintWords Go.Proofs.YthfemojaabejiaaW.PrintLast Go.Proofs.YthfemojaabejiaaW.PrintMore
attribute [local go_sem] max2_int min2_int max_two min_two max_three min_three max_four min_four
set_option linter.unusedVariables false
set_option linter.unusedSimpArgs false
def impl_Sheet_keys.l0 : Nat → List Int → Int → Int → Option (List Int)
  | 0, _, _, _ => none
  | k + 1, x3, x7, x8 => if x8 < x7 then (if x3.length < 17592186044416 then (impl_Sheet_keys.l0 k (x3 ++ [x8]) x7 (wrap64 (x8 + 1))) else (none)) else (some x3)
def impl_Sheet_keys.f (k : Nat) (l0_0 : List Bool) (l0_1 : List (S141)) : Option (List Int) := impl_Sheet_keys.l0 k ([] : List Int) (l0_0.length : Int) 0
set_option maxHeartbeats 8000000 in
set_option maxRecDepth 100000 in
theorem impl_Sheet_keys.calls (k : Nat) (A0_0 : Option Addr) (c0_0 : Nat) (l0_0 : List Bool) (A0_1 : Option Addr) (c0_1 : Nat) (l0_1 : List (S141)) (r : List Int) (w : World) (hr0_0 : Kd.C Kd.bool w A0_0 l0_0.length l0_0) (hc0_0 : l0_0.length ≤ c0_0) (hr0_1 : Kd.C k141 w A0_1 l0_1.length l0_1) (hc0_1 : l0_1.length ≤ c0_1) (h : impl_Sheet_keys.f k l0_0 l0_1 = some r) :
    Calls Try.prog 63 #[.agg #[.slice A0_0 l0_0.length c0_0, .slice A0_1 l0_1.length c0_1]] w fun e w' => ∃ v0_ : Value, e = .returned (v0_) ∧ Kd.R (Kd.int .i64) 3 w' w.heap.size (fun _ => True) v0_ r ∧ Below w.heap.size w w' := by
  have hu30 := Try.underlying30
  have HR0_0 := Aside0.mk hr0_0
  have HC0_0 := Aside0.mk hc0_0
  clear hr0_0 hc0_0
  have HR0_1 := Aside0.mk hr0_1
  have HC0_1 := Aside0.mk hc0_1
  clear hr0_1 hc0_1
  have HB := Aside0.mk (Below.refl w.heap.size w)
  have H : (impl_Sheet_keys.l0 k ([] : List Int) (l0_0.length : Int) 0) = some r := h
  clear h
  have H' := Aside0.mk H
  clear H
  go_enter Try.func63, Try.ntmps63
  go_wp2_with (first | ((with_reducible refine gate_dst (N := 1) rfl ?_); refine box_event ?hg (N := 1) ?hd (cs := #[.slice A0_0 l0_0.length c0_0, .slice A0_1 l0_1.length c0_1]) (t := 30) ?hr ?_; (case hd => rfl); (case hg => rfl); (case hr => first | (go_simp; done) | (go_simp; rfl)); intro gb226 hg w2 hbox hb; have n0_ := Aside0.mk (below_step (by repeat (first | (with_reducible first | exact HB.out | apply below_alloc | apply pw_below_drewN | apply below_drew1) | exact HB.out)) hb); have n1_ := Aside0.mk (hbox); have n2_ := Aside0.mk ((by rw [hg]; exact (below_size (by repeat (first | (with_reducible first | exact HB.out | apply below_alloc | apply pw_below_drewN | apply below_drew1) | exact HB.out))) : w.heap.size ≤ gb226)); have n3_ := Aside0.mk ((by rw [hg]; exact (below_size (by repeat (first | (with_reducible first | exact HB.out | apply below_alloc | apply pw_below_drewN | apply below_drew1) | exact HB.out))) : w.heap.size ≤ gb226)); clear HB; have HB := n0_; have BK226 := n1_; have GW226 := n2_; have GE226 := n3_; clear n0_ n1_ n2_ n3_; clear hb hbox hg; have hcz3_0 : w2.cell? ⟨gb226, 0, none⟩ = some (.slice A0_0 l0_0.length c0_0) := (blk_cell BK226.out 0).trans rfl; have hcz3_1 : w2.cell? ⟨gb226, 1, none⟩ = some (.slice A0_1 l0_1.length c0_1) := (blk_cell BK226.out 1).trans rfl; have hfz3_0 := blk_frozen BK226.out 0; have hfz3_1 := blk_frozen BK226.out 1))
  go_loopg [3, 8] k (fun kq v3 v8 w' => ∃ (x3_1 : List Int) (x8_1 : Int), v8 = .int .i64 x8_1 ∧ Aside0 (impl_Sheet_keys.l0 kq x3_1 (l0_0.length : Int) x8_1 = some r) ∧ Aside0 (kq ≤ k) ∧ Aside0 (Kd.R (Kd.int .i64) 3 w' w.heap.size (fun _ => True) v3 x3_1) ∧ Aside0 (w'.heap[gb226]? = some (.cells #[(.slice A0_0 l0_0.length c0_0), (.slice A0_1 l0_1.length c0_1)] 30 (0, 0))) ∧ Aside0 (Below w.heap.size w w'))
  case atStart => exact ⟨(([] : List Int)), (0), (by first | rfl | (simp; done) | (simp [*]; done)), H', ⟨Nat.le_refl _⟩, ⟨by first | exact Kd.R_nil _ _ _ _ _ | exact Kd.N_nil _ _ _ _ _ | exact Kd.V_nil _ _ _ _ _ | exact Kd.Q_nil _ _ _ _ _ | exact Kd.S_nil _ _ _ _ _⟩, ⟨by (with_reducible repeat (first | refine blk_drewN ?_ _ | refine blk_drew ?_ | refine blk_alloc ?_ _)); exact BK226.out⟩, ⟨by repeat (first | (with_reducible first | exact HB.out | apply below_alloc | apply pw_below_drewN | apply below_drew1 | refine below_set ?_ GE226.out) | exact HB.out)⟩⟩
  case round =>
    clear H'
    try clear p2
    try clear hcz3_0
    try clear hcz3_1
    try clear hfz3_0
    try clear hfz3_1
    obtain ⟨x3_1, x8_1, rfl, HA, HK1, HO_3, BK226, HB⟩ := hrel
    cases gk with
    | zero => exact absurd HA.out (by simp [impl_Sheet_keys.l0])
    | succ k1 =>
      have H := HA.out
      clear HA
      simp only [impl_Sheet_keys.l0] at H
      by_cases c4 : x8_1 < (l0_0.length : Int)
      · rw [if_pos c4] at H
        have c4b0 : decide (x8_1 < (l0_0.length : Int)) = true := decide_eq_true c4
        clear c4
        by_cases c5 : x3_1.length < 17592186044416
        · rw [if_pos c5] at H
          have LMc5 := Aside0.mk c5
          clear c5
          obtain ⟨y227, hy227⟩ : ∃ y_ : List Int, y_ = (x3_1 ++ [x8_1]) := ⟨_, rfl⟩
          replace H : (impl_Sheet_keys.l0 k1 y227 (l0_0.length : Int) (wrap64 (x8_1 + 1))) = some r := by first | (rw [hy227]; with_reducible exact H) | (have H2_ := (Option.bind_some _ _).symm.trans H; rw [hy227]; with_reducible exact H2_) | (have H2_ := (Option.bind_some _ _).symm.trans H; with_reducible exact H2_) | with_reducible exact H | (rw [hy227]; exact H) | exact H
          have Ny227 := Aside0.mk hy227
          clear hy227
          have H' := Aside0.mk H
          clear H
          go_wp2_with (first | ((with_reducible refine gate_builtin (b := .append) (xs := #[.tmp 11, .tmp 13]) rfl ?_); at_builtin; refine Kd.R_append (Kd.int .i64) (w0 := w) w.heap.size rfl (.tmp 11) (.tmp 13) 34 3 (.int .i64 0) 8 rfl Try.underlying34 info3 rfl (by decide) (by omega) u3 x3_1 x8_1 [.int .i64 x8_1] (fun _ => True) (fun _ => False) rfl rfl ?aP (fun _ hk => hk.elim) ?aF ?aO ?aB ?aS ?aL ?_; (case aP => exact rfl); (case aB => exact (by repeat (first | (with_reducible first | exact HB.out | apply below_alloc | apply pw_below_drewN | apply below_drew1 | refine below_set ?_ GE226.out) | exact HB.out))); (case aF => exact (fun _ _ => trivial)); (case aO => exact (by (with_reducible repeat (first | apply Kd.R_alloc | apply Kd.R_drewN | apply Kd.R_drew)); exact HO_3.out)); (case aS => exact (below_size (by repeat (first | (with_reducible first | exact HB.out | apply below_alloc | apply pw_below_drewN | apply below_drew1 | refine below_set ?_ GE226.out) | exact HB.out)))); (case aL => have := LMc5.out; omega); intro v228 w6 ho hb hg hat; rw [← Ny227.out] at ho; have n0_ := Aside0.mk (blk_grown (g := gb226) (o := .cells #[.slice A0_0 l0_0.length c0_0, .slice A0_1 l0_1.length c0_1] 30 (0, 0)) (by (with_reducible repeat (first | refine blk_drewN ?_ _ | refine blk_drew ?_ | refine blk_alloc ?_ _)); exact BK226.out) hg (Kd.R_ne HO_3.out BK226.out (by decide))); have n1_ := Aside0.mk (hb); have n2_ := Aside0.mk (ho); clear BK226; clear HB; clear HO_3; have BK226 := n0_; have HB := n1_; have HO229 := n2_; clear n0_ n1_ n2_; clear ho hb hg hat))
          go_roundg k1
          case measure => have := HK1.out; omega
          case rel => exact ⟨(y227), (wrap64 (x8_1 + 1)), (by first | rfl | (simp; done) | (simp [*]; done)), H', ⟨by have := HK1.out; omega⟩, ⟨by (with_reducible repeat (first | apply Kd.R_alloc | apply Kd.R_drewN | apply Kd.R_drew)); exact HO229.out⟩, ⟨by (with_reducible repeat (first | refine blk_drewN ?_ _ | refine blk_drew ?_ | refine blk_alloc ?_ _)); exact BK226.out⟩, ⟨by repeat (first | (with_reducible first | exact HB.out | apply below_alloc | apply pw_below_drewN | apply below_drew1 | refine below_set ?_ GE226.out) | exact HB.out)⟩⟩
        · rw [if_neg c5] at H
          exact absurd H (by simp)
      · rw [if_neg c4] at H
        have c4b0 : decide (x8_1 < (l0_0.length : Int)) = false := decide_eq_false c4
        clear c4
        obtain rfl := Option.some.inj H
        go_wp2
        go_ret
        exact ⟨_, by first | rfl | (simp [errW_none, errW_some] <;> rfl) | (simp [*, errW_none, errW_some] <;> rfl), by (with_reducible repeat (first | apply Kd.R_alloc | apply Kd.R_drewN | apply Kd.R_drew)); exact HO_3.out, by repeat (first | (with_reducible first | exact HB.out | apply below_alloc | apply pw_below_drewN | apply below_drew1 | refine below_set ?_ GE226.out) | exact HB.out)⟩
end Go.Proofs.Ythfemojaabejiaa.G
end
section
namespace Go.Proofs.Ythfemojaabejiaa.G
open Go.RowKit Go.Proofs.YthfemojaabejiaaW.PrintWords Go.Proofs.YthfemojaabejiaaW.PrintLast Go.Proofs.YthfemojaabejiaaW.PrintMore
attribute [local go_sem] max2_int min2_int max_two min_two max_three min_three max_four min_four
set_option linter.unusedVariables false
set_option linter.unusedSimpArgs false
def impl_Sheet_makes.f (l0_0 : List Bool) (l0_1 : List (S141)) (a1 : Int) : Option (Bool) := (impl_Sheet_has.f l0_0 l0_1 a1).bind fun t212 => (if t212 = true then (if 0 ≤ a1 then (if a1 < (l0_0.length : Int) then (some (rdOf false l0_0 a1)) else (none)) else (none)) else (some false))
set_option maxHeartbeats 8000000 in
set_option maxRecDepth 100000 in
theorem impl_Sheet_makes.calls (A0_0 : Option Addr) (c0_0 : Nat) (l0_0 : List Bool) (A0_1 : Option Addr) (c0_1 : Nat) (l0_1 : List (S141)) (a1 : Int) (r : Bool) (w : World) (hr0_0 : Kd.C Kd.bool w A0_0 l0_0.length l0_0) (hc0_0 : l0_0.length ≤ c0_0) (hr0_1 : Kd.C k141 w A0_1 l0_1.length l0_1) (hc0_1 : l0_1.length ≤ c0_1) (h : impl_Sheet_makes.f l0_0 l0_1 a1 = some r) :
    Calls Try.prog 115 #[.agg #[.slice A0_0 l0_0.length c0_0, .slice A0_1 l0_1.length c0_1], .int .i64 a1] w fun e w' => e = .returned (.bool r) ∧ Below w.heap.size w w' := by
  have hu30 := Try.underlying30
  have HR0_0 := Aside0.mk hr0_0
  have HC0_0 := Aside0.mk hc0_0
  clear hr0_0 hc0_0
  have HR0_1 := Aside0.mk hr0_1
  have HC0_1 := Aside0.mk hc0_1
  clear hr0_1 hc0_1
  have HB := Aside0.mk (Below.refl w.heap.size w)
  have H : ((impl_Sheet_has.f l0_0 l0_1 a1).bind fun t212 => (if t212 = true then (if 0 ≤ a1 then (if a1 < (l0_0.length : Int) then (some (rdOf false l0_0 a1)) else (none)) else (none)) else (some false))) = some r := h
  clear h
  replace H := Option.bind_eq_some_iff.mp H
  obtain ⟨t212, A30, H⟩ := H
  replace H : (if t212 = true then (if 0 ≤ a1 then (if a1 < (l0_0.length : Int) then (some (rdOf false l0_0 a1)) else (none)) else (none)) else (some false)) = some r := H
  have A3 := Aside0.mk A30
  clear A30
  by_cases c4 : t212 = true
  · subst c4
    have H1 : (if 0 ≤ a1 then (if a1 < (l0_0.length : Int) then (some (rdOf false l0_0 a1)) else (none)) else (none)) = some r := by rw [if_pos rfl] at H; exact H
    clear H
    have H := H1
    clear H1
    by_cases c5 : 0 ≤ a1
    · rw [if_pos c5] at H
      have c5b0 : decide (0 ≤ a1) = true := decide_eq_true c5
      clear c5
      by_cases c6 : a1 < (l0_0.length : Int)
      · rw [if_pos c6] at H
        have c6b0 : decide (a1 < (l0_0.length : Int)) = true := decide_eq_true c6
        clear c6
        obtain rfl := Option.some.inj H
        go_enter Try.func115, Try.ntmps115
        go_wp2_with (first | ((with_reducible refine gate_dst (N := 2) rfl ?_); refine box_event ?hg (N := 2) ?hd (cs := #[.slice A0_0 l0_0.length c0_0, .slice A0_1 l0_1.length c0_1]) (t := 30) ?hr ?_; (case hd => rfl); (case hg => rfl); (case hr => first | (go_simp; done) | (go_simp; rfl)); intro gb211 hg w7 hbox hb; have n0_ := Aside0.mk (below_step (by repeat (first | (with_reducible first | exact HB.out | apply below_alloc | apply pw_below_drewN | apply below_drew1) | exact HB.out)) hb); have n1_ := Aside0.mk (hbox); have n2_ := Aside0.mk ((by rw [hg]; exact (below_size (by repeat (first | (with_reducible first | exact HB.out | apply below_alloc | apply pw_below_drewN | apply below_drew1) | exact HB.out))) : w.heap.size ≤ gb211)); have n3_ := Aside0.mk ((by rw [hg]; exact (below_size (by repeat (first | (with_reducible first | exact HB.out | apply below_alloc | apply pw_below_drewN | apply below_drew1) | exact HB.out))) : w.heap.size ≤ gb211)); clear HB; have HB := n0_; have BK211 := n1_; have GW211 := n2_; have GE211 := n3_; clear n0_ n1_ n2_ n3_; clear hb hbox hg; have hcz8_0 : w7.cell? ⟨gb211, 0, none⟩ = some (.slice A0_0 l0_0.length c0_0) := (blk_cell BK211.out 0).trans rfl; have hcz8_1 : w7.cell? ⟨gb211, 1, none⟩ = some (.slice A0_1 l0_1.length c0_1) := (blk_cell BK211.out 1).trans rfl; have hfz8_0 := blk_frozen BK211.out 0; have hfz8_1 := blk_frozen BK211.out 1) | ((with_reducible refine gate_callee (f := 101) rfl ?_); refine goesL_ (some 7) rfl rfl Try.func101 (by kernel_rfl) rfl #[.agg #[.slice A0_0 l0_0.length c0_0, .slice A0_1 l0_1.length c0_1], .int .i64 a1] rfl (by (try simp only [List.map_toArray, List.map_cons, List.map_nil]); first | done | rfl | (simp only [List.length_drop, List.length_take]; rfl)) ?_; (with_reducible refine (impl_Sheet_has.calls _ _ l0_0 _ _ l0_1 a1 true _ ?side1 ?side2 ?side3 ?side4 A3.out).mono ?_); (case side1 => repeat (first | exact (Kd.C_below HR0_0.out HB.out) | (with_reducible refine Kd.C_alloc ?_ _) | (with_reducible refine Kd.C_drewN ?_ _) | (with_reducible refine Kd.C_drew ?_))); (case side2 => exact HC0_0.out); (case side3 => repeat (first | exact (Kd.C_below HR0_1.out HB.out) | (with_reducible refine Kd.C_alloc ?_ _) | (with_reducible refine Kd.C_drewN ?_ _) | (with_reducible refine Kd.C_drew ?_))); (case side4 => exact HC0_1.out); rintro e w9 ⟨rfl, hb⟩; refine ⟨_, rfl, ?_⟩; have n0_ := Aside0.mk (blk_below (g := gb211) (o := .cells #[.slice A0_0 l0_0.length c0_0, .slice A0_1 l0_1.length c0_1] 30 (0, 0)) (by (with_reducible repeat (first | refine blk_drewN ?_ _ | refine blk_drew ?_ | refine blk_alloc ?_ _)); exact BK211.out) hb); have n1_ := Aside0.mk (below_step (by repeat (first | (with_reducible first | exact HB.out | apply below_alloc | apply pw_below_drewN | apply below_drew1 | refine below_set ?_ GE211.out) | exact HB.out)) hb); clear BK211; clear HB; have BK211 := n0_; have HB := n1_; clear n0_ n1_; (try clear hb); (try clear hb2); (try clear hk); (try clear hi); have hcz10_0 : w9.cell? ⟨gb211, 0, none⟩ = some (.slice A0_0 l0_0.length c0_0) := (blk_cell BK211.out 0).trans rfl; have hcz10_1 : w9.cell? ⟨gb211, 1, none⟩ = some (.slice A0_1 l0_1.length c0_1) := (blk_cell BK211.out 1).trans rfl; have hfz10_0 := blk_frozen BK211.out 0; have hfz10_1 := blk_frozen BK211.out 1; have p213 : 0 ≤ (a1 : Int) := of_decide_eq_true (by first | (with_reducible assumption) | assumption); have q213 : a1 < (l0_0.length : Int) := of_decide_eq_true (by first | (with_reducible assumption) | assumption); obtain ⟨ad213, e213, hx213_0⟩ := Kd.at_bool HR0_0.out a1 p213 q213; cases e213; replace hx213_0 := (HB.out.cell (World.block_lt_of_cell? w _ hx213_0)).trans hx213_0; replace p213 := eq_true p213; replace q213 := eq_true q213))
        go_ret
        exact ⟨by first | rfl | (simp [errW_none, errW_some] <;> rfl) | (simp [*, errW_none, errW_some] <;> rfl), by repeat (first | (with_reducible first | exact HB.out | apply below_alloc | apply pw_below_drewN | apply below_drew1 | refine below_set ?_ GE211.out) | exact HB.out)⟩
      · rw [if_neg c6] at H
        exact absurd H (by simp)
    · rw [if_neg c5] at H
      exact absurd H (by simp)
  · replace c4 := Bool.eq_false_iff.mpr c4
    subst c4
    have H1 : (some false) = some r := by rw [if_neg (show ¬ (false = true) by decide)] at H; exact H
    clear H
    have H := H1
    clear H1
    obtain rfl := Option.some.inj H
    go_enter Try.func115, Try.ntmps115
    go_wp2_with (first | ((with_reducible refine gate_dst (N := 2) rfl ?_); refine box_event ?hg (N := 2) ?hd (cs := #[.slice A0_0 l0_0.length c0_0, .slice A0_1 l0_1.length c0_1]) (t := 30) ?hr ?_; (case hd => rfl); (case hg => rfl); (case hr => first | (go_simp; done) | (go_simp; rfl)); intro gb211 hg w11 hbox hb; have n0_ := Aside0.mk (below_step (by repeat (first | (with_reducible first | exact HB.out | apply below_alloc | apply pw_below_drewN | apply below_drew1) | exact HB.out)) hb); have n1_ := Aside0.mk (hbox); have n2_ := Aside0.mk ((by rw [hg]; exact (below_size (by repeat (first | (with_reducible first | exact HB.out | apply below_alloc | apply pw_below_drewN | apply below_drew1) | exact HB.out))) : w.heap.size ≤ gb211)); have n3_ := Aside0.mk ((by rw [hg]; exact (below_size (by repeat (first | (with_reducible first | exact HB.out | apply below_alloc | apply pw_below_drewN | apply below_drew1) | exact HB.out))) : w.heap.size ≤ gb211)); clear HB; have HB := n0_; have BK211 := n1_; have GW211 := n2_; have GE211 := n3_; clear n0_ n1_ n2_ n3_; clear hb hbox hg; have hcz12_0 : w11.cell? ⟨gb211, 0, none⟩ = some (.slice A0_0 l0_0.length c0_0) := (blk_cell BK211.out 0).trans rfl; have hcz12_1 : w11.cell? ⟨gb211, 1, none⟩ = some (.slice A0_1 l0_1.length c0_1) := (blk_cell BK211.out 1).trans rfl; have hfz12_0 := blk_frozen BK211.out 0; have hfz12_1 := blk_frozen BK211.out 1) | ((with_reducible refine gate_callee (f := 101) rfl ?_); refine goesL_ (some 7) rfl rfl Try.func101 (by kernel_rfl) rfl #[.agg #[.slice A0_0 l0_0.length c0_0, .slice A0_1 l0_1.length c0_1], .int .i64 a1] rfl (by (try simp only [List.map_toArray, List.map_cons, List.map_nil]); first | done | rfl | (simp only [List.length_drop, List.length_take]; rfl)) ?_; (with_reducible refine (impl_Sheet_has.calls _ _ l0_0 _ _ l0_1 a1 false _ ?side1 ?side2 ?side3 ?side4 A3.out).mono ?_); (case side1 => repeat (first | exact (Kd.C_below HR0_0.out HB.out) | (with_reducible refine Kd.C_alloc ?_ _) | (with_reducible refine Kd.C_drewN ?_ _) | (with_reducible refine Kd.C_drew ?_))); (case side2 => exact HC0_0.out); (case side3 => repeat (first | exact (Kd.C_below HR0_1.out HB.out) | (with_reducible refine Kd.C_alloc ?_ _) | (with_reducible refine Kd.C_drewN ?_ _) | (with_reducible refine Kd.C_drew ?_))); (case side4 => exact HC0_1.out); rintro e w13 ⟨rfl, hb⟩; refine ⟨_, rfl, ?_⟩; have n0_ := Aside0.mk (blk_below (g := gb211) (o := .cells #[.slice A0_0 l0_0.length c0_0, .slice A0_1 l0_1.length c0_1] 30 (0, 0)) (by (with_reducible repeat (first | refine blk_drewN ?_ _ | refine blk_drew ?_ | refine blk_alloc ?_ _)); exact BK211.out) hb); have n1_ := Aside0.mk (below_step (by repeat (first | (with_reducible first | exact HB.out | apply below_alloc | apply pw_below_drewN | apply below_drew1 | refine below_set ?_ GE211.out) | exact HB.out)) hb); clear BK211; clear HB; have BK211 := n0_; have HB := n1_; clear n0_ n1_; (try clear hb); (try clear hb2); (try clear hk); (try clear hi)))
    go_ret
    exact ⟨by first | rfl | (simp [errW_none, errW_some] <;> rfl) | (simp [*, errW_none, errW_some] <;> rfl), by repeat (first | (with_reducible first | exact HB.out | apply below_alloc | apply pw_below_drewN | apply below_drew1 | refine below_set ?_ GE211.out) | exact HB.out)⟩
end Go.Proofs.Ythfemojaabejiaa.G
end
section
namespace Go.Proofs.Ythfemojaabejiaa.G
open Go.RowKit Go.Proofs.YthfemojaabejiaaW.PrintWords Go.Proofs.YthfemojaabejiaaW.PrintLast Go.Proofs.YthfemojaabejiaaW.PrintMore
attribute [local go_sem] max2_int min2_int max_two min_two max_three min_three max_four min_four
set_option linter.unusedVariables false
set_option linter.unusedSimpArgs false
def impl_Sheet_may.l0 : Nat → List Int → List Int → Int → Int → List Bool → List (S141) → Option (List Int)
  | 0, _, _, _, _, _, _ => none
  | k + 1, x5, x13, x14, x15, x215000, x215001 => if x15 < x14 then (if 0 ≤ x15 then (if x15 < (x13.length : Int) then ((impl_Sheet_makes.f x215000 x215001 (rd x13 x15)).bind fun t220 => (if t220 = true then (if x5.length < 17592186044416 then (impl_Sheet_may.l0 k (x5 ++ [rd x13 x15]) x13 x14 (wrap64 (x15 + 1)) x215000 x215001) else (none)) else (impl_Sheet_may.l0 k x5 x13 x14 (wrap64 (x15 + 1)) x215000 x215001))) else (none)) else (none)) else (some x5)
def impl_Sheet_may.f (k : Nat) (l0_0 : List Bool) (l0_1 : List (S141)) (a1 : Int) : Option (List Int) := if 0 ≤ a1 then (if a1 < (l0_1.length : Int) then ((impl_TaskMay.f k ((rd_T141 l0_1 a1).f0) ((rd_T141 l0_1 a1).f1) ((rd_T141 l0_1 a1).f2)).bind fun t216 => (impl_Sheet_may.l0 k ([] : List Int) t216 (t216.length : Int) 0 l0_0 l0_1)) else (none)) else (none)
set_option maxHeartbeats 8000000 in
set_option maxRecDepth 100000 in
theorem impl_Sheet_may.calls (k : Nat) (A0_0 : Option Addr) (c0_0 : Nat) (l0_0 : List Bool) (A0_1 : Option Addr) (c0_1 : Nat) (l0_1 : List (S141)) (a1 : Int) (r : List Int) (w : World) (hr0_0 : Kd.C Kd.bool w A0_0 l0_0.length l0_0) (hc0_0 : l0_0.length ≤ c0_0) (hr0_1 : Kd.C k141 w A0_1 l0_1.length l0_1) (hc0_1 : l0_1.length ≤ c0_1) (h : impl_Sheet_may.f k l0_0 l0_1 a1 = some r) :
    Calls Try.prog 64 #[.agg #[.slice A0_0 l0_0.length c0_0, .slice A0_1 l0_1.length c0_1], .int .i64 a1] w fun e w' => ∃ v0_ : Value, e = .returned (v0_) ∧ Kd.R (Kd.int .i64) 3 w' w.heap.size (fun _ => True) v0_ r ∧ Below w.heap.size w w' := by
  have hu30 := Try.underlying30
  have hu141 := Try.underlying141
  have HR0_0 := Aside0.mk hr0_0
  have HC0_0 := Aside0.mk hc0_0
  clear hr0_0 hc0_0
  have HR0_1 := Aside0.mk hr0_1
  have HC0_1 := Aside0.mk hc0_1
  clear hr0_1 hc0_1
  have HB := Aside0.mk (Below.refl w.heap.size w)
  have H : (if 0 ≤ a1 then (if a1 < (l0_1.length : Int) then ((impl_TaskMay.f k ((rd_T141 l0_1 a1).f0) ((rd_T141 l0_1 a1).f1) ((rd_T141 l0_1 a1).f2)).bind fun t216 => (impl_Sheet_may.l0 k ([] : List Int) t216 (t216.length : Int) 0 l0_0 l0_1)) else (none)) else (none)) = some r := h
  clear h
  by_cases c3 : 0 ≤ a1
  · rw [if_pos c3] at H
    have c3b0 : decide (0 ≤ a1) = true := decide_eq_true c3
    clear c3
    by_cases c4 : a1 < (l0_1.length : Int)
    · rw [if_pos c4] at H
      have c4b0 : decide (a1 < (l0_1.length : Int)) = true := decide_eq_true c4
      clear c4
      replace H := Option.bind_eq_some_iff.mp H
      obtain ⟨t216, A50, H⟩ := H
      replace H : (impl_Sheet_may.l0 k ([] : List Int) t216 (t216.length : Int) 0 l0_0 l0_1) = some r := H
      have A5 := Aside0.mk A50
      clear A50
      have H' := Aside0.mk H
      clear H
      go_enter Try.func64, Try.ntmps64
      go_wp2_with (first | ((with_reducible refine gate_dst (N := 2) rfl ?_); refine box_event ?hg (N := 2) ?hd (cs := #[.slice A0_0 l0_0.length c0_0, .slice A0_1 l0_1.length c0_1]) (t := 30) ?hr ?_; (case hd => rfl); (case hg => rfl); (case hr => first | (go_simp; done) | (go_simp; rfl)); intro gb214 hg w6 hbox hb; have n0_ := Aside0.mk (below_step (by repeat (first | (with_reducible first | exact HB.out | apply below_alloc | apply pw_below_drewN | apply below_drew1) | exact HB.out)) hb); have n1_ := Aside0.mk (hbox); have n2_ := Aside0.mk ((by rw [hg]; exact (below_size (by repeat (first | (with_reducible first | exact HB.out | apply below_alloc | apply pw_below_drewN | apply below_drew1) | exact HB.out))) : w.heap.size ≤ gb214)); have n3_ := Aside0.mk ((by rw [hg]; exact (below_size (by repeat (first | (with_reducible first | exact HB.out | apply below_alloc | apply pw_below_drewN | apply below_drew1) | exact HB.out))) : w.heap.size ≤ gb214)); clear HB; have HB := n0_; have BK214 := n1_; have GW214 := n2_; have GE214 := n3_; clear n0_ n1_ n2_ n3_; clear hb hbox hg; have hcz7_0 : w6.cell? ⟨gb214, 0, none⟩ = some (.slice A0_0 l0_0.length c0_0) := (blk_cell BK214.out 0).trans rfl; have hcz7_1 : w6.cell? ⟨gb214, 1, none⟩ = some (.slice A0_1 l0_1.length c0_1) := (blk_cell BK214.out 1).trans rfl; have hfz7_0 := blk_frozen BK214.out 0; have hfz7_1 := blk_frozen BK214.out 1; have p215 : 0 ≤ (a1 : Int) := of_decide_eq_true (by first | (with_reducible assumption) | assumption); have q215 : a1 < (l0_1.length : Int) := of_decide_eq_true (by first | (with_reducible assumption) | assumption); obtain ⟨ad215, A215_2, c215_2, e215, hx215_0, hx215_1, hx215_2, hl215_2, hi215_2⟩ := at_T141 HR0_1.out a1 p215 q215; cases e215; replace hx215_0 := (HB.out.cell (World.block_lt_of_cell? w _ hx215_0)).trans hx215_0; replace hx215_1 := (HB.out.cell (World.block_lt_of_cell? w _ hx215_1)).trans hx215_1; replace hx215_2 := (HB.out.cell (World.block_lt_of_cell? w _ hx215_2)).trans hx215_2; have HR215_2 := Aside0.mk hi215_2; have HC215_2 := Aside0.mk hl215_2; clear hi215_2 hl215_2; replace p215 := eq_true p215; replace q215 := eq_true q215) | ((with_reducible refine gate_callee (f := 116) rfl ?_); refine goesL_ (some 13) rfl rfl Try.func116 (by kernel_rfl) rfl #[.agg #[.int .i64 ((rd_T141 l0_1 a1).f0), .int .i64 ((rd_T141 l0_1 a1).f1), .slice A215_2 ((rd_T141 l0_1 a1).f2).length c215_2]] rfl (by (try simp only [List.map_toArray, List.map_cons, List.map_nil]); first | done | rfl | (simp only [List.length_drop, List.length_take]; rfl)) ?_; (with_reducible refine (impl_TaskMay.calls k ((rd_T141 l0_1 a1).f0) ((rd_T141 l0_1 a1).f1) _ _ ((rd_T141 l0_1 a1).f2) t216 _ ?side1 ?side2 A5.out).mono ?_); (case side1 => repeat (first | exact (Kd.C_below HR215_2.out HB.out) | (with_reducible refine Kd.C_alloc ?_ _) | (with_reducible refine Kd.C_drewN ?_ _) | (with_reducible refine Kd.C_drew ?_))); (case side2 => exact HC215_2.out); rintro e w8 ⟨v217, rfl, ho0, hb⟩; refine ⟨_, rfl, ?_⟩; have n0_ := Aside0.mk (Kd.R_lower ho0 (below_size (by repeat (first | (with_reducible first | exact HB.out | apply below_alloc | apply pw_below_drewN | apply below_drew1 | refine below_set ?_ GE214.out) | exact HB.out)))); have n1_ := Aside0.mk (blk_below (g := gb214) (o := .cells #[.slice A0_0 l0_0.length c0_0, .slice (some ad215) l0_1.length c0_1] 30 (0, 0)) (by (with_reducible repeat (first | refine blk_drewN ?_ _ | refine blk_drew ?_ | refine blk_alloc ?_ _)); exact BK214.out) hb); have n2_ := Aside0.mk (below_step (by repeat (first | (with_reducible first | exact HB.out | apply below_alloc | apply pw_below_drewN | apply below_drew1 | refine below_set ?_ GE214.out) | exact HB.out)) hb); clear BK214; clear HB; have HO218 := n0_; have BK214 := n1_; have HB := n2_; clear n0_ n1_ n2_; (try clear hb); (try clear hb2); (try clear hk); (try clear hi); (try clear ho0); obtain ⟨Ao9, co9, eo9⟩ := Kd.R_slice HO218.out; subst eo9))
      go_loopg [5, 15] k (fun kq v5 v15 w' => ∃ (x5_1 : List Int) (x15_1 : Int), v15 = .int .i64 x15_1 ∧ Aside0 (impl_Sheet_may.l0 kq x5_1 t216 (t216.length : Int) x15_1 l0_0 l0_1 = some r) ∧ Aside0 (kq ≤ k) ∧ Aside0 (Kd.R (Kd.int .i64) 3 w' w.heap.size (fun k_ => some k_ ≠ ((.slice Ao9 t216.length co9) : Value).ownBlock) v5 x5_1) ∧ Aside0 (Kd.R (Kd.int .i64) 3 w' w.heap.size (fun k_ => some k_ ≠ (v5 : Value).ownBlock) (.slice Ao9 t216.length co9) t216) ∧ Aside0 (w'.heap[gb214]? = some (.cells #[(.slice A0_0 l0_0.length c0_0), (.slice (some ad215) l0_1.length c0_1)] 30 (0, 0))) ∧ Aside0 (Below w.heap.size w w'))
      case atStart => exact ⟨(([] : List Int)), (0), (by first | rfl | (simp; done) | (simp [*]; done)), H', ⟨Nat.le_refl _⟩, ⟨by first | exact Kd.R_nil _ _ _ _ _ | exact Kd.N_nil _ _ _ _ _ | exact Kd.V_nil _ _ _ _ _ | exact Kd.Q_nil _ _ _ _ _ | exact Kd.S_nil _ _ _ _ _⟩, ⟨by (with_reducible repeat (first | apply Kd.R_alloc | apply Kd.R_drewN | apply Kd.R_drew)); exact Kd.R_mono HO218.out (fun _ hk => (by simp [Value.ownBlock]))⟩, ⟨by (with_reducible repeat (first | refine blk_drewN ?_ _ | refine blk_drew ?_ | refine blk_alloc ?_ _)); exact BK214.out⟩, ⟨by repeat (first | (with_reducible first | exact HB.out | apply below_alloc | apply pw_below_drewN | apply below_drew1 | refine below_set ?_ GE214.out) | exact HB.out)⟩⟩
      case round =>
        clear H'
        try clear c1
        try clear c2
        try clear p2
        try clear q2
        try clear hx2
        try clear c3
        try clear c3b0
        try clear c4
        try clear c4b0
        try clear c6
        try clear hcz7_0
        try clear hcz7_1
        try clear hfz7_0
        try clear hfz7_1
        try clear hx215_0
        try clear hx215_1
        try clear hx215_2
        try clear p215
        try clear q215
        obtain ⟨x5_1, x15_1, rfl, HA, HK1, HO_5, HO_13, BK214, HB⟩ := hrel
        cases gk with
        | zero => exact absurd HA.out (by simp [impl_Sheet_may.l0])
        | succ k1 =>
          have H := HA.out
          clear HA
          simp only [impl_Sheet_may.l0] at H
          by_cases c10 : x15_1 < (t216.length : Int)
          · rw [if_pos c10] at H
            have c10b0 : decide (x15_1 < (t216.length : Int)) = true := decide_eq_true c10
            clear c10
            by_cases c11 : 0 ≤ x15_1
            · rw [if_pos c11] at H
              have c11b0 : decide (0 ≤ x15_1) = true := decide_eq_true c11
              clear c11
              by_cases c12 : x15_1 < (t216.length : Int)
              · rw [if_pos c12] at H
                have c12b0 : decide (x15_1 < (t216.length : Int)) = true := decide_eq_true c12
                clear c12
                replace H := Option.bind_eq_some_iff.mp H
                obtain ⟨t220, A130, H⟩ := H
                replace H : (if t220 = true then (if x5_1.length < 17592186044416 then (impl_Sheet_may.l0 k1 (x5_1 ++ [rd t216 x15_1]) t216 (t216.length : Int) (wrap64 (x15_1 + 1)) l0_0 l0_1) else (none)) else (impl_Sheet_may.l0 k1 x5_1 t216 (t216.length : Int) (wrap64 (x15_1 + 1)) l0_0 l0_1)) = some r := H
                have A13 := Aside0.mk A130
                clear A130
                by_cases c14 : t220 = true
                · subst c14
                  have H1 : (if x5_1.length < 17592186044416 then (impl_Sheet_may.l0 k1 (x5_1 ++ [rd t216 x15_1]) t216 (t216.length : Int) (wrap64 (x15_1 + 1)) l0_0 l0_1) else (none)) = some r := by rw [if_pos rfl] at H; exact H
                  clear H
                  have H := H1
                  clear H1
                  by_cases c15 : x5_1.length < 17592186044416
                  · rw [if_pos c15] at H
                    have LMc15 := Aside0.mk c15
                    clear c15
                    obtain ⟨y221, hy221⟩ : ∃ y_ : List Int, y_ = (x5_1 ++ [rd t216 x15_1]) := ⟨_, rfl⟩
                    replace H : (impl_Sheet_may.l0 k1 y221 t216 (t216.length : Int) (wrap64 (x15_1 + 1)) l0_0 l0_1) = some r := by first | (rw [hy221]; with_reducible exact H) | (have H2_ := (Option.bind_some _ _).symm.trans H; rw [hy221]; with_reducible exact H2_) | (have H2_ := (Option.bind_some _ _).symm.trans H; with_reducible exact H2_) | with_reducible exact H | (rw [hy221]; exact H) | exact H
                    have Ny221 := Aside0.mk hy221
                    clear hy221
                    have H' := Aside0.mk H
                    clear H
                    have p219 : 0 ≤ (x15_1 : Int) := of_decide_eq_true (by first | (with_reducible assumption) | assumption)
                    have q219 : x15_1 < (t216.length : Int) := of_decide_eq_true (by first | (with_reducible assumption) | assumption)
                    obtain ⟨ad219, e219, hx219_0⟩ := Kd.at_int (Kd.R_reads' HO_13.out).2.2 x15_1 p219 q219
                    cases e219
                    replace p219 := eq_true p219
                    replace q219 := eq_true q219
                    have hcz16_0 : wr.cell? ⟨gb214, 0, none⟩ = some (.slice A0_0 l0_0.length c0_0) := (blk_cell BK214.out 0).trans rfl
                    have hcz16_1 : wr.cell? ⟨gb214, 1, none⟩ = some (.slice (some ad215) l0_1.length c0_1) := (blk_cell BK214.out 1).trans rfl
                    have hfz16_0 := blk_frozen BK214.out 0
                    have hfz16_1 := blk_frozen BK214.out 1
                    go_wp2_with (first | ((with_reducible refine gate_callee (f := 115) rfl ?_); refine goesL_ (some 21) rfl rfl Try.func115 (by kernel_rfl) rfl #[.agg #[.slice A0_0 l0_0.length c0_0, .slice (some ad215) l0_1.length c0_1], .int .i64 (rd t216 x15_1)] rfl (by (try simp only [List.map_toArray, List.map_cons, List.map_nil]); first | done | rfl | (simp only [List.length_drop, List.length_take]; rfl)) ?_; (with_reducible refine (impl_Sheet_makes.calls _ _ l0_0 _ _ l0_1 (rd t216 x15_1) true _ ?side1 ?side2 ?side3 ?side4 A13.out).mono ?_); (case side1 => repeat (first | exact (Kd.C_below HR0_0.out HB.out) | (with_reducible refine Kd.C_alloc ?_ _) | (with_reducible refine Kd.C_drewN ?_ _) | (with_reducible refine Kd.C_drew ?_))); (case side2 => exact HC0_0.out); (case side3 => repeat (first | exact (Kd.C_below HR0_1.out HB.out) | (with_reducible refine Kd.C_alloc ?_ _) | (with_reducible refine Kd.C_drewN ?_ _) | (with_reducible refine Kd.C_drew ?_))); (case side4 => exact HC0_1.out); rintro e w17 ⟨rfl, hb⟩; refine ⟨_, rfl, ?_⟩; have n0_ := Aside0.mk (Kd.R_below (by (with_reducible repeat (first | apply Kd.R_alloc | apply Kd.R_drewN | apply Kd.R_drew)); exact HO_5.out) hb); have n1_ := Aside0.mk (Kd.R_below (by (with_reducible repeat (first | apply Kd.R_alloc | apply Kd.R_drewN | apply Kd.R_drew)); exact HO_13.out) hb); have n2_ := Aside0.mk (blk_below (g := gb214) (o := .cells #[.slice A0_0 l0_0.length c0_0, .slice (some ad215) l0_1.length c0_1] 30 (0, 0)) (by (with_reducible repeat (first | refine blk_drewN ?_ _ | refine blk_drew ?_ | refine blk_alloc ?_ _)); exact BK214.out) hb); have n3_ := Aside0.mk (below_step (by repeat (first | (with_reducible first | exact HB.out | apply below_alloc | apply pw_below_drewN | apply below_drew1 | refine below_set ?_ GE214.out) | exact HB.out)) hb); clear HO_5; clear HO_13; clear BK214; clear HB; have HO_5 := n0_; have HO_13 := n1_; have BK214 := n2_; have HB := n3_; clear n0_ n1_ n2_ n3_; (try clear hb); (try clear hb2); (try clear hk); (try clear hi)) | ((with_reducible refine gate_builtin (b := .append) (xs := #[.tmp 22, .tmp 24]) rfl ?_); at_builtin; refine Kd.R_append (Kd.int .i64) (w0 := w) w.heap.size rfl (.tmp 22) (.tmp 24) 34 3 (.int .i64 0) 8 rfl Try.underlying34 info3 rfl (by decide) (by omega) u5 x5_1 (rd t216 x15_1) [.int .i64 (rd t216 x15_1)] (fun k_ => some k_ ≠ (.slice (some ad219) t216.length co9 : Value).ownBlock) (fun _ => False) rfl rfl ?aP (fun _ hk => hk.elim) ?aF ?aO ?aB ?aS ?aL ?_; (case aP => exact rfl); (case aB => exact (by repeat (first | (with_reducible first | exact HB.out | apply below_alloc | apply pw_below_drewN | apply below_drew1 | refine below_set ?_ GE214.out) | exact HB.out))); (case aF => exact (fun k_ hk => Kd.fresh' (Kd.R_lt (by (with_reducible repeat (first | apply Kd.R_alloc | apply Kd.R_drewN | apply Kd.R_drew)); exact HO_13.out)) k_ hk)); (case aO => exact (by (with_reducible repeat (first | apply Kd.R_alloc | apply Kd.R_drewN | apply Kd.R_drew)); exact HO_5.out)); (case aS => exact (below_size (by repeat (first | (with_reducible first | exact HB.out | apply below_alloc | apply pw_below_drewN | apply below_drew1 | refine below_set ?_ GE214.out) | exact HB.out)))); (case aL => have := LMc15.out; omega); intro v222 w18 ho hb hg hat; rw [← Ny221.out] at ho; have n0_ := Aside0.mk (Kd.R_after (ok := (fun _ => True)) (by (with_reducible repeat (first | apply Kd.R_alloc | apply Kd.R_drewN | apply Kd.R_drew)); exact Kd.R_mono HO_13.out (fun _ hk => ⟨trivial, hk⟩)) hg hat); have n1_ := Aside0.mk (blk_grown (g := gb214) (o := .cells #[.slice A0_0 l0_0.length c0_0, .slice (some ad215) l0_1.length c0_1] 30 (0, 0)) (by (with_reducible repeat (first | refine blk_drewN ?_ _ | refine blk_drew ?_ | refine blk_alloc ?_ _)); exact BK214.out) hg (Kd.R_ne HO_5.out BK214.out (by decide))); have n2_ := Aside0.mk (hb); have n3_ := Aside0.mk (ho); clear HO_13; clear BK214; clear HB; clear HO_5; have HO_13 := n0_; have BK214 := n1_; have HB := n2_; have HO223 := n3_; clear n0_ n1_ n2_ n3_; clear ho hb hg hat))
                    go_roundg k1
                    case measure => have := HK1.out; omega
                    case rel => exact ⟨(y221), (wrap64 (x15_1 + 1)), (by first | rfl | (simp; done) | (simp [*]; done)), H', ⟨by have := HK1.out; omega⟩, ⟨by (with_reducible repeat (first | apply Kd.R_alloc | apply Kd.R_drewN | apply Kd.R_drew)); exact HO223.out⟩, ⟨by (with_reducible repeat (first | apply Kd.R_alloc | apply Kd.R_drewN | apply Kd.R_drew)); exact Kd.R_mono HO_13.out (fun _ hk => hk.2)⟩, ⟨by (with_reducible repeat (first | refine blk_drewN ?_ _ | refine blk_drew ?_ | refine blk_alloc ?_ _)); exact BK214.out⟩, ⟨by repeat (first | (with_reducible first | exact HB.out | apply below_alloc | apply pw_below_drewN | apply below_drew1 | refine below_set ?_ GE214.out) | exact HB.out)⟩⟩
                  · rw [if_neg c15] at H
                    exact absurd H (by simp)
                · replace c14 := Bool.eq_false_iff.mpr c14
                  subst c14
                  have H1 : (impl_Sheet_may.l0 k1 x5_1 t216 (t216.length : Int) (wrap64 (x15_1 + 1)) l0_0 l0_1) = some r := by rw [if_neg (show ¬ (false = true) by decide)] at H; exact H
                  clear H
                  have H := H1
                  clear H1
                  have H' := Aside0.mk H
                  clear H
                  have p219 : 0 ≤ (x15_1 : Int) := of_decide_eq_true (by first | (with_reducible assumption) | assumption)
                  have q219 : x15_1 < (t216.length : Int) := of_decide_eq_true (by first | (with_reducible assumption) | assumption)
                  obtain ⟨ad219, e219, hx219_0⟩ := Kd.at_int (Kd.R_reads' HO_13.out).2.2 x15_1 p219 q219
                  cases e219
                  replace p219 := eq_true p219
                  replace q219 := eq_true q219
                  have hcz19_0 : wr.cell? ⟨gb214, 0, none⟩ = some (.slice A0_0 l0_0.length c0_0) := (blk_cell BK214.out 0).trans rfl
                  have hcz19_1 : wr.cell? ⟨gb214, 1, none⟩ = some (.slice (some ad215) l0_1.length c0_1) := (blk_cell BK214.out 1).trans rfl
                  have hfz19_0 := blk_frozen BK214.out 0
                  have hfz19_1 := blk_frozen BK214.out 1
                  go_wp2_with (first | ((with_reducible refine gate_callee (f := 115) rfl ?_); refine goesL_ (some 21) rfl rfl Try.func115 (by kernel_rfl) rfl #[.agg #[.slice A0_0 l0_0.length c0_0, .slice (some ad215) l0_1.length c0_1], .int .i64 (rd t216 x15_1)] rfl (by (try simp only [List.map_toArray, List.map_cons, List.map_nil]); first | done | rfl | (simp only [List.length_drop, List.length_take]; rfl)) ?_; (with_reducible refine (impl_Sheet_makes.calls _ _ l0_0 _ _ l0_1 (rd t216 x15_1) false _ ?side1 ?side2 ?side3 ?side4 A13.out).mono ?_); (case side1 => repeat (first | exact (Kd.C_below HR0_0.out HB.out) | (with_reducible refine Kd.C_alloc ?_ _) | (with_reducible refine Kd.C_drewN ?_ _) | (with_reducible refine Kd.C_drew ?_))); (case side2 => exact HC0_0.out); (case side3 => repeat (first | exact (Kd.C_below HR0_1.out HB.out) | (with_reducible refine Kd.C_alloc ?_ _) | (with_reducible refine Kd.C_drewN ?_ _) | (with_reducible refine Kd.C_drew ?_))); (case side4 => exact HC0_1.out); rintro e w20 ⟨rfl, hb⟩; refine ⟨_, rfl, ?_⟩; have n0_ := Aside0.mk (Kd.R_below (by (with_reducible repeat (first | apply Kd.R_alloc | apply Kd.R_drewN | apply Kd.R_drew)); exact HO_5.out) hb); have n1_ := Aside0.mk (Kd.R_below (by (with_reducible repeat (first | apply Kd.R_alloc | apply Kd.R_drewN | apply Kd.R_drew)); exact HO_13.out) hb); have n2_ := Aside0.mk (blk_below (g := gb214) (o := .cells #[.slice A0_0 l0_0.length c0_0, .slice (some ad215) l0_1.length c0_1] 30 (0, 0)) (by (with_reducible repeat (first | refine blk_drewN ?_ _ | refine blk_drew ?_ | refine blk_alloc ?_ _)); exact BK214.out) hb); have n3_ := Aside0.mk (below_step (by repeat (first | (with_reducible first | exact HB.out | apply below_alloc | apply pw_below_drewN | apply below_drew1 | refine below_set ?_ GE214.out) | exact HB.out)) hb); clear HO_5; clear HO_13; clear BK214; clear HB; have HO_5 := n0_; have HO_13 := n1_; have BK214 := n2_; have HB := n3_; clear n0_ n1_ n2_ n3_; (try clear hb); (try clear hb2); (try clear hk); (try clear hi)))
                  go_roundg k1
                  case measure => have := HK1.out; omega
                  case rel => exact ⟨(x5_1), (wrap64 (x15_1 + 1)), (by first | rfl | (simp; done) | (simp [*]; done)), H', ⟨by have := HK1.out; omega⟩, ⟨by (with_reducible repeat (first | apply Kd.R_alloc | apply Kd.R_drewN | apply Kd.R_drew)); exact HO_5.out⟩, ⟨by (with_reducible repeat (first | apply Kd.R_alloc | apply Kd.R_drewN | apply Kd.R_drew)); exact HO_13.out⟩, ⟨by (with_reducible repeat (first | refine blk_drewN ?_ _ | refine blk_drew ?_ | refine blk_alloc ?_ _)); exact BK214.out⟩, ⟨by repeat (first | (with_reducible first | exact HB.out | apply below_alloc | apply pw_below_drewN | apply below_drew1 | refine below_set ?_ GE214.out) | exact HB.out)⟩⟩
              · rw [if_neg c12] at H
                exact absurd H (by simp)
            · rw [if_neg c11] at H
              exact absurd H (by simp)
          · rw [if_neg c10] at H
            have c10b0 : decide (x15_1 < (t216.length : Int)) = false := decide_eq_false c10
            clear c10
            obtain rfl := Option.some.inj H
            go_wp2
            go_ret
            exact ⟨_, by first | rfl | (simp [errW_none, errW_some] <;> rfl) | (simp [*, errW_none, errW_some] <;> rfl), by (with_reducible repeat (first | apply Kd.R_alloc | apply Kd.R_drewN | apply Kd.R_drew)); exact Kd.R_mono HO_5.out (fun _ hk => trivial), by repeat (first | (with_reducible first | exact HB.out | apply below_alloc | apply pw_below_drewN | apply below_drew1 | refine below_set ?_ GE214.out) | exact HB.out)⟩
    · rw [if_neg c4] at H
      exact absurd H (by simp)
  · rw [if_neg c3] at H
    exact absurd H (by simp)
end Go.Proofs.Ythfemojaabejiaa.G
end
