/- The layer V and contracts of functions over it, or plain laws behind one statement (own work): MH=UC,UD. Conditions: those told in each theorem. -/
import Derived.Test.YtlnephhhcofilaaGreatMG
set_option linter.all false
section
set_option linter.unusedSimpArgs false
set_option linter.unusedVariables false
set_option maxRecDepth 4000
namespace Go.Proofs
open Go Go.V
open Nat renaming reduceEqDiff → jA, reduceAdd → jB, reduceMul → jD, reduceSub → jE, reduceLeDiff → jF
open Int renaming reduceLT → jG, reduceLE → jH, reduceNeg → jI, reduceEq → jJ
/- The multiplicity of a box. -/
theorem allM_in {S : List (List Tm)} {E : List Ed} {l : List Int} (h : allM S E = some l) : RsG l ∧ l.length = E.length := by
  unfold allM at h
  split at h
  · rename_i c; cases h; exact ⟨preM_in, c⟩
  · cases h
def leastM (S : List (List Tm)) (x y z w : Int) (k : Nat) : Option Nat := (List.range 6).find? fun d => (allM S (edgesM x y z w k d)).isSome
def degM' (S : List (List Tm)) (x y z w : Int) (k : Nat) : Int × Bool := match leastM S x y z w k with
  | some d => turnsM ((allM S (edgesM x y z w k d)).getD [])
  | none => (0, false)
/-- The multiplicity of a box, if it is told. -/
def boxDeg (S : List (List Tm)) (b : Bx) : Int × Bool :=
  if twoB S && planeB b then degM' S (b.low.getD 0 0) (b.high.getD 0 0) (b.low.getD 1 0) (b.high.getD 1 0) b.k.toNat else (0, false)
theorem boxDeg_G {S : List (List Tm)} {b : Bx} {k : Nat} {x y z w : Int} (hS : twoB S = true) (hb : planeB b = true) (g : PlG b k x y z w) : boxDeg S b = degM' S x y z w k := by
  unfold boxDeg
  rw [hS, hb, g.low, g.high, g.bk]
  rfl
theorem turnsM_in (l : List Int) (h : l.length ≤ 128) : -128 ≤ (turnsM l).1 ∧ (turnsM l).1 ≤ 128 := by
  unfold turnsM
  split
  · have hsum := sumT_in l l.length
    have := Int.natAbs_tdiv_le_natAbs (sumT l l.length) 4
    show -128 ≤ Int.tdiv (sumT l l.length) 4 ∧ Int.tdiv (sumT l l.length) 4 ≤ 128
    omega
  · exact ⟨by decide, by decide⟩
theorem edges_128 {x y z w : Int} {k d : Nat} (hd : d ≤ 5) : (edgesM x y z w k d).length ≤ 128 := by
  obtain ⟨N, _, e, _, h⟩ := pow_d hd
  rw [edgesM_len, e]; omega
theorem boxDeg_in (S : List (List Tm)) (b : Bx) : -128 ≤ (boxDeg S b).1 ∧ (boxDeg S b).1 ≤ 128 := by
  unfold boxDeg
  split
  · unfold degM'
    split
    · rename_i d hd
      have h6 : d < 6 := by unfold leastM at hd; exact List.mem_range.1 (List.mem_of_find?_eq_some hd)
      refine turnsM_in _ ?_
      cases h : allM S (edgesM (b.low.getD 0 0) (b.high.getD 0 0) (b.low.getD 1 0) (b.high.getD 1 0) b.k.toNat d) with
      | none => simp
      | some l =>
        have := (allM_in h).2
        have := edges_128 (x := b.low.getD 0 0) (y := b.high.getD 0 0) (z := b.low.getD 1 0) (w := b.high.getD 1 0) (k := b.k.toNat) (d := d) (by omega)
        simp only [Option.getD_some]; omega
    · exact ⟨by decide, by decide⟩
  · exact ⟨by decide, by decide⟩
theorem least_some {S : List (List Tm)} {x y z w : Int} {k d : Nat} (h6 : d < 6) (hno : ∀ j < d, allM S (edgesM x y z w k j) = none) {l : List Int} (h : allM S (edgesM x y z w k d) = some l) :
    leastM S x y z w k = some d ∧ degM' S x y z w k = turnsM l := by
  have e : leastM S x y z w k = some d := by
    unfold leastM
    rw [List.find?_range_eq_some]
    exact ⟨by rw [h]; rfl, by simp; omega, fun j hj => by rw [hno j hj]; rfl⟩
  refine ⟨e, ?_⟩
  unfold degM'
  rw [e]
  simp only [h, Option.getD_some]
theorem least_none {S : List (List Tm)} {x y z w : Int} {k : Nat} (hno : ∀ j < 6, allM S (edgesM x y z w k j) = none) : leastM S x y z w k = none ∧ degM' S x y z w k = (0, false) := by
  have e : leastM S x y z w k = none := by
    unfold leastM
    rw [List.find?_eq_none]
    intro j hj
    rw [List.mem_range] at hj
    rw [hno j hj]
    decide
  exact ⟨e, by unfold degM'; rw [e]⟩
theorem muBox_c {S : List (List Tm)} {b : Bx} {v : Value} {cs : List Value} {h : Heap} {Q : Value → Heap → Prop} (rS : Row h S v) (hb : Here h b cs)
    (hQ : ∀ h', Ext h h' → Q (.tuple #[.int .i64 (boxDeg S b).1, .bool (boxDeg S b).2]) h') : CallsV Tryz.prog 31 [v, .agg cs.toArray] h Q := by
  obtain ⟨v1, v2, rfl, _⟩ := here_Bx hb
  refine CallsV.start Tryz.func31 rfl (by rw [Tryz.results31]) (by kernel_rfl) (by rw [Tryz.ntmps31]; simp) ?_
  have s := Sep.blk1 h [.int .i64 b.k, v1, v2] 32 true
  have ga := s.rdAll (n := 3) rfl
  simp (disch := omega) only [WA, ↓reduceIte, jA, jB, jD, jE, jF, jG, jH, jI, jJ, ga]
  refine .inl ⟨by kernel_rfl, ?_⟩; refine imGood_c (rS.mono s.ext) (hb.mono s.ext) fun h1 E1 => ?_
  have s := s.mono E1
  cases hg : twoB S && planeB b with
  | false =>
    unfold boxDeg at hQ
    rw [hg] at hQ
    simp (disch := omega) only [WA, ↓reduceIte, jA, jB, jD, jE, jF, jG, jH, jI, jJ]
    exact hQ _ s.ext
  | true =>
    obtain ⟨hS, hpb⟩ := Bool.and_eq_true_iff.1 hg
    obtain ⟨k, x, y, z, w, g⟩ := planeB_G hpb
    rw [boxDeg_G hS hpb g] at hQ
    simp (disch := omega) only [WA, ↓reduceIte, jA, jB, jD, jE, jF, jG, jH, jI, jJ]
    refine loop_rule (fun m e h' => ∃ (d : Nat), e 0 = v ∧ e 3 = .pointer (some ⟨h.length, 0, none⟩) ∧ e 6 = .int .i64 d ∧ d ≤ 6 ∧ m = 6 - d ∧ (∀ j < d, allM S (edgesM x y z w k j) = none) ∧ Sep h h' [blkA h.length [.int .i64 b.k, v1, v2] 32]) ?_ 6 _ _
      ⟨0, rfl, rfl, rfl, by omega, by omega, by omega, s⟩
    clear s ga
    rintro m e h3 ⟨d, e0, e3, e6, hd, rfl, hno, s⟩
    by_cases c : d < 6
    · have c1 : (d : Int) ≤ 5 := by omega
      have ga := s.rdAll (n := 3) rfl
      simp (disch := omega) only [WA, ↓reduceIte, jA, jB, jD, jE, jF, jG, jH, jI, jJ, e0, e3, e6, c1, ga]
      refine .inl ⟨by kernel_rfl, ?_⟩; refine imAll_c (rS.mono s.ext) hS (hb.mono s.ext) g (by omega) fun vo h4 t4 => ?_
      have s := s.add t4
      cases ha : allM S (edgesM x y z w k d) with
      | none =>
        simp (disch := omega) only [WA, ↓reduceIte, jA, jB, jD, jE, jF, jG, jH, jI, jJ, e6, wrap_in, Option.isSome_none]
        refine ⟨_, by omega, d + 1, e0, e3, by simp, by omega, rfl, fun j hj => ?_, s.tail⟩
        by_cases ej : j = d
        · rw [ej]; exact ha
        · exact hno j (by omega)
      | some l =>
        obtain ⟨_, p2⟩ := least_some c hno ha
        obtain ⟨hr, hl⟩ := allM_in ha
        rw [p2] at hQ
        rw [ha] at s
        have rl := (s.pull 0 rfl).row
        have := edges_128 (x := x) (y := y) (z := z) (w := w) (k := k) (d := d) (by omega)
        simp (disch := omega) only [WA, ↓reduceIte, jA, jB, jD, jE, jF, jG, jH, jI, jJ, Option.isSome_some]
        refine .inl ⟨by kernel_rfl, ?_⟩; refine imTurns_c rl hr (by rw [Option.getD_some]; omega) ?_
        simp (disch := omega) only [WA, ↓reduceIte, jA, jB, jD, jE, jF, jG, jH, jI, jJ]
        exact hQ _ s.ext
    · obtain rfl : d = 6 := by omega
      have e6 : e 6 = .int .i64 6 := e6
      obtain ⟨_, p2⟩ := least_none hno
      rw [p2] at hQ
      simp (disch := omega) only [WA, ↓reduceIte, jA, jB, jD, jE, jF, jG, jH, jI, jJ, e6]
      exact hQ _ s.ext
end Go.Proofs
end

section
set_option linter.unusedSimpArgs false
set_option linter.unusedVariables false
set_option maxRecDepth 4000
namespace Go.Proofs
open Go Go.V
open Nat renaming reduceEqDiff → jA, reduceAdd → jB, reduceMul → jD, reduceSub → jE, reduceLeDiff → jF
open Int renaming reduceLT → jG, reduceLE → jH, reduceNeg → jI, reduceEq → jJ
/- The program's side. -/
theorem edgeHolds_c {S : List (List Tm)} {e : Ed} {v : Value} {r : Nat} {h : Heap} {Q : Value → Heap → Prop} (rS : Row h S v) (hS : twoB S = true) (he : EdG e) (hr : r < 4)
    (hQ : ∀ h', Ext h h' → Q (.bool (holdM S (sidesM e) r)) h') : CallsV Tryz.prog 116 [v, .agg (edC e).toArray, .int .i64 r] h Q := by
  obtain ⟨hl, hsys⟩ := twoB_two hS
  have hp := two_at hS r
  obtain ⟨u, g1, hu⟩ := row_list rS hp
  have hT := sys_at hsys hp
  have hs := sides_good he
  have tm : Int.tmod (r : Int) 2 = ((r % 2 : Nat) : Int) := by rw [Int.tmod_eq_emod_of_nonneg (by omega)]; omega
  have td : Int.tdiv (r : Int) 2 = ((r / 2 : Nat) : Int) := by rw [Int.tdiv_eq_ediv_of_nonneg (by omega)]; omega
  have q1 : ((r % 2 : Nat) : Int) < (S.length : Int) := by omega
  have wd := wrap_in ((r / 2 : Nat) : Int) (by omega)
  refine CallsV.start Tryz.func116 rfl (by rw [Tryz.results116]) (by kernel_rfl) (by rw [Tryz.ntmps116]; simp) ?_
  have s := Sep.blk1 h (edC e) 102 true
  simp (disch := omega) only [WA, ↓reduceIte, jA, jB, jD, jE, jF, jG, jH, jI, jJ]
  generalize h ++ [some ⟨edC e, 102, false, true⟩] = H0 at s ⊢
  refine draw_ord [0, 1, 3, 4, 5, 6, 8, 9, 10, 11, 2, 7, 12, 13, 14, 15] (by kernel_rfl) (by simp only [WLF]; rfl) ?_
  have gb := s.rdA
  simp (disch := omega) only [WA, ↓reduceIte, jA, jB, jD, jE, jF, jG, jH, jI, jJ, gb]
  refine .inl ⟨by kernel_rfl, ?_⟩; refine single_c fun h1 E1 => ?_
  have s := s.mono E1
  have gb := s.rdA
  simp (disch := omega) only [WA, ↓reduceIte, jA, jB, jD, jE, jF, jG, jH, jI, jJ, gb]
  refine .inl ⟨by kernel_rfl, ?_⟩; refine lesser_c he.frm he.tip fun h2 E2 => ?_
  have s := s.mono E2
  have gb := s.rdA
  simp (disch := omega) only [WA, ↓reduceIte, jA, jB, jD, jE, jF, jG, jH, jI, jJ, gb]
  refine .inl ⟨by kernel_rfl, ?_⟩; refine greater_c he.frm he.tip fun h3 E3 => ?_
  have s := s.mono E3
  have gb := s.rdA
  have s := s.newBlk [.int .i64 e.mid.n, .int .i64 e.mid.k, .int .i64 e.mid.n, .int .i64 e.mid.k, .int .i64 (lsM e.frm e.tip).n, .int .i64 (lsM e.frm e.tip).k, .int .i64 (gtM e.frm e.tip).n, .int .i64 (gtM e.frm e.tip).k] 122 true
  have gb2 := (s.pull 1 rfl).rdA
  simp (disch := omega) only [WA, ↓reduceIte, jA, jB, jD, jE, jF, jG, jH, jI, jJ, gb, gb2]
  have gc := (s.pull 1 rfl).rd
  generalize h3 ++ [_] = H3 at s gb2 gc ⊢
  generalize List.length h3 = c3 at s ⊢
  clear gb gb2
  rcases he.side with c | c
  · have c' : ¬ e.side = 1 := by omega
    simp (disch := omega) only [WA, ↓reduceIte, jA, jB, jD, jE, jF, jG, jH, jI, jJ, c', gc]
    have es : sidesM e = [oneI e.mid, alongM e] := by unfold sidesM; rw [if_pos c]
    have s := Sep.blkOwn (l := sidesM e) (n := 2) s (by rw [es]; exact cells_iv2 (mid_good he) (along_good he) _) (by rw [es]; rfl) (by decide)
    have rs := s.row
    have rS2 := rS.mono s.ext
    have g2 := s.ext.keepC g1
    simp (disch := omega) only [WA, ↓reduceIte, jA, jB, jD, jE, jF, jG, jH, jI, jJ, tm, rS2.isRow.ix, q1, g2]
    refine .inl ⟨by kernel_rfl, ?_⟩; refine valueOver_c (hu.mono s.ext) rs hT (fun i hi => (hs i hi).d) (by rw [sides_len]; decide) fun h6 E6 => ?_
    have s := s.mono E6
    have hg := valM_good (p := S.getD (r % 2) []) hs hT
    have s := s.newBlk (ivC ((valM (S.getD (r % 2) []) (sidesM e)).getD zeroI)) 122 true
    have gz := ivRd s
    unfold holdM signR at hQ
    cases hv : (valM (S.getD (r % 2) []) (sidesM e)).isSome with
    | false =>
      rw [hv] at hQ
      simp (disch := omega) only [WA, ↓reduceIte, jA, jB, jD, jE, jF, jG, jH, jI, jJ]
      exact hQ _ s.ext
    | true =>
      rw [hv, Bool.true_and] at hQ
      have w2 := wrap_in (((r / 2 : Nat) : Int) * 2) (by omega)
      have w3 := wrap_in (1 - ((r / 2 : Nat) : Int) * 2) (by omega)
      have w4 := wrap_in (1 - 2 * ((r / 2 : Nat) : Int)) (by omega)
      have cm : 1 - ((r / 2 : Nat) : Int) * 2 = 1 - 2 * ((r / 2 : Nat) : Int) := by omega
      simp (disch := omega) only [WA, ↓reduceIte, jA, jB, jD, jE, jF, jG, jH, jI, jJ, gz]
      refine .inl ⟨by kernel_rfl, ?_⟩; refine signOf_c fun h7 E7 => ?_
      simp (disch := omega) only [WA, ↓reduceIte, jA, jB, jD, jE, jF, jG, jH, jI, jJ, td, wd, w2, w3, w4, cm]
      exact hQ _ (s.ext.trans E7)
  · simp (disch := omega) only [WA, ↓reduceIte, jA, jB, jD, jE, jF, jG, jH, jI, jJ, c, gc]
    have ga := s.rdA
    have ix0 : indexAddrV Tryz.prog 104 (.slice (some ⟨c3, 0, none⟩) 2 2) (.int .i64 0) = some (.pointer (some ⟨c3, 0, none⟩)) := by rfl
    have ix1 : indexAddrV Tryz.prog 104 (.slice (some ⟨c3, 0, none⟩) 2 2) (.int .i64 1) = some (.pointer (some ⟨c3, 4, none⟩)) := by rfl
    have es : sidesM e = [alongM e, oneI e.mid] := by unfold sidesM; rw [if_neg (by omega)]
    refine draw_tail [0, 1, 2, 3, 4, 5, 6, 7, 8] [9, 10, 11] (by kernel_rfl) (by simp only [WLF]; rfl) ?_
    simp (disch := omega) only [WA, ↓reduceIte, jA, jB, jD, jE, jF, jG, jH, jI, jJ, ga, ix0, ix1]
    refine tail_one (i := 9) (pl := [10]) (r := [11]) [] (by kernel_rfl) (by kernel_rfl) (by kernel_rfl) (by simp only [WLF]; rfl) (by rfl) (by simp only [heldCut, List.filter_cons, List.filter_nil, List.contains_cons, List.contains_nil, Nat.reduceBEq, Bool.or_false, Bool.or_true, reduceIte, Bool.false_eq_true]; rfl) ?_
    simp (disch := omega) only [WA, ↓reduceIte, jA, jB, jD, jE, jF, jG, jH, jI, jJ, ga, ix0, ix1]
    refine sep_store s (by simp) fun h4 s => ?_
    have s := s.as (ds := [.int .i64 (lsM e.frm e.tip).n, .int .i64 (lsM e.frm e.tip).k, .int .i64 (gtM e.frm e.tip).n, .int .i64 (gtM e.frm e.tip).k, .int .i64 (lsM e.frm e.tip).n, .int .i64 (lsM e.frm e.tip).k, .int .i64 (gtM e.frm e.tip).n, .int .i64 (gtM e.frm e.tip).k]) (by simp [t_put])
    have ga := s.rdA
    simp (disch := omega) only [WA, ↓reduceIte, jA, jB, jD, jE, jF, jG, jH, jI, jJ, ga, ix0, ix1]
    refine tail_one (i := 11) (pl := []) (r := []) [] (by kernel_rfl) (by kernel_rfl) (by kernel_rfl) (by simp only [WLF]; rfl) (by rfl) (by simp only [heldCut, List.filter_cons, List.filter_nil, List.contains_cons, List.contains_nil, Nat.reduceBEq, Bool.or_false, Bool.or_true, reduceIte, Bool.false_eq_true]; rfl) ?_
    simp (disch := omega) only [WA, ↓reduceIte, jA, jB, jD, jE, jF, jG, jH, jI, jJ, ga, ix0, ix1]
    refine sep_store s (by simp) fun h5 s => ?_
    have s := s.as (ds := [.int .i64 (lsM e.frm e.tip).n, .int .i64 (lsM e.frm e.tip).k, .int .i64 (gtM e.frm e.tip).n, .int .i64 (gtM e.frm e.tip).k, .int .i64 e.mid.n, .int .i64 e.mid.k, .int .i64 e.mid.n, .int .i64 e.mid.k]) (by simp [t_put])
    have ga := s.rdA
    simp (disch := omega) only [WA, ↓reduceIte, jA, jB, jD, jE, jF, jG, jH, jI, jJ, ga, ix0, ix1]
    have s := Sep.blkOwn (l := sidesM e) (n := 2) s (by rw [es]; exact cells_iv2 (along_good he) (mid_good he) _) (by rw [es]; rfl) (by decide)
    have rs := s.row
    have rS2 := rS.mono s.ext
    have g2 := s.ext.keepC g1
    simp (disch := omega) only [WA, ↓reduceIte, jA, jB, jD, jE, jF, jG, jH, jI, jJ, tm, rS2.isRow.ix, q1, g2]
    refine .inl ⟨by kernel_rfl, ?_⟩; refine valueOver_c (hu.mono s.ext) rs hT (fun i hi => (hs i hi).d) (by rw [sides_len]; decide) fun h6 E6 => ?_
    have s := s.mono E6
    have hg := valM_good (p := S.getD (r % 2) []) hs hT
    have s := s.newBlk (ivC ((valM (S.getD (r % 2) []) (sidesM e)).getD zeroI)) 122 true
    have gz := ivRd s
    unfold holdM signR at hQ
    cases hv : (valM (S.getD (r % 2) []) (sidesM e)).isSome with
    | false =>
      rw [hv] at hQ
      simp (disch := omega) only [WA, ↓reduceIte, jA, jB, jD, jE, jF, jG, jH, jI, jJ]
      exact hQ _ s.ext
    | true =>
      rw [hv, Bool.true_and] at hQ
      have w2 := wrap_in (((r / 2 : Nat) : Int) * 2) (by omega)
      have w3 := wrap_in (1 - ((r / 2 : Nat) : Int) * 2) (by omega)
      have w4 := wrap_in (1 - 2 * ((r / 2 : Nat) : Int)) (by omega)
      have cm : 1 - ((r / 2 : Nat) : Int) * 2 = 1 - 2 * ((r / 2 : Nat) : Int) := by omega
      simp (disch := omega) only [WA, ↓reduceIte, jA, jB, jD, jE, jF, jG, jH, jI, jJ, gz]
      refine .inl ⟨by kernel_rfl, ?_⟩; refine signOf_c fun h7 E7 => ?_
      simp (disch := omega) only [WA, ↓reduceIte, jA, jB, jD, jE, jF, jG, jH, jI, jJ, td, wd, w2, w3, w4, cm]
      exact hQ _ (s.ext.trans E7)
end Go.Proofs
end
