/- Contracts of functions, facts of types, or the plain law behind one statement (own work): UD. Conditions: those told in each theorem. -/
import Derived.Test.YtlnephhhcofilaaGreatUC
set_option linter.all false
set_option linter.unusedSimpArgs false
set_option linter.unusedVariables false
set_option maxRecDepth 4000
namespace Go.Proofs
open Go Go.V
/- The program's side. -/
theorem edgeHolds_c {S : List (List Tm)} {e : Ed} {v : Value} {r : Nat} {h : Heap} {Q : Value → Heap → Prop} (rS : Row h S v) (hS : twoB S = true) (he : EdG e) (hr : r < 4)
    (hQ : ∀ h', Ext h h' → Q (.bool (holdM S (sidesM e) r)) h') : CallsV Tryz.prog 116 [v, .agg (edC e).toArray, .int .i64 r] h Q := by
  obtain ⟨hl, hsys⟩ := twoB_two hS
  have hp := two_at hS r
  obtain ⟨u, g1, hu⟩ := row_list rS hp
  have hT := sys_at hsys hp
  have hs := sides_good he
  have tm : Int.tmod (r : Int) 2 = ((r % 2 : Nat) : Int) := by rw [Int.tmod_eq_emod_of_nonneg (by omega)]; omega
  have td : Int.tdiv (r : Int) 2 = ((r / 2 : Nat) : Int) := by rw [Int.tdiv_eq_ediv_of_nonneg (by omega)]; omega
  have q1 : ((r % 2 : Nat) : Int) < (S.length : Int) := by omega
  have wd := wrap_in ((r / 2 : Nat) : Int) (by omega)
  refine CallsV.start Tryz.func116 rfl (by rw [Tryz.results116]) (by kernel_rfl) (by rw [Tryz.ntmps116]; simp) ?_
  have s := Sep.blk1 h (edC e) 102 true
  simp (disch := omega) only [VW, VY, VZ, VA, VB, VC, VE, TY, VL, ↓reduceIte, Nat.reduceEqDiff, Nat.reduceAdd, Nat.reduceMul, Nat.reduceSub, Nat.reduceLeDiff, Int.reduceLT, Int.reduceLE, Int.reduceNeg, Int.reduceEq]
  generalize h ++ [some ⟨edC e, 102, false, true⟩] = H0 at s ⊢
  refine draw_ord [0, 1, 3, 4, 5, 6, 8, 9, 10, 11, 2, 7, 12, 13, 14, 15] (by kernel_rfl) (by simp only [List.filterMap_cons, List.filterMap_nil, List.getElem?_cons_zero, List.getElem?_cons_succ]; rfl) ?_
  have gb := s.rdA
  simp (disch := omega) only [VW, VY, VZ, VA, VB, VC, VE, TY, VL, ↓reduceIte, Nat.reduceEqDiff, Nat.reduceAdd, Nat.reduceMul, Nat.reduceSub, Nat.reduceLeDiff, Int.reduceLT, Int.reduceLE, Int.reduceNeg, Int.reduceEq, gb]
  refine .inl ⟨by kernel_rfl, ?_⟩; refine single_c fun h1 E1 => ?_
  have s := s.mono E1
  have gb := s.rdA
  simp (disch := omega) only [VW, VY, VZ, VA, VB, VC, VE, TY, VL, ↓reduceIte, Nat.reduceEqDiff, Nat.reduceAdd, Nat.reduceMul, Nat.reduceSub, Nat.reduceLeDiff, Int.reduceLT, Int.reduceLE, Int.reduceNeg, Int.reduceEq, gb]
  refine .inl ⟨by kernel_rfl, ?_⟩; refine lesser_c he.frm he.tip fun h2 E2 => ?_
  have s := s.mono E2
  have gb := s.rdA
  simp (disch := omega) only [VW, VY, VZ, VA, VB, VC, VE, TY, VL, ↓reduceIte, Nat.reduceEqDiff, Nat.reduceAdd, Nat.reduceMul, Nat.reduceSub, Nat.reduceLeDiff, Int.reduceLT, Int.reduceLE, Int.reduceNeg, Int.reduceEq, gb]
  refine .inl ⟨by kernel_rfl, ?_⟩; refine greater_c he.frm he.tip fun h3 E3 => ?_
  have s := s.mono E3
  have gb := s.rdA
  have s := s.newBlk [.int .i64 e.mid.n, .int .i64 e.mid.k, .int .i64 e.mid.n, .int .i64 e.mid.k, .int .i64 (lsM e.frm e.tip).n, .int .i64 (lsM e.frm e.tip).k, .int .i64 (gtM e.frm e.tip).n, .int .i64 (gtM e.frm e.tip).k] 122 true
  have gb2 := (s.pull 1 rfl).rdA
  simp (disch := omega) only [VW, VY, VZ, VA, VB, VC, VE, TY, VL, ↓reduceIte, Nat.reduceEqDiff, Nat.reduceAdd, Nat.reduceMul, Nat.reduceSub, Nat.reduceLeDiff, Int.reduceLT, Int.reduceLE, Int.reduceNeg, Int.reduceEq, gb, gb2]
  have gc := (s.pull 1 rfl).rd
  generalize h3 ++ [_] = H3 at s gb2 gc ⊢
  generalize List.length h3 = c3 at s ⊢
  clear gb gb2
  rcases he.side with c | c
  · have c' : ¬ e.side = 1 := by omega
    simp (disch := omega) only [VW, VY, VZ, VA, VB, VC, VE, TY, VL, ↓reduceIte, Nat.reduceEqDiff, Nat.reduceAdd, Nat.reduceMul, Nat.reduceSub, Nat.reduceLeDiff, Int.reduceLT, Int.reduceLE, Int.reduceNeg, Int.reduceEq, c', gc]
    have es : sidesM e = [oneI e.mid, alongM e] := by unfold sidesM; rw [if_pos c]
    have s := Sep.blkOwn (l := sidesM e) (n := 2) s (by rw [es]; exact cells_iv2 (mid_good he) (along_good he) _) (by rw [es]; rfl) (by decide)
    have rs := s.row
    have rS2 := rS.mono s.ext
    have g2 := s.ext.keepC g1
    simp (disch := omega) only [VW, VY, VZ, VA, VB, VC, VE, TY, VL, ↓reduceIte, Nat.reduceEqDiff, Nat.reduceAdd, Nat.reduceMul, Nat.reduceSub, Nat.reduceLeDiff, Int.reduceLT, Int.reduceLE, Int.reduceNeg, Int.reduceEq, tm, rS2.isRow.ix, q1, g2]
    refine .inl ⟨by kernel_rfl, ?_⟩; refine valueOver_c (hu.mono s.ext) rs hT (fun i hi => (hs i hi).d) (by rw [sides_len]; decide) fun h6 E6 => ?_
    have s := s.mono E6
    have hg := valM_good (p := S.getD (r % 2) []) hs hT
    have s := s.newBlk (ivC ((valM (S.getD (r % 2) []) (sidesM e)).getD zeroI)) 122 true
    have gz := ivRd s
    unfold holdM signR at hQ
    cases hv : (valM (S.getD (r % 2) []) (sidesM e)).isSome with
    | false =>
      rw [hv] at hQ
      simp (disch := omega) only [VW, VY, VZ, VA, VB, VC, VE, TY, VL, ↓reduceIte, Nat.reduceEqDiff, Nat.reduceAdd, Nat.reduceMul, Nat.reduceSub, Nat.reduceLeDiff, Int.reduceLT, Int.reduceLE, Int.reduceNeg, Int.reduceEq]
      exact hQ _ s.ext
    | true =>
      rw [hv, Bool.true_and] at hQ
      have w2 := wrap_in (((r / 2 : Nat) : Int) * 2) (by omega)
      have w3 := wrap_in (1 - ((r / 2 : Nat) : Int) * 2) (by omega)
      have w4 := wrap_in (1 - 2 * ((r / 2 : Nat) : Int)) (by omega)
      have cm : 1 - ((r / 2 : Nat) : Int) * 2 = 1 - 2 * ((r / 2 : Nat) : Int) := by omega
      simp (disch := omega) only [VW, VY, VZ, VA, VB, VC, VE, TY, VL, ↓reduceIte, Nat.reduceEqDiff, Nat.reduceAdd, Nat.reduceMul, Nat.reduceSub, Nat.reduceLeDiff, Int.reduceLT, Int.reduceLE, Int.reduceNeg, Int.reduceEq, gz]
      refine .inl ⟨by kernel_rfl, ?_⟩; refine signOf_c fun h7 E7 => ?_
      simp (disch := omega) only [VW, VY, VZ, VA, VB, VC, VE, TY, VL, ↓reduceIte, Nat.reduceEqDiff, Nat.reduceAdd, Nat.reduceMul, Nat.reduceSub, Nat.reduceLeDiff, Int.reduceLT, Int.reduceLE, Int.reduceNeg, Int.reduceEq, td, wd, w2, w3, w4, cm]
      exact hQ _ (s.ext.trans E7)
  · simp (disch := omega) only [VW, VY, VZ, VA, VB, VC, VE, TY, VL, ↓reduceIte, Nat.reduceEqDiff, Nat.reduceAdd, Nat.reduceMul, Nat.reduceSub, Nat.reduceLeDiff, Int.reduceLT, Int.reduceLE, Int.reduceNeg, Int.reduceEq, c, gc]
    have ga := s.rdA
    have ix0 : indexAddrV Tryz.prog 104 (.slice (some ⟨c3, 0, none⟩) 2 2) (.int .i64 0) = some (.pointer (some ⟨c3, 0, none⟩)) := by rfl
    have ix1 : indexAddrV Tryz.prog 104 (.slice (some ⟨c3, 0, none⟩) 2 2) (.int .i64 1) = some (.pointer (some ⟨c3, 4, none⟩)) := by rfl
    have es : sidesM e = [alongM e, oneI e.mid] := by unfold sidesM; rw [if_neg (by omega)]
    refine draw_tail [0, 1, 2, 3, 4, 5, 6, 7, 8] [9, 10, 11] (by kernel_rfl) (by simp only [List.filterMap_cons, List.filterMap_nil, List.getElem?_cons_zero, List.getElem?_cons_succ]; rfl) ?_
    simp (disch := omega) only [VW, VY, VZ, VA, VB, VC, VE, TY, VL, ↓reduceIte, Nat.reduceEqDiff, Nat.reduceAdd, Nat.reduceMul, Nat.reduceSub, Nat.reduceLeDiff, Int.reduceLT, Int.reduceLE, Int.reduceNeg, Int.reduceEq, ga, ix0, ix1]
    refine tail_one (i := 9) (pl := [10]) (r := [11]) [] (by kernel_rfl) (by kernel_rfl) (by kernel_rfl) (by simp only [List.filterMap_cons, List.filterMap_nil, List.getElem?_cons_zero, List.getElem?_cons_succ]; rfl) (by rfl) (by simp only [heldCut, List.filter_cons, List.filter_nil, List.contains_cons, List.contains_nil, Nat.reduceBEq, Bool.or_false, Bool.or_true, reduceIte, Bool.false_eq_true]; rfl) ?_
    simp (disch := omega) only [VW, VY, VZ, VA, VB, VC, VE, TY, VL, ↓reduceIte, Nat.reduceEqDiff, Nat.reduceAdd, Nat.reduceMul, Nat.reduceSub, Nat.reduceLeDiff, Int.reduceLT, Int.reduceLE, Int.reduceNeg, Int.reduceEq, ga, ix0, ix1]
    refine sep_store s (by simp) fun h4 s => ?_
    have s := s.as (ds := [.int .i64 (lsM e.frm e.tip).n, .int .i64 (lsM e.frm e.tip).k, .int .i64 (gtM e.frm e.tip).n, .int .i64 (gtM e.frm e.tip).k, .int .i64 (lsM e.frm e.tip).n, .int .i64 (lsM e.frm e.tip).k, .int .i64 (gtM e.frm e.tip).n, .int .i64 (gtM e.frm e.tip).k]) (by simp [t_put])
    have ga := s.rdA
    simp (disch := omega) only [VW, VY, VZ, VA, VB, VC, VE, TY, VL, ↓reduceIte, Nat.reduceEqDiff, Nat.reduceAdd, Nat.reduceMul, Nat.reduceSub, Nat.reduceLeDiff, Int.reduceLT, Int.reduceLE, Int.reduceNeg, Int.reduceEq, ga, ix0, ix1]
    refine tail_one (i := 11) (pl := []) (r := []) [] (by kernel_rfl) (by kernel_rfl) (by kernel_rfl) (by simp only [List.filterMap_cons, List.filterMap_nil, List.getElem?_cons_zero, List.getElem?_cons_succ]; rfl) (by rfl) (by simp only [heldCut, List.filter_cons, List.filter_nil, List.contains_cons, List.contains_nil, Nat.reduceBEq, Bool.or_false, Bool.or_true, reduceIte, Bool.false_eq_true]; rfl) ?_
    simp (disch := omega) only [VW, VY, VZ, VA, VB, VC, VE, TY, VL, ↓reduceIte, Nat.reduceEqDiff, Nat.reduceAdd, Nat.reduceMul, Nat.reduceSub, Nat.reduceLeDiff, Int.reduceLT, Int.reduceLE, Int.reduceNeg, Int.reduceEq, ga, ix0, ix1]
    refine sep_store s (by simp) fun h5 s => ?_
    have s := s.as (ds := [.int .i64 (lsM e.frm e.tip).n, .int .i64 (lsM e.frm e.tip).k, .int .i64 (gtM e.frm e.tip).n, .int .i64 (gtM e.frm e.tip).k, .int .i64 e.mid.n, .int .i64 e.mid.k, .int .i64 e.mid.n, .int .i64 e.mid.k]) (by simp [t_put])
    have ga := s.rdA
    simp (disch := omega) only [VW, VY, VZ, VA, VB, VC, VE, TY, VL, ↓reduceIte, Nat.reduceEqDiff, Nat.reduceAdd, Nat.reduceMul, Nat.reduceSub, Nat.reduceLeDiff, Int.reduceLT, Int.reduceLE, Int.reduceNeg, Int.reduceEq, ga, ix0, ix1]
    have s := Sep.blkOwn (l := sidesM e) (n := 2) s (by rw [es]; exact cells_iv2 (along_good he) (mid_good he) _) (by rw [es]; rfl) (by decide)
    have rs := s.row
    have rS2 := rS.mono s.ext
    have g2 := s.ext.keepC g1
    simp (disch := omega) only [VW, VY, VZ, VA, VB, VC, VE, TY, VL, ↓reduceIte, Nat.reduceEqDiff, Nat.reduceAdd, Nat.reduceMul, Nat.reduceSub, Nat.reduceLeDiff, Int.reduceLT, Int.reduceLE, Int.reduceNeg, Int.reduceEq, tm, rS2.isRow.ix, q1, g2]
    refine .inl ⟨by kernel_rfl, ?_⟩; refine valueOver_c (hu.mono s.ext) rs hT (fun i hi => (hs i hi).d) (by rw [sides_len]; decide) fun h6 E6 => ?_
    have s := s.mono E6
    have hg := valM_good (p := S.getD (r % 2) []) hs hT
    have s := s.newBlk (ivC ((valM (S.getD (r % 2) []) (sidesM e)).getD zeroI)) 122 true
    have gz := ivRd s
    unfold holdM signR at hQ
    cases hv : (valM (S.getD (r % 2) []) (sidesM e)).isSome with
    | false =>
      rw [hv] at hQ
      simp (disch := omega) only [VW, VY, VZ, VA, VB, VC, VE, TY, VL, ↓reduceIte, Nat.reduceEqDiff, Nat.reduceAdd, Nat.reduceMul, Nat.reduceSub, Nat.reduceLeDiff, Int.reduceLT, Int.reduceLE, Int.reduceNeg, Int.reduceEq]
      exact hQ _ s.ext
    | true =>
      rw [hv, Bool.true_and] at hQ
      have w2 := wrap_in (((r / 2 : Nat) : Int) * 2) (by omega)
      have w3 := wrap_in (1 - ((r / 2 : Nat) : Int) * 2) (by omega)
      have w4 := wrap_in (1 - 2 * ((r / 2 : Nat) : Int)) (by omega)
      have cm : 1 - ((r / 2 : Nat) : Int) * 2 = 1 - 2 * ((r / 2 : Nat) : Int) := by omega
      simp (disch := omega) only [VW, VY, VZ, VA, VB, VC, VE, TY, VL, ↓reduceIte, Nat.reduceEqDiff, Nat.reduceAdd, Nat.reduceMul, Nat.reduceSub, Nat.reduceLeDiff, Int.reduceLT, Int.reduceLE, Int.reduceNeg, Int.reduceEq, gz]
      refine .inl ⟨by kernel_rfl, ?_⟩; refine signOf_c fun h7 E7 => ?_
      simp (disch := omega) only [VW, VY, VZ, VA, VB, VC, VE, TY, VL, ↓reduceIte, Nat.reduceEqDiff, Nat.reduceAdd, Nat.reduceMul, Nat.reduceSub, Nat.reduceLeDiff, Int.reduceLT, Int.reduceLE, Int.reduceNeg, Int.reduceEq, td, wd, w2, w3, w4, cm]
      exact hQ _ (s.ext.trans E7)
end Go.Proofs
