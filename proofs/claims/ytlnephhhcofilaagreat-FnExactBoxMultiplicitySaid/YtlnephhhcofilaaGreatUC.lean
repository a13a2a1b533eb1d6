/- Contracts of functions, facts of types, or the plain law behind one statement (own work): UC. Conditions: those told in each theorem. -/
import Derived.Test.YtlnephhhcofilaaGreatUB
set_option linter.all false
set_option linter.unusedSimpArgs false
set_option linter.unusedVariables false
set_option maxRecDepth 4000
namespace Go.Proofs
open Go Go.V
/- The multiplicity of a box. -/
theorem allM_in {S : List (List Tm)} {E : List Ed} {l : List Int} (h : allM S E = some l) : RsG l ∧ l.length = E.length := by
  unfold allM at h
  split at h
  · rename_i c; cases h; exact ⟨preM_in, c⟩
  · cases h
def leastM (S : List (List Tm)) (x y z w : Int) (k : Nat) : Option Nat := (List.range 6).find? fun d => (allM S (edgesM x y z w k d)).isSome
def degM' (S : List (List Tm)) (x y z w : Int) (k : Nat) : Int × Bool := match leastM S x y z w k with
  | some d => turnsM ((allM S (edgesM x y z w k d)).getD [])
  | none => (0, false)
/-- The multiplicity of a box, if it is told. -/
def boxDeg (S : List (List Tm)) (b : Bx) : Int × Bool :=
  if twoB S && planeB b then degM' S (b.low.getD 0 0) (b.high.getD 0 0) (b.low.getD 1 0) (b.high.getD 1 0) b.k.toNat else (0, false)
theorem boxDeg_G {S : List (List Tm)} {b : Bx} {k : Nat} {x y z w : Int} (hS : twoB S = true) (hb : planeB b = true) (g : PlG b k x y z w) : boxDeg S b = degM' S x y z w k := by
  unfold boxDeg
  rw [hS, hb, g.low, g.high, g.bk]
  rfl
theorem turnsM_in (l : List Int) (h : l.length ≤ 128) : -128 ≤ (turnsM l).1 ∧ (turnsM l).1 ≤ 128 := by
  unfold turnsM
  split
  · have hsum := sumT_in l l.length
    have := Int.natAbs_tdiv_le_natAbs (sumT l l.length) 4
    show -128 ≤ Int.tdiv (sumT l l.length) 4 ∧ Int.tdiv (sumT l l.length) 4 ≤ 128
    omega
  · exact ⟨by decide, by decide⟩
theorem edges_128 {x y z w : Int} {k d : Nat} (hd : d ≤ 5) : (edgesM x y z w k d).length ≤ 128 := by
  obtain ⟨N, _, e, _, h⟩ := pow_d hd
  rw [edgesM_len, e]; omega
theorem boxDeg_in (S : List (List Tm)) (b : Bx) : -128 ≤ (boxDeg S b).1 ∧ (boxDeg S b).1 ≤ 128 := by
  unfold boxDeg
  split
  · unfold degM'
    split
    · rename_i d hd
      have h6 : d < 6 := by unfold leastM at hd; exact List.mem_range.1 (List.mem_of_find?_eq_some hd)
      refine turnsM_in _ ?_
      cases h : allM S (edgesM (b.low.getD 0 0) (b.high.getD 0 0) (b.low.getD 1 0) (b.high.getD 1 0) b.k.toNat d) with
      | none => simp
      | some l =>
        have := (allM_in h).2
        have := edges_128 (x := b.low.getD 0 0) (y := b.high.getD 0 0) (z := b.low.getD 1 0) (w := b.high.getD 1 0) (k := b.k.toNat) (d := d) (by omega)
        simp only [Option.getD_some]; omega
    · exact ⟨by decide, by decide⟩
  · exact ⟨by decide, by decide⟩
theorem least_some {S : List (List Tm)} {x y z w : Int} {k d : Nat} (h6 : d < 6) (hno : ∀ j < d, allM S (edgesM x y z w k j) = none) {l : List Int} (h : allM S (edgesM x y z w k d) = some l) :
    leastM S x y z w k = some d ∧ degM' S x y z w k = turnsM l := by
  have e : leastM S x y z w k = some d := by
    unfold leastM
    rw [List.find?_range_eq_some]
    exact ⟨by rw [h]; rfl, by simp; omega, fun j hj => by rw [hno j hj]; rfl⟩
  refine ⟨e, ?_⟩
  unfold degM'
  rw [e]
  simp only [h, Option.getD_some]
theorem least_none {S : List (List Tm)} {x y z w : Int} {k : Nat} (hno : ∀ j < 6, allM S (edgesM x y z w k j) = none) : leastM S x y z w k = none ∧ degM' S x y z w k = (0, false) := by
  have e : leastM S x y z w k = none := by
    unfold leastM
    rw [List.find?_eq_none]
    intro j hj
    rw [List.mem_range] at hj
    rw [hno j hj]
    decide
  exact ⟨e, by unfold degM'; rw [e]⟩
theorem muBox_c {S : List (List Tm)} {b : Bx} {v : Value} {cs : List Value} {h : Heap} {Q : Value → Heap → Prop} (rS : Row h S v) (hb : Here h b cs)
    (hQ : ∀ h', Ext h h' → Q (.tuple #[.int .i64 (boxDeg S b).1, .bool (boxDeg S b).2]) h') : CallsV Tryz.prog 31 [v, .agg cs.toArray] h Q := by
  obtain ⟨v1, v2, rfl, _⟩ := here_Bx hb
  refine CallsV.start Tryz.func31 rfl (by rw [Tryz.results31]) (by kernel_rfl) (by rw [Tryz.ntmps31]; simp) ?_
  have s := Sep.blk1 h [.int .i64 b.k, v1, v2] 32 true
  have ga := s.rdAll (n := 3) rfl
  simp (disch := omega) only [VW, VY, VZ, VA, VB, VC, VE, TY, VL, ↓reduceIte, Nat.reduceEqDiff, Nat.reduceAdd, Nat.reduceMul, Nat.reduceSub, Nat.reduceLeDiff, Int.reduceLT, Int.reduceLE, Int.reduceNeg, Int.reduceEq, ga]
  refine .inl ⟨by kernel_rfl, ?_⟩; refine imGood_c (rS.mono s.ext) (hb.mono s.ext) fun h1 E1 => ?_
  have s := s.mono E1
  cases hg : twoB S && planeB b with
  | false =>
    unfold boxDeg at hQ
    rw [hg] at hQ
    simp (disch := omega) only [VW, VY, VZ, VA, VB, VC, VE, TY, VL, ↓reduceIte, Nat.reduceEqDiff, Nat.reduceAdd, Nat.reduceMul, Nat.reduceSub, Nat.reduceLeDiff, Int.reduceLT, Int.reduceLE, Int.reduceNeg, Int.reduceEq]
    exact hQ _ s.ext
  | true =>
    obtain ⟨hS, hpb⟩ := Bool.and_eq_true_iff.1 hg
    obtain ⟨k, x, y, z, w, g⟩ := planeB_G hpb
    rw [boxDeg_G hS hpb g] at hQ
    simp (disch := omega) only [VW, VY, VZ, VA, VB, VC, VE, TY, VL, ↓reduceIte, Nat.reduceEqDiff, Nat.reduceAdd, Nat.reduceMul, Nat.reduceSub, Nat.reduceLeDiff, Int.reduceLT, Int.reduceLE, Int.reduceNeg, Int.reduceEq]
    refine loop_rule (fun m e h' => ∃ (d : Nat), e 0 = v ∧ e 3 = .pointer (some ⟨h.length, 0, none⟩) ∧ e 6 = .int .i64 d ∧ d ≤ 6 ∧ m = 6 - d ∧ (∀ j < d, allM S (edgesM x y z w k j) = none) ∧ Sep h h' [blkA h.length [.int .i64 b.k, v1, v2] 32]) ?_ 6 _ _
      ⟨0, rfl, rfl, rfl, by omega, by omega, by omega, s⟩
    clear s ga
    rintro m e h3 ⟨d, e0, e3, e6, hd, rfl, hno, s⟩
    by_cases c : d < 6
    · have c1 : (d : Int) ≤ 5 := by omega
      have ga := s.rdAll (n := 3) rfl
      simp (disch := omega) only [VW, VY, VZ, VA, VB, VC, VE, TY, VL, ↓reduceIte, Nat.reduceEqDiff, Nat.reduceAdd, Nat.reduceMul, Nat.reduceSub, Nat.reduceLeDiff, Int.reduceLT, Int.reduceLE, Int.reduceNeg, Int.reduceEq, e0, e3, e6, c1, ga]
      refine .inl ⟨by kernel_rfl, ?_⟩; refine imAll_c (rS.mono s.ext) hS (hb.mono s.ext) g (by omega) fun vo h4 t4 => ?_
      have s := s.add t4
      cases ha : allM S (edgesM x y z w k d) with
      | none =>
        simp (disch := omega) only [VW, VY, VZ, VA, VB, VC, VE, TY, VL, ↓reduceIte, Nat.reduceEqDiff, Nat.reduceAdd, Nat.reduceMul, Nat.reduceSub, Nat.reduceLeDiff, Int.reduceLT, Int.reduceLE, Int.reduceNeg, Int.reduceEq, e6, wrap_in, Option.isSome_none]
        refine ⟨_, by omega, d + 1, e0, e3, by simp, by omega, rfl, fun j hj => ?_, s.tail⟩
        by_cases ej : j = d
        · rw [ej]; exact ha
        · exact hno j (by omega)
      | some l =>
        obtain ⟨_, p2⟩ := least_some c hno ha
        obtain ⟨hr, hl⟩ := allM_in ha
        rw [p2] at hQ
        rw [ha] at s
        have rl := (s.pull 0 rfl).row
        have := edges_128 (x := x) (y := y) (z := z) (w := w) (k := k) (d := d) (by omega)
        simp (disch := omega) only [VW, VY, VZ, VA, VB, VC, VE, TY, VL, ↓reduceIte, Nat.reduceEqDiff, Nat.reduceAdd, Nat.reduceMul, Nat.reduceSub, Nat.reduceLeDiff, Int.reduceLT, Int.reduceLE, Int.reduceNeg, Int.reduceEq, Option.isSome_some]
        refine .inl ⟨by kernel_rfl, ?_⟩; refine imTurns_c rl hr (by rw [Option.getD_some]; omega) ?_
        simp (disch := omega) only [VW, VY, VZ, VA, VB, VC, VE, TY, VL, ↓reduceIte, Nat.reduceEqDiff, Nat.reduceAdd, Nat.reduceMul, Nat.reduceSub, Nat.reduceLeDiff, Int.reduceLT, Int.reduceLE, Int.reduceNeg, Int.reduceEq]
        exact hQ _ s.ext
    · obtain rfl : d = 6 := by omega
      have e6 : e 6 = .int .i64 6 := e6
      obtain ⟨_, p2⟩ := least_none hno
      rw [p2] at hQ
      simp (disch := omega) only [VW, VY, VZ, VA, VB, VC, VE, TY, VL, ↓reduceIte, Nat.reduceEqDiff, Nat.reduceAdd, Nat.reduceMul, Nat.reduceSub, Nat.reduceLeDiff, Int.reduceLT, Int.reduceLE, Int.reduceNeg, Int.reduceEq, e6]
      exact hQ _ s.ext
theorem BoxMultiplicity_s {S : List (List Tm)} {b : Bx} {v : Value} {cs : List Value} {h : Heap} {Q : Value → Heap → Prop} (rS : Row h S v) (hb : Here h b cs)
    (hQ : ∀ h', Ext h h' → Q (.tuple #[.int .i64 (boxDeg S b).1, .bool (boxDeg S b).2]) h') : CallsV Tryz.prog 9 [v, .agg cs.toArray] h Q := by
  obtain ⟨v1, v2, rfl, _⟩ := here_Bx hb
  refine CallsV.start Tryz.func9 rfl (by rw [Tryz.results9]) (by kernel_rfl) (by rw [Tryz.ntmps9]; simp) ?_
  have s := Sep.blk1 h [.int .i64 b.k, v1, v2] 32 true
  have ga := s.rdAll (n := 3) rfl
  simp (disch := omega) only [VW, VY, VZ, VA, VB, VC, VE, TY, VL, ↓reduceIte, Nat.reduceEqDiff, Nat.reduceAdd, Nat.reduceMul, Nat.reduceSub, Nat.reduceLeDiff, Int.reduceLT, Int.reduceLE, Int.reduceNeg, Int.reduceEq, ga]
  refine .inl ⟨by kernel_rfl, ?_⟩; refine muBox_c (rS.mono s.ext) (hb.mono s.ext) fun h1 E1 => ?_
  simp (disch := omega) only [VW, VY, VZ, VA, VB, VC, VE, TY, VL, ↓reduceIte, Nat.reduceEqDiff, Nat.reduceAdd, Nat.reduceMul, Nat.reduceSub, Nat.reduceLeDiff, Int.reduceLT, Int.reduceLE, Int.reduceNeg, Int.reduceEq]
  exact hQ _ (s.ext.trans E1)
end Go.Proofs
