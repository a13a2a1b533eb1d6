/- Contracts of functions, facts of types, or the plain law behind one statement (own work): IV. Conditions: those told in each theorem. -/
import Derived.Test.YtlnephhhcofilaaGreatIU
set_option linter.all false
set_option linter.unusedSimpArgs false
set_option linter.unusedVariables false
set_option maxRecDepth 4000
namespace Go.Proofs
open Go Go.V
open Nat (reduceEqDiff reduceAdd reduceMul reduceSub reduceLeDiff)
open Int (reduceLT reduceLE reduceNeg reduceEq)
def planeB (b : Bx) : Bool := boxM b && decide (b.low.length = 2) && decide (b.k ≤ 3)
def twoB (S : List (List Tm)) : Bool := decide (S.length = 2) && sysB S
theorem isTwo_c {S : List (List Tm)} {v : Value} {h : Heap} {Q : Value → Heap → Prop} (rS : Row h S v) (hQ : ∀ h', Ext h h' → Q (.bool (twoB S)) h') : CallsV Tryz.prog 56 [v] h Q := by
  refine CallsV.start Tryz.func56 rfl (by rw [Tryz.results56]) (by kernel_rfl) (by rw [Tryz.ntmps56]; simp) ?_
  unfold twoB at hQ
  by_cases c : S.length = 2
  · have c' : (S.length : Int) = 2 := by omega
    have d := decide_eq_true c'
    have d' := decide_eq_true c
    rw [d', Bool.true_and] at hQ
    simp (disch := omega) only [WA, ↓reduceIte, reduceEqDiff, reduceAdd, reduceMul, reduceSub, reduceLeDiff, reduceLT, reduceLE, reduceNeg, reduceEq, rS.isRow.len, d, c']
    refine .inl ⟨by kernel_rfl, ?_⟩; refine isSystem_c rS fun h1 E1 => ?_
    simp (disch := omega) only [WA, ↓reduceIte, reduceEqDiff, reduceAdd, reduceMul, reduceSub, reduceLeDiff, reduceLT, reduceLE, reduceNeg, reduceEq]
    exact hQ _ E1
  · have c' : ¬ (S.length : Int) = 2 := by omega
    have d := decide_eq_false c'
    have d' := decide_eq_false c
    rw [d', Bool.false_and] at hQ
    simp (disch := omega) only [WA, ↓reduceIte, reduceEqDiff, reduceAdd, reduceMul, reduceSub, reduceLeDiff, reduceLT, reduceLE, reduceNeg, reduceEq, rS.isRow.len, d, c']
    exact hQ _ (.refl h)
theorem isPlaneBox_c {x : Bx} {b off : Nat} {h : Heap} {Q : Value → Heap → Prop} (hp : At h b off x) (hQ : Q (.bool (planeB x)) h) :
    CallsV Tryz.prog 57 [.pointer (some ⟨b, off, none⟩)] h Q := by
  obtain ⟨v1, v2, g0, g1, g2, f1, r1, r2, _⟩ := at_Bx hp
  refine CallsV.start Tryz.func57 rfl (by rw [Tryz.results57]) (by kernel_rfl) (by rw [Tryz.ntmps57]; simp) ?_
  unfold planeB at hQ
  simp (disch := omega) only [WA, ↓reduceIte, reduceEqDiff, reduceAdd, reduceMul, reduceSub, reduceLeDiff, reduceLT, reduceLE, reduceNeg, reduceEq]
  refine .inl ⟨by kernel_rfl, ?_⟩; refine isBox_c hp ?_
  cases hb : boxM x with
  | false =>
    rw [hb] at hQ
    simp (disch := omega) only [WA, ↓reduceIte, reduceEqDiff, reduceAdd, reduceMul, reduceSub, reduceLeDiff, reduceLT, reduceLE, reduceNeg, reduceEq]
    exact hQ
  | true =>
    rw [hb, Bool.true_and] at hQ
    by_cases c : x.low.length = 2
    · have c' : (x.low.length : Int) = 2 := by omega
      have d := decide_eq_true c'
      have d' := decide_eq_true c
      rw [d', Bool.true_and] at hQ
      simp (disch := omega) only [WA, ↓reduceIte, reduceEqDiff, reduceAdd, reduceMul, reduceSub, reduceLeDiff, reduceLT, reduceLE, reduceNeg, reduceEq, g1, r1.isRow.len, d, c', g0]
      exact hQ
    · have c' : ¬ (x.low.length : Int) = 2 := by omega
      have d := decide_eq_false c'
      have d' := decide_eq_false c
      rw [d', Bool.false_and] at hQ
      simp (disch := omega) only [WA, ↓reduceIte, reduceEqDiff, reduceAdd, reduceMul, reduceSub, reduceLeDiff, reduceLT, reduceLE, reduceNeg, reduceEq, g1, r1.isRow.len, d, c', g0]
      exact hQ
theorem isPlane_c {S : List (List Tm)} {x : Bx} {v : Value} {b off : Nat} {h : Heap} {Q : Value → Heap → Prop} (rS : Row h S v) (hb : b < h.length) (hp : At h b off x) (hQ : ∀ h', Ext h h' → Q (.bool (twoB S && planeB x)) h') :
    CallsV Tryz.prog 36 [v, .pointer (some ⟨b, off, none⟩)] h Q := by
  refine CallsV.start Tryz.func36 rfl (by rw [Tryz.results36]) (by kernel_rfl) (by rw [Tryz.ntmps36]; simp) ?_
  simp (disch := omega) only [WA, ↓reduceIte, reduceEqDiff, reduceAdd, reduceMul, reduceSub, reduceLeDiff, reduceLT, reduceLE, reduceNeg, reduceEq]
  refine .inl ⟨by kernel_rfl, ?_⟩; refine isTwo_c rS fun h1 E1 => ?_
  cases ht : twoB S with
  | false =>
    rw [ht, Bool.false_and] at hQ
    simp (disch := omega) only [WA, ↓reduceIte, reduceEqDiff, reduceAdd, reduceMul, reduceSub, reduceLeDiff, reduceLT, reduceLE, reduceNeg, reduceEq]
    exact hQ _ E1
  | true =>
    rw [ht, Bool.true_and] at hQ
    simp (disch := omega) only [WA, ↓reduceIte, reduceEqDiff, reduceAdd, reduceMul, reduceSub, reduceLeDiff, reduceLT, reduceLE, reduceNeg, reduceEq]
    refine .inl ⟨by kernel_rfl, ?_⟩; refine isPlaneBox_c (hp.mono hb E1) ?_
    simp (disch := omega) only [WA, ↓reduceIte, reduceEqDiff, reduceAdd, reduceMul, reduceSub, reduceLeDiff, reduceLT, reduceLE, reduceNeg, reduceEq]
    exact hQ _ E1
theorem imBox_c {x : Bx} {cs : List Value} {h : Heap} {Q : Value → Heap → Prop} (hx : Here h x cs) (hQ : ∀ h', Ext h h' → Q (.bool (planeB x)) h') : CallsV Tryz.prog 63 [.agg cs.toArray] h Q := by
  obtain ⟨v1, v2, rfl, f1, r1, r2⟩ := here_Bx hx
  refine CallsV.start Tryz.func63 rfl (by rw [Tryz.results63]) (by kernel_rfl) (by rw [Tryz.ntmps63]; simp) ?_
  have s := Sep.blk1 h [.int .i64 x.k, v1, v2] 32 true
  unfold planeB at hQ
  have g := s.rd
  have ga := s.rdAll (n := 3) rfl
  simp (disch := omega) only [WA, ↓reduceIte, reduceEqDiff, reduceAdd, reduceMul, reduceSub, reduceLeDiff, reduceLT, reduceLE, reduceNeg, reduceEq, g, ga]
  refine .inl ⟨by kernel_rfl, ?_⟩; refine bxGood_c (hx.mono s.ext) fun h1 E1 => ?_
  have s := s.mono E1
  have g := s.rd
  have ga := s.rdAll (n := 3) rfl
  cases hb : boxM x with
  | false =>
    rw [hb] at hQ
    simp (disch := omega) only [WA, ↓reduceIte, reduceEqDiff, reduceAdd, reduceMul, reduceSub, reduceLeDiff, reduceLT, reduceLE, reduceNeg, reduceEq, g]
    exact hQ _ s.ext
  | true =>
    rw [hb, Bool.true_and] at hQ
    by_cases c : x.low.length = 2
    · have c' : (x.low.length : Int) = 2 := by omega
      have d := decide_eq_true c'
      have d' := decide_eq_true c
      rw [d', Bool.true_and] at hQ
      simp (disch := omega) only [WA, ↓reduceIte, reduceEqDiff, reduceAdd, reduceMul, reduceSub, reduceLeDiff, reduceLT, reduceLE, reduceNeg, reduceEq, g, r1.isRow.len, d, c']
      exact hQ _ s.ext
    · have c' : ¬ (x.low.length : Int) = 2 := by omega
      have d := decide_eq_false c'
      have d' := decide_eq_false c
      rw [d', Bool.false_and] at hQ
      simp (disch := omega) only [WA, ↓reduceIte, reduceEqDiff, reduceAdd, reduceMul, reduceSub, reduceLeDiff, reduceLT, reduceLE, reduceNeg, reduceEq, g, r1.isRow.len, d, c']
      exact hQ _ s.ext
theorem imGood_c {S : List (List Tm)} {x : Bx} {v : Value} {cs : List Value} {h : Heap} {Q : Value → Heap → Prop} (rS : Row h S v) (hx : Here h x cs) (hQ : ∀ h', Ext h h' → Q (.bool (twoB S && planeB x)) h') :
    CallsV Tryz.prog 46 [v, .agg cs.toArray] h Q := by
  have hlen := Here.len hx
  rw [Bx.sz] at hlen
  refine CallsV.start Tryz.func46 rfl (by rw [Tryz.results46]) (by kernel_rfl) (by rw [Tryz.ntmps46]; simp) ?_
  have s := Sep.blk1 h cs 32 true
  unfold twoB at hQ
  simp (disch := omega) only [WA, ↓reduceIte, reduceEqDiff, reduceAdd, reduceMul, reduceSub, reduceLeDiff, reduceLT, reduceLE, reduceNeg, reduceEq, hlen]
  refine .inl ⟨by kernel_rfl, ?_⟩; refine poSystem_c (rS.mono s.ext) fun h1 E1 => ?_
  have s := s.mono E1
  have ga := s.rdAll (n := 3) hlen.symm
  cases hb : sysB S with
  | false =>
    rw [hb, Bool.and_false, Bool.false_and] at hQ
    simp (disch := omega) only [WA, ↓reduceIte, reduceEqDiff, reduceAdd, reduceMul, reduceSub, reduceLeDiff, reduceLT, reduceLE, reduceNeg, reduceEq]
    exact hQ _ s.ext
  | true =>
    rw [hb, Bool.and_true] at hQ
    by_cases c : S.length = 2
    · have c' : (S.length : Int) = 2 := by omega
      have d := decide_eq_true c'
      have d' := decide_eq_true c
      rw [d', Bool.true_and] at hQ
      simp (disch := omega) only [WA, ↓reduceIte, reduceEqDiff, reduceAdd, reduceMul, reduceSub, reduceLeDiff, reduceLT, reduceLE, reduceNeg, reduceEq, rS.isRow.len, d, c', ga]
      refine .inl ⟨by kernel_rfl, ?_⟩; refine imBox_c (hx.mono s.ext) fun h2 E2 => ?_
      simp (disch := omega) only [WA, ↓reduceIte, reduceEqDiff, reduceAdd, reduceMul, reduceSub, reduceLeDiff, reduceLT, reduceLE, reduceNeg, reduceEq]
      exact hQ _ (s.ext.trans E2)
    · have c' : ¬ (S.length : Int) = 2 := by omega
      have d := decide_eq_false c'
      have d' := decide_eq_false c
      rw [d', Bool.false_and] at hQ
      simp (disch := omega) only [WA, ↓reduceIte, reduceEqDiff, reduceAdd, reduceMul, reduceSub, reduceLeDiff, reduceLT, reduceLE, reduceNeg, reduceEq, rS.isRow.len, d, c']
      exact hQ _ s.ext
end Go.Proofs
