/- Contracts of functions, facts of types, or the plain law behind one statement (own work): UH. Conditions: those told in each theorem. -/
import Derived.Test.YtlnephhhcofilaaGreatUE
import Derived.Test.YtlnephhhcofilaaGreatH3
set_option linter.all false
set_option linter.unusedSimpArgs false
set_option linter.unusedVariables false
set_option maxRecDepth 4000
namespace Go.Proofs
open Go Go.V
open Nat renaming reduceEqDiff → jA, reduceAdd → jB, reduceMul → jD, reduceSub → jE, reduceLeDiff → jF
open Int renaming reduceLT → jG, reduceLE → jH, reduceNeg → jI, reduceEq → jJ
/- Sums of multiplicities. -/
def sumD (S : List (List Tm)) (l : List Bx) : Int := (l.map fun b => (boxDeg S b).1).sum
def countM (S : List (List Tm)) (l : List Bx) : Int × Bool := if l.all (fun b => (boxDeg S b).2) then (sumD S l, true) else (0, false)
theorem sumD_take {S : List (List Tm)} {l : List Bx} {i : Nat} {b : Bx} (h : l[i]? = some b) : sumD S (l.take (i + 1)) = sumD S (l.take i) + (boxDeg S b).1 := by
  unfold sumD
  rw [List.take_add_one, h, List.map_append, List.sum_append]
  simp
theorem sumD_in (S : List (List Tm)) : ∀ l : List Bx, -(128 * (l.length : Int)) ≤ sumD S l ∧ sumD S l ≤ 128 * (l.length : Int) := by
  intro l
  induction l with
  | nil => exact ⟨by simp [sumD], by simp [sumD]⟩
  | cons b l ih =>
    have hb := boxDeg_in S b
    have e : sumD S (b :: l) = (boxDeg S b).1 + sumD S l := by unfold sumD; rw [List.map_cons, List.sum_cons]
    rw [e, List.length_cons]
    omega
theorem count_bad {S : List (List Tm)} {l : List Bx} {i : Nat} {b : Bx} (h : l[i]? = some b) (hb : (boxDeg S b).2 = false) : countM S l = (0, false) := by
  unfold countM
  rw [all_false h hb]; rfl
theorem count_good {S : List (List Tm)} {l : List Bx} (h : l.all (fun b => (boxDeg S b).2) = true) : countM S l = (sumD S l, true) := by unfold countM; rw [h]; rfl
theorem boxDeg_no {S : List (List Tm)} {b : Bx} (h : (twoB S && planeB b) = false) : boxDeg S b = (0, false) := by unfold boxDeg; rw [h]; rfl
theorem signedCount_c {S : List (List Tm)} {l : List Bx} {v w : Value} {h : Heap} {Q : Value → Heap → Prop} (rS : Row h S v) (rl : Row h l w) (h8 : l.length ≤ 1000)
    (hQ : ∀ h', Ext h h' → Q (.tuple #[.int .i64 (countM S l).1, .bool (countM S l).2]) h') : CallsV Tryz.prog 44 [v, w] h Q := by
  refine CallsV.start Tryz.func44 rfl (by rw [Tryz.results44]) (by kernel_rfl) (by rw [Tryz.ntmps44]; simp) ?_
  simp (disch := omega) only [WA, ↓reduceIte, jA, jB, jD, jE, jF, jG, jH, jI, jJ, rl.isRow.len]
  refine loop_rule (fun m e h' => ∃ (i : Nat), e 0 = v ∧ e 1 = w ∧ e 6 = .int .i64 (sumD S (l.take i)) ∧ e 11 = .int .i64 l.length ∧ e 12 = .int .i64 i ∧ i ≤ l.length ∧ m = l.length - i ∧ (l.take i).all (fun b => (boxDeg S b).2) = true ∧ Ext h h') ?_ l.length _ _
    ⟨0, rfl, rfl, rfl, rfl, rfl, by omega, by omega, by simp, .refl _⟩
  rintro m e h3 ⟨i, e0, e1, e6, e11, e12, hi, rfl, hall, E⟩
  simp (disch := omega) only [WA, ↓reduceIte, jA, jB, jD, jE, jF, jG, jH, jI, jJ, e11, e12]
  by_cases c : i < l.length
  · have c1 : (i : Int) < (l.length : Int) := by omega
    obtain ⟨b, hb⟩ := get_some c
    have rl2 := rl.mono E
    have hlt := rl2.blk hb
    have hp : At h3 (rowB w) (rowO w + i * 3) b := rl2.ptr hb
    simp (disch := omega) only [WA, ↓reduceIte, jA, jB, jD, jE, jF, jG, jH, jI, jJ, c1, e0, e1, e12, rl2.isRow.ix]
    refine .inl ⟨by kernel_rfl, ?_⟩; refine isPlane_c (rS.mono E) hlt hp fun h4 E4 => ?_
    cases hg : twoB S && planeB b with
    | false =>
      rw [count_bad hb (by rw [boxDeg_no hg])] at hQ
      simp (disch := omega) only [WA, ↓reduceIte, jA, jB, jD, jE, jF, jG, jH, jI, jJ]
      exact hQ _ (E.trans E4)
    | true =>
      obtain ⟨hS, hpb⟩ := Bool.and_eq_true_iff.1 hg
      have rl3 := rl2.mono E4
      have hin := boxDeg_in S b
      have hsi := sumD_in S (l.take i)
      rw [List.length_take] at hsi
      simp (disch := omega) only [WA, ↓reduceIte, jA, jB, jD, jE, jF, jG, jH, jI, jJ, e0, e1, rl3.isRow.ix]
      refine .inl ⟨by kernel_rfl, ?_⟩; refine degreeOver_c (rS.mono (E.trans E4)) hS hpb (Nat.lt_of_lt_of_le hlt E4.le) (hp.mono hlt E4) fun h5 E5 => ?_
      cases hd : (boxDeg S b).2 with
      | false =>
        rw [count_bad hb hd] at hQ
        simp (disch := omega) only [WA, ↓reduceIte, jA, jB, jD, jE, jF, jG, jH, jI, jJ]
        exact hQ _ ((E.trans E4).trans E5)
      | true =>
        have w1 := wrap_in (sumD S (l.take i) + (boxDeg S b).1) (by omega)
        have w2 := wrap_in ((i : Int) + 1) (by omega)
        simp (disch := omega) only [WA, ↓reduceIte, jA, jB, jD, jE, jF, jG, jH, jI, jJ, e6, e12, w1, w2]
        refine ⟨_, by omega, i + 1, e0, e1, by rw [sumD_take hb], e11, by simp, by omega, rfl, ?_, (E.trans E4).trans E5⟩
        rw [all_take _ hb, hall, hd]; rfl
  · obtain rfl : i = l.length := by omega
    have c1 : ¬ (l.length : Int) < (l.length : Int) := by omega
    rw [List.take_length] at hall e6
    rw [count_good hall] at hQ
    simp (disch := omega) only [WA, ↓reduceIte, jA, jB, jD, jE, jF, jG, jH, jI, jJ, c1, e6]
    exact hQ _ E
end Go.Proofs
