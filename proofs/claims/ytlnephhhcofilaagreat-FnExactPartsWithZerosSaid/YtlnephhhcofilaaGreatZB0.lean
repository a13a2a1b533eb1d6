/- Contracts of functions, facts of types, or the plain law behind one statement (own work): ZB0. Conditions: those told in each theorem. -/
import Derived.Test.YtlnephhhcofilaaGreatYW
set_option linter.all false
set_option linter.unusedSimpArgs false
set_option linter.unusedVariables false
set_option maxRecDepth 4000
namespace Go.Proofs
open Go Go.V
open Nat renaming reduceEqDiff → jA, reduceAdd → jB, reduceMul → jD, reduceSub → jE, reduceLeDiff → jF
open Int renaming reduceLT → jG, reduceLE → jH, reduceNeg → jI, reduceEq → jJ
theorem isNaNi_c {n : Int} {h : Heap} {Q : Value → Heap → Prop} (hQ : Q (.bool false) h) : CallsV Tryz.prog 137 [.int .i64 n] h Q := by
  refine CallsV.start Tryz.func137 rfl (by rw [Tryz.results137]) (by kernel_rfl) (by rw [Tryz.ntmps137]; simp) ?_
  simp (disch := omega) only [WA, ↓reduceIte, jA, jB, jD, jE, jF, jG, jH, jI, jJ]
  exact hQ
def sgnI (a b : Int) : Int := if a < b then -1 else if b < a then 1 else 0
theorem compareI_c {a b : Int} {h : Heap} {Q : Value → Heap → Prop} (hQ : Q (.int .i64 (sgnI a b)) h) : CallsV Tryz.prog 123 [.int .i64 a, .int .i64 b] h Q := by
  refine CallsV.start Tryz.func123 rfl (by rw [Tryz.results123]) (by kernel_rfl) (by rw [Tryz.ntmps123]; simp) ?_
  unfold sgnI at hQ
  simp (disch := omega) only [WA, ↓reduceIte, jA, jB, jD, jE, jF, jG, jH, jI, jJ]
  refine .inl ⟨by kernel_rfl, ?_⟩; refine isNaNi_c ?_
  simp (disch := omega) only [WA, ↓reduceIte, jA, jB, jD, jE, jF, jG, jH, jI, jJ]
  refine .inl ⟨by kernel_rfl, ?_⟩; refine isNaNi_c ?_
  by_cases c1 : a < b
  · rw [if_pos c1] at hQ
    simp (disch := omega) only [WA, ↓reduceIte, jA, jB, jD, jE, jF, jG, jH, jI, jJ, c1]
    exact hQ
  · rw [if_neg c1] at hQ
    by_cases c2 : b < a
    · rw [if_pos c2] at hQ
      simp (disch := omega) only [WA, ↓reduceIte, jA, jB, jD, jE, jF, jG, jH, jI, jJ, c1, c2]
      exact hQ
    · rw [if_neg c2] at hQ
      simp (disch := omega) only [WA, ↓reduceIte, jA, jB, jD, jE, jF, jG, jH, jI, jJ, c1, c2]
      exact hQ
end Go.Proofs
