/- Contracts of functions, facts of types, or the plain law behind one statement (own work): C00. Conditions: those told in each theorem. -/
import Derived.Test.YtlnephhhcofilaaGreatTF
set_option linter.all false
set_option linter.unusedSimpArgs false
namespace Go.Proofs
open Go Go.V
open Nat renaming reduceEqDiff → jA, reduceAdd → jB, reduceMul → jD, reduceSub → jE, reduceLeDiff → jF
open Int renaming reduceLT → jG, reduceLE → jH, reduceNeg → jI, reduceEq → jJ
variable [Laid Tryz.prog]

theorem inside_c {n lo hi : Int} {h : Heap} {Q : Value → Heap → Prop} (hQ : Q (.bool (decide (lo ≤ n ∧ n ≤ hi))) h) :
    CallsV Tryz.prog 43 [.int .i64 n, .int .i64 lo, .int .i64 hi] h Q := by
  refine CallsV.start Tryz.func43 rfl (by rw [Tryz.results43]) (by kernel_rfl) (by rw [Tryz.ntmps43]; simp) ?_
  simp (disch := omega) only [WA, ↓reduceIte, jA, jB, jD, jE, jF, jG, jH, jI, jJ]
  by_cases h1 : lo ≤ n
  · simp (disch := omega) only [WA, ↓reduceIte, jA, jB, jD, jE, jF, jG, jH, jI, jJ, h1]
    simpa [h1] using hQ
  · simp (disch := omega) only [WA, ↓reduceIte, jA, jB, jD, jE, jF, jG, jH, jI, jJ, h1]
    simpa [h1] using hQ
theorem l1In_c {n lo hi : Int} {h : Heap} {Q : Value → Heap → Prop} (hQ : Q (.bool (decide (lo ≤ n ∧ n ≤ hi))) h) :
    CallsV Tryz.prog 41 [.int .i64 n, .int .i64 lo, .int .i64 hi] h Q := by
  refine CallsV.start Tryz.func41 rfl (by rw [Tryz.results41]) (by kernel_rfl) (by rw [Tryz.ntmps41]; simp) ?_
  simp (disch := omega) only [WA, ↓reduceIte, jA, jB, jD, jE, jF, jG, jH, jI, jJ]
  by_cases h1 : lo ≤ n
  · simp (disch := omega) only [WA, ↓reduceIte, jA, jB, jD, jE, jF, jG, jH, jI, jJ, h1]
    simpa [h1] using hQ
  · simp (disch := omega) only [WA, ↓reduceIte, jA, jB, jD, jE, jF, jG, jH, jI, jJ, h1]
    simpa [h1] using hQ
end Go.Proofs
