/- Contracts of functions, facts of types, or the plain law behind one statement (own work): C0. Conditions: those told in each theorem. -/
import Derived.Test.YtlnephhhcofilaaGreatC00
import Derived.Test.YtlnephhhcofilaaGreatTI
set_option linter.all false
set_option linter.unusedSimpArgs false
namespace Go.Proofs
open Go Go.V
open Nat renaming reduceEqDiff → jA, reduceAdd → jB, reduceMul → jD, reduceSub → jE, reduceLeDiff → jF
open Int renaming reduceLT → jG, reduceLE → jH, reduceNeg → jI, reduceEq → jJ

theorem roomBehind_c {n : Nat} {h : Heap} {Q : Value → Heap → Prop} (hn : n ≤ 1000000000) (hQ : Q (.int .i64 (roomM n)) h) : CallsV Tryz.prog 32 [.int .i64 n] h Q := by
  refine CallsV.start Tryz.func32 rfl (by rw [Tryz.results32]) (by kernel_rfl) (by rw [Tryz.ntmps32]; simp) ?_
  have e6 : Int.tmod (n : Int) 6 = ((n % 6 : Nat) : Int) := tmod_nat n 6
  have e3 : Int.tmod (n : Int) 3 = ((n % 3 : Nat) : Int) := tmod_nat n 3
  unfold roomM at hQ
  by_cases h1 : n % 6 = 5
  · have h2 : ((n % 6 : Nat) : Int) = 5 := by omega
    simp (disch := omega) only [WA, ↓reduceIte, jA, jB, jD, jE, jF, jG, jH, jI, jJ, e6, h2]
    simpa [h1] using hQ
  · have h2 : ¬ ((n % 6 : Nat) : Int) = 5 := by omega
    by_cases h3 : n % 3 = 0
    · have h4 : ((n % 3 : Nat) : Int) = 0 := by omega
      simp (disch := omega) only [WA, ↓reduceIte, jA, jB, jD, jE, jF, jG, jH, jI, jJ, e6, h2, e3, h4]
      simpa [h1, h3] using hQ
    · have h4 : ¬ ((n % 3 : Nat) : Int) = 0 := by omega
      simp (disch := omega) only [WA, ↓reduceIte, jA, jB, jD, jE, jF, jG, jH, jI, jJ, e6, h2, e3, h4]
      simpa [h1, h3] using hQ
end Go.Proofs
