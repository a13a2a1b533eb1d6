/- Contracts of functions, facts of types, or the plain law behind one statement (own work): C00. Conditions: those told in each theorem. -/
import Derived.Test.YtajkecjbdoineaaTF
set_option linter.all false
set_option linter.unusedSimpArgs false
namespace Go.Proofs
open Go Go.V
open Nat (reduceEqDiff reduceAdd reduceMul reduceSub reduceLeDiff)
open Int (reduceLT reduceLE reduceNeg reduceEq)
variable [Laid Try.prog]

theorem inside_c {n lo hi : Int} {h : Heap} {Q : Value → Heap → Prop} (hQ : Q (.bool (decide (lo ≤ n ∧ n ≤ hi))) h) :
    CallsV Try.prog 34 [.int .i64 n, .int .i64 lo, .int .i64 hi] h Q := by
  refine CallsV.start Try.func34 rfl (by rw [Try.results34]) (by kernel_rfl) (by rw [Try.ntmps34]; simp) ?_
  simp (disch := omega) only [WA, ↓reduceIte, reduceEqDiff, reduceAdd, reduceMul, reduceSub, reduceLeDiff, reduceLT, reduceLE, reduceNeg, reduceEq]
  by_cases h1 : lo ≤ n
  · simp (disch := omega) only [WA, ↓reduceIte, reduceEqDiff, reduceAdd, reduceMul, reduceSub, reduceLeDiff, reduceLT, reduceLE, reduceNeg, reduceEq, h1]
    simpa [h1] using hQ
  · simp (disch := omega) only [WA, ↓reduceIte, reduceEqDiff, reduceAdd, reduceMul, reduceSub, reduceLeDiff, reduceLT, reduceLE, reduceNeg, reduceEq, h1]
    simpa [h1] using hQ
theorem l1In_c {n lo hi : Int} {h : Heap} {Q : Value → Heap → Prop} (hQ : Q (.bool (decide (lo ≤ n ∧ n ≤ hi))) h) :
    CallsV Try.prog 50 [.int .i64 n, .int .i64 lo, .int .i64 hi] h Q := by
  refine CallsV.start Try.func50 rfl (by rw [Try.results50]) (by kernel_rfl) (by rw [Try.ntmps50]; simp) ?_
  simp (disch := omega) only [WA, ↓reduceIte, reduceEqDiff, reduceAdd, reduceMul, reduceSub, reduceLeDiff, reduceLT, reduceLE, reduceNeg, reduceEq]
  by_cases h1 : lo ≤ n
  · simp (disch := omega) only [WA, ↓reduceIte, reduceEqDiff, reduceAdd, reduceMul, reduceSub, reduceLeDiff, reduceLT, reduceLE, reduceNeg, reduceEq, h1]
    simpa [h1] using hQ
  · simp (disch := omega) only [WA, ↓reduceIte, reduceEqDiff, reduceAdd, reduceMul, reduceSub, reduceLeDiff, reduceLT, reduceLE, reduceNeg, reduceEq, h1]
    simpa [h1] using hQ
end Go.Proofs
