/- Contracts of functions, facts of types, or the plain law behind one statement (own work): H3. Conditions: those told in each theorem. -/
import Derived.Test.YtlnephhhcofilaaGreatMH2
set_option linter.all false
set_option linter.unusedSimpArgs false
set_option linter.unusedVariables false
set_option maxRecDepth 4000
namespace Go.Proofs
open Go Go.V
open Nat renaming reduceEqDiff → jA, reduceAdd → jB, reduceMul → jD, reduceSub → jE, reduceLeDiff → jF
open Int renaming reduceLT → jG, reduceLE → jH, reduceNeg → jI, reduceEq → jJ
end Go.Proofs
