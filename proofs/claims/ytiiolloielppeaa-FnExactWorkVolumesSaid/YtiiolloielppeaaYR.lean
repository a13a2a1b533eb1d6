/- Contracts of functions, facts of types, or the plain law behind one statement (own work): YR. Conditions: those told in each theorem. -/
import Derived.Test.YtiiolloielppeaaYQ
import Derived.Test.YtiiolloielppeaaK4
set_option linter.all false
set_option linter.unusedSimpArgs false
set_option linter.unusedVariables false
set_option maxRecDepth 4000
namespace Go.Proofs
open Go Go.V
theorem volsR_len (ls : List (List Bx)) : (volsR ls).1.length ≤ ls.length := by
  unfold volsR
  split
  · simp
  · simp
theorem cnt_Dys (l : List Dy) : cntL l = 2 * l.length := by
  induction l with
  | nil => rfl
  | cons y l ih =>
    have : cntL (y :: l) = 2 + cntL l := rfl
    rw [this, ih, List.length_cons]; omega
theorem volumes_cnt (x : Wk) (s : Int) : cntL (volumesM x s).1 ≤ 8 := by
  rw [cnt_Dys]
  unfold volumesM
  split
  · have := volsR_len (lists x)
    have h4 : (lists x).length = 4 := rfl
    omega
  · simp
end Go.Proofs
