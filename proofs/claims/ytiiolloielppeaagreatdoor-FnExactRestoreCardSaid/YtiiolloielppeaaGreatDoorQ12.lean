/- Contracts of functions, facts of types, or the plain law behind one statement (own work): Q12. Conditions: those told in each theorem. -/
import Derived.Test.YtiiolloielppeaaGreatDoorQ11
set_option linter.all false
set_option linter.unusedSimpArgs false
set_option linter.unusedVariables false
set_option maxRecDepth 4000
set_option linter.unusedSectionVars false
namespace Go.Proofs
open Go Go.V
theorem work_sides {w : Wk} {t : Int} (h : workM w t = true) : 1 ≤ t ∧ t ≤ 3 := by
  unfold workM at h
  simp only [Bool.and_eq_true, decide_eq_true_eq] at h
  exact h.2.1
theorem workI_plain {s : ByteArray} {t : Int} {w : Wk} (h : workI s.data.toList t = some w) : plainM s = true ∧ 1 ≤ t ∧ t ≤ 3 := by
  obtain ⟨h1, h2⟩ := workI_some h
  refine ⟨?_, work_sides h1⟩
  have := work_plain h1
  rw [h2] at this
  exact this
def parseV (s : ByteArray) (t : Int) : Wk := (workI s.data.toList t).getD wkZ
def parseB (s : ByteArray) (t : Int) : Bool := (workI s.data.toList t).isSome
end Go.Proofs
