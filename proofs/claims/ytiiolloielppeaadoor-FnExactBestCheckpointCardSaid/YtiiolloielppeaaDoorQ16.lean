/- Contracts of functions, facts of types, or the plain law behind one statement (own work): Q16. Conditions: those told in each theorem. -/
import Derived.Test.YtiiolloielppeaaDoorQ15
import Derived.Test.YtiiolloielppeaaDoorHS
set_option linter.all false
set_option linter.unusedSimpArgs false
set_option linter.unusedVariables false
set_option maxRecDepth 4000
namespace Go.Proofs
open Go Go.V
theorem texts_small {l : List ByteArray} (h : Siz.siz l ≤ 1000000) : ∀ s ∈ l, s.size ≤ 1000000 := by
  intro s hs
  obtain ⟨i, hi, rfl⟩ := List.mem_iff_getElem.1 hs
  have := siz_mem (List.getElem?_eq_getElem hi)
  have e : Siz.siz (l[i] : ByteArray) = (l[i] : ByteArray).size := rfl
  have hs := siz_list l
  omega
end Go.Proofs
