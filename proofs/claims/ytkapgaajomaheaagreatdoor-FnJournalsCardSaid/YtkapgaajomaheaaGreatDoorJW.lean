/- Contracts of functions, facts of types, or the plain law behind one statement (own work): JW. Conditions: those told in each theorem. -/
import Derived.Test.YtkapgaajomaheaaGreatDoorJV
set_option linter.all false
set_option linter.unusedSimpArgs false
set_option linter.unusedVariables false
set_option maxRecDepth 4000
namespace Go.Proofs
open Go Go.V
theorem syncM_sz {j : Jn} (n : Siz.siz j ≤ 1000000) : (syncM j).1.safe.size ≤ 9223372036854775807 ∧ (syncM j).1.pending.size ≤ 9223372036854775807 := by
  obtain ⟨z1, z2⟩ := siz_Jn n
  have sz := size_append j.safe j.pending
  unfold syncM
  split
  · exact ⟨by simp only []; omega, show (0 : Nat) ≤ _ by omega⟩
  · exact ⟨by decide, by decide⟩
theorem recoverM_sz {s : ByteArray} (n : s.size ≤ 1000000) : (recoverM s).1.safe.size ≤ 9223372036854775807 ∧ (recoverM s).1.pending.size ≤ 9223372036854775807 := by
  have sz : (s.extract 0 (readM 0 s.data.toList).2).size ≤ s.size := by rw [ByteArray.size_extract]; omega
  unfold recoverM
  split
  · exact ⟨by simp only []; omega, show (0 : Nat) ≤ _ by omega⟩
  · exact ⟨by decide, by decide⟩
end Go.Proofs
