/- Contracts of functions, facts of types, or the plain law behind one statement (own work): JW. Conditions: those told in each theorem. -/
import Derived.Test.YtkapgaajomaheaaDoorJV
set_option linter.all false
set_option linter.unusedSimpArgs false
set_option linter.unusedVariables false
set_option maxRecDepth 4000
namespace Go.Proofs
open Go Go.V
theorem syncM_sz {j : Jn} (n : Siz.siz j ≤ 1000000) : (syncM j).1.safe.size ≤ 9223372036854775807 ∧ (syncM j).1.pending.size ≤ 9223372036854775807 := by
  obtain ⟨z1, z2⟩ := siz_Jn n
  have sz := size_append j.safe j.pending
  unfold syncM
  split
  · exact ⟨by simp only []; omega, show (0 : Nat) ≤ _ by omega⟩
  · exact ⟨by decide, by decide⟩
theorem recoverM_sz {s : ByteArray} (n : s.size ≤ 1000000) : (recoverM s).1.safe.size ≤ 9223372036854775807 ∧ (recoverM s).1.pending.size ≤ 9223372036854775807 := by
  have sz : (s.extract 0 (readM 0 s.data.toList).2).size ≤ s.size := by rw [ByteArray.size_extract]; omega
  unfold recoverM
  split
  · exact ⟨by simp only []; omega, show (0 : Nat) ≤ _ by omega⟩
  · exact ⟨by decide, by decide⟩
theorem SyncJournal_if {j : Jn} {cs : List Value} {h : Heap} {Q : Value → Heap → Prop} (hx : Here h j cs) (n : Siz.siz j ≤ 1000000) (hQ : ∀ h', Ext h h' → Q (.tuple #[.agg [.string (syncM j).1.safe, .string (syncM j).1.pending].toArray, .bool (syncM j).2]) h') : CallsV Tryd.prog 7 [.agg cs.toArray] h Q :=
  SyncJournal_i hx n fun ds h' s => by obtain ⟨rfl, _⟩ := here_Jn s.here; exact hQ _ s.ext
theorem SyncJournal_sf {j : Jn} {cs : List Value} {h : Heap} {Q : Value → Heap → Prop} (hx : Here h j cs) (n : Siz.siz j ≤ 1000000) (hQ : ∀ h', Ext h h' → Q (.tuple #[.agg [.string (syncM j).1.safe, .string (syncM j).1.pending].toArray, .bool (syncM j).2]) h') : CallsV Tryd.prog 8 [.agg cs.toArray] h Q :=
  SyncJournal_s hx n fun ds h' s => by obtain ⟨rfl, _⟩ := here_Jn s.here; exact hQ _ s.ext
theorem RecoverJournal_if {s : ByteArray} {h : Heap} {Q : Value → Heap → Prop} (n : s.size ≤ 1000000) (hQ : ∀ h', Ext h h' → Q (.tuple #[.agg [.string (recoverM s).1.safe, .string (recoverM s).1.pending].toArray, .bool (recoverM s).2]) h') : CallsV Tryd.prog 10 [.string s] h Q :=
  RecoverJournal_i n fun ds h' s => by obtain ⟨rfl, _⟩ := here_Jn s.here; exact hQ _ s.ext
theorem RecoverJournal_sf {s : ByteArray} {h : Heap} {Q : Value → Heap → Prop} (n : s.size ≤ 1000000) (hQ : ∀ h', Ext h h' → Q (.tuple #[.agg [.string (recoverM s).1.safe, .string (recoverM s).1.pending].toArray, .bool (recoverM s).2]) h') : CallsV Tryd.prog 11 [.string s] h Q :=
  RecoverJournal_s n fun ds h' s => by obtain ⟨rfl, _⟩ := here_Jn s.here; exact hQ _ s.ext
end Go.Proofs
