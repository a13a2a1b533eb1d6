/- Contracts of functions, facts of types, or the plain law behind one statement (own work): GB. Conditions: those told in each theorem. -/
import Derived.Test.YtkapgaajomaheaaDoorJU
import Derived.Test.YtkapgaajomaheaaDoorGA
set_option linter.all false
set_option linter.unusedSimpArgs false
set_option linter.unusedVariables false
set_option maxRecDepth 4000
namespace Go.Proofs
open Go Go.V
/- Journals: appended marks, compact journals, recovered ones (plain). -/
theorem dataB (a b : ByteArray) : (a ++ b).data.toList = a.data.toList ++ b.data.toList := by simp
theorem nilB_data : (⟨#[]⟩ : ByteArray).data.toList = [] := rfl
theorem marksJ_mk {s p : ByteArray} {l : List Mk} (h : marksJ ⟨s, p⟩ = some l) : (readM 0 s.data.toList).2 = s.size ∧ (readM (readM 0 s.data.toList).1.length p.data.toList).2 = p.size ∧ l = (readM 0 s.data.toList).1 ++ (readM (readM 0 s.data.toList).1.length p.data.toList).1 := marksJ_some h
theorem marksJ_one {s : ByteArray} (h : (readM 0 s.data.toList).2 = s.size) : marksJ ⟨s, ⟨#[]⟩⟩ = some (readM 0 s.data.toList).1 := by
  have := marksJ_of (j := ⟨s, ⟨#[]⟩⟩) h (by rw [nilB_data, readM_nil]; rfl)
  rw [this]
  simp only [nilB_data, readM_nil, List.append_nil]
/-- What is recovered is a journal. -/
theorem recover_marks (s : ByteArray) : marksJ ⟨s.extract 0 (readM 0 s.data.toList).2, ⟨#[]⟩⟩ = some (readM 0 s.data.toList).1 ∧ (s.extract 0 (readM 0 s.data.toList).2).size = (readM 0 s.data.toList).2 := by
  have hle := readM_le 0 s.data.toList
  rw [str_len] at hle
  have hd : (s.extract 0 (readM 0 s.data.toList).2).data.toList = s.data.toList.take (readM 0 s.data.toList).2 := by simp
  have hz : (s.extract 0 (readM 0 s.data.toList).2).size = (readM 0 s.data.toList).2 := by rw [ByteArray.size_extract]; omega
  have hi := readM_idem 40 0 s.data.toList rfl
  refine ⟨?_, hz⟩
  have := marksJ_one (s := s.extract 0 (readM 0 s.data.toList).2) (by rw [hd, hi, hz])
  rw [this, hd, hi]
/-- All marks, in one text. -/
theorem sync_marks {j : Jn} {l : List Mk} (h : marksJ j = some l) : marksJ ⟨j.safe ++ j.pending, ⟨#[]⟩⟩ = some l ∧ (j.safe ++ j.pending).size ≤ 800 := by
  obtain ⟨h1, h2, h3⟩ := marksJ_some h
  have h4 := readM_app 40 0 j.safe.data.toList j.pending.data.toList rfl (by rw [h1, str_len])
  rw [Nat.zero_add, ← dataB] at h4
  have e : (readM 0 (j.safe ++ j.pending).data.toList).2 = (j.safe ++ j.pending).size := by
    rw [h4, size_append, str_len, h2]
  have h5 := (readM_size 40 0 (j.safe ++ j.pending).data.toList rfl).1
  refine ⟨?_, by omega⟩
  rw [marksJ_one e, h4, h3]
/-- A beginning of a journal that holds all that is safe. -/
theorem crash_marks {j : Jn} {l : List Mk} {k : Nat} (h : marksJ j = some l) (hk : k ≤ j.pending.size) :
    j.safe.size ≤ (readM 0 (j.safe ++ j.pending.extract 0 k).data.toList).2 ∧ (readM 0 (j.safe ++ j.pending.extract 0 k).data.toList).1 <+: l ∧
    (k = j.pending.size → (readM 0 (j.safe ++ j.pending.extract 0 k).data.toList).1 = l) ∧ (j.safe ++ j.pending.extract 0 k).size ≤ 800 := by
  obtain ⟨h1, h2, h3⟩ := marksJ_some h
  have hp : (j.pending.extract 0 k).data.toList = j.pending.data.toList.take k := by simp
  have h4 := readM_app 40 0 j.safe.data.toList (j.pending.data.toList.take k) rfl (by rw [h1, str_len])
  rw [Nat.zero_add] at h4
  rw [dataB, hp, h4]
  have hs := (sync_marks h).2
  rw [size_append] at hs
  refine ⟨by simp only [str_len]; omega, ?_, fun e => ?_, ?_⟩
  · rw [h3]
    simp only []
    refine (List.prefix_append_right_inj _).2 ?_
    have := readM_pre _ (readM 0 j.safe.data.toList).1.length (j.pending.data.toList.take k) (j.pending.data.toList.drop k) rfl
    rwa [List.take_append_drop] at this
  · rw [h3]
    simp only []
    rw [List.take_of_length_le (by rw [str_len]; omega)]
  · rw [size_append, ByteArray.size_extract]; omega
/-- A mark that is appended is the last one. -/
theorem append_marks {j : Jn} {m : Mk} {l : List Mk} (h : marksJ j = some l) (hm : markM m = true) (hl : l.length ≠ 40) : marksJ ⟨j.safe, j.pending ++ lineB l.length m⟩ = some (l ++ [m]) := by
  have hn := marksJ_len h
  obtain ⟨h1, h2, h3⟩ := marksJ_some h
  have h4 := readM_app _ (readM 0 j.safe.data.toList).1.length j.pending.data.toList (lineB l.length m).data.toList rfl (by rw [h2, str_len])
  have hL : (readM 0 j.safe.data.toList).1.length + (readM (readM 0 j.safe.data.toList).1.length j.pending.data.toList).1.length = l.length := by rw [h3, List.length_append]
  have h5 := read_line0 hm l.length (by omega) []
  rw [List.append_nil, readM_nil] at h5
  rw [hL, h5, ← dataB] at h4
  have := marksJ_of (j := ⟨j.safe, j.pending ++ lineB l.length m⟩) h1 (by simp only [h4, size_append, str_len]; omega)
  rw [this]
  simp only [h4]
  rw [← List.append_assoc, ← h3]
end Go.Proofs
