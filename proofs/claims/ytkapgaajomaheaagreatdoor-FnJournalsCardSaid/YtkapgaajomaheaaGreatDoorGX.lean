/- The layer V and contracts of functions over it, or plain laws behind one statement (own work): GX=GA,GB,GC. Conditions: those told in each theorem. -/
import Derived.Test.YtkapgaajomaheaaGreatDoorJP
import Derived.Test.YtkapgaajomaheaaGreatDoorJU
import Derived.Test.YtkapgaajomaheaaGreatDoorJF
set_option linter.all false
section
set_option linter.unusedSimpArgs false
set_option linter.unusedVariables false
set_option maxRecDepth 4000
namespace Go.Proofs
open Go Go.V
/- Lines of marks: what is read is a beginning, and a written line is read again. -/
theorem readM_idem (n : Nat) : ∀ (k : Nat) (s : List UInt8), 40 - k = n → readM k (s.take (readM k s).2) = readM k s := by
  induction n with
  | zero => intro k s h; rw [readM_stop (by omega), readM_stop (by omega)]
  | succ n ih =>
    intro k s h
    cases hc : cutL s with
    | none => rw [readM_none hc]; rw [List.take_zero, readM_none rfl]
    | some p =>
      obtain ⟨a, r⟩ := p
      cases hp : parseS k a with
      | none => rw [readM_bad hc hp]; rw [List.take_zero, readM_none rfl]
      | some m =>
        rw [readM_some (by omega) hc hp]
        obtain ⟨h4, h5⟩ := cutL_some hc
        have e : s.take (a.length + 1 + (readM (k + 1) r).2) = a ++ 10 :: r.take (readM (k + 1) r).2 := by
          rw [h4, List.take_append, List.take_of_length_le (by omega), show a.length + 1 + (readM (k + 1) r).2 - a.length = (readM (k + 1) r).2 + 1 by omega, List.take_succ_cons]
        simp only []
        rw [e, readM_some (by omega) (cutL_app _ h5) hp, ih (k + 1) r (by omega)]
theorem readM_pre (n : Nat) : ∀ (k : Nat) (s t : List UInt8), 40 - k = n → (readM k s).1 <+: (readM k (s ++ t)).1 := by
  induction n with
  | zero => intro k s t h; rw [readM_stop (by omega)]; exact List.nil_prefix
  | succ n ih =>
    intro k s t h
    cases hc : cutL s with
    | none => rw [readM_none hc]; exact List.nil_prefix
    | some p =>
      obtain ⟨a, r⟩ := p
      cases hp : parseS k a with
      | none => rw [readM_bad hc hp]; exact List.nil_prefix
      | some m =>
        rw [readM_some (by omega) hc hp, readM_some (by omega) (cutL_more t hc) hp]
        exact (List.prefix_cons_inj m).2 (ih (k + 1) r t (by omega))
theorem readM_le (k : Nat) (s : List UInt8) : (readM k s).2 ≤ s.length := (readM_size (40 - k) k s rfl).2
theorem readM_nil (k : Nat) : readM k [] = ([], 0) := readM_none rfl
/-! digits -/
def digV2 (l : List UInt8) (a : Nat) : Nat := l.foldl (fun a c => 10 * a + (c.toNat - 48)) a
theorem digV2_dec (n : Nat) : digV2 (Lib.decDigits n) 0 = n := by
  induction n using Nat.strongRecOn with
  | ind n ih =>
    by_cases c : n < 10
    · rw [Lib.decDigits, dif_pos c]
      show 10 * 0 + ((UInt8.ofNat (48 + n)).toNat - 48) = n
      rw [UInt8.toNat_ofNat']; omega
    · rw [Lib.decDigits, dif_neg c]
      unfold digV2
      rw [List.foldl_append]
      have := ih (n / 10) (by omega)
      unfold digV2 at this
      rw [this]
      show 10 * (n / 10) + ((UInt8.ofNat (48 + n % 10)).toNat - 48) = n
      rw [UInt8.toNat_ofNat']; omega
theorem dec_inj {n m : Nat} (h : Lib.decDigits n = Lib.decDigits m) : n = m := by
  rw [← digV2_dec n, h, digV2_dec]
theorem dec_range (n : Nat) : ∀ c ∈ Lib.decDigits n, 48 ≤ c.toNat ∧ c.toNat ≤ 57 := by
  induction n using Nat.strongRecOn with
  | ind n ih =>
    by_cases c : n < 10
    · rw [Lib.decDigits, dif_pos c]
      intro x hx
      simp only [List.mem_singleton] at hx
      subst hx
      rw [UInt8.toNat_ofNat']; omega
    · rw [Lib.decDigits, dif_neg c]
      intro x hx
      rcases List.mem_append.1 hx with hx | hx
      · exact ih (n / 10) (by omega) x hx
      · simp only [List.mem_singleton] at hx
        subst hx
        rw [UInt8.toNat_ofNat']; omega
theorem dec_no {n : Nat} {c : UInt8} (h : c.toNat < 48 ∨ 57 < c.toNat) : c ∉ Lib.decDigits n := fun hx => by
  have := dec_range n c hx; omega
/-! a line -/
theorem fhoB_cases {k : Int} (h : 1 ≤ k ∧ k ≤ 3) : ∃ c : UInt8, (fhoB k).data.toList = [c] ∧ kindL [c] = k ∧ c ≠ 58 ∧ c ≠ 10 := by
  obtain rfl | rfl | rfl : k = 1 ∨ k = 2 ∨ k = 3 := by omega
  · exact ⟨102, by decide, by decide, by decide, by decide⟩
  · exact ⟨104, by decide, by decide, by decide, by decide⟩
  · exact ⟨111, by decide, by decide, by decide, by decide⟩
theorem path_no {s : ByteArray} {c : UInt8} (h : pathM s = true) (hc : c.toNat < 48 ∨ 55 < c.toNat) : c ∉ s.data.toList := by
  unfold pathM at h
  simp only [Bool.and_eq_true, List.all_eq_true] at h
  intro hx
  have := h.1 c hx
  unfold digB at this
  simp at this
  omega
theorem markM_iff {m : Mk} (h : markM m = true) : pathM m.path = true ∧ 1 ≤ m.kind ∧ m.kind ≤ 3 := by
  unfold markM at h
  simp only [Bool.and_eq_true, decide_eq_true_eq] at h
  exact h
/-- A line, letter by letter. -/
theorem lineB_data {k : Nat} {m : Mk} (hm : markM m = true) : ∃ c : UInt8, kindL [c] = m.kind ∧ c ≠ 58 ∧ c ≠ 10 ∧
    (lineB k m).data.toList = Lib.decDigits k ++ 58 :: (m.path.data.toList ++ 58 :: ([c] ++ 58 :: Lib.decDigits (jsumM k (lineS k m).data.toList))) ++ [10] := by
  obtain ⟨h1, h2⟩ := markM_iff hm
  obtain ⟨c, hc, hk, h3, h4⟩ := fhoB_cases h2
  refine ⟨c, hk, h3, h4, ?_⟩
  have ec : colB.data.toList = [58] := rfl
  unfold lineB
  have eS : (lineS k m).data.toList = Lib.decDigits k ++ 58 :: (m.path.data.toList ++ 58 :: ([c] ++ [58])) := by
    unfold lineS decB
    simp [hc, ec]
  generalize hj : jsumM k (lineS k m).data.toList = j
  unfold decB
  simp [eS]
theorem bL_data (s : ByteArray) : bL s.data.toList = s := by unfold bL; simp
theorem mk_eta (m : Mk) : (⟨m.path, m.kind⟩ : Mk) = m := rfl
theorem parse_line {k : Nat} {m : Mk} (hm : markM m = true) : ∃ a, (lineB k m).data.toList = a ++ [10] ∧ 10 ∉ a ∧ parseS k a = some m := by
  obtain ⟨h1, h2⟩ := markM_iff hm
  obtain ⟨c, hk, hc1, hc2, hd⟩ := lineB_data (k := k) hm
  refine ⟨_, hd, ?_, ?_⟩
  · intro hx
    rcases List.mem_append.1 hx with hx | hx
    · exact dec_no (by decide) hx
    · rcases List.mem_cons.1 hx with hx | hx
      · exact absurd hx (by decide)
      · rcases List.mem_append.1 hx with hx | hx
        · exact path_no h1 (by decide) hx
        · rcases List.mem_cons.1 hx with hx | hx
          · exact absurd hx (by decide)
          · rcases List.mem_append.1 hx with hx | hx
            · exact hc2 (List.mem_singleton.1 hx).symm
            · rcases List.mem_cons.1 hx with hx | hx
              · exact absurd hx (by decide)
              · exact dec_no (by decide) hx
  · have hb : bL ((Lib.decDigits k ++ 58 :: (m.path.data.toList ++ 58 :: ([c] ++ 58 :: Lib.decDigits (jsumM k (lineS k m).data.toList)))) ++ [10]) = lineB k m := by rw [← hd, bL_data]
    unfold parseS
    rw [splitL_app _ (dec_no (by decide)), splitL_app _ (path_no h1 (by decide)), splitL_app _ (by simpa using hc1.symm), splitL_no (dec_no (by decide))]
    simp only [hk, bL_data, mk_eta]
    rw [if_pos ⟨hm, hb.symm⟩]
/-- A line is read at its own number only. -/
theorem line_number {k n : Nat} {m x : Mk} (hm : markM m = true) (hx : markM x = true) (h : lineB k x = lineB n m) : k = n := by
  obtain ⟨c, _, _, _, h1⟩ := lineB_data (k := n) hm
  obtain ⟨d, _, _, _, h2⟩ := lineB_data (k := k) hx
  rw [h, h1] at h2
  have e1 := splitL_app (c := 58) (a := Lib.decDigits n) (m.path.data.toList ++ 58 :: ([c] ++ 58 :: Lib.decDigits (jsumM n (lineS n m).data.toList)) ++ [10]) (dec_no (by decide))
  have e2 := splitL_app (c := 58) (a := Lib.decDigits k) (x.path.data.toList ++ 58 :: ([d] ++ 58 :: Lib.decDigits (jsumM k (lineS k x).data.toList)) ++ [10]) (dec_no (by decide))
  simp only [List.append_assoc, List.cons_append] at h2 e1 e2
  rw [h2, e2] at e1
  injection e1 with e3
  exact dec_inj e3
theorem read_line0 {m : Mk} (hm : markM m = true) (k : Nat) (hk : k < 40) (t : List UInt8) : readM k ((lineB k m).data.toList ++ t) = (m :: (readM (k + 1) t).1, (lineB k m).size + (readM (k + 1) t).2) := by
  obtain ⟨a, h1, h2, h3⟩ := parse_line (k := k) hm
  have hs : (lineB k m).size = a.length + 1 := by
    have := str_len (lineB k m)
    rw [← this, h1]; simp
  rw [h1, List.append_assoc, List.singleton_append, readM_some hk (cutL_app t h2) h3, hs]
theorem read_line_other {m : Mk} (hm : markM m = true) {n k : Nat} (hk : k ≠ n) : readM k (lineB n m).data.toList = ([], 0) := by
  obtain ⟨a, h1, h2, h3⟩ := parse_line (k := n) hm
  rw [h1]
  cases hp : parseS k a with
  | none => exact readM_bad (cutL_app [] h2) hp
  | some x =>
    obtain ⟨p1, p2⟩ := parseS_some hp
    rw [← h1, bL_data] at p2
    exact absurd (line_number hm p1 p2) hk
end Go.Proofs
end

section
set_option linter.unusedSimpArgs false
set_option linter.unusedVariables false
set_option maxRecDepth 4000
namespace Go.Proofs
open Go Go.V
/- Journals: appended marks, compact journals, recovered ones (plain). -/
theorem dataB (a b : ByteArray) : (a ++ b).data.toList = a.data.toList ++ b.data.toList := by simp
theorem nilB_data : (⟨#[]⟩ : ByteArray).data.toList = [] := rfl
theorem marksJ_mk {s p : ByteArray} {l : List Mk} (h : marksJ ⟨s, p⟩ = some l) : (readM 0 s.data.toList).2 = s.size ∧ (readM (readM 0 s.data.toList).1.length p.data.toList).2 = p.size ∧ l = (readM 0 s.data.toList).1 ++ (readM (readM 0 s.data.toList).1.length p.data.toList).1 := marksJ_some h
theorem marksJ_one {s : ByteArray} (h : (readM 0 s.data.toList).2 = s.size) : marksJ ⟨s, ⟨#[]⟩⟩ = some (readM 0 s.data.toList).1 := by
  have := marksJ_of (j := ⟨s, ⟨#[]⟩⟩) h (by rw [nilB_data, readM_nil]; rfl)
  rw [this]
  simp only [nilB_data, readM_nil, List.append_nil]
/-- What is recovered is a journal. -/
theorem recover_marks (s : ByteArray) : marksJ ⟨s.extract 0 (readM 0 s.data.toList).2, ⟨#[]⟩⟩ = some (readM 0 s.data.toList).1 ∧ (s.extract 0 (readM 0 s.data.toList).2).size = (readM 0 s.data.toList).2 := by
  have hle := readM_le 0 s.data.toList
  rw [str_len] at hle
  have hd : (s.extract 0 (readM 0 s.data.toList).2).data.toList = s.data.toList.take (readM 0 s.data.toList).2 := by simp
  have hz : (s.extract 0 (readM 0 s.data.toList).2).size = (readM 0 s.data.toList).2 := by rw [ByteArray.size_extract]; omega
  have hi := readM_idem 40 0 s.data.toList rfl
  refine ⟨?_, hz⟩
  have := marksJ_one (s := s.extract 0 (readM 0 s.data.toList).2) (by rw [hd, hi, hz])
  rw [this, hd, hi]
/-- All marks, in one text. -/
theorem sync_marks {j : Jn} {l : List Mk} (h : marksJ j = some l) : marksJ ⟨j.safe ++ j.pending, ⟨#[]⟩⟩ = some l ∧ (j.safe ++ j.pending).size ≤ 800 := by
  obtain ⟨h1, h2, h3⟩ := marksJ_some h
  have h4 := readM_app 40 0 j.safe.data.toList j.pending.data.toList rfl (by rw [h1, str_len])
  rw [Nat.zero_add, ← dataB] at h4
  have e : (readM 0 (j.safe ++ j.pending).data.toList).2 = (j.safe ++ j.pending).size := by
    rw [h4, size_append, str_len, h2]
  have h5 := (readM_size 40 0 (j.safe ++ j.pending).data.toList rfl).1
  refine ⟨?_, by omega⟩
  rw [marksJ_one e, h4, h3]
/-- A beginning of a journal that holds all that is safe. -/
theorem crash_marks {j : Jn} {l : List Mk} {k : Nat} (h : marksJ j = some l) (hk : k ≤ j.pending.size) :
    j.safe.size ≤ (readM 0 (j.safe ++ j.pending.extract 0 k).data.toList).2 ∧ (readM 0 (j.safe ++ j.pending.extract 0 k).data.toList).1 <+: l ∧
    (k = j.pending.size → (readM 0 (j.safe ++ j.pending.extract 0 k).data.toList).1 = l) ∧ (j.safe ++ j.pending.extract 0 k).size ≤ 800 := by
  obtain ⟨h1, h2, h3⟩ := marksJ_some h
  have hp : (j.pending.extract 0 k).data.toList = j.pending.data.toList.take k := by simp
  have h4 := readM_app 40 0 j.safe.data.toList (j.pending.data.toList.take k) rfl (by rw [h1, str_len])
  rw [Nat.zero_add] at h4
  rw [dataB, hp, h4]
  have hs := (sync_marks h).2
  rw [size_append] at hs
  refine ⟨by simp only [str_len]; omega, ?_, fun e => ?_, ?_⟩
  · rw [h3]
    simp only []
    refine (List.prefix_append_right_inj _).2 ?_
    have := readM_pre _ (readM 0 j.safe.data.toList).1.length (j.pending.data.toList.take k) (j.pending.data.toList.drop k) rfl
    rwa [List.take_append_drop] at this
  · rw [h3]
    simp only []
    rw [List.take_of_length_le (by rw [str_len]; omega)]
  · rw [size_append, ByteArray.size_extract]; omega
/-- A mark that is appended is the last one. -/
theorem append_marks {j : Jn} {m : Mk} {l : List Mk} (h : marksJ j = some l) (hm : markM m = true) (hl : l.length ≠ 40) : marksJ ⟨j.safe, j.pending ++ lineB l.length m⟩ = some (l ++ [m]) := by
  have hn := marksJ_len h
  obtain ⟨h1, h2, h3⟩ := marksJ_some h
  have h4 := readM_app _ (readM 0 j.safe.data.toList).1.length j.pending.data.toList (lineB l.length m).data.toList rfl (by rw [h2, str_len])
  have hL : (readM 0 j.safe.data.toList).1.length + (readM (readM 0 j.safe.data.toList).1.length j.pending.data.toList).1.length = l.length := by rw [h3, List.length_append]
  have h5 := read_line0 hm l.length (by omega) []
  rw [List.append_nil, readM_nil] at h5
  rw [hL, h5, ← dataB] at h4
  have := marksJ_of (j := ⟨j.safe, j.pending ++ lineB l.length m⟩) h1 (by simp only [h4, size_append, str_len]; omega)
  rw [this]
  simp only [h4]
  rw [← List.append_assoc, ← h3]
end Go.Proofs
end

section
set_option linter.unusedSimpArgs false
set_option linter.unusedVariables false
set_option maxRecDepth 4000
namespace Go.Proofs
open Go Go.V
/- Compact journals and their last marks (plain). -/
/-- Lines of marks are read again. -/
theorem read_lines : ∀ (l : List Mk) (n : Nat), n + l.length ≤ 40 → (∀ m ∈ l, markM m = true) → readM n (linesB n l).data.toList = (l, (linesB n l).size)
  | [], n, _, _ => by show readM n [] = ([], 0); exact readM_nil n
  | m :: l, n, h, hm => by
    simp only [linesB, List.length_cons] at h ⊢
    have ih := read_lines l (n + 1) (by omega) fun x hx => hm x (by simp [hx])
    rw [dataB, read_line0 (hm m (by simp)) n (by omega), ih, size_append]
theorem compact_marks {j : Jn} {l : List Mk} (h : marksJ j = some l) : marksJ ⟨linesB 0 (lastsL l), ⟨#[]⟩⟩ = some (lastsL l) := by
  have hn := marksJ_len h
  have h1 := read_lines (lastsL l) 0 (by have := lastsL_len l; omega) fun m hm => marks_in h m (lastsL_mem hm)
  rw [marksJ_one (by rw [h1]), h1]
theorem hasP_iff {l : List Mk} {p : ByteArray} : hasP l p = true ↔ ∃ m ∈ l, m.path = p := by
  unfold hasP; simp
theorem lastK_mem {l : List Mk} {p : ByteArray} (h : hasP l p = true) : ∃ m ∈ l, m.path = p ∧ m.kind = lastK l p := by
  have e : (⟨p, lastK l p⟩ : Mk) ∈ lastsL l := lasts_iff.2 ⟨h, rfl⟩
  exact ⟨_, lastsL_mem e, rfl, rfl⟩
theorem lasts_has {l : List Mk} {p : ByteArray} : hasP (lastsL l) p = hasP l p := by
  cases h : hasP l p with
  | true => exact hasP_iff.2 ⟨⟨p, lastK l p⟩, lasts_iff.2 ⟨h, rfl⟩, rfl⟩
  | false =>
    cases h2 : hasP (lastsL l) p with
    | false => rfl
    | true =>
      obtain ⟨m, hm, e⟩ := hasP_iff.1 h2
      rw [hasP_iff.2 ⟨m, lastsL_mem hm, e⟩] at h
      cases h
theorem lastK_no {l : List Mk} {p : ByteArray} (h : hasP l p = false) : lastK l p = 0 := (lastU_any l 0).2 h
theorem lastK_lasts (l : List Mk) (p : ByteArray) : lastK (lastsL l) p = lastK l p := by
  cases h : hasP l p with
  | false => rw [lastK_no h, lastK_no (by rw [lasts_has]; exact h)]
  | true =>
    obtain ⟨m, hm, e1, e2⟩ := lastK_mem (l := lastsL l) (p := p) (by rw [lasts_has]; exact h)
    have := (lasts_iff.1 hm).2
    rw [← e2, ← this, e1]
/-- Open paths depend on the last marks only. -/
theorem open_lasts (l : List Mk) : sortO (openF (lastsL (lastsL l)) (lastsL (lastsL l))) = sortO (openF (lastsL l) (lastsL l)) := by
  rw [← open_eq, ← open_eq]
  obtain ⟨a1, a2⟩ := openP_spec (all := lastsL l) (lastsL l) [] List.Pairwise.nil
  obtain ⟨b1, b2⟩ := openP_spec (all := l) l [] List.Pairwise.nil
  refine srt_ext a1 b1 fun x => ?_
  rw [a2, b2]
  have hb : ∀ m : Mk, ∀ (f : ByteArray → Bool), (lastsL l).any (fun n => f n.path) = l.any fun n => f n.path := fun m f => by
    apply Bool.eq_iff_iff.2
    rw [List.any_eq_true, List.any_eq_true]
    constructor
    · rintro ⟨n, hn, hf⟩; exact ⟨n, lastsL_mem hn, hf⟩
    · rintro ⟨n, hn, hf⟩
      exact ⟨⟨n.path, lastK l n.path⟩, lasts_iff.2 ⟨hasP_iff.2 ⟨n, hn, rfl⟩, rfl⟩, hf⟩
  have ho : ∀ m : Mk, openS (lastsL l) m = openS l m := fun m => by
    unfold openS
    have e := hb m (fun p => decide (p ≠ m.path) && inS m.path p && decide (lastK l p ≠ 3))
    have e2 : badS (lastsL l) m = badS l m := by funext x; unfold badS; rw [lastK_lasts]
    rw [lastK_lasts, e2]
    have e3 : badS l m = fun n => (fun p => decide (p ≠ m.path) && inS m.path p && decide (lastK l p ≠ 3)) n.path := rfl
    rw [e3, e]
  constructor
  · rintro (h | ⟨m, hm, e, h⟩)
    · exact .inl h
    · exact .inr ⟨m, lastsL_mem hm, e, by rw [← ho]; exact h⟩
  · rintro (h | ⟨m, hm, e, h⟩)
    · exact .inl h
    · refine .inr ⟨⟨m.path, lastK l m.path⟩, lasts_iff.2 ⟨hasP_iff.2 ⟨m, hm, rfl⟩, rfl⟩, e, ?_⟩
      rw [ho]
      exact h
theorem lastK_pos {j : Jn} {l : List Mk} (h : marksJ j = some l) {p : ByteArray} (hp : hasP l p = true) : 1 ≤ lastK l p ∧ lastK l p ≤ 3 ∧ pathM p = true := by
  obtain ⟨m, hm, e1, e2⟩ := lastK_mem hp
  obtain ⟨h1, h2⟩ := markM_iff (marks_in h m hm)
  rw [e1] at h1
  exact ⟨by omega, by omega, h1⟩
end Go.Proofs
end
