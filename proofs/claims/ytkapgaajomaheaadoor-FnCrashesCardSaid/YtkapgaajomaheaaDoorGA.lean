/- Contracts of functions, facts of types, or the plain law behind one statement (own work): GA. Conditions: those told in each theorem. -/
import Derived.Test.YtkapgaajomaheaaDoorJP
set_option linter.all false
set_option linter.unusedSimpArgs false
set_option linter.unusedVariables false
set_option maxRecDepth 4000
namespace Go.Proofs
open Go Go.V
/- Lines of marks: what is read is a beginning, and a written line is read again. -/
theorem readM_idem (n : Nat) : ∀ (k : Nat) (s : List UInt8), 40 - k = n → readM k (s.take (readM k s).2) = readM k s := by
  induction n with
  | zero => intro k s h; rw [readM_stop (by omega), readM_stop (by omega)]
  | succ n ih =>
    intro k s h
    cases hc : cutL s with
    | none => rw [readM_none hc]; rw [List.take_zero, readM_none rfl]
    | some p =>
      obtain ⟨a, r⟩ := p
      cases hp : parseS k a with
      | none => rw [readM_bad hc hp]; rw [List.take_zero, readM_none rfl]
      | some m =>
        rw [readM_some (by omega) hc hp]
        obtain ⟨h4, h5⟩ := cutL_some hc
        have e : s.take (a.length + 1 + (readM (k + 1) r).2) = a ++ 10 :: r.take (readM (k + 1) r).2 := by
          rw [h4, List.take_append, List.take_of_length_le (by omega), show a.length + 1 + (readM (k + 1) r).2 - a.length = (readM (k + 1) r).2 + 1 by omega, List.take_succ_cons]
        simp only []
        rw [e, readM_some (by omega) (cutL_app _ h5) hp, ih (k + 1) r (by omega)]
theorem readM_pre (n : Nat) : ∀ (k : Nat) (s t : List UInt8), 40 - k = n → (readM k s).1 <+: (readM k (s ++ t)).1 := by
  induction n with
  | zero => intro k s t h; rw [readM_stop (by omega)]; exact List.nil_prefix
  | succ n ih =>
    intro k s t h
    cases hc : cutL s with
    | none => rw [readM_none hc]; exact List.nil_prefix
    | some p =>
      obtain ⟨a, r⟩ := p
      cases hp : parseS k a with
      | none => rw [readM_bad hc hp]; exact List.nil_prefix
      | some m =>
        rw [readM_some (by omega) hc hp, readM_some (by omega) (cutL_more t hc) hp]
        exact (List.prefix_cons_inj m).2 (ih (k + 1) r t (by omega))
theorem readM_le (k : Nat) (s : List UInt8) : (readM k s).2 ≤ s.length := (readM_size (40 - k) k s rfl).2
theorem readM_nil (k : Nat) : readM k [] = ([], 0) := readM_none rfl
/-! digits -/
def digV2 (l : List UInt8) (a : Nat) : Nat := l.foldl (fun a c => 10 * a + (c.toNat - 48)) a
theorem digV2_dec (n : Nat) : digV2 (Lib.decDigits n) 0 = n := by
  induction n using Nat.strongRecOn with
  | ind n ih =>
    by_cases c : n < 10
    · rw [Lib.decDigits, dif_pos c]
      show 10 * 0 + ((UInt8.ofNat (48 + n)).toNat - 48) = n
      rw [UInt8.toNat_ofNat']; omega
    · rw [Lib.decDigits, dif_neg c]
      unfold digV2
      rw [List.foldl_append]
      have := ih (n / 10) (by omega)
      unfold digV2 at this
      rw [this]
      show 10 * (n / 10) + ((UInt8.ofNat (48 + n % 10)).toNat - 48) = n
      rw [UInt8.toNat_ofNat']; omega
theorem dec_inj {n m : Nat} (h : Lib.decDigits n = Lib.decDigits m) : n = m := by
  rw [← digV2_dec n, h, digV2_dec]
theorem dec_range (n : Nat) : ∀ c ∈ Lib.decDigits n, 48 ≤ c.toNat ∧ c.toNat ≤ 57 := by
  induction n using Nat.strongRecOn with
  | ind n ih =>
    by_cases c : n < 10
    · rw [Lib.decDigits, dif_pos c]
      intro x hx
      simp only [List.mem_singleton] at hx
      subst hx
      rw [UInt8.toNat_ofNat']; omega
    · rw [Lib.decDigits, dif_neg c]
      intro x hx
      rcases List.mem_append.1 hx with hx | hx
      · exact ih (n / 10) (by omega) x hx
      · simp only [List.mem_singleton] at hx
        subst hx
        rw [UInt8.toNat_ofNat']; omega
theorem dec_no {n : Nat} {c : UInt8} (h : c.toNat < 48 ∨ 57 < c.toNat) : c ∉ Lib.decDigits n := fun hx => by
  have := dec_range n c hx; omega
/-! a line -/
theorem fhoB_cases {k : Int} (h : 1 ≤ k ∧ k ≤ 3) : ∃ c : UInt8, (fhoB k).data.toList = [c] ∧ kindL [c] = k ∧ c ≠ 58 ∧ c ≠ 10 := by
  obtain rfl | rfl | rfl : k = 1 ∨ k = 2 ∨ k = 3 := by omega
  · exact ⟨102, by decide, by decide, by decide, by decide⟩
  · exact ⟨104, by decide, by decide, by decide, by decide⟩
  · exact ⟨111, by decide, by decide, by decide, by decide⟩
theorem path_no {s : ByteArray} {c : UInt8} (h : pathM s = true) (hc : c.toNat < 48 ∨ 55 < c.toNat) : c ∉ s.data.toList := by
  unfold pathM at h
  simp only [Bool.and_eq_true, List.all_eq_true] at h
  intro hx
  have := h.1 c hx
  unfold digB at this
  simp at this
  omega
theorem markM_iff {m : Mk} (h : markM m = true) : pathM m.path = true ∧ 1 ≤ m.kind ∧ m.kind ≤ 3 := by
  unfold markM at h
  simp only [Bool.and_eq_true, decide_eq_true_eq] at h
  exact h
/-- A line, letter by letter. -/
theorem lineB_data {k : Nat} {m : Mk} (hm : markM m = true) : ∃ c : UInt8, kindL [c] = m.kind ∧ c ≠ 58 ∧ c ≠ 10 ∧
    (lineB k m).data.toList = Lib.decDigits k ++ 58 :: (m.path.data.toList ++ 58 :: ([c] ++ 58 :: Lib.decDigits (jsumM k (lineS k m).data.toList))) ++ [10] := by
  obtain ⟨h1, h2⟩ := markM_iff hm
  obtain ⟨c, hc, hk, h3, h4⟩ := fhoB_cases h2
  refine ⟨c, hk, h3, h4, ?_⟩
  have ec : colB.data.toList = [58] := rfl
  unfold lineB
  have eS : (lineS k m).data.toList = Lib.decDigits k ++ 58 :: (m.path.data.toList ++ 58 :: ([c] ++ [58])) := by
    unfold lineS decB
    simp [hc, ec]
  generalize hj : jsumM k (lineS k m).data.toList = j
  unfold decB
  simp [eS]
theorem bL_data (s : ByteArray) : bL s.data.toList = s := by unfold bL; simp
theorem mk_eta (m : Mk) : (⟨m.path, m.kind⟩ : Mk) = m := rfl
theorem parse_line {k : Nat} {m : Mk} (hm : markM m = true) : ∃ a, (lineB k m).data.toList = a ++ [10] ∧ 10 ∉ a ∧ parseS k a = some m := by
  obtain ⟨h1, h2⟩ := markM_iff hm
  obtain ⟨c, hk, hc1, hc2, hd⟩ := lineB_data (k := k) hm
  refine ⟨_, hd, ?_, ?_⟩
  · intro hx
    rcases List.mem_append.1 hx with hx | hx
    · exact dec_no (by decide) hx
    · rcases List.mem_cons.1 hx with hx | hx
      · exact absurd hx (by decide)
      · rcases List.mem_append.1 hx with hx | hx
        · exact path_no h1 (by decide) hx
        · rcases List.mem_cons.1 hx with hx | hx
          · exact absurd hx (by decide)
          · rcases List.mem_append.1 hx with hx | hx
            · exact hc2 (List.mem_singleton.1 hx).symm
            · rcases List.mem_cons.1 hx with hx | hx
              · exact absurd hx (by decide)
              · exact dec_no (by decide) hx
  · have hb : bL ((Lib.decDigits k ++ 58 :: (m.path.data.toList ++ 58 :: ([c] ++ 58 :: Lib.decDigits (jsumM k (lineS k m).data.toList)))) ++ [10]) = lineB k m := by rw [← hd, bL_data]
    unfold parseS
    rw [splitL_app _ (dec_no (by decide)), splitL_app _ (path_no h1 (by decide)), splitL_app _ (by simpa using hc1.symm), splitL_no (dec_no (by decide))]
    simp only [hk, bL_data, mk_eta]
    rw [if_pos ⟨hm, hb.symm⟩]
/-- A line is read at its own number only. -/
theorem line_number {k n : Nat} {m x : Mk} (hm : markM m = true) (hx : markM x = true) (h : lineB k x = lineB n m) : k = n := by
  obtain ⟨c, _, _, _, h1⟩ := lineB_data (k := n) hm
  obtain ⟨d, _, _, _, h2⟩ := lineB_data (k := k) hx
  rw [h, h1] at h2
  have e1 := splitL_app (c := 58) (a := Lib.decDigits n) (m.path.data.toList ++ 58 :: ([c] ++ 58 :: Lib.decDigits (jsumM n (lineS n m).data.toList)) ++ [10]) (dec_no (by decide))
  have e2 := splitL_app (c := 58) (a := Lib.decDigits k) (x.path.data.toList ++ 58 :: ([d] ++ 58 :: Lib.decDigits (jsumM k (lineS k x).data.toList)) ++ [10]) (dec_no (by decide))
  simp only [List.append_assoc, List.cons_append] at h2 e1 e2
  rw [h2, e2] at e1
  injection e1 with e3
  exact dec_inj e3
theorem read_line0 {m : Mk} (hm : markM m = true) (k : Nat) (hk : k < 40) (t : List UInt8) : readM k ((lineB k m).data.toList ++ t) = (m :: (readM (k + 1) t).1, (lineB k m).size + (readM (k + 1) t).2) := by
  obtain ⟨a, h1, h2, h3⟩ := parse_line (k := k) hm
  have hs : (lineB k m).size = a.length + 1 := by
    have := str_len (lineB k m)
    rw [← this, h1]; simp
  rw [h1, List.append_assoc, List.singleton_append, readM_some hk (cutL_app t h2) h3, hs]
theorem read_line_other {m : Mk} (hm : markM m = true) {n k : Nat} (hk : k ≠ n) : readM k (lineB n m).data.toList = ([], 0) := by
  obtain ⟨a, h1, h2, h3⟩ := parse_line (k := n) hm
  rw [h1]
  cases hp : parseS k a with
  | none => exact readM_bad (cutL_app [] h2) hp
  | some x =>
    obtain ⟨p1, p2⟩ := parseS_some hp
    rw [← h1, bL_data] at p2
    exact absurd (line_number hm p1 p2) hk
end Go.Proofs
