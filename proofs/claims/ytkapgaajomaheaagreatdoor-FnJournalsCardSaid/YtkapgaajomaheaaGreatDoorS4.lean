/- Contracts of functions, facts of types, or the plain law behind one statement (own work): S4. Conditions: those told in each theorem. -/
import Derived.Test.YtkapgaajomaheaaGreatDoorS3
set_option linter.all false
set_option linter.unusedSimpArgs false
set_option linter.unusedVariables false
set_option maxRecDepth 4000
set_option linter.unusedSectionVars false
namespace Go.Proofs
open Go Go.V
theorem splitL_not {c : UInt8} {l : List UInt8} {k : Nat} (h : c ∉ l.take k) (hk : l.length ≤ k) : splitL c l = [l] := by
  rw [List.take_of_length_le hk] at h
  exact splitL_no h
theorem splitL_hit {c : UInt8} {l : List UInt8} {k : Nat} (h : c ∉ l.take k) (hk : l[k]? = some c) : splitL c l = l.take k :: splitL c (l.drop (k + 1)) := by
  have hlt : k < l.length := by
    rcases Nat.lt_or_ge k l.length with h | h
    · exact h
    · rw [List.getElem?_eq_none h] at hk; cases hk
  have e : l = l.take k ++ c :: l.drop (k + 1) := by
    conv => lhs; rw [← List.take_append_drop k l]
    congr 1
    rw [List.drop_eq_getElem_cons hlt]
    rw [List.getElem?_eq_getElem hlt] at hk
    cases hk; rfl
  conv => lhs; rw [e]
  exact splitL_app _ h
variable [Laid Tryz.prog]
theorem l1Split_c {s : ByteArray} {c : UInt8} {h : Heap} {Q : Value → Heap → Prop} (hs : s.size ≤ 1000000)
    (hQ : ∀ v h', Ext h h' → Row h' ((splitL c s.data.toList).map bL) v → Q v h') : CallsV Tryz.prog 81 [.string s, .int .u8 c.toNat] h Q := by
  refine CallsV.start Tryz.func81 rfl (by rw [Tryz.results81]) (by kernel_rfl) (by rw [Tryz.ntmps81]; simp) ?_
  have hl := str_len s
  have hcnt := count_le c s.data.toList
  have hcl := splitL_count c s.data.toList
  simp (disch := omega) only [VW, VY, VZ, VA, VB, VC, VE, TY, ↓reduceIte, Nat.reduceEqDiff, Nat.reduceAdd, Nat.reduceMul, Nat.reduceSub, Nat.reduceLeDiff, List.length_cons, List.length_nil, List.length_append, List.append_assoc, List.take_succ_cons, List.take_zero, List.drop_succ_cons, List.drop_zero, List.set_cons_zero, List.set_cons_succ, true_or, or_true, and_self, Bool.false_eq_true, Nat.le_refl, Option.bind_some, Option.map_some, Option.getD_some, Option.isSome_some, List.map_cons, List.map_nil, List.cons_append, List.nil_append, List.append_nil, List.getElem?_cons_zero, List.getElem?_cons_succ, eq_self, Int.reduceLT, Int.reduceLE, Int.reduceNeg, Int.reduceEq]
  refine loop_rule (fun n e h' => ∃ (i f : Nat) (vo : Value) (D : List (List UInt8)), e 0 = .string s ∧ e 1 = .int .u8 c.toNat ∧ e 5 = vo ∧ e 6 = .int .i64 f ∧ e 7 = .int .i64 i ∧ f ≤ i ∧ i ≤ s.size ∧ splitL c s.data.toList = D ++ splitL c (s.data.toList.drop f) ∧ c ∉ (s.data.toList.drop f).take (i - f) ∧ n = s.size - i ∧ Sep h h' [ownA (α := ByteArray) 9 (D.map bL) vo]) ?_ s.size _ _
    ⟨0, 0, _, [], rfl, rfl, rfl, rfl, rfl, Nat.le_refl _, Nat.zero_le _, rfl, by simp, rfl, (Sep.nil (.refl h)).nilA _⟩
  rintro n e h' ⟨i, f, vo, D, e0, e1, e5, e6, e7, hfi, hi, hsp, hno, rfl, sp⟩
  have hDl := congrArg List.length hsp
  rw [List.length_append, hcl] at hDl
  simp (disch := omega) only [VW, VY, VZ, VA, VB, VC, VE, TY, ↓reduceIte, Nat.reduceEqDiff, Nat.reduceAdd, Nat.reduceMul, Nat.reduceSub, Nat.reduceLeDiff, List.length_cons, List.length_nil, List.length_append, List.append_assoc, List.take_succ_cons, List.take_zero, List.drop_succ_cons, List.drop_zero, List.set_cons_zero, List.set_cons_succ, true_or, or_true, and_self, Bool.false_eq_true, Nat.le_refl, Option.bind_some, Option.map_some, Option.getD_some, Option.isSome_some, List.map_cons, List.map_nil, List.cons_append, List.nil_append, List.append_nil, List.getElem?_cons_zero, List.getElem?_cons_succ, eq_self, Int.reduceLT, Int.reduceLE, Int.reduceNeg, Int.reduceEq, e0, e7]
  by_cases hlt : i < s.size
  · obtain ⟨d, hd, hd'⟩ := get_str hlt
    have q1 : (i : Int) < (s.size : Int) := by omega
    have hdi : (s.data.toList.drop f)[i - f]? = some d := by rw [List.getElem?_drop, show f + (i - f) = i by omega]; exact hd'
    simp (disch := omega) only [VW, VY, VZ, VA, VB, VC, VE, TY, ↓reduceIte, Nat.reduceEqDiff, Nat.reduceAdd, Nat.reduceMul, Nat.reduceSub, Nat.reduceLeDiff, List.length_cons, List.length_nil, List.length_append, List.append_assoc, List.take_succ_cons, List.take_zero, List.drop_succ_cons, List.drop_zero, List.set_cons_zero, List.set_cons_succ, true_or, or_true, and_self, Bool.false_eq_true, Nat.le_refl, Option.bind_some, Option.map_some, Option.getD_some, Option.isSome_some, List.map_cons, List.map_nil, List.cons_append, List.nil_append, List.append_nil, List.getElem?_cons_zero, List.getElem?_cons_succ, eq_self, Int.reduceLT, Int.reduceLE, Int.reduceNeg, Int.reduceEq, e0, e1, e7, q1, hd]
    by_cases k : d = c
    · subst k
      have q2 : (f : Int) ≤ (i : Int) := by omega
      have q3 : (i : Int) ≤ (s.size : Int) := by omega
      have sp := sp.rep0 (x := s.extract f i) (rep_str (h := h') (by rw [ByteArray.size_extract]; omega))
      simp (disch := omega) only [VW, VY, VZ, VA, VB, VC, VE, TY, ↓reduceIte, Nat.reduceEqDiff, Nat.reduceAdd, Nat.reduceMul, Nat.reduceSub, Nat.reduceLeDiff, List.length_cons, List.length_nil, List.length_append, List.append_assoc, List.take_succ_cons, List.take_zero, List.drop_succ_cons, List.drop_zero, List.set_cons_zero, List.set_cons_succ, true_or, or_true, and_self, Bool.false_eq_true, Nat.le_refl, Option.bind_some, Option.map_some, Option.getD_some, Option.isSome_some, List.map_cons, List.map_nil, List.cons_append, List.nil_append, List.append_nil, List.getElem?_cons_zero, List.getElem?_cons_succ, eq_self, Int.reduceLT, Int.reduceLE, Int.reduceNeg, Int.reduceEq, e0, e5, e6, e7, q2, q3]
      refine sep_append (Sep.swap sp) rfl rfl te35 tk9 rfl (by decide) (by simp only [List.length_map]; omega) fun v4 h4 sp => ?_
      simp (disch := omega) only [VW, VY, VZ, VA, VB, VC, VE, TY, ↓reduceIte, Nat.reduceEqDiff, Nat.reduceAdd, Nat.reduceMul, Nat.reduceSub, Nat.reduceLeDiff, List.length_cons, List.length_nil, List.length_append, List.append_assoc, List.take_succ_cons, List.take_zero, List.drop_succ_cons, List.drop_zero, List.set_cons_zero, List.set_cons_succ, true_or, or_true, and_self, Bool.false_eq_true, Nat.le_refl, Option.bind_some, Option.map_some, Option.getD_some, Option.isSome_some, List.map_cons, List.map_nil, List.cons_append, List.nil_append, List.append_nil, List.getElem?_cons_zero, List.getElem?_cons_succ, eq_self, Int.reduceLT, Int.reduceLE, Int.reduceNeg, Int.reduceEq, e0, e1, e7, wrap_in]
      have hb : s.extract f i = bL ((s.data.toList.drop f).take (i - f)) := bytes_inj (by rw [extract_list, List.drop_take]; rfl)
      have hm : D.map bL ++ [s.extract f i] = (D ++ [(s.data.toList.drop f).take (i - f)]).map bL := by rw [List.map_append, hb]; rfl
      rw [hm] at sp
      refine ⟨_, by omega, i + 1, i + 1, v4, D ++ [(s.data.toList.drop f).take (i - f)], rfl, by simp, by simp, Nat.le_refl _, by omega, ?_, by simp, rfl, sp⟩
      rw [hsp, splitL_hit hno hdi, List.drop_drop, show f + (i - f + 1) = i + 1 by omega]
      simp
    · have k' : ¬ (d.toNat : Int) = (c.toNat : Int) := fun x => k (UInt8.toNat_inj.1 (by omega))
      simp (disch := omega) only [VW, VY, VZ, VA, VB, VC, VE, TY, ↓reduceIte, Nat.reduceEqDiff, Nat.reduceAdd, Nat.reduceMul, Nat.reduceSub, Nat.reduceLeDiff, List.length_cons, List.length_nil, List.length_append, List.append_assoc, List.take_succ_cons, List.take_zero, List.drop_succ_cons, List.drop_zero, List.set_cons_zero, List.set_cons_succ, true_or, or_true, and_self, Bool.false_eq_true, Nat.le_refl, Option.bind_some, Option.map_some, Option.getD_some, Option.isSome_some, List.map_cons, List.map_nil, List.cons_append, List.nil_append, List.append_nil, List.getElem?_cons_zero, List.getElem?_cons_succ, eq_self, Int.reduceLT, Int.reduceLE, Int.reduceNeg, Int.reduceEq, k', e0, e1, e5, e6, e7, wrap_in]
      refine ⟨_, by omega, i + 1, f, vo, D, rfl, rfl, by simp, by omega, by omega, hsp, ?_, rfl, sp⟩
      rw [show i + 1 - f = (i - f) + 1 by omega, List.take_add_one, hdi]
      simp only [Option.toList_some, List.mem_append, List.mem_singleton, not_or]
      exact ⟨hno, fun x => k x.symm⟩
  · obtain rfl : i = s.size := by omega
    have q1 : ¬ (s.size : Int) < (s.size : Int) := by omega
    have q3 : (f : Int) ≤ (s.size : Int) := by omega
    have sp := sp.rep0 (x := s.extract f s.size) (rep_str (h := h') (by rw [ByteArray.size_extract]; omega))
    simp (disch := omega) only [VW, VY, VZ, VA, VB, VC, VE, TY, ↓reduceIte, Nat.reduceEqDiff, Nat.reduceAdd, Nat.reduceMul, Nat.reduceSub, Nat.reduceLeDiff, List.length_cons, List.length_nil, List.length_append, List.append_assoc, List.take_succ_cons, List.take_zero, List.drop_succ_cons, List.drop_zero, List.set_cons_zero, List.set_cons_succ, true_or, or_true, and_self, Bool.false_eq_true, Nat.le_refl, Option.bind_some, Option.map_some, Option.getD_some, Option.isSome_some, List.map_cons, List.map_nil, List.cons_append, List.nil_append, List.append_nil, List.getElem?_cons_zero, List.getElem?_cons_succ, eq_self, Int.reduceLT, Int.reduceLE, Int.reduceNeg, Int.reduceEq, e0, e5, e6, q1, q3]
    refine sep_append (Sep.swap sp) rfl rfl te35 tk9 rfl (by decide) (by simp only [List.length_map]; omega) fun v4 h4 sp => ?_
    simp (disch := omega) only [VW, VY, VZ, VA, VB, VC, VE, TY, ↓reduceIte, Nat.reduceEqDiff, Nat.reduceAdd, Nat.reduceMul, Nat.reduceSub, Nat.reduceLeDiff, List.length_cons, List.length_nil, List.length_append, List.append_assoc, List.take_succ_cons, List.take_zero, List.drop_succ_cons, List.drop_zero, List.set_cons_zero, List.set_cons_succ, true_or, or_true, and_self, Bool.false_eq_true, Nat.le_refl, Option.bind_some, Option.map_some, Option.getD_some, Option.isSome_some, List.map_cons, List.map_nil, List.cons_append, List.nil_append, List.append_nil, List.getElem?_cons_zero, List.getElem?_cons_succ, eq_self, Int.reduceLT, Int.reduceLE, Int.reduceNeg, Int.reduceEq]
    have hb : s.extract f s.size = bL (s.data.toList.drop f) := bytes_inj (by rw [extract_list, ← hl, List.take_length]; rfl)
    have hm : D.map bL ++ [s.extract f s.size] = (splitL c s.data.toList).map bL := by
      rw [hsp, splitL_not hno (by rw [List.length_drop]; omega), List.map_append, hb]; rfl
    rw [hm] at sp
    exact hQ _ _ sp.ext sp.row
end Go.Proofs
