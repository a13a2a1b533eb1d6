/- Contracts of functions, facts of types, or the plain law behind one statement (own work): JS. Conditions: those told in each theorem. -/
import Derived.Test.YtkapgaajomaheaaGreatDoorJR
set_option linter.all false
set_option linter.unusedSimpArgs false
set_option linter.unusedVariables false
set_option maxRecDepth 4000
namespace Go.Proofs
open Go Go.V
theorem markOf_some (m : Mk) : markOf (some m) = m := rfl
theorem markOf_none : markOf none = ⟨⟨#[]⟩, 0⟩ := rfl
theorem cutL_hit {l : List UInt8} {k : Nat} (h : 10 ∉ l.take k) (hk : l[k]? = some 10) : cutL l = some (l.take k, l.drop (k + 1)) := by
  have hlt : k < l.length := by
    rcases Nat.lt_or_ge k l.length with h | h
    · exact h
    · rw [List.getElem?_eq_none h] at hk; cases hk
  have e : l = l.take k ++ 10 :: l.drop (k + 1) := by
    conv => lhs; rw [← List.take_append_drop k l]
    congr 1
    rw [List.drop_eq_getElem_cons hlt]
    rw [List.getElem?_eq_getElem hlt] at hk
    rw [Option.some.inj hk]
  conv => lhs; rw [e]
  exact cutL_app _ h
theorem mark_ok {m : Mk} (h : markM m = true) : m.path.size ≤ 9223372036854775807 ∧ inI64 m.kind := by
  unfold markM pathM at h
  simp at h
  refine ⟨by omega, ?_⟩
  unfold inI64; omega
theorem row_plain {v : Value} {n : Nat} (hr : IsRow v n) : plainV v = true := by
  rcases hr with ⟨rfl, rfl⟩ | ⟨b, off, cap, rfl, _⟩ <;> rfl
theorem jrOpen_c {s : ByteArray} {h : Heap} {Q : Value → Heap → Prop} (hs : s.size ≤ 1000000)
    (hQ : ∀ v h', Sep h h' [ownA 26 (readM 0 s.data.toList).1 v] → Q (.tuple #[v, .int .i64 (readM 0 s.data.toList).2]) h') :
    CallsV Tryz.prog 42 [.string s] h Q := by
  refine CallsV.start Tryz.func42 rfl (by rw [Tryz.results42]) (by kernel_rfl) (by rw [Tryz.ntmps42]; simp) ?_
  have hl := str_len s
  simp (disch := omega) only [VW, VY, VZ, VA, VB, VC, VE, TY, ↓reduceIte, Nat.reduceEqDiff, Nat.reduceAdd, Nat.reduceMul, Nat.reduceSub, Nat.reduceLeDiff, List.length_cons, List.length_nil, List.length_append, List.append_assoc, List.take_succ_cons, List.take_zero, List.drop_succ_cons, List.drop_zero, List.set_cons_zero, List.set_cons_succ, true_or, or_true, and_self, Bool.false_eq_true, Nat.le_refl, Option.bind_some, Option.map_some, Option.getD_some, Option.isSome_some, List.map_cons, List.map_nil, List.cons_append, List.nil_append, List.append_nil, List.getElem?_cons_zero, List.getElem?_cons_succ, eq_self, Int.reduceLT, Int.reduceLE, Int.reduceNeg, Int.reduceEq]
  refine loop_rule (fun n e h' => ∃ (i f : Nat) (vo : Value) (D : List Mk), e 0 = .string s ∧ e 4 = vo ∧ e 5 = .int .i64 f ∧ e 6 = .int .i64 i ∧ f ≤ i ∧ i ≤ s.size ∧ D.length ≤ 40 ∧
      readM 0 s.data.toList = (D ++ (readM D.length (s.data.toList.drop f)).1, f + (readM D.length (s.data.toList.drop f)).2) ∧ 10 ∉ (s.data.toList.drop f).take (i - f) ∧ n = s.size - i ∧ Sep h h' [ownA 26 D vo]) ?_ s.size _ _
    ⟨0, 0, _, [], rfl, rfl, rfl, rfl, Nat.le_refl _, Nat.zero_le _, by simp, by simp, by simp, rfl, (Sep.nil (.refl h)).nilA _⟩
  rintro n e h' ⟨i, f, vo, D, e0, e4, e5, e6, hfi, hi, hD, hR, hno, rfl, sp⟩
  have len := sp.row.isRow.len Tryz.prog
  have pl := row_plain sp.row.isRow
  simp (disch := omega) only [VW, VY, VZ, VA, VB, VC, VE, TY, ↓reduceIte, Nat.reduceEqDiff, Nat.reduceAdd, Nat.reduceMul, Nat.reduceSub, Nat.reduceLeDiff, List.length_cons, List.length_nil, List.length_append, List.append_assoc, List.take_succ_cons, List.take_zero, List.drop_succ_cons, List.drop_zero, List.set_cons_zero, List.set_cons_succ, true_or, or_true, and_self, Bool.false_eq_true, Nat.le_refl, Option.bind_some, Option.map_some, Option.getD_some, Option.isSome_some, List.map_cons, List.map_nil, List.cons_append, List.nil_append, List.append_nil, List.getElem?_cons_zero, List.getElem?_cons_succ, eq_self, Int.reduceLT, Int.reduceLE, Int.reduceNeg, Int.reduceEq, e0, e6]
  by_cases hlt : i < s.size
  · obtain ⟨d, hd, hd'⟩ := get_str hlt
    have q1 : (i : Int) < (s.size : Int) := by omega
    have hdi : (s.data.toList.drop f)[i - f]? = some d := by rw [List.getElem?_drop, show f + (i - f) = i by omega]; exact hd'
    simp (disch := omega) only [VW, VY, VZ, VA, VB, VC, VE, TY, ↓reduceIte, Nat.reduceEqDiff, Nat.reduceAdd, Nat.reduceMul, Nat.reduceSub, Nat.reduceLeDiff, List.length_cons, List.length_nil, List.length_append, List.append_assoc, List.take_succ_cons, List.take_zero, List.drop_succ_cons, List.drop_zero, List.set_cons_zero, List.set_cons_succ, true_or, or_true, and_self, Bool.false_eq_true, Nat.le_refl, Option.bind_some, Option.map_some, Option.getD_some, Option.isSome_some, List.map_cons, List.map_nil, List.cons_append, List.nil_append, List.append_nil, List.getElem?_cons_zero, List.getElem?_cons_succ, eq_self, Int.reduceLT, Int.reduceLE, Int.reduceNeg, Int.reduceEq, q1, e4, len]
    by_cases h40 : D.length < 40
    · have q2 : (D.length : Int) < 40 := by omega
      simp (disch := omega) only [VW, VY, VZ, VA, VB, VC, VE, TY, ↓reduceIte, Nat.reduceEqDiff, Nat.reduceAdd, Nat.reduceMul, Nat.reduceSub, Nat.reduceLeDiff, List.length_cons, List.length_nil, List.length_append, List.append_assoc, List.take_succ_cons, List.take_zero, List.drop_succ_cons, List.drop_zero, List.set_cons_zero, List.set_cons_succ, true_or, or_true, and_self, Bool.false_eq_true, Nat.le_refl, Option.bind_some, Option.map_some, Option.getD_some, Option.isSome_some, List.map_cons, List.map_nil, List.cons_append, List.nil_append, List.append_nil, List.getElem?_cons_zero, List.getElem?_cons_succ, eq_self, Int.reduceLT, Int.reduceLE, Int.reduceNeg, Int.reduceEq, q2, e0, e6, hd]
      by_cases k : d = 10
      · subst k
        have k' : (((10 : UInt8).toNat : Nat) : Int) = 10 := rfl
        have q3 : (f : Int) ≤ (i : Int) := by omega
        have q4 : (i : Int) ≤ (s.size : Int) := by omega
        simp (disch := omega) only [VW, VY, VZ, VA, VB, VC, VE, TY, ↓reduceIte, Nat.reduceEqDiff, Nat.reduceAdd, Nat.reduceMul, Nat.reduceSub, Nat.reduceLeDiff, List.length_cons, List.length_nil, List.length_append, List.append_assoc, List.take_succ_cons, List.take_zero, List.drop_succ_cons, List.drop_zero, List.set_cons_zero, List.set_cons_succ, true_or, or_true, and_self, Bool.false_eq_true, Nat.le_refl, Option.bind_some, Option.map_some, Option.getD_some, Option.isSome_some, List.map_cons, List.map_nil, List.cons_append, List.nil_append, List.append_nil, List.getElem?_cons_zero, List.getElem?_cons_succ, eq_self, Int.reduceLT, Int.reduceLE, Int.reduceNeg, Int.reduceEq, k', e0, e4, e5, e6, q3, q4, len]
        have hx : (s.extract f i).data.toList = (s.data.toList.drop f).take (i - f) := by rw [extract_list, List.drop_take]
        refine .inl ⟨by kernel_rfl, ?_⟩; refine jrRead_c (k := D.length) (by rw [ByteArray.size_extract]; omega) (by omega) fun h2 E2 => ?_
        rw [hx]
        have hcut := cutL_hit hno hdi
        have sp := sp.mono E2
        cases hp : parseS D.length ((s.data.toList.drop f).take (i - f)) with
        | none =>
          rw [readM_bad hcut hp] at hR
          simp only [List.append_nil, Nat.add_zero] at hR
          rw [hR] at hQ
          dsimp only at hQ
          have sp := (sp.newBlk [.string (markOf none).path, .int .i64 (markOf none).kind] 26 true).tail
          simp (disch := omega) only [VW, VY, VZ, VA, VB, VC, VE, TY, ↓reduceIte, Nat.reduceEqDiff, Nat.reduceAdd, Nat.reduceMul, Nat.reduceSub, Nat.reduceLeDiff, List.length_cons, List.length_nil, List.length_append, List.append_assoc, List.take_succ_cons, List.take_zero, List.drop_succ_cons, List.drop_zero, List.set_cons_zero, List.set_cons_succ, true_or, or_true, and_self, Bool.false_eq_true, Nat.le_refl, Option.bind_some, Option.map_some, Option.getD_some, Option.isSome_some, List.map_cons, List.map_nil, List.cons_append, List.nil_append, List.append_nil, List.getElem?_cons_zero, List.getElem?_cons_succ, eq_self, Int.reduceLT, Int.reduceLE, Int.reduceNeg, Int.reduceEq, e4, e5, markOf_none, Option.isSome_none, pl]
          exact hQ _ _ sp
        | some m =>
          obtain ⟨hm, hline⟩ := parseS_some hp
          obtain ⟨m1, m2⟩ := mark_ok hm
          rw [readM_some h40 hcut hp] at hR
          have sp := sp.newBlk [.string m.path, .int .i64 m.kind] 26 true
          have ga := sp.rdAll (n := 2) rfl
          have sp := sp.tail.rep0 (rep_Mk m1 m2)
          simp (disch := omega) only [VW, VY, VZ, VA, VB, VC, VE, TY, ↓reduceIte, Nat.reduceEqDiff, Nat.reduceAdd, Nat.reduceMul, Nat.reduceSub, Nat.reduceLeDiff, List.length_cons, List.length_nil, List.length_append, List.append_assoc, List.take_succ_cons, List.take_zero, List.drop_succ_cons, List.drop_zero, List.set_cons_zero, List.set_cons_succ, true_or, or_true, and_self, Bool.false_eq_true, Nat.le_refl, Option.bind_some, Option.map_some, Option.getD_some, Option.isSome_some, List.map_cons, List.map_nil, List.cons_append, List.nil_append, List.append_nil, List.getElem?_cons_zero, List.getElem?_cons_succ, eq_self, Int.reduceLT, Int.reduceLE, Int.reduceNeg, Int.reduceEq, markOf_some, e4, ga]
          refine sep_append (Sep.swap sp) (by rw [List.append_assoc]; rfl) (by simp) te31 tk26 rfl (by decide) (by simp only []; omega) fun v4 h4 sp => ?_
          simp (disch := omega) only [VW, VY, VZ, VA, VB, VC, VE, TY, ↓reduceIte, Nat.reduceEqDiff, Nat.reduceAdd, Nat.reduceMul, Nat.reduceSub, Nat.reduceLeDiff, List.length_cons, List.length_nil, List.length_append, List.append_assoc, List.take_succ_cons, List.take_zero, List.drop_succ_cons, List.drop_zero, List.set_cons_zero, List.set_cons_succ, true_or, or_true, and_self, Bool.false_eq_true, Nat.le_refl, Option.bind_some, Option.map_some, Option.getD_some, Option.isSome_some, List.map_cons, List.map_nil, List.cons_append, List.nil_append, List.append_nil, List.getElem?_cons_zero, List.getElem?_cons_succ, eq_self, Int.reduceLT, Int.reduceLE, Int.reduceNeg, Int.reduceEq, e0, e5, e6, wrap_in]
          refine ⟨_, by omega, i + 1, i + 1, v4, D ++ [m], rfl, by simp, by simp, Nat.le_refl _, by omega, by rw [List.length_append]; simp only [List.length_cons, List.length_nil]; omega, ?_, by simp, rfl, sp⟩
          rw [hR]
          have hlen : (D ++ [m]).length = D.length + 1 := by simp
          have e1 : f + (i - f + 1) = i + 1 := by omega
          have e2 : ((s.data.toList.drop f).take (i - f)).length = i - f := by rw [List.length_take, List.length_drop]; omega
          rw [hlen, List.drop_drop, e1, e2]
          simp only [List.append_assoc, List.cons_append, List.nil_append, Prod.mk.injEq, true_and]
          omega
      · have k' : ¬ (d.toNat : Int) = 10 := fun x => k (UInt8.toNat_inj.1 (by show d.toNat = 10; omega))
        simp (disch := omega) only [VW, VY, VZ, VA, VB, VC, VE, TY, ↓reduceIte, Nat.reduceEqDiff, Nat.reduceAdd, Nat.reduceMul, Nat.reduceSub, Nat.reduceLeDiff, List.length_cons, List.length_nil, List.length_append, List.append_assoc, List.take_succ_cons, List.take_zero, List.drop_succ_cons, List.drop_zero, List.set_cons_zero, List.set_cons_succ, true_or, or_true, and_self, Bool.false_eq_true, Nat.le_refl, Option.bind_some, Option.map_some, Option.getD_some, Option.isSome_some, List.map_cons, List.map_nil, List.cons_append, List.nil_append, List.append_nil, List.getElem?_cons_zero, List.getElem?_cons_succ, eq_self, Int.reduceLT, Int.reduceLE, Int.reduceNeg, Int.reduceEq, k', e0, e4, e5, e6, wrap_in]
        refine ⟨_, by omega, i + 1, f, vo, D, rfl, rfl, by simp, by omega, by omega, hD, hR, ?_, rfl, sp⟩
        rw [show i + 1 - f = (i - f) + 1 by omega, List.take_add_one, hdi]
        simp only [Option.toList_some, List.mem_append, List.mem_singleton, not_or]
        exact ⟨hno, fun x => k x.symm⟩
    · have q2 : ¬ (D.length : Int) < 40 := by omega
      rw [readM_stop h40] at hR
      simp only [List.append_nil, Nat.add_zero] at hR
      rw [hR] at hQ
      dsimp only at hQ
      simp (disch := omega) only [VW, VY, VZ, VA, VB, VC, VE, TY, ↓reduceIte, Nat.reduceEqDiff, Nat.reduceAdd, Nat.reduceMul, Nat.reduceSub, Nat.reduceLeDiff, List.length_cons, List.length_nil, List.length_append, List.append_assoc, List.take_succ_cons, List.take_zero, List.drop_succ_cons, List.drop_zero, List.set_cons_zero, List.set_cons_succ, true_or, or_true, and_self, Bool.false_eq_true, Nat.le_refl, Option.bind_some, Option.map_some, Option.getD_some, Option.isSome_some, List.map_cons, List.map_nil, List.cons_append, List.nil_append, List.append_nil, List.getElem?_cons_zero, List.getElem?_cons_succ, eq_self, Int.reduceLT, Int.reduceLE, Int.reduceNeg, Int.reduceEq, q2, e4, e5, pl]
      exact hQ _ _ sp
  · obtain rfl : i = s.size := by omega
    have q1 : ¬ (s.size : Int) < (s.size : Int) := by omega
    rw [List.take_of_length_le (by rw [List.length_drop]; omega)] at hno
    rw [readM_none (cutL_none.2 hno)] at hR
    simp only [List.append_nil, Nat.add_zero] at hR
    rw [hR] at hQ
    dsimp only at hQ
    simp (disch := omega) only [VW, VY, VZ, VA, VB, VC, VE, TY, ↓reduceIte, Nat.reduceEqDiff, Nat.reduceAdd, Nat.reduceMul, Nat.reduceSub, Nat.reduceLeDiff, List.length_cons, List.length_nil, List.length_append, List.append_assoc, List.take_succ_cons, List.take_zero, List.drop_succ_cons, List.drop_zero, List.set_cons_zero, List.set_cons_succ, true_or, or_true, and_self, Bool.false_eq_true, Nat.le_refl, Option.bind_some, Option.map_some, Option.getD_some, Option.isSome_some, List.map_cons, List.map_nil, List.cons_append, List.nil_append, List.append_nil, List.getElem?_cons_zero, List.getElem?_cons_succ, eq_self, Int.reduceLT, Int.reduceLE, Int.reduceNeg, Int.reduceEq, q1, e4, e5, pl]
    exact hQ _ _ sp
end Go.Proofs
