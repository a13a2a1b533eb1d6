/- Contracts of functions, facts of types, or the plain law behind one statement (own work): C3. Conditions: those told in each theorem. -/
import Derived.Test.YtcmkfkgcbllijaaC2
set_option linter.all false
set_option linter.unusedSimpArgs false
namespace Go.Proofs
open Go Go.V

theorem take_succ_eq {α : Type} {l m : List α} {i : Nat} {x : α} (ht : l.take i = m.take i) (hx : l[i]? = some x) (hy : m[i]? = some x) : l.take (i + 1) = m.take (i + 1) := by
  rw [List.take_add_one, List.take_add_one, ht, hx, hy]

theorem eqNodeS_c {l m : List Nd} {v w : Value} {h : Heap} {Q : Value → Heap → Prop} (hl : Row h l v) (hm : Row h m w) (hn : l.length ≤ 1000000000)
    (hQ : ∀ h', Ext h h' → Q (.bool (decide (l = m))) h') : CallsV Try.prog 39 [v, w] h Q := by
  refine CallsV.start Try.func39 rfl (by rw [Try.results39]) (by kernel_rfl) (by rw [Try.ntmps39]; simp) ?_
  have hml := hm.le
  simp (disch := omega) only [VW, VY, VZ, TY, ↓reduceIte, Nat.reduceEqDiff, Nat.reduceAdd, Nat.reduceMul, Nat.reduceSub, Nat.reduceLeDiff, List.length_cons, List.length_nil, List.length_append, List.append_assoc, List.take_succ_cons, List.take_zero, List.drop_succ_cons, List.drop_zero, List.set_cons_zero, List.set_cons_succ, true_or, or_true, and_self, Bool.false_eq_true, Nat.le_refl, Option.bind_some, Option.map_some, Option.getD_some, Option.isSome_some, List.map_cons, List.map_nil, List.cons_append, List.nil_append, List.append_nil, List.getElem?_cons_zero, List.getElem?_cons_succ, eq_self, Int.reduceLT, Int.reduceLE, Int.reduceNeg, Int.reduceEq, hl.isRow.len, hm.isRow.len]
  by_cases hne : l.length = m.length
  · have c0 : (l.length : Int) = (m.length : Int) := by omega
    simp (disch := omega) only [VW, VY, VZ, TY, ↓reduceIte, Nat.reduceEqDiff, Nat.reduceAdd, Nat.reduceMul, Nat.reduceSub, Nat.reduceLeDiff, List.length_cons, List.length_nil, List.length_append, List.append_assoc, List.take_succ_cons, List.take_zero, List.drop_succ_cons, List.drop_zero, List.set_cons_zero, List.set_cons_succ, true_or, or_true, and_self, Bool.false_eq_true, Nat.le_refl, Option.bind_some, Option.map_some, Option.getD_some, Option.isSome_some, List.map_cons, List.map_nil, List.cons_append, List.nil_append, List.append_nil, List.getElem?_cons_zero, List.getElem?_cons_succ, eq_self, Int.reduceLT, Int.reduceLE, Int.reduceNeg, Int.reduceEq, c0]
    refine loop_rule (fun n e h' => ∃ (i : Nat), e 0 = v ∧ e 1 = w ∧ e 5 = .int .i64 i ∧ i ≤ l.length ∧ n = l.length - i ∧ Ext h h' ∧ l.take i = m.take i) ?_ l.length _ _ ⟨0, rfl, rfl, rfl, Nat.zero_le _, rfl, .refl _, by simp⟩
    rintro n e h1 ⟨i, e0, e1, e5, hi, rfl, E1, ht⟩
    simp (disch := omega) only [VW, VY, VZ, TY, ↓reduceIte, Nat.reduceEqDiff, Nat.reduceAdd, Nat.reduceMul, Nat.reduceSub, Nat.reduceLeDiff, List.length_cons, List.length_nil, List.length_append, List.append_assoc, List.take_succ_cons, List.take_zero, List.drop_succ_cons, List.drop_zero, List.set_cons_zero, List.set_cons_succ, true_or, or_true, and_self, Bool.false_eq_true, Nat.le_refl, Option.bind_some, Option.map_some, Option.getD_some, Option.isSome_some, List.map_cons, List.map_nil, List.cons_append, List.nil_append, List.append_nil, List.getElem?_cons_zero, List.getElem?_cons_succ, eq_self, Int.reduceLT, Int.reduceLE, Int.reduceNeg, Int.reduceEq, e0, e1, e5, hl.isRow.len]
    by_cases hlt : i < l.length
    · obtain ⟨x, hx⟩ := get_some hlt
      obtain ⟨y, hy⟩ := get_some (show i < m.length by omega)
      have c1 : (i : Int) < (l.length : Int) := by omega
      obtain ⟨_, _, x3, x4, x5⟩ := row_Nd (hl.mono E1) hx
      obtain ⟨_, _, y3, y4, y5⟩ := row_Nd (hm.mono E1) hy
      simp (disch := omega) only [VW, VY, VZ, TY, ↓reduceIte, Nat.reduceEqDiff, Nat.reduceAdd, Nat.reduceMul, Nat.reduceSub, Nat.reduceLeDiff, List.length_cons, List.length_nil, List.length_append, List.append_assoc, List.take_succ_cons, List.take_zero, List.drop_succ_cons, List.drop_zero, List.set_cons_zero, List.set_cons_succ, true_or, or_true, and_self, Bool.false_eq_true, Nat.le_refl, Option.bind_some, Option.map_some, Option.getD_some, Option.isSome_some, List.map_cons, List.map_nil, List.cons_append, List.nil_append, List.append_nil, List.getElem?_cons_zero, List.getElem?_cons_succ, eq_self, Int.reduceLT, Int.reduceLE, Int.reduceNeg, Int.reduceEq, e0, e1, e5, c1]
      refine draw_id (by kernel_rfl) ?_
      simp (disch := omega) only [VW, VY, VZ, TY, ↓reduceIte, Nat.reduceEqDiff, Nat.reduceAdd, Nat.reduceMul, Nat.reduceSub, Nat.reduceLeDiff, List.length_cons, List.length_nil, List.length_append, List.append_assoc, List.take_succ_cons, List.take_zero, List.drop_succ_cons, List.drop_zero, List.set_cons_zero, List.set_cons_succ, true_or, or_true, and_self, Bool.false_eq_true, Nat.le_refl, Option.bind_some, Option.map_some, Option.getD_some, Option.isSome_some, List.map_cons, List.map_nil, List.cons_append, List.nil_append, List.append_nil, List.getElem?_cons_zero, List.getElem?_cons_succ, eq_self, Int.reduceLT, Int.reduceLE, Int.reduceNeg, Int.reduceEq, e0, e1, e5, hl.isRow.ix, hm.isRow.ix, x3, y3]
      refine .inl ⟨by kernel_rfl, ?_⟩; refine eqNode_c fun h2 E2 => ?_
      have x3' := (row_Nd (hl.mono (E1.trans E2)) hx).2.2.1
      have y3' := (row_Nd (hm.mono (E1.trans E2)) hy).2.2.1
      simp (disch := omega) only [VW, VY, VZ, TY, ↓reduceIte, Nat.reduceEqDiff, Nat.reduceAdd, Nat.reduceMul, Nat.reduceSub, Nat.reduceLeDiff, List.length_cons, List.length_nil, List.length_append, List.append_assoc, List.take_succ_cons, List.take_zero, List.drop_succ_cons, List.drop_zero, List.set_cons_zero, List.set_cons_succ, true_or, or_true, and_self, Bool.false_eq_true, Nat.le_refl, Option.bind_some, Option.map_some, Option.getD_some, Option.isSome_some, List.map_cons, List.map_nil, List.cons_append, List.nil_append, List.append_nil, List.getElem?_cons_zero, List.getElem?_cons_succ, eq_self, Int.reduceLT, Int.reduceLE, Int.reduceNeg, Int.reduceEq, x3', y3']
      by_cases hxy : x = y
      · subst hxy
        simp (disch := omega) only [VW, VY, VZ, TY, ↓reduceIte, Nat.reduceEqDiff, Nat.reduceAdd, Nat.reduceMul, Nat.reduceSub, Nat.reduceLeDiff, List.length_cons, List.length_nil, List.length_append, List.append_assoc, List.take_succ_cons, List.take_zero, List.drop_succ_cons, List.drop_zero, List.set_cons_zero, List.set_cons_succ, true_or, or_true, and_self, Bool.false_eq_true, Nat.le_refl, Option.bind_some, Option.map_some, Option.getD_some, Option.isSome_some, List.map_cons, List.map_nil, List.cons_append, List.nil_append, List.append_nil, List.getElem?_cons_zero, List.getElem?_cons_succ, eq_self, Int.reduceLT, Int.reduceLE, Int.reduceNeg, Int.reduceEq, e0, e1, e5, wrap_in]
        exact ⟨_, by omega, i + 1, by simp, by omega, rfl, E1.trans E2, take_succ_eq ht hx hy⟩
      · simp (disch := omega) only [VW, VY, VZ, TY, ↓reduceIte, Nat.reduceEqDiff, Nat.reduceAdd, Nat.reduceMul, Nat.reduceSub, Nat.reduceLeDiff, List.length_cons, List.length_nil, List.length_append, List.append_assoc, List.take_succ_cons, List.take_zero, List.drop_succ_cons, List.drop_zero, List.set_cons_zero, List.set_cons_succ, true_or, or_true, and_self, Bool.false_eq_true, Nat.le_refl, Option.bind_some, Option.map_some, Option.getD_some, Option.isSome_some, List.map_cons, List.map_nil, List.cons_append, List.nil_append, List.append_nil, List.getElem?_cons_zero, List.getElem?_cons_succ, eq_self, Int.reduceLT, Int.reduceLE, Int.reduceNeg, Int.reduceEq, hxy]
        have : l ≠ m := fun e => hxy (by rw [e, hy] at hx; simpa using hx.symm)
        simpa [this] using hQ _ (E1.trans E2)
    · obtain rfl : i = l.length := by omega
      have c1 : ¬ (l.length : Int) < (l.length : Int) := by omega
      simp (disch := omega) only [VW, VY, VZ, TY, ↓reduceIte, Nat.reduceEqDiff, Nat.reduceAdd, Nat.reduceMul, Nat.reduceSub, Nat.reduceLeDiff, List.length_cons, List.length_nil, List.length_append, List.append_assoc, List.take_succ_cons, List.take_zero, List.drop_succ_cons, List.drop_zero, List.set_cons_zero, List.set_cons_succ, true_or, or_true, and_self, Bool.false_eq_true, Nat.le_refl, Option.bind_some, Option.map_some, Option.getD_some, Option.isSome_some, List.map_cons, List.map_nil, List.cons_append, List.nil_append, List.append_nil, List.getElem?_cons_zero, List.getElem?_cons_succ, eq_self, Int.reduceLT, Int.reduceLE, Int.reduceNeg, Int.reduceEq, e0, e1, e5, c1]
      have : l = m := by rw [List.take_of_length_le (Nat.le_refl _), List.take_of_length_le (by omega)] at ht; exact ht
      simpa [this] using hQ _ E1
  · have c0 : ¬ (l.length : Int) = (m.length : Int) := by omega
    simp (disch := omega) only [VW, VY, VZ, TY, ↓reduceIte, Nat.reduceEqDiff, Nat.reduceAdd, Nat.reduceMul, Nat.reduceSub, Nat.reduceLeDiff, List.length_cons, List.length_nil, List.length_append, List.append_assoc, List.take_succ_cons, List.take_zero, List.drop_succ_cons, List.drop_zero, List.set_cons_zero, List.set_cons_succ, true_or, or_true, and_self, Bool.false_eq_true, Nat.le_refl, Option.bind_some, Option.map_some, Option.getD_some, Option.isSome_some, List.map_cons, List.map_nil, List.cons_append, List.nil_append, List.append_nil, List.getElem?_cons_zero, List.getElem?_cons_succ, eq_self, Int.reduceLT, Int.reduceLE, Int.reduceNeg, Int.reduceEq, c0]
    have : l ≠ m := fun e => hne (by rw [e])
    simpa [this] using hQ _ (.refl _)

theorem intactNodeS_c {l : List Nd} {v w : Value} {h : Heap} {lo lo' : Nat} {Q : Value → Heap → Prop} (hl : Gave lo 61 h l fillNd v) (hm : Gave lo' 61 h l fillNd w) (hn : l.length ≤ 1000000)
    (hQ : ∀ h', Ext h h' → Q (.bool true) h') : CallsV Try.prog 13 [v, w] h Q := by
  refine CallsV.start Try.func13 rfl (by rw [Try.results13]) (by kernel_rfl) (by rw [Try.ntmps13]; simp) ?_
  have hroom := roomM_le l.length
  have rl := hl.row
  have rm := hm.row
  obtain ⟨cl, al⟩ := hl.all
  obtain ⟨cm, am⟩ := hm.all
  simp (disch := omega) only [VW, VY, VZ, TY, ↓reduceIte, Nat.reduceEqDiff, Nat.reduceAdd, Nat.reduceMul, Nat.reduceSub, Nat.reduceLeDiff, List.length_cons, List.length_nil, List.length_append, List.append_assoc, List.take_succ_cons, List.take_zero, List.drop_succ_cons, List.drop_zero, List.set_cons_zero, List.set_cons_succ, true_or, or_true, and_self, Bool.false_eq_true, Nat.le_refl, Option.bind_some, Option.map_some, Option.getD_some, Option.isSome_some, List.map_cons, List.map_nil, List.cons_append, List.nil_append, List.append_nil, List.getElem?_cons_zero, List.getElem?_cons_succ, eq_self, Int.reduceLT, Int.reduceLE, Int.reduceNeg, Int.reduceEq, rm.isRow.len]
  refine .inl ⟨by kernel_rfl, ?_⟩; refine roomBehind_c (by omega) ?_
  simp (disch := omega) only [VW, VY, VZ, TY, ↓reduceIte, Nat.reduceEqDiff, Nat.reduceAdd, Nat.reduceMul, Nat.reduceSub, Nat.reduceLeDiff, List.length_cons, List.length_nil, List.length_append, List.append_assoc, List.take_succ_cons, List.take_zero, List.drop_succ_cons, List.drop_zero, List.set_cons_zero, List.set_cons_succ, true_or, or_true, and_self, Bool.false_eq_true, Nat.le_refl, Option.bind_some, Option.map_some, Option.getD_some, Option.isSome_some, List.map_cons, List.map_nil, List.cons_append, List.nil_append, List.append_nil, List.getElem?_cons_zero, List.getElem?_cons_succ, eq_self, Int.reduceLT, Int.reduceLE, Int.reduceNeg, Int.reduceEq, wrap_in]
  rw [← Int.natCast_add]
  refine draw_id (by kernel_rfl) ?_
  have hc1 : l.length + roomM l.length ≤ rowC v := by omega
  have hc2 : l.length + roomM l.length ≤ rowC w := by omega
  simp (disch := omega) only [VW, VY, VZ, TY, ↓reduceIte, Nat.reduceEqDiff, Nat.reduceAdd, Nat.reduceMul, Nat.reduceSub, Nat.reduceLeDiff, List.length_cons, List.length_nil, List.length_append, List.append_assoc, List.take_succ_cons, List.take_zero, List.drop_succ_cons, List.drop_zero, List.set_cons_zero, List.set_cons_succ, true_or, or_true, and_self, Bool.false_eq_true, Nat.le_refl, Option.bind_some, Option.map_some, Option.getD_some, Option.isSome_some, List.map_cons, List.map_nil, List.cons_append, List.nil_append, List.append_nil, List.getElem?_cons_zero, List.getElem?_cons_succ, eq_self, Int.reduceLT, Int.reduceLE, Int.reduceNeg, Int.reduceEq, rl.isRow.len, rm.isRow.len, rl.isRow.sl, rm.isRow.sl]
  refine .inl ⟨by kernel_rfl, ?_⟩; refine eqNodeS_c al am (by simp; omega) fun h2 E2 => ?_
  simp (disch := omega) only [VW, VY, VZ, TY, ↓reduceIte, Nat.reduceEqDiff, Nat.reduceAdd, Nat.reduceMul, Nat.reduceSub, Nat.reduceLeDiff, List.length_cons, List.length_nil, List.length_append, List.append_assoc, List.take_succ_cons, List.take_zero, List.drop_succ_cons, List.drop_zero, List.set_cons_zero, List.set_cons_succ, true_or, or_true, and_self, Bool.false_eq_true, Nat.le_refl, Option.bind_some, Option.map_some, Option.getD_some, Option.isSome_some, List.map_cons, List.map_nil, List.cons_append, List.nil_append, List.append_nil, List.getElem?_cons_zero, List.getElem?_cons_succ, eq_self, Int.reduceLT, Int.reduceLE, Int.reduceNeg, Int.reduceEq]
  exact hQ _ E2
end Go.Proofs
