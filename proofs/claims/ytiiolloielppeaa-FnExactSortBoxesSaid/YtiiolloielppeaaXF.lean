/- Contracts of functions, facts of types, or the plain law behind one statement (own work): XF. Conditions: those told in each theorem. -/
import Derived.Test.YtiiolloielppeaaXE
import Derived.Test.YtiiolloielppeaaW1
set_option linter.all false
set_option linter.unusedSimpArgs false
set_option linter.unusedVariables false
set_option maxRecDepth 4000
namespace Go.Proofs
open Go Go.V
theorem flat_take {α : Type} (L : List (List α)) {i : Nat} {l : List α} (h : L[i]? = some l) : (L.take (i + 1)).flatten.length = (L.take i).flatten.length + l.length ∧ (L.take i).flatten.length + l.length ≤ L.flatten.length := by
  have e : (L.take (i + 1)).flatten = (L.take i).flatten ++ l := by rw [List.take_add_one, h, List.flatten_append]; simp
  have e2 : L.flatten = (L.take (i + 1)).flatten ++ (L.drop (i + 1)).flatten := by rw [← List.flatten_append, List.take_append_drop]
  refine ⟨by rw [e, List.length_append], ?_⟩
  rw [e2, List.length_append, e, List.length_append]; omega
theorem concatI_c {L : List (List Int)} {v : Value} {h : Heap} {Q : Value → Heap → Prop} (r : Row h L v) (hl : L.length ≤ 10) (hn : L.flatten.length ≤ 1000000)
    (hQ : ∀ w h', Sep h h' [ownA 3 L.flatten w] → Q w h') : CallsV Try.prog 115 [v] h Q := by
  refine CallsV.start Try.func115 rfl (by rw [Try.results115]) (by kernel_rfl) (by rw [Try.ntmps115]; simp) ?_
  simp (disch := omega) only [VW, VY, VZ, VA, VB, VC, VE, TY, ↓reduceIte, Nat.reduceEqDiff, Nat.reduceAdd, Nat.reduceMul, Nat.reduceSub, Nat.reduceLeDiff, List.length_cons, List.length_nil, List.length_append, List.append_assoc, List.take_succ_cons, List.take_zero, List.drop_succ_cons, List.drop_zero, List.set_cons_zero, List.set_cons_succ, true_or, or_true, and_self, Bool.false_eq_true, Nat.le_refl, Option.bind_some, Option.map_some, Option.getD_some, Option.isSome_some, List.map_cons, List.map_nil, List.cons_append, List.nil_append, List.append_nil, List.getElem?_cons_zero, List.getElem?_cons_succ, eq_self, Int.reduceLT, Int.reduceLE, Int.reduceNeg, Int.reduceEq, r.isRow.len]
  refine loop_rule (fun n e h' => ∃ (i : Nat), e 0 = v ∧ e 3 = .int .i64 ((L.take i).flatten.length : Nat) ∧ e 9 = v ∧ e 10 = .int .i64 (L.length : Int) ∧ e 11 = .int .i64 (i : Int) ∧ i ≤ L.length ∧ n = L.length - i ∧ h = h') ?_ L.length _ _
    ⟨0, rfl, rfl, rfl, rfl, rfl, Nat.zero_le _, rfl, rfl⟩
  rintro n e h' ⟨i, e0, e3, e9, e10, e11, hi, rfl, rfl⟩
  simp (disch := omega) only [VW, VY, VZ, VA, VB, VC, VE, TY, ↓reduceIte, Nat.reduceEqDiff, Nat.reduceAdd, Nat.reduceMul, Nat.reduceSub, Nat.reduceLeDiff, List.length_cons, List.length_nil, List.length_append, List.append_assoc, List.take_succ_cons, List.take_zero, List.drop_succ_cons, List.drop_zero, List.set_cons_zero, List.set_cons_succ, true_or, or_true, and_self, Bool.false_eq_true, Nat.le_refl, Option.bind_some, Option.map_some, Option.getD_some, Option.isSome_some, List.map_cons, List.map_nil, List.cons_append, List.nil_append, List.append_nil, List.getElem?_cons_zero, List.getElem?_cons_succ, eq_self, Int.reduceLT, Int.reduceLE, Int.reduceNeg, Int.reduceEq, e10, e11]
  by_cases hlt : i < L.length
  · obtain ⟨l, hx⟩ := get_some hlt
    obtain ⟨vl, x3, rv⟩ := row_list r hx
    have q1 : (i : Int) < (L.length : Int) := by omega
    have hle := rv.le
    obtain ⟨f1, f2⟩ := flat_take L hx
    have w1 : IntKind.i64.wrap ((((L.take i).flatten.length : Nat) : Int) + (l.length : Int)) = ((((L.take (i + 1)).flatten.length : Nat)) : Int) := by
      rw [f1]; rw [wrap_in _ (by omega)]; omega
    have q2 : ¬ ((((L.take (i + 1)).flatten.length : Nat)) : Int) < 0 := by omega
    simp (disch := omega) only [VW, VY, VZ, VA, VB, VC, VE, TY, ↓reduceIte, Nat.reduceEqDiff, Nat.reduceAdd, Nat.reduceMul, Nat.reduceSub, Nat.reduceLeDiff, List.length_cons, List.length_nil, List.length_append, List.append_assoc, List.take_succ_cons, List.take_zero, List.drop_succ_cons, List.drop_zero, List.set_cons_zero, List.set_cons_succ, true_or, or_true, and_self, Bool.false_eq_true, Nat.le_refl, Option.bind_some, Option.map_some, Option.getD_some, Option.isSome_some, List.map_cons, List.map_nil, List.cons_append, List.nil_append, List.append_nil, List.getElem?_cons_zero, List.getElem?_cons_succ, eq_self, Int.reduceLT, Int.reduceLE, Int.reduceNeg, Int.reduceEq, e3, e9, e11, q1, r.isRow.ix, x3, rv.isRow.len, w1, q2]
    simp (disch := omega) only [VW, VY, VZ, VA, VB, VC, VE, TY, ↓reduceIte, Nat.reduceEqDiff, Nat.reduceAdd, Nat.reduceMul, Nat.reduceSub, Nat.reduceLeDiff, List.length_cons, List.length_nil, List.length_append, List.append_assoc, List.take_succ_cons, List.take_zero, List.drop_succ_cons, List.drop_zero, List.set_cons_zero, List.set_cons_succ, true_or, or_true, and_self, Bool.false_eq_true, Nat.le_refl, Option.bind_some, Option.map_some, Option.getD_some, Option.isSome_some, List.map_cons, List.map_nil, List.cons_append, List.nil_append, List.append_nil, List.getElem?_cons_zero, List.getElem?_cons_succ, eq_self, Int.reduceLT, Int.reduceLE, Int.reduceNeg, Int.reduceEq, e0, e9, e10, e11, wrap_in]
    exact ⟨_, by omega, i + 1, rfl, by simp, by omega, rfl⟩
  · obtain rfl : i = L.length := by omega
    have q1 : ¬ (L.length : Int) < (L.length : Int) := by omega
    rw [List.take_length] at e3
    simp (disch := omega) only [VW, VY, VZ, VA, VB, VC, VE, TY, ↓reduceIte, Nat.reduceEqDiff, Nat.reduceAdd, Nat.reduceMul, Nat.reduceSub, Nat.reduceLeDiff, List.length_cons, List.length_nil, List.length_append, List.append_assoc, List.take_succ_cons, List.take_zero, List.drop_succ_cons, List.drop_zero, List.set_cons_zero, List.set_cons_succ, true_or, or_true, and_self, Bool.false_eq_true, Nat.le_refl, Option.bind_some, Option.map_some, Option.getD_some, Option.isSome_some, List.map_cons, List.map_nil, List.cons_append, List.nil_append, List.append_nil, List.getElem?_cons_zero, List.getElem?_cons_succ, eq_self, Int.reduceLT, Int.reduceLE, Int.reduceNeg, Int.reduceEq, q1, e3]
    refine .inl ⟨by kernel_rfl, ?_⟩; refine growI_c (n := L.flatten.length) hn fun v0 h0 s0 => ?_
    have r0 := r.mono s0.ext
    simp (disch := omega) only [VW, VY, VZ, VA, VB, VC, VE, TY, ↓reduceIte, Nat.reduceEqDiff, Nat.reduceAdd, Nat.reduceMul, Nat.reduceSub, Nat.reduceLeDiff, List.length_cons, List.length_nil, List.length_append, List.append_assoc, List.take_succ_cons, List.take_zero, List.drop_succ_cons, List.drop_zero, List.set_cons_zero, List.set_cons_succ, true_or, or_true, and_self, Bool.false_eq_true, Nat.le_refl, Option.bind_some, Option.map_some, Option.getD_some, Option.isSome_some, List.map_cons, List.map_nil, List.cons_append, List.nil_append, List.append_nil, List.getElem?_cons_zero, List.getElem?_cons_succ, eq_self, Int.reduceLT, Int.reduceLE, Int.reduceNeg, Int.reduceEq, e0, r0.isRow.len]
    refine loop_rule (fun n e h' => ∃ (i : Nat) (vo : Value), e 6 = vo ∧ e 25 = v ∧ e 26 = .int .i64 (L.length : Int) ∧ e 27 = .int .i64 (i : Int) ∧ i ≤ L.length ∧ n = L.length - i ∧ Sep h h' [ownA 3 (L.take i).flatten vo]) ?_ L.length _ _
      ⟨0, v0, rfl, rfl, rfl, rfl, Nat.zero_le _, rfl, s0⟩
    rintro n e h1 ⟨i, vo, e6, e25, e26, e27, hi, rfl, s⟩
    have r1 := r.mono s.ext
    simp (disch := omega) only [VW, VY, VZ, VA, VB, VC, VE, TY, ↓reduceIte, Nat.reduceEqDiff, Nat.reduceAdd, Nat.reduceMul, Nat.reduceSub, Nat.reduceLeDiff, List.length_cons, List.length_nil, List.length_append, List.append_assoc, List.take_succ_cons, List.take_zero, List.drop_succ_cons, List.drop_zero, List.set_cons_zero, List.set_cons_succ, true_or, or_true, and_self, Bool.false_eq_true, Nat.le_refl, Option.bind_some, Option.map_some, Option.getD_some, Option.isSome_some, List.map_cons, List.map_nil, List.cons_append, List.nil_append, List.append_nil, List.getElem?_cons_zero, List.getElem?_cons_succ, eq_self, Int.reduceLT, Int.reduceLE, Int.reduceNeg, Int.reduceEq, e26, e27]
    by_cases hlt : i < L.length
    · obtain ⟨l, hx⟩ := get_some hlt
      obtain ⟨vl, x3h, rvh⟩ := row_list r hx
      have x3 := s.ext.keepC x3h
      have rv := rvh.mono s.ext
      have q1 : (i : Int) < (L.length : Int) := by omega
      obtain ⟨f1, f2⟩ := flat_take L hx
      simp (disch := omega) only [VW, VY, VZ, VA, VB, VC, VE, TY, ↓reduceIte, Nat.reduceEqDiff, Nat.reduceAdd, Nat.reduceMul, Nat.reduceSub, Nat.reduceLeDiff, List.length_cons, List.length_nil, List.length_append, List.append_assoc, List.take_succ_cons, List.take_zero, List.drop_succ_cons, List.drop_zero, List.set_cons_zero, List.set_cons_succ, true_or, or_true, and_self, Bool.false_eq_true, Nat.le_refl, Option.bind_some, Option.map_some, Option.getD_some, Option.isSome_some, List.map_cons, List.map_nil, List.cons_append, List.nil_append, List.append_nil, List.getElem?_cons_zero, List.getElem?_cons_succ, eq_self, Int.reduceLT, Int.reduceLE, Int.reduceNeg, Int.reduceEq, e6, e25, e27, q1, r1.isRow.ix, x3]
      refine sep_appendRow s rv te34 tk3 rfl (by decide) (by simp only []; omega) fun vo' h5 s => ?_
      simp (disch := omega) only [VW, VY, VZ, VA, VB, VC, VE, TY, ↓reduceIte, Nat.reduceEqDiff, Nat.reduceAdd, Nat.reduceMul, Nat.reduceSub, Nat.reduceLeDiff, List.length_cons, List.length_nil, List.length_append, List.append_assoc, List.take_succ_cons, List.take_zero, List.drop_succ_cons, List.drop_zero, List.set_cons_zero, List.set_cons_succ, true_or, or_true, and_self, Bool.false_eq_true, Nat.le_refl, Option.bind_some, Option.map_some, Option.getD_some, Option.isSome_some, List.map_cons, List.map_nil, List.cons_append, List.nil_append, List.append_nil, List.getElem?_cons_zero, List.getElem?_cons_succ, eq_self, Int.reduceLT, Int.reduceLE, Int.reduceNeg, Int.reduceEq, e25, e26, e27, wrap_in]
      refine ⟨_, by omega, i + 1, vo', rfl, by simp, by omega, rfl, ?_⟩
      rw [List.take_add_one, hx, List.flatten_append]
      simpa using s
    · obtain rfl : i = L.length := by omega
      have q1 : ¬ (L.length : Int) < (L.length : Int) := by omega
      rw [List.take_length] at s
      have pl := s.row.isRow.plain
      simp (disch := omega) only [VW, VY, VZ, VA, VB, VC, VE, TY, ↓reduceIte, Nat.reduceEqDiff, Nat.reduceAdd, Nat.reduceMul, Nat.reduceSub, Nat.reduceLeDiff, List.length_cons, List.length_nil, List.length_append, List.append_assoc, List.take_succ_cons, List.take_zero, List.drop_succ_cons, List.drop_zero, List.set_cons_zero, List.set_cons_succ, true_or, or_true, and_self, Bool.false_eq_true, Nat.le_refl, Option.bind_some, Option.map_some, Option.getD_some, Option.isSome_some, List.map_cons, List.map_nil, List.cons_append, List.nil_append, List.append_nil, List.getElem?_cons_zero, List.getElem?_cons_succ, eq_self, Int.reduceLT, Int.reduceLE, Int.reduceNeg, Int.reduceEq, q1, e6, pl]
      exact hQ _ _ s
theorem concatB_c {L : List (List Bx)} {v : Value} {h : Heap} {Q : Value → Heap → Prop} (r : Row h L v) (hl : L.length ≤ 10) (hn : L.flatten.length ≤ 1000000)
    (hQ : ∀ w h', Ext h h' → Row h' L.flatten w → Q w h') : CallsV Try.prog 45 [v] h Q := by
  refine CallsV.start Try.func45 rfl (by rw [Try.results45]) (by kernel_rfl) (by rw [Try.ntmps45]; simp) ?_
  simp (disch := omega) only [VW, VY, VZ, VA, VB, VC, VE, TY, ↓reduceIte, Nat.reduceEqDiff, Nat.reduceAdd, Nat.reduceMul, Nat.reduceSub, Nat.reduceLeDiff, List.length_cons, List.length_nil, List.length_append, List.append_assoc, List.take_succ_cons, List.take_zero, List.drop_succ_cons, List.drop_zero, List.set_cons_zero, List.set_cons_succ, true_or, or_true, and_self, Bool.false_eq_true, Nat.le_refl, Option.bind_some, Option.map_some, Option.getD_some, Option.isSome_some, List.map_cons, List.map_nil, List.cons_append, List.nil_append, List.append_nil, List.getElem?_cons_zero, List.getElem?_cons_succ, eq_self, Int.reduceLT, Int.reduceLE, Int.reduceNeg, Int.reduceEq, r.isRow.len]
  refine loop_rule (fun n e h' => ∃ (i : Nat), e 0 = v ∧ e 3 = .int .i64 ((L.take i).flatten.length : Nat) ∧ e 9 = v ∧ e 10 = .int .i64 (L.length : Int) ∧ e 11 = .int .i64 (i : Int) ∧ i ≤ L.length ∧ n = L.length - i ∧ h = h') ?_ L.length _ _
    ⟨0, rfl, rfl, rfl, rfl, rfl, Nat.zero_le _, rfl, rfl⟩
  rintro n e h' ⟨i, e0, e3, e9, e10, e11, hi, rfl, rfl⟩
  simp (disch := omega) only [VW, VY, VZ, VA, VB, VC, VE, TY, ↓reduceIte, Nat.reduceEqDiff, Nat.reduceAdd, Nat.reduceMul, Nat.reduceSub, Nat.reduceLeDiff, List.length_cons, List.length_nil, List.length_append, List.append_assoc, List.take_succ_cons, List.take_zero, List.drop_succ_cons, List.drop_zero, List.set_cons_zero, List.set_cons_succ, true_or, or_true, and_self, Bool.false_eq_true, Nat.le_refl, Option.bind_some, Option.map_some, Option.getD_some, Option.isSome_some, List.map_cons, List.map_nil, List.cons_append, List.nil_append, List.append_nil, List.getElem?_cons_zero, List.getElem?_cons_succ, eq_self, Int.reduceLT, Int.reduceLE, Int.reduceNeg, Int.reduceEq, e10, e11]
  by_cases hlt : i < L.length
  · obtain ⟨l, hx⟩ := get_some hlt
    obtain ⟨vl, x3, rv⟩ := row_list r hx
    have q1 : (i : Int) < (L.length : Int) := by omega
    have hle := rv.le
    obtain ⟨f1, f2⟩ := flat_take L hx
    have w1 : IntKind.i64.wrap ((((L.take i).flatten.length : Nat) : Int) + (l.length : Int)) = ((((L.take (i + 1)).flatten.length : Nat)) : Int) := by
      rw [f1]; rw [wrap_in _ (by omega)]; omega
    have q2 : ¬ ((((L.take (i + 1)).flatten.length : Nat)) : Int) < 0 := by omega
    simp (disch := omega) only [VW, VY, VZ, VA, VB, VC, VE, TY, ↓reduceIte, Nat.reduceEqDiff, Nat.reduceAdd, Nat.reduceMul, Nat.reduceSub, Nat.reduceLeDiff, List.length_cons, List.length_nil, List.length_append, List.append_assoc, List.take_succ_cons, List.take_zero, List.drop_succ_cons, List.drop_zero, List.set_cons_zero, List.set_cons_succ, true_or, or_true, and_self, Bool.false_eq_true, Nat.le_refl, Option.bind_some, Option.map_some, Option.getD_some, Option.isSome_some, List.map_cons, List.map_nil, List.cons_append, List.nil_append, List.append_nil, List.getElem?_cons_zero, List.getElem?_cons_succ, eq_self, Int.reduceLT, Int.reduceLE, Int.reduceNeg, Int.reduceEq, e3, e9, e11, q1, r.isRow.ix, x3, rv.isRow.len, w1, q2]
    simp (disch := omega) only [VW, VY, VZ, VA, VB, VC, VE, TY, ↓reduceIte, Nat.reduceEqDiff, Nat.reduceAdd, Nat.reduceMul, Nat.reduceSub, Nat.reduceLeDiff, List.length_cons, List.length_nil, List.length_append, List.append_assoc, List.take_succ_cons, List.take_zero, List.drop_succ_cons, List.drop_zero, List.set_cons_zero, List.set_cons_succ, true_or, or_true, and_self, Bool.false_eq_true, Nat.le_refl, Option.bind_some, Option.map_some, Option.getD_some, Option.isSome_some, List.map_cons, List.map_nil, List.cons_append, List.nil_append, List.append_nil, List.getElem?_cons_zero, List.getElem?_cons_succ, eq_self, Int.reduceLT, Int.reduceLE, Int.reduceNeg, Int.reduceEq, e0, e9, e10, e11, wrap_in]
    exact ⟨_, by omega, i + 1, rfl, by simp, by omega, rfl⟩
  · obtain rfl : i = L.length := by omega
    have q1 : ¬ (L.length : Int) < (L.length : Int) := by omega
    rw [List.take_length] at e3
    simp (disch := omega) only [VW, VY, VZ, VA, VB, VC, VE, TY, ↓reduceIte, Nat.reduceEqDiff, Nat.reduceAdd, Nat.reduceMul, Nat.reduceSub, Nat.reduceLeDiff, List.length_cons, List.length_nil, List.length_append, List.append_assoc, List.take_succ_cons, List.take_zero, List.drop_succ_cons, List.drop_zero, List.set_cons_zero, List.set_cons_succ, true_or, or_true, and_self, Bool.false_eq_true, Nat.le_refl, Option.bind_some, Option.map_some, Option.getD_some, Option.isSome_some, List.map_cons, List.map_nil, List.cons_append, List.nil_append, List.append_nil, List.getElem?_cons_zero, List.getElem?_cons_succ, eq_self, Int.reduceLT, Int.reduceLE, Int.reduceNeg, Int.reduceEq, q1, e3]
    refine .inl ⟨by kernel_rfl, ?_⟩; refine growB_c (α := Raw3) (n := L.flatten.length) rfl hn fun v0 h0 s0 => ?_
    have r0 := r.mono s0.ext
    simp (disch := omega) only [VW, VY, VZ, VA, VB, VC, VE, TY, ↓reduceIte, Nat.reduceEqDiff, Nat.reduceAdd, Nat.reduceMul, Nat.reduceSub, Nat.reduceLeDiff, List.length_cons, List.length_nil, List.length_append, List.append_assoc, List.take_succ_cons, List.take_zero, List.drop_succ_cons, List.drop_zero, List.set_cons_zero, List.set_cons_succ, true_or, or_true, and_self, Bool.false_eq_true, Nat.le_refl, Option.bind_some, Option.map_some, Option.getD_some, Option.isSome_some, List.map_cons, List.map_nil, List.cons_append, List.nil_append, List.append_nil, List.getElem?_cons_zero, List.getElem?_cons_succ, eq_self, Int.reduceLT, Int.reduceLE, Int.reduceNeg, Int.reduceEq, e0, r0.isRow.len]
    refine loop_rule (fun n e h' => ∃ (i : Nat) (vo : Value), e 6 = vo ∧ e 25 = v ∧ e 26 = .int .i64 (L.length : Int) ∧ e 27 = .int .i64 (i : Int) ∧ i ≤ L.length ∧ n = L.length - i ∧ ∃ m : List Raw3, RelB h (L.take i).flatten m ∧ Sep h h' [ownA (α := Raw3) 42 m vo]) ?_ L.length _ _
      ⟨0, v0, rfl, rfl, rfl, rfl, Nat.zero_le _, rfl, [], trivial, s0⟩
    rintro n e h1 ⟨i, vo, e6, e25, e26, e27, hi, rfl, m, hm, s⟩
    have r1 := r.mono s.ext
    simp (disch := omega) only [VW, VY, VZ, VA, VB, VC, VE, TY, ↓reduceIte, Nat.reduceEqDiff, Nat.reduceAdd, Nat.reduceMul, Nat.reduceSub, Nat.reduceLeDiff, List.length_cons, List.length_nil, List.length_append, List.append_assoc, List.take_succ_cons, List.take_zero, List.drop_succ_cons, List.drop_zero, List.set_cons_zero, List.set_cons_succ, true_or, or_true, and_self, Bool.false_eq_true, Nat.le_refl, Option.bind_some, Option.map_some, Option.getD_some, Option.isSome_some, List.map_cons, List.map_nil, List.cons_append, List.nil_append, List.append_nil, List.getElem?_cons_zero, List.getElem?_cons_succ, eq_self, Int.reduceLT, Int.reduceLE, Int.reduceNeg, Int.reduceEq, e26, e27]
    by_cases hlt : i < L.length
    · obtain ⟨l, hx⟩ := get_some hlt
      obtain ⟨vl, x3h, rvh⟩ := row_list r hx
      have x3 := s.ext.keepC x3h
      have rv := rvh.mono s.ext
      have q1 : (i : Int) < (L.length : Int) := by omega
      obtain ⟨f1, f2⟩ := flat_take L hx
      simp (disch := omega) only [VW, VY, VZ, VA, VB, VC, VE, TY, ↓reduceIte, Nat.reduceEqDiff, Nat.reduceAdd, Nat.reduceMul, Nat.reduceSub, Nat.reduceLeDiff, List.length_cons, List.length_nil, List.length_append, List.append_assoc, List.take_succ_cons, List.take_zero, List.drop_succ_cons, List.drop_zero, List.set_cons_zero, List.set_cons_succ, true_or, or_true, and_self, Bool.false_eq_true, Nat.le_refl, Option.bind_some, Option.map_some, Option.getD_some, Option.isSome_some, List.map_cons, List.map_nil, List.cons_append, List.nil_append, List.append_nil, List.getElem?_cons_zero, List.getElem?_cons_succ, eq_self, Int.reduceLT, Int.reduceLE, Int.reduceNeg, Int.reduceEq, e6, e25, e27, q1, r1.isRow.ix, x3]
      obtain ⟨m2, hm2, rmh⟩ := Row.raw rvh
      have rm := rmh.mono s.ext
      have k1 := hm.len
      have k2 := hm2.len
      refine sep_appendRow s rm te28 tk42 rfl (by decide) (by simp only []; omega) fun vo' h5 s5 => ?_
      simp (disch := omega) only [VW, VY, VZ, VA, VB, VC, VE, TY, ↓reduceIte, Nat.reduceEqDiff, Nat.reduceAdd, Nat.reduceMul, Nat.reduceSub, Nat.reduceLeDiff, List.length_cons, List.length_nil, List.length_append, List.append_assoc, List.take_succ_cons, List.take_zero, List.drop_succ_cons, List.drop_zero, List.set_cons_zero, List.set_cons_succ, true_or, or_true, and_self, Bool.false_eq_true, Nat.le_refl, Option.bind_some, Option.map_some, Option.getD_some, Option.isSome_some, List.map_cons, List.map_nil, List.cons_append, List.nil_append, List.append_nil, List.getElem?_cons_zero, List.getElem?_cons_succ, eq_self, Int.reduceLT, Int.reduceLE, Int.reduceNeg, Int.reduceEq, e25, e26, e27, wrap_in]
      refine ⟨_, by omega, i + 1, vo', rfl, by simp, by omega, rfl, m ++ m2, ?_, s5⟩
      rw [List.take_add_one, hx, List.flatten_append]
      simpa using hm.app hm2
    · obtain rfl : i = L.length := by omega
      have q1 : ¬ (L.length : Int) < (L.length : Int) := by omega
      rw [List.take_length] at hm
      have pl := s.row.isRow.plain
      simp (disch := omega) only [VW, VY, VZ, VA, VB, VC, VE, TY, ↓reduceIte, Nat.reduceEqDiff, Nat.reduceAdd, Nat.reduceMul, Nat.reduceSub, Nat.reduceLeDiff, List.length_cons, List.length_nil, List.length_append, List.append_assoc, List.take_succ_cons, List.take_zero, List.drop_succ_cons, List.drop_zero, List.set_cons_zero, List.set_cons_succ, true_or, or_true, and_self, Bool.false_eq_true, Nat.le_refl, Option.bind_some, Option.map_some, Option.getD_some, Option.isSome_some, List.map_cons, List.map_nil, List.cons_append, List.nil_append, List.append_nil, List.getElem?_cons_zero, List.getElem?_cons_succ, eq_self, Int.reduceLT, Int.reduceLE, Int.reduceNeg, Int.reduceEq, q1, e6, pl]
      exact hQ _ _ s.ext (Row.unraw (hm.mono s.ext) s.row)
end Go.Proofs
