/- Contracts of functions, facts of types, or the plain law behind one statement (own work): ZW. Conditions: those told in each theorem. -/
import Derived.Test.YtiiolloielppeaaZV
import Derived.Test.YtiiolloielppeaaZP
set_option linter.all false
set_option linter.unusedSimpArgs false
set_option linter.unusedVariables false
set_option maxRecDepth 4000
namespace Go.Proofs
open Go Go.V
theorem l1Same_c {l m : List Int} {v w : Value} {h : Heap} {Q : Value → Heap → Prop} (r : Row h l v) (r' : Row h m w) (hQ : Q (.bool (decide (l = m))) h) : CallsV Try.prog 109 [v, w] h Q := by
  refine CallsV.start Try.func109 rfl (by rw [Try.results109]) (by kernel_rfl) (by rw [Try.ntmps109]; simp) ?_
  have hle := r.le
  by_cases hl : l.length = m.length
  · have hl' : (l.length : Int) = (m.length : Int) := by omega
    simp (disch := omega) only [VW, VY, VZ, VA, VB, VC, VE, TY, ↓reduceIte, Nat.reduceEqDiff, Nat.reduceAdd, Nat.reduceMul, Nat.reduceSub, Nat.reduceLeDiff, List.length_cons, List.length_nil, List.length_append, List.append_assoc, List.take_succ_cons, List.take_zero, List.drop_succ_cons, List.drop_zero, List.set_cons_zero, List.set_cons_succ, true_or, or_true, and_self, Bool.false_eq_true, Nat.le_refl, Option.bind_some, Option.map_some, Option.getD_some, Option.isSome_some, List.map_cons, List.map_nil, List.cons_append, List.nil_append, List.append_nil, List.getElem?_cons_zero, List.getElem?_cons_succ, eq_self, Int.reduceLT, Int.reduceLE, Int.reduceNeg, Int.reduceEq, r.isRow.len, r'.isRow.len, hl']
    refine loop_rule (fun n e h' => ∃ (i : Nat), e 0 = v ∧ e 1 = w ∧ e 12 = .int .i64 (m.length : Int) ∧ e 13 = .int .i64 (i : Int) ∧ i ≤ m.length ∧ n = m.length - i ∧ l.take i = m.take i ∧ h = h') ?_ m.length _ _
      ⟨0, rfl, rfl, rfl, rfl, Nat.zero_le _, rfl, by simp, rfl⟩
    rintro n e h1 ⟨i, e0, e1, e12, e13, hi, rfl, heq, rfl⟩
    simp (disch := omega) only [VW, VY, VZ, VA, VB, VC, VE, TY, ↓reduceIte, Nat.reduceEqDiff, Nat.reduceAdd, Nat.reduceMul, Nat.reduceSub, Nat.reduceLeDiff, List.length_cons, List.length_nil, List.length_append, List.append_assoc, List.take_succ_cons, List.take_zero, List.drop_succ_cons, List.drop_zero, List.set_cons_zero, List.set_cons_succ, true_or, or_true, and_self, Bool.false_eq_true, Nat.le_refl, Option.bind_some, Option.map_some, Option.getD_some, Option.isSome_some, List.map_cons, List.map_nil, List.cons_append, List.nil_append, List.append_nil, List.getElem?_cons_zero, List.getElem?_cons_succ, eq_self, Int.reduceLT, Int.reduceLE, Int.reduceNeg, Int.reduceEq, e12, e13]
    by_cases hlt : i < m.length
    · obtain ⟨x, hx⟩ := get_some (show i < l.length by omega)
      obtain ⟨y, hy⟩ := get_some hlt
      have q1 : (i : Int) < (m.length : Int) := by omega
      obtain ⟨x1, _⟩ := row_int r hx
      obtain ⟨y1, _⟩ := row_int r' hy
      have ix := r.isRow.ix Try.prog
      rw [hl] at ix
      simp (disch := omega) only [VW, VY, VZ, VA, VB, VC, VE, TY, ↓reduceIte, Nat.reduceEqDiff, Nat.reduceAdd, Nat.reduceMul, Nat.reduceSub, Nat.reduceLeDiff, List.length_cons, List.length_nil, List.length_append, List.append_assoc, List.take_succ_cons, List.take_zero, List.drop_succ_cons, List.drop_zero, List.set_cons_zero, List.set_cons_succ, true_or, or_true, and_self, Bool.false_eq_true, Nat.le_refl, Option.bind_some, Option.map_some, Option.getD_some, Option.isSome_some, List.map_cons, List.map_nil, List.cons_append, List.nil_append, List.append_nil, List.getElem?_cons_zero, List.getElem?_cons_succ, eq_self, Int.reduceLT, Int.reduceLE, Int.reduceNeg, Int.reduceEq, e13, q1]
      refine draw_id (by kernel_rfl) ?_
      by_cases c : x = y
      · subst c
        simp (disch := omega) only [VW, VY, VZ, VA, VB, VC, VE, TY, ↓reduceIte, Nat.reduceEqDiff, Nat.reduceAdd, Nat.reduceMul, Nat.reduceSub, Nat.reduceLeDiff, List.length_cons, List.length_nil, List.length_append, List.append_assoc, List.take_succ_cons, List.take_zero, List.drop_succ_cons, List.drop_zero, List.set_cons_zero, List.set_cons_succ, true_or, or_true, and_self, Bool.false_eq_true, Nat.le_refl, Option.bind_some, Option.map_some, Option.getD_some, Option.isSome_some, List.map_cons, List.map_nil, List.cons_append, List.nil_append, List.append_nil, List.getElem?_cons_zero, List.getElem?_cons_succ, eq_self, Int.reduceLT, Int.reduceLE, Int.reduceNeg, Int.reduceEq, e0, e1, e12, e13, q1, ix, x1, r'.isRow.ix, y1, wrap_in]
        exact ⟨_, by omega, i + 1, by simp, by omega, rfl, take_eq heq hx hy rfl⟩
      · rw [decide_eq_false (take_ne hx hy c)] at hQ
        simp (disch := omega) only [VW, VY, VZ, VA, VB, VC, VE, TY, ↓reduceIte, Nat.reduceEqDiff, Nat.reduceAdd, Nat.reduceMul, Nat.reduceSub, Nat.reduceLeDiff, List.length_cons, List.length_nil, List.length_append, List.append_assoc, List.take_succ_cons, List.take_zero, List.drop_succ_cons, List.drop_zero, List.set_cons_zero, List.set_cons_succ, true_or, or_true, and_self, Bool.false_eq_true, Nat.le_refl, Option.bind_some, Option.map_some, Option.getD_some, Option.isSome_some, List.map_cons, List.map_nil, List.cons_append, List.nil_append, List.append_nil, List.getElem?_cons_zero, List.getElem?_cons_succ, eq_self, Int.reduceLT, Int.reduceLE, Int.reduceNeg, Int.reduceEq, e0, e1, e12, e13, q1, ix, x1, r'.isRow.ix, y1, c]
        exact hQ
    · obtain rfl : i = m.length := by omega
      have q1 : ¬ (m.length : Int) < (m.length : Int) := by omega
      rw [List.take_length, ← hl, List.take_length] at heq
      rw [decide_eq_true heq] at hQ
      simp (disch := omega) only [VW, VY, VZ, VA, VB, VC, VE, TY, ↓reduceIte, Nat.reduceEqDiff, Nat.reduceAdd, Nat.reduceMul, Nat.reduceSub, Nat.reduceLeDiff, List.length_cons, List.length_nil, List.length_append, List.append_assoc, List.take_succ_cons, List.take_zero, List.drop_succ_cons, List.drop_zero, List.set_cons_zero, List.set_cons_succ, true_or, or_true, and_self, Bool.false_eq_true, Nat.le_refl, Option.bind_some, Option.map_some, Option.getD_some, Option.isSome_some, List.map_cons, List.map_nil, List.cons_append, List.nil_append, List.append_nil, List.getElem?_cons_zero, List.getElem?_cons_succ, eq_self, Int.reduceLT, Int.reduceLE, Int.reduceNeg, Int.reduceEq, e12, e13, q1]
      exact hQ
  · have hl' : ¬ (l.length : Int) = (m.length : Int) := by omega
    rw [decide_eq_false (fun e => hl (by rw [e]))] at hQ
    simp (disch := omega) only [VW, VY, VZ, VA, VB, VC, VE, TY, ↓reduceIte, Nat.reduceEqDiff, Nat.reduceAdd, Nat.reduceMul, Nat.reduceSub, Nat.reduceLeDiff, List.length_cons, List.length_nil, List.length_append, List.append_assoc, List.take_succ_cons, List.take_zero, List.drop_succ_cons, List.drop_zero, List.set_cons_zero, List.set_cons_succ, true_or, or_true, and_self, Bool.false_eq_true, Nat.le_refl, Option.bind_some, Option.map_some, Option.getD_some, Option.isSome_some, List.map_cons, List.map_nil, List.cons_append, List.nil_append, List.append_nil, List.getElem?_cons_zero, List.getElem?_cons_succ, eq_self, Int.reduceLT, Int.reduceLE, Int.reduceNeg, Int.reduceEq, r.isRow.len, r'.isRow.len, hl']
    exact hQ
theorem box_eq (x y : Bx) : x = y ↔ x.k = y.k ∧ x.low = y.low ∧ x.high = y.high := by
  cases x; cases y; simp
theorem wkSame_c {s : Nat} {l m : List Bx} {v w : Value} {h : Heap} {Q : Value → Heap → Prop} (r : Row h l v) (r' : Row h m w) (hg : ∀ x ∈ l, Gd s x) (hg' : ∀ x ∈ m, Gd s x) (hll : l.length ≤ 40) (hml : m.length ≤ 40)
    (hQ : ∀ h', Ext h h' → Q (.bool (decide (sortM l = sortM m))) h') : CallsV Try.prog 75 [v, w] h Q := by
  refine CallsV.start Try.func75 rfl (by rw [Try.results75]) (by kernel_rfl) (by rw [Try.ntmps75]; simp) ?_
  simp (disch := omega) only [VW, VY, VZ, VA, VB, VC, VE, TY, ↓reduceIte, Nat.reduceEqDiff, Nat.reduceAdd, Nat.reduceMul, Nat.reduceSub, Nat.reduceLeDiff, List.length_cons, List.length_nil, List.length_append, List.append_assoc, List.take_succ_cons, List.take_zero, List.drop_succ_cons, List.drop_zero, List.set_cons_zero, List.set_cons_succ, true_or, or_true, and_self, Bool.false_eq_true, Nat.le_refl, Option.bind_some, Option.map_some, Option.getD_some, Option.isSome_some, List.map_cons, List.map_nil, List.cons_append, List.nil_append, List.append_nil, List.getElem?_cons_zero, List.getElem?_cons_succ, eq_self, Int.reduceLT, Int.reduceLE, Int.reduceNeg, Int.reduceEq]
  refine .inl ⟨by kernel_rfl, ?_⟩; refine wkSort_c r hg hll fun u1 h1 s1 => ?_
  simp (disch := omega) only [VW, VY, VZ, VA, VB, VC, VE, TY, ↓reduceIte, Nat.reduceEqDiff, Nat.reduceAdd, Nat.reduceMul, Nat.reduceSub, Nat.reduceLeDiff, List.length_cons, List.length_nil, List.length_append, List.append_assoc, List.take_succ_cons, List.take_zero, List.drop_succ_cons, List.drop_zero, List.set_cons_zero, List.set_cons_succ, true_or, or_true, and_self, Bool.false_eq_true, Nat.le_refl, Option.bind_some, Option.map_some, Option.getD_some, Option.isSome_some, List.map_cons, List.map_nil, List.cons_append, List.nil_append, List.append_nil, List.getElem?_cons_zero, List.getElem?_cons_succ, eq_self, Int.reduceLT, Int.reduceLE, Int.reduceNeg, Int.reduceEq]
  refine .inl ⟨by kernel_rfl, ?_⟩; refine wkSort_c (r'.mono s1.ext) hg' hml fun u2 h2 s2 => ?_
  have ra := s1.row.mono s2.ext
  have rb := s2.row
  have E := s1.ext.trans s2.ext
  clear s1 s2 r r' hg hg'
  have la : (sortM l).length ≤ 40 := by rw [(sortM_perm l).length_eq]; exact hll
  generalize sortM l = L at *
  generalize sortM m = M at *
  by_cases hl : L.length = M.length
  · have hl' : (L.length : Int) = (M.length : Int) := by omega
    simp (disch := omega) only [VW, VY, VZ, VA, VB, VC, VE, TY, ↓reduceIte, Nat.reduceEqDiff, Nat.reduceAdd, Nat.reduceMul, Nat.reduceSub, Nat.reduceLeDiff, List.length_cons, List.length_nil, List.length_append, List.append_assoc, List.take_succ_cons, List.take_zero, List.drop_succ_cons, List.drop_zero, List.set_cons_zero, List.set_cons_succ, true_or, or_true, and_self, Bool.false_eq_true, Nat.le_refl, Option.bind_some, Option.map_some, Option.getD_some, Option.isSome_some, List.map_cons, List.map_nil, List.cons_append, List.nil_append, List.append_nil, List.getElem?_cons_zero, List.getElem?_cons_succ, eq_self, Int.reduceLT, Int.reduceLE, Int.reduceNeg, Int.reduceEq, ra.isRow.len, rb.isRow.len, hl']
    refine loop_rule (fun n e h' => ∃ (i : Nat), e 6 = u2 ∧ e 18 = u1 ∧ e 19 = .int .i64 (M.length : Int) ∧ e 20 = .int .i64 (i : Int) ∧ i ≤ M.length ∧ n = M.length - i ∧ L.take i = M.take i ∧ Ext h2 h') ?_ M.length _ _
      ⟨0, rfl, rfl, rfl, rfl, Nat.zero_le _, rfl, by simp, .refl _⟩
    rintro n e h3 ⟨i, e6, e18, e19, e20, hi, rfl, heq, E3⟩
    have r1 := ra.mono E3
    simp (disch := omega) only [VW, VY, VZ, VA, VB, VC, VE, TY, ↓reduceIte, Nat.reduceEqDiff, Nat.reduceAdd, Nat.reduceMul, Nat.reduceSub, Nat.reduceLeDiff, List.length_cons, List.length_nil, List.length_append, List.append_assoc, List.take_succ_cons, List.take_zero, List.drop_succ_cons, List.drop_zero, List.set_cons_zero, List.set_cons_succ, true_or, or_true, and_self, Bool.false_eq_true, Nat.le_refl, Option.bind_some, Option.map_some, Option.getD_some, Option.isSome_some, List.map_cons, List.map_nil, List.cons_append, List.nil_append, List.append_nil, List.getElem?_cons_zero, List.getElem?_cons_succ, eq_self, Int.reduceLT, Int.reduceLE, Int.reduceNeg, Int.reduceEq, e19, e20]
    by_cases hlt : i < M.length
    · obtain ⟨x, hx⟩ := get_some (show i < L.length by omega)
      obtain ⟨y, hy⟩ := get_some hlt
      have q1 : (i : Int) < (M.length : Int) := by omega
      obtain ⟨xs, x3, x4⟩ := r1.at hx
      rw [Bx.sz] at x3
      obtain ⟨wa1, wa2, rfl, f1, ra1, ra2⟩ := here_Bx x4
      have ix := r1.isRow.ix Try.prog
      rw [hl] at ix
      simp (disch := omega) only [VW, VY, VZ, VA, VB, VC, VE, TY, ↓reduceIte, Nat.reduceEqDiff, Nat.reduceAdd, Nat.reduceMul, Nat.reduceSub, Nat.reduceLeDiff, List.length_cons, List.length_nil, List.length_append, List.append_assoc, List.take_succ_cons, List.take_zero, List.drop_succ_cons, List.drop_zero, List.set_cons_zero, List.set_cons_succ, true_or, or_true, and_self, Bool.false_eq_true, Nat.le_refl, Option.bind_some, Option.map_some, Option.getD_some, Option.isSome_some, List.map_cons, List.map_nil, List.cons_append, List.nil_append, List.append_nil, List.getElem?_cons_zero, List.getElem?_cons_succ, eq_self, Int.reduceLT, Int.reduceLE, Int.reduceNeg, Int.reduceEq, e18, e20, q1, ix, x3]
      have u := Sep.blk1 h3 [.int .i64 x.k, wa1, wa2] 42 true
      have E5 := E3.trans u.ext
      have ga := u.rd
      have ra1 := ra1.mono u.ext
      have ra2 := ra2.mono u.ext
      generalize h3 ++ [some ⟨[.int .i64 x.k, wa1, wa2], 42, false, true⟩] = H at *
      have r2 := rb.mono E5
      have py := r2.ptr hy
      rw [Bx.sz] at py
      obtain ⟨y1, y2, Y0, Y1, Y2, fy, ry1, ry2, _⟩ := at_Bx py
      have hbe := box_eq x y
      refine draw_id (by kernel_rfl) ?_
      by_cases c0 : x.k = y.k
      · simp (disch := omega) only [VW, VY, VZ, VA, VB, VC, VE, TY, ↓reduceIte, Nat.reduceEqDiff, Nat.reduceAdd, Nat.reduceMul, Nat.reduceSub, Nat.reduceLeDiff, List.length_cons, List.length_nil, List.length_append, List.append_assoc, List.take_succ_cons, List.take_zero, List.drop_succ_cons, List.drop_zero, List.set_cons_zero, List.set_cons_succ, true_or, or_true, and_self, Bool.false_eq_true, Nat.le_refl, Option.bind_some, Option.map_some, Option.getD_some, Option.isSome_some, List.map_cons, List.map_nil, List.cons_append, List.nil_append, List.append_nil, List.getElem?_cons_zero, List.getElem?_cons_succ, eq_self, Int.reduceLT, Int.reduceLE, Int.reduceNeg, Int.reduceEq, e6, e18, e20, q1, r2.isRow.ix, ga, Y0, Y1, Y2, c0]
        refine .inl ⟨by kernel_rfl, ?_⟩; refine l1Same_c ra1 ry1 ?_
        by_cases c1 : x.low = y.low
        · rw [decide_eq_true c1]
          simp (disch := omega) only [VW, VY, VZ, VA, VB, VC, VE, TY, ↓reduceIte, Nat.reduceEqDiff, Nat.reduceAdd, Nat.reduceMul, Nat.reduceSub, Nat.reduceLeDiff, List.length_cons, List.length_nil, List.length_append, List.append_assoc, List.take_succ_cons, List.take_zero, List.drop_succ_cons, List.drop_zero, List.set_cons_zero, List.set_cons_succ, true_or, or_true, and_self, Bool.false_eq_true, Nat.le_refl, Option.bind_some, Option.map_some, Option.getD_some, Option.isSome_some, List.map_cons, List.map_nil, List.cons_append, List.nil_append, List.append_nil, List.getElem?_cons_zero, List.getElem?_cons_succ, eq_self, Int.reduceLT, Int.reduceLE, Int.reduceNeg, Int.reduceEq, e6, e18, e20, q1, r2.isRow.ix, ga, Y0, Y1, Y2, c0]
          refine .inl ⟨by kernel_rfl, ?_⟩; refine l1Same_c ra2 ry2 ?_
          by_cases c2 : x.high = y.high
          · rw [decide_eq_true c2]
            simp (disch := omega) only [VW, VY, VZ, VA, VB, VC, VE, TY, ↓reduceIte, Nat.reduceEqDiff, Nat.reduceAdd, Nat.reduceMul, Nat.reduceSub, Nat.reduceLeDiff, List.length_cons, List.length_nil, List.length_append, List.append_assoc, List.take_succ_cons, List.take_zero, List.drop_succ_cons, List.drop_zero, List.set_cons_zero, List.set_cons_succ, true_or, or_true, and_self, Bool.false_eq_true, Nat.le_refl, Option.bind_some, Option.map_some, Option.getD_some, Option.isSome_some, List.map_cons, List.map_nil, List.cons_append, List.nil_append, List.append_nil, List.getElem?_cons_zero, List.getElem?_cons_succ, eq_self, Int.reduceLT, Int.reduceLE, Int.reduceNeg, Int.reduceEq, e6, e18, e19, e20, q1, r2.isRow.ix, ga, Y0, Y1, Y2, c0, wrap_in]
            exact ⟨_, by omega, i + 1, by simp, by omega, rfl, take_eq heq hx hy (hbe.2 ⟨c0, c1, c2⟩), E5⟩
          · rw [decide_eq_false c2]
            rw [decide_eq_false (take_ne hx hy (fun e => c2 (hbe.1 e).2.2))] at hQ
            simp (disch := omega) only [VW, VY, VZ, VA, VB, VC, VE, TY, ↓reduceIte, Nat.reduceEqDiff, Nat.reduceAdd, Nat.reduceMul, Nat.reduceSub, Nat.reduceLeDiff, List.length_cons, List.length_nil, List.length_append, List.append_assoc, List.take_succ_cons, List.take_zero, List.drop_succ_cons, List.drop_zero, List.set_cons_zero, List.set_cons_succ, true_or, or_true, and_self, Bool.false_eq_true, Nat.le_refl, Option.bind_some, Option.map_some, Option.getD_some, Option.isSome_some, List.map_cons, List.map_nil, List.cons_append, List.nil_append, List.append_nil, List.getElem?_cons_zero, List.getElem?_cons_succ, eq_self, Int.reduceLT, Int.reduceLE, Int.reduceNeg, Int.reduceEq, e6, e18, e20, q1, r2.isRow.ix, ga, Y0, Y1, Y2, c0]
            exact hQ _ (E.trans E5)
        · rw [decide_eq_false c1]
          rw [decide_eq_false (take_ne hx hy (fun e => c1 (hbe.1 e).2.1))] at hQ
          simp (disch := omega) only [VW, VY, VZ, VA, VB, VC, VE, TY, ↓reduceIte, Nat.reduceEqDiff, Nat.reduceAdd, Nat.reduceMul, Nat.reduceSub, Nat.reduceLeDiff, List.length_cons, List.length_nil, List.length_append, List.append_assoc, List.take_succ_cons, List.take_zero, List.drop_succ_cons, List.drop_zero, List.set_cons_zero, List.set_cons_succ, true_or, or_true, and_self, Bool.false_eq_true, Nat.le_refl, Option.bind_some, Option.map_some, Option.getD_some, Option.isSome_some, List.map_cons, List.map_nil, List.cons_append, List.nil_append, List.append_nil, List.getElem?_cons_zero, List.getElem?_cons_succ, eq_self, Int.reduceLT, Int.reduceLE, Int.reduceNeg, Int.reduceEq, e6, e18, e20, q1, r2.isRow.ix, ga, Y0, Y1, Y2, c0]
          exact hQ _ (E.trans E5)
      · rw [decide_eq_false (take_ne hx hy (fun e => c0 (hbe.1 e).1))] at hQ
        simp (disch := omega) only [VW, VY, VZ, VA, VB, VC, VE, TY, ↓reduceIte, Nat.reduceEqDiff, Nat.reduceAdd, Nat.reduceMul, Nat.reduceSub, Nat.reduceLeDiff, List.length_cons, List.length_nil, List.length_append, List.append_assoc, List.take_succ_cons, List.take_zero, List.drop_succ_cons, List.drop_zero, List.set_cons_zero, List.set_cons_succ, true_or, or_true, and_self, Bool.false_eq_true, Nat.le_refl, Option.bind_some, Option.map_some, Option.getD_some, Option.isSome_some, List.map_cons, List.map_nil, List.cons_append, List.nil_append, List.append_nil, List.getElem?_cons_zero, List.getElem?_cons_succ, eq_self, Int.reduceLT, Int.reduceLE, Int.reduceNeg, Int.reduceEq, e6, e18, e20, q1, r2.isRow.ix, ga, Y0, Y1, Y2, c0]
        exact hQ _ (E.trans E5)
    · obtain rfl : i = M.length := by omega
      have q1 : ¬ (M.length : Int) < (M.length : Int) := by omega
      rw [List.take_length, ← hl, List.take_length] at heq
      rw [decide_eq_true heq] at hQ
      simp (disch := omega) only [VW, VY, VZ, VA, VB, VC, VE, TY, ↓reduceIte, Nat.reduceEqDiff, Nat.reduceAdd, Nat.reduceMul, Nat.reduceSub, Nat.reduceLeDiff, List.length_cons, List.length_nil, List.length_append, List.append_assoc, List.take_succ_cons, List.take_zero, List.drop_succ_cons, List.drop_zero, List.set_cons_zero, List.set_cons_succ, true_or, or_true, and_self, Bool.false_eq_true, Nat.le_refl, Option.bind_some, Option.map_some, Option.getD_some, Option.isSome_some, List.map_cons, List.map_nil, List.cons_append, List.nil_append, List.append_nil, List.getElem?_cons_zero, List.getElem?_cons_succ, eq_self, Int.reduceLT, Int.reduceLE, Int.reduceNeg, Int.reduceEq, e19, e20, q1]
      exact hQ _ (E.trans E3)
  · have hl' : ¬ (L.length : Int) = (M.length : Int) := by omega
    rw [decide_eq_false (fun e => hl (by rw [e]))] at hQ
    simp (disch := omega) only [VW, VY, VZ, VA, VB, VC, VE, TY, ↓reduceIte, Nat.reduceEqDiff, Nat.reduceAdd, Nat.reduceMul, Nat.reduceSub, Nat.reduceLeDiff, List.length_cons, List.length_nil, List.length_append, List.append_assoc, List.take_succ_cons, List.take_zero, List.drop_succ_cons, List.drop_zero, List.set_cons_zero, List.set_cons_succ, true_or, or_true, and_self, Bool.false_eq_true, Nat.le_refl, Option.bind_some, Option.map_some, Option.getD_some, Option.isSome_some, List.map_cons, List.map_nil, List.cons_append, List.nil_append, List.append_nil, List.getElem?_cons_zero, List.getElem?_cons_succ, eq_self, Int.reduceLT, Int.reduceLE, Int.reduceNeg, Int.reduceEq, ra.isRow.len, rb.isRow.len, hl']
    exact hQ _ E
end Go.Proofs
