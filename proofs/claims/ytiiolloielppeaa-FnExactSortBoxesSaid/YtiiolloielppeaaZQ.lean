/- Contracts of functions, facts of types, or the plain law behind one statement (own work): ZQ. Conditions: those told in each theorem. -/
import Derived.Test.YtiiolloielppeaaZP
set_option linter.all false
set_option linter.unusedSimpArgs false
set_option linter.unusedVariables false
set_option maxRecDepth 4000
namespace Go.Proofs
open Go Go.V
theorem SortBoxes_s {l : List Bx} {v : Value} {h : Heap} {Q : Value → Heap → Prop} (r : Row h l v) (hQ : ∀ w h', Sep h h' [repA (sortAllM l).1 [w]] → Q (.tuple #[w, .bool (sortAllM l).2]) h') :
    CallsV Try.prog 32 [v] h Q := by
  refine CallsV.start Try.func32 rfl (by rw [Try.results32]) (by kernel_rfl) (by rw [Try.ntmps32]; simp) ?_
  unfold sortAllM at hQ
  have hle := r.le
  simp (disch := omega) only [VW, VY, VZ, VA, VB, VC, VE, TY, ↓reduceIte, Nat.reduceEqDiff, Nat.reduceAdd, Nat.reduceMul, Nat.reduceSub, Nat.reduceLeDiff, List.length_cons, List.length_nil, List.length_append, List.append_assoc, List.take_succ_cons, List.take_zero, List.drop_succ_cons, List.drop_zero, List.set_cons_zero, List.set_cons_succ, true_or, or_true, and_self, Bool.false_eq_true, Nat.le_refl, Option.bind_some, Option.map_some, Option.getD_some, Option.isSome_some, List.map_cons, List.map_nil, List.cons_append, List.nil_append, List.append_nil, List.getElem?_cons_zero, List.getElem?_cons_succ, eq_self, Int.reduceLT, Int.reduceLE, Int.reduceNeg, Int.reduceEq, r.isRow.len]
  refine loop_rule (fun n e h' => ∃ (i : Nat), e 0 = v ∧ e 6 = v ∧ e 7 = .int .i64 (l.length : Int) ∧ e 8 = .int .i64 (i : Int) ∧ i ≤ l.length ∧ n = l.length - i ∧ (l.take i).all (okB (dimL l)) = true ∧ Ext h h') ?_ l.length _ _
    ⟨0, rfl, rfl, rfl, rfl, Nat.zero_le _, rfl, by simp, .refl h⟩
  rintro n e h1 ⟨i, e0, e6, e7, e8, hi, rfl, hall, E1⟩
  have r1 := r.mono E1
  simp (disch := omega) only [VW, VY, VZ, VA, VB, VC, VE, TY, ↓reduceIte, Nat.reduceEqDiff, Nat.reduceAdd, Nat.reduceMul, Nat.reduceSub, Nat.reduceLeDiff, List.length_cons, List.length_nil, List.length_append, List.append_assoc, List.take_succ_cons, List.take_zero, List.drop_succ_cons, List.drop_zero, List.set_cons_zero, List.set_cons_succ, true_or, or_true, and_self, Bool.false_eq_true, Nat.le_refl, Option.bind_some, Option.map_some, Option.getD_some, Option.isSome_some, List.map_cons, List.map_nil, List.cons_append, List.nil_append, List.append_nil, List.getElem?_cons_zero, List.getElem?_cons_succ, eq_self, Int.reduceLT, Int.reduceLE, Int.reduceNeg, Int.reduceEq, e7, e8]
  by_cases hlt : i < l.length
  · obtain ⟨x, hx⟩ := get_some hlt
    obtain ⟨y, hy⟩ := get_some (show 0 < l.length by omega)
    have hd := dimL_get hy
    obtain ⟨xs, x3, x4⟩ := r1.at hx
    rw [Bx.sz] at x3
    obtain ⟨wa1, wa2, rfl, f1, ra1, ra2⟩ := here_Bx x4
    have q1 : (i : Int) < (l.length : Int) := by omega
    have q0 : (0 : Int) < (l.length : Int) := by omega
    have hat := all_take (okB (dimL l)) hx
    rw [hall, Bool.true_and] at hat
    simp (disch := omega) only [VW, VY, VZ, VA, VB, VC, VE, TY, ↓reduceIte, Nat.reduceEqDiff, Nat.reduceAdd, Nat.reduceMul, Nat.reduceSub, Nat.reduceLeDiff, List.length_cons, List.length_nil, List.length_append, List.append_assoc, List.take_succ_cons, List.take_zero, List.drop_succ_cons, List.drop_zero, List.set_cons_zero, List.set_cons_succ, true_or, or_true, and_self, Bool.false_eq_true, Nat.le_refl, Option.bind_some, Option.map_some, Option.getD_some, Option.isSome_some, List.map_cons, List.map_nil, List.cons_append, List.nil_append, List.append_nil, List.getElem?_cons_zero, List.getElem?_cons_succ, eq_self, Int.reduceLT, Int.reduceLE, Int.reduceNeg, Int.reduceEq, e6, e7, e8, q1, r1.isRow.ix, x3]
    have u := Sep.blk1 h1 [.int .i64 x.k, wa1, wa2] 42 true
    have g := u.rdAll (n := 3) rfl
    generalize h1 ++ [some ⟨[.int .i64 x.k, wa1, wa2], 42, false, true⟩] = H5 at *
    refine draw_id (by kernel_rfl) ?_
    simp (disch := omega) only [VW, VY, VZ, VA, VB, VC, VE, TY, ↓reduceIte, Nat.reduceEqDiff, Nat.reduceAdd, Nat.reduceMul, Nat.reduceSub, Nat.reduceLeDiff, List.length_cons, List.length_nil, List.length_append, List.append_assoc, List.take_succ_cons, List.take_zero, List.drop_succ_cons, List.drop_zero, List.set_cons_zero, List.set_cons_succ, true_or, or_true, and_self, Bool.false_eq_true, Nat.le_refl, Option.bind_some, Option.map_some, Option.getD_some, Option.isSome_some, List.map_cons, List.map_nil, List.cons_append, List.nil_append, List.append_nil, List.getElem?_cons_zero, List.getElem?_cons_succ, eq_self, Int.reduceLT, Int.reduceLE, Int.reduceNeg, Int.reduceEq, g]
    refine .inl ⟨by kernel_rfl, ?_⟩; refine bxGood_c (x4.mono u.ext) fun h2 E2 => ?_
    have u := u.mono E2
    have g1 := u.rd
    have g := u.rdAll (n := 3) rfl
    have E := E1.trans u.ext
    have r2 := r.mono E
    have py := r2.ptr hy
    rw [Bx.sz] at py
    obtain ⟨y1, y2, Y0, Y1, Y2, fy, ry1, ry2, _⟩ := at_Bx py
    rw [Nat.zero_mul, Nat.add_zero] at Y1
    cases hb : boxM x with
    | false =>
      have hf : l.all (okB (dimL l)) = false := all_false hx (by unfold okB; rw [hb]; rfl)
      rw [hf] at hQ
      simp (disch := omega) only [VW, VY, VZ, VA, VB, VC, VE, TY, ↓reduceIte, Nat.reduceEqDiff, Nat.reduceAdd, Nat.reduceMul, Nat.reduceSub, Nat.reduceLeDiff, List.length_cons, List.length_nil, List.length_append, List.append_assoc, List.take_succ_cons, List.take_zero, List.drop_succ_cons, List.drop_zero, List.set_cons_zero, List.set_cons_succ, true_or, or_true, and_self, Bool.false_eq_true, Nat.le_refl, Option.bind_some, Option.map_some, Option.getD_some, Option.isSome_some, List.map_cons, List.map_nil, List.cons_append, List.nil_append, List.append_nil, List.getElem?_cons_zero, List.getElem?_cons_succ, eq_self, Int.reduceLT, Int.reduceLE, Int.reduceNeg, Int.reduceEq, g]
      exact hQ _ _ ((Sep.nil E).rep0 rep_nil)
    | true =>
      by_cases hl : x.low.length = y.low.length
      · have hl' : (x.low.length : Int) = (y.low.length : Int) := by omega
        simp (disch := omega) only [VW, VY, VZ, VA, VB, VC, VE, TY, ↓reduceIte, Nat.reduceEqDiff, Nat.reduceAdd, Nat.reduceMul, Nat.reduceSub, Nat.reduceLeDiff, List.length_cons, List.length_nil, List.length_append, List.append_assoc, List.take_succ_cons, List.take_zero, List.drop_succ_cons, List.drop_zero, List.set_cons_zero, List.set_cons_succ, true_or, or_true, and_self, Bool.false_eq_true, Nat.le_refl, Option.bind_some, Option.map_some, Option.getD_some, Option.isSome_some, List.map_cons, List.map_nil, List.cons_append, List.nil_append, List.append_nil, List.getElem?_cons_zero, List.getElem?_cons_succ, eq_self, Int.reduceLT, Int.reduceLE, Int.reduceNeg, Int.reduceEq, g, g1, e0, r2.isRow.ix, q1, q0, Y1, ra1.isRow.len, ry1.isRow.len, hl', e6, e7, e8, wrap_in]
        exact ⟨_, by omega, i + 1, by simp, by omega, rfl, by rw [hat]; unfold okB; rw [hb, hd, hl]; simp, E⟩
      · have hl' : ¬ (x.low.length : Int) = (y.low.length : Int) := by omega
        have hf : l.all (okB (dimL l)) = false := all_false hx (by unfold okB; rw [hb, hd]; simpa using hl)
        rw [hf] at hQ
        simp (disch := omega) only [VW, VY, VZ, VA, VB, VC, VE, TY, ↓reduceIte, Nat.reduceEqDiff, Nat.reduceAdd, Nat.reduceMul, Nat.reduceSub, Nat.reduceLeDiff, List.length_cons, List.length_nil, List.length_append, List.append_assoc, List.take_succ_cons, List.take_zero, List.drop_succ_cons, List.drop_zero, List.set_cons_zero, List.set_cons_succ, true_or, or_true, and_self, Bool.false_eq_true, Nat.le_refl, Option.bind_some, Option.map_some, Option.getD_some, Option.isSome_some, List.map_cons, List.map_nil, List.cons_append, List.nil_append, List.append_nil, List.getElem?_cons_zero, List.getElem?_cons_succ, eq_self, Int.reduceLT, Int.reduceLE, Int.reduceNeg, Int.reduceEq, g, g1, e0, r2.isRow.ix, q1, q0, Y1, ra1.isRow.len, ry1.isRow.len, hl']
        exact hQ _ _ ((Sep.nil E).rep0 rep_nil)
  · obtain rfl : i = l.length := by omega
    have q1 : ¬ (l.length : Int) < (l.length : Int) := by omega
    rw [List.take_length] at hall
    rw [hall, Bool.true_and] at hQ
    by_cases c : l.length ≤ 40
    · have c1 : ¬ (40 : Int) < (l.length : Int) := by omega
      rw [if_pos (decide_eq_true c)] at hQ
      simp (disch := omega) only [VW, VY, VZ, VA, VB, VC, VE, TY, ↓reduceIte, Nat.reduceEqDiff, Nat.reduceAdd, Nat.reduceMul, Nat.reduceSub, Nat.reduceLeDiff, List.length_cons, List.length_nil, List.length_append, List.append_assoc, List.take_succ_cons, List.take_zero, List.drop_succ_cons, List.drop_zero, List.set_cons_zero, List.set_cons_succ, true_or, or_true, and_self, Bool.false_eq_true, Nat.le_refl, Option.bind_some, Option.map_some, Option.getD_some, Option.isSome_some, List.map_cons, List.map_nil, List.cons_append, List.nil_append, List.append_nil, List.getElem?_cons_zero, List.getElem?_cons_succ, eq_self, Int.reduceLT, Int.reduceLE, Int.reduceNeg, Int.reduceEq, q1, e0, r1.isRow.len, c1]
      refine .inl ⟨by kernel_rfl, ?_⟩; refine wkSort_c (s := dimL l) r1 (fun x hx => okB_gd (List.all_eq_true.1 hall x hx)) c fun w h2 s2 => ?_
      have pl := s2.row.isRow.plain
      simp (disch := omega) only [VW, VY, VZ, VA, VB, VC, VE, TY, ↓reduceIte, Nat.reduceEqDiff, Nat.reduceAdd, Nat.reduceMul, Nat.reduceSub, Nat.reduceLeDiff, List.length_cons, List.length_nil, List.length_append, List.append_assoc, List.take_succ_cons, List.take_zero, List.drop_succ_cons, List.drop_zero, List.set_cons_zero, List.set_cons_succ, true_or, or_true, and_self, Bool.false_eq_true, Nat.le_refl, Option.bind_some, Option.map_some, Option.getD_some, Option.isSome_some, List.map_cons, List.map_nil, List.cons_append, List.nil_append, List.append_nil, List.getElem?_cons_zero, List.getElem?_cons_succ, eq_self, Int.reduceLT, Int.reduceLE, Int.reduceNeg, Int.reduceEq, pl]
      exact hQ _ _ (s2.back E1).toRep
    · have c1 : (40 : Int) < (l.length : Int) := by omega
      rw [if_neg (by simpa using c)] at hQ
      simp (disch := omega) only [VW, VY, VZ, VA, VB, VC, VE, TY, ↓reduceIte, Nat.reduceEqDiff, Nat.reduceAdd, Nat.reduceMul, Nat.reduceSub, Nat.reduceLeDiff, List.length_cons, List.length_nil, List.length_append, List.append_assoc, List.take_succ_cons, List.take_zero, List.drop_succ_cons, List.drop_zero, List.set_cons_zero, List.set_cons_succ, true_or, or_true, and_self, Bool.false_eq_true, Nat.le_refl, Option.bind_some, Option.map_some, Option.getD_some, Option.isSome_some, List.map_cons, List.map_nil, List.cons_append, List.nil_append, List.append_nil, List.getElem?_cons_zero, List.getElem?_cons_succ, eq_self, Int.reduceLT, Int.reduceLE, Int.reduceNeg, Int.reduceEq, q1, e0, r1.isRow.len, c1]
      exact hQ _ _ ((Sep.nil E1).rep0 rep_nil)
end Go.Proofs
