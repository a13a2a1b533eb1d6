/- Contracts of functions, facts of types, or the plain law behind one statement (own work): ZU. Conditions: those told in each theorem. -/
import Derived.Test.YtiiolloielppeaaZK
set_option linter.all false
set_option linter.unusedSimpArgs false
set_option linter.unusedVariables false
set_option maxRecDepth 4000
namespace Go.Proofs
open Go Go.V
theorem sameBox_c {s : Nat} {x y : Bx} {cx cy : List Value} {h : Heap} {Q : Value → Heap → Prop} (hx : Here h x cx) (hy : Here h y cy) (gx : Gd s x) (gy : Gd s y)
    (hQ : ∀ h', Ext h h' → Q (.bool (decide (x = y))) h') : CallsV Try.prog 78 [.agg cx.toArray, .agg cy.toArray] h Q := by
  obtain ⟨vx1, vx2, rfl, fx, rx1, rx2⟩ := here_Bx hx
  obtain ⟨vy1, vy2, rfl, fy, ry1, ry2⟩ := here_Bx hy
  refine CallsV.start Try.func78 rfl (by rw [Try.results78]) (by kernel_rfl) (by rw [Try.ntmps78]; simp) ?_
  have u := Sep.blk2 h [.int .i64 x.k, vx1, vx2] [.int .i64 y.k, vy1, vy2] 42 42 true true
  have g2 := u.rdAll (n := 3) rfl
  have g1 := (u.pull 1 rfl).rdAll (n := 3) rfl
  have hl : (x.low.length : Int) = (y.low.length : Int) := by rw [gx.2, gy.2]
  simp (disch := omega) only [VW, VY, VZ, VA, VB, VC, VE, TY, ↓reduceIte, Nat.reduceEqDiff, Nat.reduceAdd, Nat.reduceMul, Nat.reduceSub, Nat.reduceLeDiff, List.length_cons, List.length_nil, List.length_append, List.append_assoc, List.take_succ_cons, List.take_zero, List.drop_succ_cons, List.drop_zero, List.set_cons_zero, List.set_cons_succ, true_or, or_true, and_self, Bool.false_eq_true, Nat.le_refl, Option.bind_some, Option.map_some, Option.getD_some, Option.isSome_some, List.map_cons, List.map_nil, List.cons_append, List.nil_append, List.append_nil, List.getElem?_cons_zero, List.getElem?_cons_succ, eq_self, Int.reduceLT, Int.reduceLE, Int.reduceNeg, Int.reduceEq, rx1.isRow.len, ry1.isRow.len, hl, g1, g2]
  refine .inl ⟨by kernel_rfl, ?_⟩; refine compareBoxes_c (hx.mono u.ext) (hy.mono u.ext) gx gy fun h1 E1 => ?_
  obtain ⟨_, _, hb⟩ := bcmp_le gx gy
  by_cases c : x = y
  · have c1 : bcmp x y = 0 := hb.2 c
    rw [decide_eq_true c] at hQ
    simp (disch := omega) only [VW, VY, VZ, VA, VB, VC, VE, TY, ↓reduceIte, Nat.reduceEqDiff, Nat.reduceAdd, Nat.reduceMul, Nat.reduceSub, Nat.reduceLeDiff, List.length_cons, List.length_nil, List.length_append, List.append_assoc, List.take_succ_cons, List.take_zero, List.drop_succ_cons, List.drop_zero, List.set_cons_zero, List.set_cons_succ, true_or, or_true, and_self, Bool.false_eq_true, Nat.le_refl, Option.bind_some, Option.map_some, Option.getD_some, Option.isSome_some, List.map_cons, List.map_nil, List.cons_append, List.nil_append, List.append_nil, List.getElem?_cons_zero, List.getElem?_cons_succ, eq_self, Int.reduceLT, Int.reduceLE, Int.reduceNeg, Int.reduceEq, c1]
    exact hQ _ (u.ext.trans E1)
  · have c1 : ¬ bcmp x y = 0 := fun h => c (hb.1 h)
    rw [decide_eq_false c] at hQ
    simp (disch := omega) only [VW, VY, VZ, VA, VB, VC, VE, TY, ↓reduceIte, Nat.reduceEqDiff, Nat.reduceAdd, Nat.reduceMul, Nat.reduceSub, Nat.reduceLeDiff, List.length_cons, List.length_nil, List.length_append, List.append_assoc, List.take_succ_cons, List.take_zero, List.drop_succ_cons, List.drop_zero, List.set_cons_zero, List.set_cons_succ, true_or, or_true, and_self, Bool.false_eq_true, Nat.le_refl, Option.bind_some, Option.map_some, Option.getD_some, Option.isSome_some, List.map_cons, List.map_nil, List.cons_append, List.nil_append, List.append_nil, List.getElem?_cons_zero, List.getElem?_cons_succ, eq_self, Int.reduceLT, Int.reduceLE, Int.reduceNeg, Int.reduceEq, c1]
    exact hQ _ (u.ext.trans E1)
theorem take_eq {α : Type} {l m : List α} {i : Nat} {x y : α} (h : l.take i = m.take i) (hx : l[i]? = some x) (hy : m[i]? = some y) (hxy : x = y) : l.take (i + 1) = m.take (i + 1) := by
  rw [List.take_add_one, List.take_add_one, h, hx, hy, hxy]
theorem take_ne {α : Type} {l m : List α} {i : Nat} {x y : α} (hx : l[i]? = some x) (hy : m[i]? = some y) (hxy : ¬ x = y) : ¬ l = m := by
  rintro rfl
  rw [hx] at hy
  exact hxy (Option.some.inj hy)
theorem equalBoxes_c {s : Nat} {l m : List Bx} {v w : Value} {h : Heap} {Q : Value → Heap → Prop} (r : Row h l v) (r' : Row h m w) (hg : ∀ x ∈ l, Gd s x) (hg' : ∀ x ∈ m, Gd s x)
    (hQ : ∀ h', Ext h h' → Q (.bool (decide (l = m))) h') : CallsV Try.prog 77 [v, w, .func (.func 78) #[] #[]] h Q := by
  refine CallsV.start Try.func77 rfl (by rw [Try.results77]) (by kernel_rfl) (by rw [Try.ntmps77]; simp) ?_
  have hle := r.le
  by_cases hl : l.length = m.length
  · have hl' : (l.length : Int) = (m.length : Int) := by omega
    simp (disch := omega) only [VW, VY, VZ, VA, VB, VC, VE, TY, ↓reduceIte, Nat.reduceEqDiff, Nat.reduceAdd, Nat.reduceMul, Nat.reduceSub, Nat.reduceLeDiff, List.length_cons, List.length_nil, List.length_append, List.append_assoc, List.take_succ_cons, List.take_zero, List.drop_succ_cons, List.drop_zero, List.set_cons_zero, List.set_cons_succ, true_or, or_true, and_self, Bool.false_eq_true, Nat.le_refl, Option.bind_some, Option.map_some, Option.getD_some, Option.isSome_some, List.map_cons, List.map_nil, List.cons_append, List.nil_append, List.append_nil, List.getElem?_cons_zero, List.getElem?_cons_succ, eq_self, Int.reduceLT, Int.reduceLE, Int.reduceNeg, Int.reduceEq, r.isRow.len, r'.isRow.len, hl']
    refine loop_rule (fun n e h' => ∃ (i : Nat), e 1 = w ∧ e 2 = .func (.func 78) #[] #[] ∧ e 15 = v ∧ e 16 = .int .i64 (m.length : Int) ∧ e 17 = .int .i64 (i : Int) ∧ i ≤ m.length ∧ n = m.length - i ∧ l.take i = m.take i ∧ Ext h h') ?_ m.length _ _
      ⟨0, rfl, rfl, rfl, rfl, rfl, Nat.zero_le _, rfl, by simp, .refl h⟩
    rintro n e h1 ⟨i, e1, e2, e15, e16, e17, hi, rfl, heq, E1⟩
    have r1 := r.mono E1
    have r1' := r'.mono E1
    simp (disch := omega) only [VW, VY, VZ, VA, VB, VC, VE, TY, ↓reduceIte, Nat.reduceEqDiff, Nat.reduceAdd, Nat.reduceMul, Nat.reduceSub, Nat.reduceLeDiff, List.length_cons, List.length_nil, List.length_append, List.append_assoc, List.take_succ_cons, List.take_zero, List.drop_succ_cons, List.drop_zero, List.set_cons_zero, List.set_cons_succ, true_or, or_true, and_self, Bool.false_eq_true, Nat.le_refl, Option.bind_some, Option.map_some, Option.getD_some, Option.isSome_some, List.map_cons, List.map_nil, List.cons_append, List.nil_append, List.append_nil, List.getElem?_cons_zero, List.getElem?_cons_succ, eq_self, Int.reduceLT, Int.reduceLE, Int.reduceNeg, Int.reduceEq, e16, e17]
    by_cases hlt : i < m.length
    · obtain ⟨x, hx⟩ := get_some (show i < l.length by omega)
      obtain ⟨y, hy⟩ := get_some hlt
      have q1 : (i : Int) < (m.length : Int) := by omega
      obtain ⟨xs, x3, x4⟩ := r1.at hx
      obtain ⟨ys, y3, y4⟩ := r1'.at hy
      rw [Bx.sz] at x3 y3
      obtain ⟨wa1, wa2, rfl, f1, ra1, ra2⟩ := here_Bx x4
      obtain ⟨wb1, wb2, rfl, f2, rb1, rb2⟩ := here_Bx y4
      have ix := r1.isRow.ix Try.prog
      rw [hl] at ix
      have u := Sep.blk1 h1 [.int .i64 x.k, wa1, wa2] 42 true
      have y3' := u.ext.keepA y3
      have u := u.newBlk [.int .i64 y.k, wb1, wb2] 42 true
      simp only [List.append_assoc, List.cons_append, List.nil_append, List.length_append, List.length_cons, List.length_nil, Nat.reduceAdd] at u
      have g2 := u.rdAll (n := 3) rfl
      have g1 := (u.pull 1 rfl).rdAll (n := 3) rfl
      simp (disch := omega) only [VW, VY, VZ, VA, VB, VC, VE, TY, ↓reduceIte, Nat.reduceEqDiff, Nat.reduceAdd, Nat.reduceMul, Nat.reduceSub, Nat.reduceLeDiff, List.length_cons, List.length_nil, List.length_append, List.append_assoc, List.take_succ_cons, List.take_zero, List.drop_succ_cons, List.drop_zero, List.set_cons_zero, List.set_cons_succ, true_or, or_true, and_self, Bool.false_eq_true, Nat.le_refl, Option.bind_some, Option.map_some, Option.getD_some, Option.isSome_some, List.map_cons, List.map_nil, List.cons_append, List.nil_append, List.append_nil, List.getElem?_cons_zero, List.getElem?_cons_succ, eq_self, Int.reduceLT, Int.reduceLE, Int.reduceNeg, Int.reduceEq, e1, e2, e15, e17, q1, ix, x3, r1'.isRow.ix, y3', g1, g2]
      refine .inl ⟨by kernel_rfl, ?_⟩; refine sameBox_c (x4.mono u.ext) (y4.mono u.ext) (hg x (List.mem_of_getElem? hx)) (hg' y (List.mem_of_getElem? hy)) fun h2 E2 => ?_
      by_cases c : x = y
      · rw [decide_eq_true c]
        simp (disch := omega) only [VW, VY, VZ, VA, VB, VC, VE, TY, ↓reduceIte, Nat.reduceEqDiff, Nat.reduceAdd, Nat.reduceMul, Nat.reduceSub, Nat.reduceLeDiff, List.length_cons, List.length_nil, List.length_append, List.append_assoc, List.take_succ_cons, List.take_zero, List.drop_succ_cons, List.drop_zero, List.set_cons_zero, List.set_cons_succ, true_or, or_true, and_self, Bool.false_eq_true, Nat.le_refl, Option.bind_some, Option.map_some, Option.getD_some, Option.isSome_some, List.map_cons, List.map_nil, List.cons_append, List.nil_append, List.append_nil, List.getElem?_cons_zero, List.getElem?_cons_succ, eq_self, Int.reduceLT, Int.reduceLE, Int.reduceNeg, Int.reduceEq, e1, e2, e15, e16, e17, wrap_in]
        exact ⟨_, by omega, i + 1, by simp, by omega, rfl, take_eq heq hx hy c, E1.trans (u.ext.trans E2)⟩
      · rw [decide_eq_false c]
        rw [decide_eq_false (take_ne hx hy c)] at hQ
        simp (disch := omega) only [VW, VY, VZ, VA, VB, VC, VE, TY, ↓reduceIte, Nat.reduceEqDiff, Nat.reduceAdd, Nat.reduceMul, Nat.reduceSub, Nat.reduceLeDiff, List.length_cons, List.length_nil, List.length_append, List.append_assoc, List.take_succ_cons, List.take_zero, List.drop_succ_cons, List.drop_zero, List.set_cons_zero, List.set_cons_succ, true_or, or_true, and_self, Bool.false_eq_true, Nat.le_refl, Option.bind_some, Option.map_some, Option.getD_some, Option.isSome_some, List.map_cons, List.map_nil, List.cons_append, List.nil_append, List.append_nil, List.getElem?_cons_zero, List.getElem?_cons_succ, eq_self, Int.reduceLT, Int.reduceLE, Int.reduceNeg, Int.reduceEq]
        exact hQ _ (E1.trans (u.ext.trans E2))
    · obtain rfl : i = m.length := by omega
      have q1 : ¬ (m.length : Int) < (m.length : Int) := by omega
      rw [List.take_length, ← hl, List.take_length] at heq
      rw [decide_eq_true heq] at hQ
      simp (disch := omega) only [VW, VY, VZ, VA, VB, VC, VE, TY, ↓reduceIte, Nat.reduceEqDiff, Nat.reduceAdd, Nat.reduceMul, Nat.reduceSub, Nat.reduceLeDiff, List.length_cons, List.length_nil, List.length_append, List.append_assoc, List.take_succ_cons, List.take_zero, List.drop_succ_cons, List.drop_zero, List.set_cons_zero, List.set_cons_succ, true_or, or_true, and_self, Bool.false_eq_true, Nat.le_refl, Option.bind_some, Option.map_some, Option.getD_some, Option.isSome_some, List.map_cons, List.map_nil, List.cons_append, List.nil_append, List.append_nil, List.getElem?_cons_zero, List.getElem?_cons_succ, eq_self, Int.reduceLT, Int.reduceLE, Int.reduceNeg, Int.reduceEq, e16, e17, q1]
      exact hQ _ E1
  · have hl' : ¬ (l.length : Int) = (m.length : Int) := by omega
    rw [decide_eq_false (fun e => hl (by rw [e]))] at hQ
    simp (disch := omega) only [VW, VY, VZ, VA, VB, VC, VE, TY, ↓reduceIte, Nat.reduceEqDiff, Nat.reduceAdd, Nat.reduceMul, Nat.reduceSub, Nat.reduceLeDiff, List.length_cons, List.length_nil, List.length_append, List.append_assoc, List.take_succ_cons, List.take_zero, List.drop_succ_cons, List.drop_zero, List.set_cons_zero, List.set_cons_succ, true_or, or_true, and_self, Bool.false_eq_true, Nat.le_refl, Option.bind_some, Option.map_some, Option.getD_some, Option.isSome_some, List.map_cons, List.map_nil, List.cons_append, List.nil_append, List.append_nil, List.getElem?_cons_zero, List.getElem?_cons_succ, eq_self, Int.reduceLT, Int.reduceLE, Int.reduceNeg, Int.reduceEq, r.isRow.len, r'.isRow.len, hl']
    exact hQ _ (.refl h)
theorem same1_c {s : Nat} {l m : List Bx} {v w : Value} {h : Heap} {Q : Value → Heap → Prop} (r : Row h l v) (r' : Row h m w) (hg : ∀ x ∈ l, Gd s x) (hg' : ∀ x ∈ m, Gd s x) (hl : l.length ≤ 40) (hl' : m.length ≤ 40)
    (hQ : ∀ h', Ext h h' → Q (.bool (decide (sortM l = sortM m))) h') : CallsV Try.prog 76 [v, w] h Q := by
  refine CallsV.start Try.func76 rfl (by rw [Try.results76]) (by kernel_rfl) (by rw [Try.ntmps76]; simp) ?_
  simp (disch := omega) only [VW, VY, VZ, VA, VB, VC, VE, TY, ↓reduceIte, Nat.reduceEqDiff, Nat.reduceAdd, Nat.reduceMul, Nat.reduceSub, Nat.reduceLeDiff, List.length_cons, List.length_nil, List.length_append, List.append_assoc, List.take_succ_cons, List.take_zero, List.drop_succ_cons, List.drop_zero, List.set_cons_zero, List.set_cons_succ, true_or, or_true, and_self, Bool.false_eq_true, Nat.le_refl, Option.bind_some, Option.map_some, Option.getD_some, Option.isSome_some, List.map_cons, List.map_nil, List.cons_append, List.nil_append, List.append_nil, List.getElem?_cons_zero, List.getElem?_cons_succ, eq_self, Int.reduceLT, Int.reduceLE, Int.reduceNeg, Int.reduceEq]
  refine .inl ⟨by kernel_rfl, ?_⟩; refine sortBoxes_c r hg hl fun u1 h1 s1 => ?_
  simp (disch := omega) only [VW, VY, VZ, VA, VB, VC, VE, TY, ↓reduceIte, Nat.reduceEqDiff, Nat.reduceAdd, Nat.reduceMul, Nat.reduceSub, Nat.reduceLeDiff, List.length_cons, List.length_nil, List.length_append, List.append_assoc, List.take_succ_cons, List.take_zero, List.drop_succ_cons, List.drop_zero, List.set_cons_zero, List.set_cons_succ, true_or, or_true, and_self, Bool.false_eq_true, Nat.le_refl, Option.bind_some, Option.map_some, Option.getD_some, Option.isSome_some, List.map_cons, List.map_nil, List.cons_append, List.nil_append, List.append_nil, List.getElem?_cons_zero, List.getElem?_cons_succ, eq_self, Int.reduceLT, Int.reduceLE, Int.reduceNeg, Int.reduceEq]
  refine .inl ⟨by kernel_rfl, ?_⟩; refine sortBoxes_c (r'.mono s1.ext) hg' hl' fun u2 h2 s2 => ?_
  simp (disch := omega) only [VW, VY, VZ, VA, VB, VC, VE, TY, ↓reduceIte, Nat.reduceEqDiff, Nat.reduceAdd, Nat.reduceMul, Nat.reduceSub, Nat.reduceLeDiff, List.length_cons, List.length_nil, List.length_append, List.append_assoc, List.take_succ_cons, List.take_zero, List.drop_succ_cons, List.drop_zero, List.set_cons_zero, List.set_cons_succ, true_or, or_true, and_self, Bool.false_eq_true, Nat.le_refl, Option.bind_some, Option.map_some, Option.getD_some, Option.isSome_some, List.map_cons, List.map_nil, List.cons_append, List.nil_append, List.append_nil, List.getElem?_cons_zero, List.getElem?_cons_succ, eq_self, Int.reduceLT, Int.reduceLE, Int.reduceNeg, Int.reduceEq]
  refine .inl ⟨by kernel_rfl, ?_⟩; refine equalBoxes_c (s := s) (s1.row.mono s2.ext) s2.row (fun x hx => hg x ((sortM_perm l).mem_iff.1 hx)) (fun x hx => hg' x ((sortM_perm m).mem_iff.1 hx)) fun h3 E3 => ?_
  simp (disch := omega) only [VW, VY, VZ, VA, VB, VC, VE, TY, ↓reduceIte, Nat.reduceEqDiff, Nat.reduceAdd, Nat.reduceMul, Nat.reduceSub, Nat.reduceLeDiff, List.length_cons, List.length_nil, List.length_append, List.append_assoc, List.take_succ_cons, List.take_zero, List.drop_succ_cons, List.drop_zero, List.set_cons_zero, List.set_cons_succ, true_or, or_true, and_self, Bool.false_eq_true, Nat.le_refl, Option.bind_some, Option.map_some, Option.getD_some, Option.isSome_some, List.map_cons, List.map_nil, List.cons_append, List.nil_append, List.append_nil, List.getElem?_cons_zero, List.getElem?_cons_succ, eq_self, Int.reduceLT, Int.reduceLE, Int.reduceNeg, Int.reduceEq]
  exact hQ _ (s1.ext.trans (s2.ext.trans E3))
end Go.Proofs
