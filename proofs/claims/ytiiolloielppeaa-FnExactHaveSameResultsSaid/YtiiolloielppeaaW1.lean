/- Contracts of functions, facts of types, or the plain law behind one statement (own work): W1. Conditions: those told in each theorem. -/
import Derived.Test.YtiiolloielppeaaH4
import Derived.Test.YtiiolloielppeaaB1
set_option linter.all false
set_option linter.unusedSimpArgs false
set_option linter.unusedVariables false
set_option maxRecDepth 4000
namespace Go.Proofs
open Go Go.V

def boxOk (s : Int) (b : Bx) : Bool := boxM b && decide ((b.low.length : Int) = s)
def listOk (s : Int) (l : List Bx) : Bool := decide (l.length ≤ 40) && l.all (boxOk s)
def lists (w : Wk) : List (List Bx) := [w.opened, w.free, w.holds, w.kept]
/-- Is work valid? -/
def workM (w : Wk) (s : Int) : Bool := (lists w).all (listOk s) && (decide (1 ≤ s ∧ s ≤ 3) && decide (0 ≤ w.steps ∧ w.steps ≤ 10000))

theorem isWork_c {x : Wk} {b off : Nat} {s : Int} {h : Heap} {Q : Value → Heap → Prop} (hp : At h b off x) (hQ : ∀ h', Ext h h' → Q (.bool (workM x s)) h') :
    CallsV Try.prog 44 [.pointer (some ⟨b, off, none⟩), .int .i64 s] h Q := by
  obtain ⟨v1, v2, v3, v4, g0, g1, g2, g3, g4, r1, r2, r3, r4, f5, ga⟩ := at_Wk hp
  refine CallsV.start Try.func44 rfl (by rw [Try.results44]) (by kernel_rfl) (by rw [Try.ntmps44]; simp) ?_
  unfold workM at hQ
  have E := Ext.one h (some ⟨[v1, v2, v3, v4], 28, false, true⟩)
  have c1 := r1.isRow.cells
  have c2 := r2.isRow.cells
  have c3 := r3.isRow.cells
  have c4 := r4.isRow.cells
  simp (disch := omega) only [VW, VY, VZ, VA, VB, VC, VE, TY, ↓reduceIte, Nat.reduceEqDiff, Nat.reduceAdd, Nat.reduceMul, Nat.reduceSub, Nat.reduceLeDiff, List.length_cons, List.length_nil, List.length_append, List.append_assoc, List.take_succ_cons, List.take_zero, List.drop_succ_cons, List.drop_zero, List.set_cons_zero, List.set_cons_succ, true_or, or_true, and_self, Bool.false_eq_true, Nat.le_refl, Option.bind_some, Option.map_some, Option.getD_some, Option.isSome_some, List.map_cons, List.map_nil, List.cons_append, List.nil_append, List.append_nil, List.getElem?_cons_zero, List.getElem?_cons_succ, eq_self, Int.reduceLT, Int.reduceLE, Int.reduceNeg, Int.reduceEq]
  refine draw_ord [0, 1, 2, 3, 4, 5, 6, 7, 8, 9, 10, 11, 12, 13, 14, 15, 18, 16, 17] (by kernel_rfl) (by simp only [List.filterMap_cons, List.filterMap_nil, List.getElem?_cons_zero, List.getElem?_cons_succ]; rfl) ?_
  simp (disch := omega) only [VW, VY, VZ, VA, VB, VC, VE, TY, ↓reduceIte, Nat.reduceEqDiff, Nat.reduceAdd, Nat.reduceMul, Nat.reduceSub, Nat.reduceLeDiff, List.length_cons, List.length_nil, List.length_append, List.append_assoc, List.take_succ_cons, List.take_zero, List.drop_succ_cons, List.drop_zero, List.set_cons_zero, List.set_cons_succ, true_or, or_true, and_self, Bool.false_eq_true, Nat.le_refl, Option.bind_some, Option.map_some, Option.getD_some, Option.isSome_some, List.map_cons, List.map_nil, List.cons_append, List.nil_append, List.append_nil, List.getElem?_cons_zero, List.getElem?_cons_succ, eq_self, Int.reduceLT, Int.reduceLE, Int.reduceNeg, Int.reduceEq, g0, g1, g2, g3, c1, c2, c3, c4, E.keepC g0, E.keepC g1, E.keepC g2, E.keepC g3]
  have rl : Row (h ++ [some ⟨[v1, v2, v3, v4], 28, false, true⟩]) (lists x) (.slice (some ⟨h.length, 0, none⟩) 4 4) := Row.ofBlk (cs := [v1, v2, v3, v4]) (by simp (disch := omega) only [VW, VY, VZ, VA, VB, VC, VE, TY, ↓reduceIte, Nat.reduceEqDiff, Nat.reduceAdd, Nat.reduceMul, Nat.reduceSub, Nat.reduceLeDiff, List.length_cons, List.length_nil, List.length_append, List.append_assoc, List.take_succ_cons, List.take_zero, List.drop_succ_cons, List.drop_zero, List.set_cons_zero, List.set_cons_succ, true_or, or_true, and_self, Bool.false_eq_true, Nat.le_refl, Option.bind_some, Option.map_some, Option.getD_some, Option.isSome_some, List.map_cons, List.map_nil, List.cons_append, List.nil_append, List.append_nil, List.getElem?_cons_zero, List.getElem?_cons_succ, eq_self, Int.reduceLT, Int.reduceLE, Int.reduceNeg, Int.reduceEq])
    (.cons (mk_list (r1.mono E)) (.cons (mk_list (r2.mono E)) (.cons (mk_list (r3.mono E)) (.cons (mk_list (r4.mono E)) .nil)))) rfl (by decide)
  generalize h ++ [some ⟨[v1, v2, v3, v4], 28, false, true⟩] = H at *
  generalize Value.slice (some ⟨h.length, 0, none⟩) 4 4 = vl at *
  have hl4 : (lists x).length = 4 := rfl
  have g4' := E.keepC g4
  refine loop_rule (fun n e h' => ∃ (j : Nat), e 0 = .pointer (some ⟨b, off, none⟩) ∧ e 1 = .int .i64 s ∧ e 24 = vl ∧ e 25 = .int .i64 4 ∧ e 26 = .int .i64 j ∧ j ≤ 4 ∧ n = 4 - j ∧ H = h' ∧ ((lists x).take j).all (listOk s) = true) ?_ 4 _ _
    ⟨0, rfl, rfl, rfl, rfl, rfl, by omega, rfl, rfl, by simp⟩
  rintro n e h' ⟨j, e0, e1, e24, e25, e26, hj, rfl, rfl, hall⟩
  simp (disch := omega) only [VW, VY, VZ, VA, VB, VC, VE, TY, ↓reduceIte, Nat.reduceEqDiff, Nat.reduceAdd, Nat.reduceMul, Nat.reduceSub, Nat.reduceLeDiff, List.length_cons, List.length_nil, List.length_append, List.append_assoc, List.take_succ_cons, List.take_zero, List.drop_succ_cons, List.drop_zero, List.set_cons_zero, List.set_cons_succ, true_or, or_true, and_self, Bool.false_eq_true, Nat.le_refl, Option.bind_some, Option.map_some, Option.getD_some, Option.isSome_some, List.map_cons, List.map_nil, List.cons_append, List.nil_append, List.append_nil, List.getElem?_cons_zero, List.getElem?_cons_succ, eq_self, Int.reduceLT, Int.reduceLE, Int.reduceNeg, Int.reduceEq, e24, e25, e26]
  by_cases hlt : j < 4
  · obtain ⟨l, hl⟩ := get_some (show j < (lists x).length by omega)
    obtain ⟨v, x3, rv⟩ := row_list rl hl
    have q1 : (j : Int) < 4 := by omega
    have ix := rl.isRow.ix Try.prog
    rw [hl4] at ix
    have hle := rv.le
    simp (disch := omega) only [VW, VY, VZ, VA, VB, VC, VE, TY, ↓reduceIte, Nat.reduceEqDiff, Nat.reduceAdd, Nat.reduceMul, Nat.reduceSub, Nat.reduceLeDiff, List.length_cons, List.length_nil, List.length_append, List.append_assoc, List.take_succ_cons, List.take_zero, List.drop_succ_cons, List.drop_zero, List.set_cons_zero, List.set_cons_succ, true_or, or_true, and_self, Bool.false_eq_true, Nat.le_refl, Option.bind_some, Option.map_some, Option.getD_some, Option.isSome_some, List.map_cons, List.map_nil, List.cons_append, List.nil_append, List.append_nil, List.getElem?_cons_zero, List.getElem?_cons_succ, eq_self, Int.reduceLT, Int.reduceLE, Int.reduceNeg, Int.reduceEq, e0, e1, e24, e25, e26, q1, ix, x3, rv.isRow.len]
    refine loop_rule (fun n e h' => ∃ (i : Nat), e 0 = .pointer (some ⟨b, off, none⟩) ∧ e 1 = .int .i64 s ∧ e 24 = vl ∧ e 25 = .int .i64 4 ∧ e 26 = .int .i64 j ∧ e 6 = v ∧ e 31 = .int .i64 l.length ∧ e 32 = .int .i64 i ∧ i ≤ l.length ∧ n = l.length - i ∧ H = h' ∧ (l.take i).all (boxOk s) = true) ?_ l.length _ _
      ⟨0, e0, e1, e24, e25, e26, rfl, rfl, rfl, by omega, rfl, rfl, by simp⟩
    rintro n e h' ⟨i, e0, e1, e24, e25, e26, e6, e31, e32, hi, rfl, rfl, hall2⟩
    simp (disch := omega) only [VW, VY, VZ, VA, VB, VC, VE, TY, ↓reduceIte, Nat.reduceEqDiff, Nat.reduceAdd, Nat.reduceMul, Nat.reduceSub, Nat.reduceLeDiff, List.length_cons, List.length_nil, List.length_append, List.append_assoc, List.take_succ_cons, List.take_zero, List.drop_succ_cons, List.drop_zero, List.set_cons_zero, List.set_cons_succ, true_or, or_true, and_self, Bool.false_eq_true, Nat.le_refl, Option.bind_some, Option.map_some, Option.getD_some, Option.isSome_some, List.map_cons, List.map_nil, List.cons_append, List.nil_append, List.append_nil, List.getElem?_cons_zero, List.getElem?_cons_succ, eq_self, Int.reduceLT, Int.reduceLE, Int.reduceNeg, Int.reduceEq, e31, e32]
    by_cases hlt2 : i < l.length
    · obtain ⟨y, hy⟩ := get_some hlt2
      have q2 : (i : Int) < (l.length : Int) := by omega
      have py := rv.ptr hy
      rw [Bx.sz] at py
      obtain ⟨w1, w2, b0, b1, b2, t1, t2, t3, _⟩ := at_Bx py
      simp (disch := omega) only [VW, VY, VZ, VA, VB, VC, VE, TY, ↓reduceIte, Nat.reduceEqDiff, Nat.reduceAdd, Nat.reduceMul, Nat.reduceSub, Nat.reduceLeDiff, List.length_cons, List.length_nil, List.length_append, List.append_assoc, List.take_succ_cons, List.take_zero, List.drop_succ_cons, List.drop_zero, List.set_cons_zero, List.set_cons_succ, true_or, or_true, and_self, Bool.false_eq_true, Nat.le_refl, Option.bind_some, Option.map_some, Option.getD_some, Option.isSome_some, List.map_cons, List.map_nil, List.cons_append, List.nil_append, List.append_nil, List.getElem?_cons_zero, List.getElem?_cons_succ, eq_self, Int.reduceLT, Int.reduceLE, Int.reduceNeg, Int.reduceEq, e0, e1, e24, e25, e26, e6, e31, e32, q2, rv.isRow.ix]
      refine .inl ⟨by kernel_rfl, ?_⟩; refine isBox_c py ?_
      cases hb : boxM y with
      | false =>
        simp (disch := omega) only [VW, VY, VZ, VA, VB, VC, VE, TY, ↓reduceIte, Nat.reduceEqDiff, Nat.reduceAdd, Nat.reduceMul, Nat.reduceSub, Nat.reduceLeDiff, List.length_cons, List.length_nil, List.length_append, List.append_assoc, List.take_succ_cons, List.take_zero, List.drop_succ_cons, List.drop_zero, List.set_cons_zero, List.set_cons_succ, true_or, or_true, and_self, Bool.false_eq_true, Nat.le_refl, Option.bind_some, Option.map_some, Option.getD_some, Option.isSome_some, List.map_cons, List.map_nil, List.cons_append, List.nil_append, List.append_nil, List.getElem?_cons_zero, List.getElem?_cons_succ, eq_self, Int.reduceLT, Int.reduceLE, Int.reduceNeg, Int.reduceEq]
        rw [all_false hl (by simp only [listOk, Bool.and_eq_false_iff]; exact .inr (all_false hy (by simp [boxOk, hb])))] at hQ
        exact hQ _ E
      | true =>
        simp (disch := omega) only [VW, VY, VZ, VA, VB, VC, VE, TY, ↓reduceIte, Nat.reduceEqDiff, Nat.reduceAdd, Nat.reduceMul, Nat.reduceSub, Nat.reduceLeDiff, List.length_cons, List.length_nil, List.length_append, List.append_assoc, List.take_succ_cons, List.take_zero, List.drop_succ_cons, List.drop_zero, List.set_cons_zero, List.set_cons_succ, true_or, or_true, and_self, Bool.false_eq_true, Nat.le_refl, Option.bind_some, Option.map_some, Option.getD_some, Option.isSome_some, List.map_cons, List.map_nil, List.cons_append, List.nil_append, List.append_nil, List.getElem?_cons_zero, List.getElem?_cons_succ, eq_self, Int.reduceLT, Int.reduceLE, Int.reduceNeg, Int.reduceEq, e6, e1, rv.isRow.ix, b1, t2.isRow.len]
        by_cases c8 : (y.low.length : Int) = s
        · simp (disch := omega) only [VW, VY, VZ, VA, VB, VC, VE, TY, ↓reduceIte, Nat.reduceEqDiff, Nat.reduceAdd, Nat.reduceMul, Nat.reduceSub, Nat.reduceLeDiff, List.length_cons, List.length_nil, List.length_append, List.append_assoc, List.take_succ_cons, List.take_zero, List.drop_succ_cons, List.drop_zero, List.set_cons_zero, List.set_cons_succ, true_or, or_true, and_self, Bool.false_eq_true, Nat.le_refl, Option.bind_some, Option.map_some, Option.getD_some, Option.isSome_some, List.map_cons, List.map_nil, List.cons_append, List.nil_append, List.append_nil, List.getElem?_cons_zero, List.getElem?_cons_succ, eq_self, Int.reduceLT, Int.reduceLE, Int.reduceNeg, Int.reduceEq, c8, e0, e1, e24, e25, e26, e6, e31, e32, wrap_in]
          exact ⟨_, by omega, i + 1, by simp, by omega, rfl, by rw [all_take _ hy, hall2]; simp [boxOk, hb, c8]⟩
        · simp (disch := omega) only [VW, VY, VZ, VA, VB, VC, VE, TY, ↓reduceIte, Nat.reduceEqDiff, Nat.reduceAdd, Nat.reduceMul, Nat.reduceSub, Nat.reduceLeDiff, List.length_cons, List.length_nil, List.length_append, List.append_assoc, List.take_succ_cons, List.take_zero, List.drop_succ_cons, List.drop_zero, List.set_cons_zero, List.set_cons_succ, true_or, or_true, and_self, Bool.false_eq_true, Nat.le_refl, Option.bind_some, Option.map_some, Option.getD_some, Option.isSome_some, List.map_cons, List.map_nil, List.cons_append, List.nil_append, List.append_nil, List.getElem?_cons_zero, List.getElem?_cons_succ, eq_self, Int.reduceLT, Int.reduceLE, Int.reduceNeg, Int.reduceEq, c8]
          rw [all_false hl (by simp only [listOk, Bool.and_eq_false_iff]; exact .inr (all_false hy (by simp [boxOk, c8])))] at hQ
          exact hQ _ E
    · obtain rfl : i = l.length := by omega
      have q2 : ¬ (l.length : Int) < (l.length : Int) := by omega
      rw [List.take_length] at hall2
      simp (disch := omega) only [VW, VY, VZ, VA, VB, VC, VE, TY, ↓reduceIte, Nat.reduceEqDiff, Nat.reduceAdd, Nat.reduceMul, Nat.reduceSub, Nat.reduceLeDiff, List.length_cons, List.length_nil, List.length_append, List.append_assoc, List.take_succ_cons, List.take_zero, List.drop_succ_cons, List.drop_zero, List.set_cons_zero, List.set_cons_succ, true_or, or_true, and_self, Bool.false_eq_true, Nat.le_refl, Option.bind_some, Option.map_some, Option.getD_some, Option.isSome_some, List.map_cons, List.map_nil, List.cons_append, List.nil_append, List.append_nil, List.getElem?_cons_zero, List.getElem?_cons_succ, eq_self, Int.reduceLT, Int.reduceLE, Int.reduceNeg, Int.reduceEq, e6, q2, rv.isRow.len]
      by_cases c9 : (40 : Int) < (l.length : Int)
      · simp (disch := omega) only [VW, VY, VZ, VA, VB, VC, VE, TY, ↓reduceIte, Nat.reduceEqDiff, Nat.reduceAdd, Nat.reduceMul, Nat.reduceSub, Nat.reduceLeDiff, List.length_cons, List.length_nil, List.length_append, List.append_assoc, List.take_succ_cons, List.take_zero, List.drop_succ_cons, List.drop_zero, List.set_cons_zero, List.set_cons_succ, true_or, or_true, and_self, Bool.false_eq_true, Nat.le_refl, Option.bind_some, Option.map_some, Option.getD_some, Option.isSome_some, List.map_cons, List.map_nil, List.cons_append, List.nil_append, List.append_nil, List.getElem?_cons_zero, List.getElem?_cons_succ, eq_self, Int.reduceLT, Int.reduceLE, Int.reduceNeg, Int.reduceEq, c9]
        rw [all_false hl (by simp only [listOk, Bool.and_eq_false_iff]; exact .inl (by rw [decide_eq_false_iff_not]; omega))] at hQ
        exact hQ _ E
      · simp (disch := omega) only [VW, VY, VZ, VA, VB, VC, VE, TY, ↓reduceIte, Nat.reduceEqDiff, Nat.reduceAdd, Nat.reduceMul, Nat.reduceSub, Nat.reduceLeDiff, List.length_cons, List.length_nil, List.length_append, List.append_assoc, List.take_succ_cons, List.take_zero, List.drop_succ_cons, List.drop_zero, List.set_cons_zero, List.set_cons_succ, true_or, or_true, and_self, Bool.false_eq_true, Nat.le_refl, Option.bind_some, Option.map_some, Option.getD_some, Option.isSome_some, List.map_cons, List.map_nil, List.cons_append, List.nil_append, List.append_nil, List.getElem?_cons_zero, List.getElem?_cons_succ, eq_self, Int.reduceLT, Int.reduceLE, Int.reduceNeg, Int.reduceEq, c9, e0, e1, e24, e25, e26, wrap_in]
        exact ⟨_, by omega, j + 1, by simp, by omega, rfl, by rw [all_take _ hl, hall]; simp only [listOk, hall2, Bool.and_true, Bool.true_and, decide_eq_true_eq]; omega⟩
  · obtain rfl : j = 4 := by omega
    have q4 : ¬ ((4 : Nat) : Int) < 4 := by decide
    rw [← hl4, List.take_length] at hall
    rw [hall] at hQ
    simp (disch := omega) only [VW, VY, VZ, VA, VB, VC, VE, TY, ↓reduceIte, Nat.reduceEqDiff, Nat.reduceAdd, Nat.reduceMul, Nat.reduceSub, Nat.reduceLeDiff, List.length_cons, List.length_nil, List.length_append, List.append_assoc, List.take_succ_cons, List.take_zero, List.drop_succ_cons, List.drop_zero, List.set_cons_zero, List.set_cons_succ, true_or, or_true, and_self, Bool.false_eq_true, Nat.le_refl, Option.bind_some, Option.map_some, Option.getD_some, Option.isSome_some, List.map_cons, List.map_nil, List.cons_append, List.nil_append, List.append_nil, List.getElem?_cons_zero, List.getElem?_cons_succ, eq_self, Int.reduceLT, Int.reduceLE, Int.reduceNeg, Int.reduceEq, e0, e1, q4]
    refine .inl ⟨by kernel_rfl, ?_⟩; refine inside_c ?_
    by_cases c1 : 1 ≤ s ∧ s ≤ 3
    · have d1 := decide_eq_true c1
      simp (disch := omega) only [VW, VY, VZ, VA, VB, VC, VE, TY, ↓reduceIte, Nat.reduceEqDiff, Nat.reduceAdd, Nat.reduceMul, Nat.reduceSub, Nat.reduceLeDiff, List.length_cons, List.length_nil, List.length_append, List.append_assoc, List.take_succ_cons, List.take_zero, List.drop_succ_cons, List.drop_zero, List.set_cons_zero, List.set_cons_succ, true_or, or_true, and_self, Bool.false_eq_true, Nat.le_refl, Option.bind_some, Option.map_some, Option.getD_some, Option.isSome_some, List.map_cons, List.map_nil, List.cons_append, List.nil_append, List.append_nil, List.getElem?_cons_zero, List.getElem?_cons_succ, eq_self, Int.reduceLT, Int.reduceLE, Int.reduceNeg, Int.reduceEq, d1, e0, g4']
      refine .inl ⟨by kernel_rfl, ?_⟩; refine inside_c ?_
      simp (disch := omega) only [VW, VY, VZ, VA, VB, VC, VE, TY, ↓reduceIte, Nat.reduceEqDiff, Nat.reduceAdd, Nat.reduceMul, Nat.reduceSub, Nat.reduceLeDiff, List.length_cons, List.length_nil, List.length_append, List.append_assoc, List.take_succ_cons, List.take_zero, List.drop_succ_cons, List.drop_zero, List.set_cons_zero, List.set_cons_succ, true_or, or_true, and_self, Bool.false_eq_true, Nat.le_refl, Option.bind_some, Option.map_some, Option.getD_some, Option.isSome_some, List.map_cons, List.map_nil, List.cons_append, List.nil_append, List.append_nil, List.getElem?_cons_zero, List.getElem?_cons_succ, eq_self, Int.reduceLT, Int.reduceLE, Int.reduceNeg, Int.reduceEq]
      simpa [c1] using hQ _ E
    · have d1 := decide_eq_false c1
      simp (disch := omega) only [VW, VY, VZ, VA, VB, VC, VE, TY, ↓reduceIte, Nat.reduceEqDiff, Nat.reduceAdd, Nat.reduceMul, Nat.reduceSub, Nat.reduceLeDiff, List.length_cons, List.length_nil, List.length_append, List.append_assoc, List.take_succ_cons, List.take_zero, List.drop_succ_cons, List.drop_zero, List.set_cons_zero, List.set_cons_succ, true_or, or_true, and_self, Bool.false_eq_true, Nat.le_refl, Option.bind_some, Option.map_some, Option.getD_some, Option.isSome_some, List.map_cons, List.map_nil, List.cons_append, List.nil_append, List.append_nil, List.getElem?_cons_zero, List.getElem?_cons_succ, eq_self, Int.reduceLT, Int.reduceLE, Int.reduceNeg, Int.reduceEq, d1]
      simpa [c1] using hQ _ E

theorem brLists_c {x : Wk} {cs : List Value} {h : Heap} {Q : Value → Heap → Prop} (hx : Here h x cs) (hQ : ∀ v h', Ext h h' → Row h' (lists x) v → Q v h') :
    CallsV Try.prog 42 [.agg cs.toArray] h Q := by
  obtain ⟨v1, v2, v3, v4, rfl, r1, r2, r3, r4, f5⟩ := here_Wk hx
  refine CallsV.start Try.func42 rfl (by rw [Try.results42]) (by kernel_rfl) (by rw [Try.ntmps42]; simp) ?_
  have c1 := r1.isRow.cells
  have c2 := r2.isRow.cells
  have c3 := r3.isRow.cells
  have c4 := r4.isRow.cells
  simp (disch := omega) only [VW, VY, VZ, VA, VB, VC, VE, TY, ↓reduceIte, Nat.reduceEqDiff, Nat.reduceAdd, Nat.reduceMul, Nat.reduceSub, Nat.reduceLeDiff, List.length_cons, List.length_nil, List.length_append, List.append_assoc, List.take_succ_cons, List.take_zero, List.drop_succ_cons, List.drop_zero, List.set_cons_zero, List.set_cons_succ, true_or, or_true, and_self, Bool.false_eq_true, Nat.le_refl, Option.bind_some, Option.map_some, Option.getD_some, Option.isSome_some, List.map_cons, List.map_nil, List.cons_append, List.nil_append, List.append_nil, List.getElem?_cons_zero, List.getElem?_cons_succ, eq_self, Int.reduceLT, Int.reduceLE, Int.reduceNeg, Int.reduceEq, c1, c2, c3, c4]
  refine hQ _ _ (.app _ _) ?_
  have E := Ext.app h [some ⟨[v1, v2, v3, v4, .int .i64 x.steps], 30, false, true⟩, some ⟨[v1, v2, v3, v4], 28, false, true⟩]
  exact Row.ofBlk (cs := [v1, v2, v3, v4]) (by simp (disch := omega) only [VW, VY, VZ, VA, VB, VC, VE, TY, ↓reduceIte, Nat.reduceEqDiff, Nat.reduceAdd, Nat.reduceMul, Nat.reduceSub, Nat.reduceLeDiff, List.length_cons, List.length_nil, List.length_append, List.append_assoc, List.take_succ_cons, List.take_zero, List.drop_succ_cons, List.drop_zero, List.set_cons_zero, List.set_cons_succ, true_or, or_true, and_self, Bool.false_eq_true, Nat.le_refl, Option.bind_some, Option.map_some, Option.getD_some, Option.isSome_some, List.map_cons, List.map_nil, List.cons_append, List.nil_append, List.append_nil, List.getElem?_cons_zero, List.getElem?_cons_succ, eq_self, Int.reduceLT, Int.reduceLE, Int.reduceNeg, Int.reduceEq]) (.cons (mk_list (r1.mono E)) (.cons (mk_list (r2.mono E)) (.cons (mk_list (r3.mono E)) (.cons (mk_list (r4.mono E)) .nil)))) rfl (by decide)

theorem brGood_c {x : Wk} {cs : List Value} {s : Int} {h : Heap} {Q : Value → Heap → Prop} (hx : Here h x cs) (hQ : ∀ h', Ext h h' → Q (.bool (workM x s)) h') :
    CallsV Try.prog 41 [.agg cs.toArray, .int .i64 s] h Q := by
  have hxx := hx
  obtain ⟨v1, v2, v3, v4, rfl, r1, r2, r3, r4, f5⟩ := here_Wk hx
  refine CallsV.start Try.func41 rfl (by rw [Try.results41]) (by kernel_rfl) (by rw [Try.ntmps41]; simp) ?_
  unfold workM at hQ
  have E := Ext.one h (some ⟨[v1, v2, v3, v4, .int .i64 x.steps], 30, false, true⟩)
  simp (disch := omega) only [VW, VY, VZ, VA, VB, VC, VE, TY, ↓reduceIte, Nat.reduceEqDiff, Nat.reduceAdd, Nat.reduceMul, Nat.reduceSub, Nat.reduceLeDiff, List.length_cons, List.length_nil, List.length_append, List.append_assoc, List.take_succ_cons, List.take_zero, List.drop_succ_cons, List.drop_zero, List.set_cons_zero, List.set_cons_succ, true_or, or_true, and_self, Bool.false_eq_true, Nat.le_refl, Option.bind_some, Option.map_some, Option.getD_some, Option.isSome_some, List.map_cons, List.map_nil, List.cons_append, List.nil_append, List.append_nil, List.getElem?_cons_zero, List.getElem?_cons_succ, eq_self, Int.reduceLT, Int.reduceLE, Int.reduceNeg, Int.reduceEq]
  refine .inl ⟨by kernel_rfl, ?_⟩; refine l1In_c ?_
  by_cases c1 : ¬ (1 ≤ s ∧ s ≤ 3)
  · have d1 := decide_eq_false c1
    simp (disch := omega) only [VW, VY, VZ, VA, VB, VC, VE, TY, ↓reduceIte, Nat.reduceEqDiff, Nat.reduceAdd, Nat.reduceMul, Nat.reduceSub, Nat.reduceLeDiff, List.length_cons, List.length_nil, List.length_append, List.append_assoc, List.take_succ_cons, List.take_zero, List.drop_succ_cons, List.drop_zero, List.set_cons_zero, List.set_cons_succ, true_or, or_true, and_self, Bool.false_eq_true, Nat.le_refl, Option.bind_some, Option.map_some, Option.getD_some, Option.isSome_some, List.map_cons, List.map_nil, List.cons_append, List.nil_append, List.append_nil, List.getElem?_cons_zero, List.getElem?_cons_succ, eq_self, Int.reduceLT, Int.reduceLE, Int.reduceNeg, Int.reduceEq, d1]
    simpa [c1] using hQ _ E
  have c1 := Decidable.not_not.1 c1
  have d1 := decide_eq_true c1
  simp (disch := omega) only [VW, VY, VZ, VA, VB, VC, VE, TY, ↓reduceIte, Nat.reduceEqDiff, Nat.reduceAdd, Nat.reduceMul, Nat.reduceSub, Nat.reduceLeDiff, List.length_cons, List.length_nil, List.length_append, List.append_assoc, List.take_succ_cons, List.take_zero, List.drop_succ_cons, List.drop_zero, List.set_cons_zero, List.set_cons_succ, true_or, or_true, and_self, Bool.false_eq_true, Nat.le_refl, Option.bind_some, Option.map_some, Option.getD_some, Option.isSome_some, List.map_cons, List.map_nil, List.cons_append, List.nil_append, List.append_nil, List.getElem?_cons_zero, List.getElem?_cons_succ, eq_self, Int.reduceLT, Int.reduceLE, Int.reduceNeg, Int.reduceEq, d1]
  refine .inl ⟨by kernel_rfl, ?_⟩; refine l1In_c ?_
  by_cases c2 : ¬ (0 ≤ x.steps ∧ x.steps ≤ 10000)
  · have d2 := decide_eq_false c2
    simp (disch := omega) only [VW, VY, VZ, VA, VB, VC, VE, TY, ↓reduceIte, Nat.reduceEqDiff, Nat.reduceAdd, Nat.reduceMul, Nat.reduceSub, Nat.reduceLeDiff, List.length_cons, List.length_nil, List.length_append, List.append_assoc, List.take_succ_cons, List.take_zero, List.drop_succ_cons, List.drop_zero, List.set_cons_zero, List.set_cons_succ, true_or, or_true, and_self, Bool.false_eq_true, Nat.le_refl, Option.bind_some, Option.map_some, Option.getD_some, Option.isSome_some, List.map_cons, List.map_nil, List.cons_append, List.nil_append, List.append_nil, List.getElem?_cons_zero, List.getElem?_cons_succ, eq_self, Int.reduceLT, Int.reduceLE, Int.reduceNeg, Int.reduceEq, d2]
    simpa [c2] using hQ _ E
  have c2 := Decidable.not_not.1 c2
  have d2 := decide_eq_true c2
  simp (disch := omega) only [VW, VY, VZ, VA, VB, VC, VE, TY, ↓reduceIte, Nat.reduceEqDiff, Nat.reduceAdd, Nat.reduceMul, Nat.reduceSub, Nat.reduceLeDiff, List.length_cons, List.length_nil, List.length_append, List.append_assoc, List.take_succ_cons, List.take_zero, List.drop_succ_cons, List.drop_zero, List.set_cons_zero, List.set_cons_succ, true_or, or_true, and_self, Bool.false_eq_true, Nat.le_refl, Option.bind_some, Option.map_some, Option.getD_some, Option.isSome_some, List.map_cons, List.map_nil, List.cons_append, List.nil_append, List.append_nil, List.getElem?_cons_zero, List.getElem?_cons_succ, eq_self, Int.reduceLT, Int.reduceLE, Int.reduceNeg, Int.reduceEq, d2]
  refine .inl ⟨by kernel_rfl, ?_⟩; refine brLists_c (hxx.mono E) fun vl H E2 rl => ?_
  have E := E.trans E2
  have hl4 : (lists x).length = 4 := rfl
  have len := rl.isRow.len Try.prog
  have ix := rl.isRow.ix Try.prog
  rw [hl4] at len ix
  rw [d1, d2] at hQ
  have n4 : ((4 : Nat) : Int) = 4 := rfl
  simp (disch := omega) only [VW, VY, VZ, VA, VB, VC, VE, TY, ↓reduceIte, Nat.reduceEqDiff, Nat.reduceAdd, Nat.reduceMul, Nat.reduceSub, Nat.reduceLeDiff, List.length_cons, List.length_nil, List.length_append, List.append_assoc, List.take_succ_cons, List.take_zero, List.drop_succ_cons, List.drop_zero, List.set_cons_zero, List.set_cons_succ, true_or, or_true, and_self, Bool.false_eq_true, Nat.le_refl, Option.bind_some, Option.map_some, Option.getD_some, Option.isSome_some, List.map_cons, List.map_nil, List.cons_append, List.nil_append, List.append_nil, List.getElem?_cons_zero, List.getElem?_cons_succ, eq_self, Int.reduceLT, Int.reduceLE, Int.reduceNeg, Int.reduceEq, len]
  refine loop_rule (fun n e h' => ∃ (j : Nat), e 1 = .int .i64 s ∧ e 19 = vl ∧ e 20 = .int .i64 (4 : Nat) ∧ e 21 = .int .i64 j ∧ j ≤ 4 ∧ n = 4 - j ∧ Ext H h' ∧ ((lists x).take j).all (listOk s) = true) ?_ 4 _ _
    ⟨0, rfl, rfl, rfl, rfl, by omega, rfl, .refl _, by simp⟩
  rintro n e h1 ⟨j, e1, e19, e20, e21, hj, rfl, E3, hall⟩
  simp (disch := omega) only [VW, VY, VZ, VA, VB, VC, VE, TY, ↓reduceIte, Nat.reduceEqDiff, Nat.reduceAdd, Nat.reduceMul, Nat.reduceSub, Nat.reduceLeDiff, List.length_cons, List.length_nil, List.length_append, List.append_assoc, List.take_succ_cons, List.take_zero, List.drop_succ_cons, List.drop_zero, List.set_cons_zero, List.set_cons_succ, true_or, or_true, and_self, Bool.false_eq_true, Nat.le_refl, Option.bind_some, Option.map_some, Option.getD_some, Option.isSome_some, List.map_cons, List.map_nil, List.cons_append, List.nil_append, List.append_nil, List.getElem?_cons_zero, List.getElem?_cons_succ, eq_self, Int.reduceLT, Int.reduceLE, Int.reduceNeg, Int.reduceEq, e19, e20, e21]
  by_cases hlt : j < 4
  · obtain ⟨l, hl⟩ := get_some (show j < (lists x).length by omega)
    obtain ⟨v, x3, rv⟩ := row_list (rl.mono E3) hl
    have q1 : (j : Int) < (4 : Nat) := by omega
    have hle := rv.le
    simp (disch := omega) only [VW, VY, VZ, VA, VB, VC, VE, TY, ↓reduceIte, Nat.reduceEqDiff, Nat.reduceAdd, Nat.reduceMul, Nat.reduceSub, Nat.reduceLeDiff, List.length_cons, List.length_nil, List.length_append, List.append_assoc, List.take_succ_cons, List.take_zero, List.drop_succ_cons, List.drop_zero, List.set_cons_zero, List.set_cons_succ, true_or, or_true, and_self, Bool.false_eq_true, Nat.le_refl, Option.bind_some, Option.map_some, Option.getD_some, Option.isSome_some, List.map_cons, List.map_nil, List.cons_append, List.nil_append, List.append_nil, List.getElem?_cons_zero, List.getElem?_cons_succ, eq_self, Int.reduceLT, Int.reduceLE, Int.reduceNeg, Int.reduceEq, e1, e19, e20, e21, q1, ix, x3, rv.isRow.len]
    by_cases c9 : (40 : Int) < (l.length : Int)
    · simp (disch := omega) only [VW, VY, VZ, VA, VB, VC, VE, TY, ↓reduceIte, Nat.reduceEqDiff, Nat.reduceAdd, Nat.reduceMul, Nat.reduceSub, Nat.reduceLeDiff, List.length_cons, List.length_nil, List.length_append, List.append_assoc, List.take_succ_cons, List.take_zero, List.drop_succ_cons, List.drop_zero, List.set_cons_zero, List.set_cons_succ, true_or, or_true, and_self, Bool.false_eq_true, Nat.le_refl, Option.bind_some, Option.map_some, Option.getD_some, Option.isSome_some, List.map_cons, List.map_nil, List.cons_append, List.nil_append, List.append_nil, List.getElem?_cons_zero, List.getElem?_cons_succ, eq_self, Int.reduceLT, Int.reduceLE, Int.reduceNeg, Int.reduceEq, c9]
      rw [all_false hl (by simp only [listOk, Bool.and_eq_false_iff]; exact .inl (by rw [decide_eq_false_iff_not]; omega))] at hQ
      exact hQ _ (E.trans E3)
    simp (disch := omega) only [VW, VY, VZ, VA, VB, VC, VE, TY, ↓reduceIte, Nat.reduceEqDiff, Nat.reduceAdd, Nat.reduceMul, Nat.reduceSub, Nat.reduceLeDiff, List.length_cons, List.length_nil, List.length_append, List.append_assoc, List.take_succ_cons, List.take_zero, List.drop_succ_cons, List.drop_zero, List.set_cons_zero, List.set_cons_succ, true_or, or_true, and_self, Bool.false_eq_true, Nat.le_refl, Option.bind_some, Option.map_some, Option.getD_some, Option.isSome_some, List.map_cons, List.map_nil, List.cons_append, List.nil_append, List.append_nil, List.getElem?_cons_zero, List.getElem?_cons_succ, eq_self, Int.reduceLT, Int.reduceLE, Int.reduceNeg, Int.reduceEq, c9, rv.isRow.len]
    refine loop_rule (fun n e h' => ∃ (i : Nat), e 1 = .int .i64 s ∧ e 19 = vl ∧ e 20 = .int .i64 (4 : Nat) ∧ e 21 = .int .i64 j ∧ e 28 = v ∧ e 29 = .int .i64 l.length ∧ e 30 = .int .i64 i ∧ i ≤ l.length ∧ n = l.length - i ∧ Ext h1 h' ∧ (l.take i).all (boxOk s) = true) ?_ l.length _ _
      ⟨0, e1, e19, e20, e21, rfl, rfl, rfl, by omega, rfl, .refl _, by simp⟩
    rintro n e h2 ⟨i, e1, e19, e20, e21, e28, e29, e30, hi, rfl, E4, hall2⟩
    simp (disch := omega) only [VW, VY, VZ, VA, VB, VC, VE, TY, ↓reduceIte, Nat.reduceEqDiff, Nat.reduceAdd, Nat.reduceMul, Nat.reduceSub, Nat.reduceLeDiff, List.length_cons, List.length_nil, List.length_append, List.append_assoc, List.take_succ_cons, List.take_zero, List.drop_succ_cons, List.drop_zero, List.set_cons_zero, List.set_cons_succ, true_or, or_true, and_self, Bool.false_eq_true, Nat.le_refl, Option.bind_some, Option.map_some, Option.getD_some, Option.isSome_some, List.map_cons, List.map_nil, List.cons_append, List.nil_append, List.append_nil, List.getElem?_cons_zero, List.getElem?_cons_succ, eq_self, Int.reduceLT, Int.reduceLE, Int.reduceNeg, Int.reduceEq, e28, e29, e30]
    by_cases hlt2 : i < l.length
    · obtain ⟨y, hy⟩ := get_some hlt2
      have q2 : (i : Int) < (l.length : Int) := by omega
      obtain ⟨ys, y3, y4⟩ := (rv.mono E4).at hy
      rw [Bx.sz] at y3
      have y4' := y4
      obtain ⟨w1, w2, rfl, t1, t2, t3⟩ := here_Bx y4
      have sb := Sep.blk1 h2 [.int .i64 y.k, w1, w2] 42 true
      simp (disch := omega) only [VW, VY, VZ, VA, VB, VC, VE, TY, ↓reduceIte, Nat.reduceEqDiff, Nat.reduceAdd, Nat.reduceMul, Nat.reduceSub, Nat.reduceLeDiff, List.length_cons, List.length_nil, List.length_append, List.append_assoc, List.take_succ_cons, List.take_zero, List.drop_succ_cons, List.drop_zero, List.set_cons_zero, List.set_cons_succ, true_or, or_true, and_self, Bool.false_eq_true, Nat.le_refl, Option.bind_some, Option.map_some, Option.getD_some, Option.isSome_some, List.map_cons, List.map_nil, List.cons_append, List.nil_append, List.append_nil, List.getElem?_cons_zero, List.getElem?_cons_succ, eq_self, Int.reduceLT, Int.reduceLE, Int.reduceNeg, Int.reduceEq, e1, e19, e20, e21, e28, e29, e30, q2, rv.isRow.ix, y3]
      refine .inl ⟨by kernel_rfl, ?_⟩; refine bxGood_c (y4'.mono sb.ext) fun h3 E5 => ?_
      have sb := sb.mono E5
      have gb := sb.rd
      have E6 := E4.trans sb.ext
      cases hb : boxM y with
      | false =>
        simp (disch := omega) only [VW, VY, VZ, VA, VB, VC, VE, TY, ↓reduceIte, Nat.reduceEqDiff, Nat.reduceAdd, Nat.reduceMul, Nat.reduceSub, Nat.reduceLeDiff, List.length_cons, List.length_nil, List.length_append, List.append_assoc, List.take_succ_cons, List.take_zero, List.drop_succ_cons, List.drop_zero, List.set_cons_zero, List.set_cons_succ, true_or, or_true, and_self, Bool.false_eq_true, Nat.le_refl, Option.bind_some, Option.map_some, Option.getD_some, Option.isSome_some, List.map_cons, List.map_nil, List.cons_append, List.nil_append, List.append_nil, List.getElem?_cons_zero, List.getElem?_cons_succ, eq_self, Int.reduceLT, Int.reduceLE, Int.reduceNeg, Int.reduceEq]
        rw [all_false hl (by simp only [listOk, Bool.and_eq_false_iff]; exact .inr (all_false hy (by simp [boxOk, hb])))] at hQ
        exact hQ _ (E.trans (E3.trans E6))
      | true =>
        simp (disch := omega) only [VW, VY, VZ, VA, VB, VC, VE, TY, ↓reduceIte, Nat.reduceEqDiff, Nat.reduceAdd, Nat.reduceMul, Nat.reduceSub, Nat.reduceLeDiff, List.length_cons, List.length_nil, List.length_append, List.append_assoc, List.take_succ_cons, List.take_zero, List.drop_succ_cons, List.drop_zero, List.set_cons_zero, List.set_cons_succ, true_or, or_true, and_self, Bool.false_eq_true, Nat.le_refl, Option.bind_some, Option.map_some, Option.getD_some, Option.isSome_some, List.map_cons, List.map_nil, List.cons_append, List.nil_append, List.append_nil, List.getElem?_cons_zero, List.getElem?_cons_succ, eq_self, Int.reduceLT, Int.reduceLE, Int.reduceNeg, Int.reduceEq, e1, gb, t2.isRow.len]
        by_cases c8 : (y.low.length : Int) = s
        · simp (disch := omega) only [VW, VY, VZ, VA, VB, VC, VE, TY, ↓reduceIte, Nat.reduceEqDiff, Nat.reduceAdd, Nat.reduceMul, Nat.reduceSub, Nat.reduceLeDiff, List.length_cons, List.length_nil, List.length_append, List.append_assoc, List.take_succ_cons, List.take_zero, List.drop_succ_cons, List.drop_zero, List.set_cons_zero, List.set_cons_succ, true_or, or_true, and_self, Bool.false_eq_true, Nat.le_refl, Option.bind_some, Option.map_some, Option.getD_some, Option.isSome_some, List.map_cons, List.map_nil, List.cons_append, List.nil_append, List.append_nil, List.getElem?_cons_zero, List.getElem?_cons_succ, eq_self, Int.reduceLT, Int.reduceLE, Int.reduceNeg, Int.reduceEq, c8, e1, e19, e20, e21, e28, e29, e30, wrap_in]
          exact ⟨_, by omega, i + 1, by simp, by omega, rfl, E6, by rw [all_take _ hy, hall2]; simp [boxOk, hb, c8]⟩
        · simp (disch := omega) only [VW, VY, VZ, VA, VB, VC, VE, TY, ↓reduceIte, Nat.reduceEqDiff, Nat.reduceAdd, Nat.reduceMul, Nat.reduceSub, Nat.reduceLeDiff, List.length_cons, List.length_nil, List.length_append, List.append_assoc, List.take_succ_cons, List.take_zero, List.drop_succ_cons, List.drop_zero, List.set_cons_zero, List.set_cons_succ, true_or, or_true, and_self, Bool.false_eq_true, Nat.le_refl, Option.bind_some, Option.map_some, Option.getD_some, Option.isSome_some, List.map_cons, List.map_nil, List.cons_append, List.nil_append, List.append_nil, List.getElem?_cons_zero, List.getElem?_cons_succ, eq_self, Int.reduceLT, Int.reduceLE, Int.reduceNeg, Int.reduceEq, c8]
          rw [all_false hl (by simp only [listOk, Bool.and_eq_false_iff]; exact .inr (all_false hy (by simp [boxOk, c8])))] at hQ
          exact hQ _ (E.trans (E3.trans E6))
    · obtain rfl : i = l.length := by omega
      have q2 : ¬ (l.length : Int) < (l.length : Int) := by omega
      rw [List.take_length] at hall2
      simp (disch := omega) only [VW, VY, VZ, VA, VB, VC, VE, TY, ↓reduceIte, Nat.reduceEqDiff, Nat.reduceAdd, Nat.reduceMul, Nat.reduceSub, Nat.reduceLeDiff, List.length_cons, List.length_nil, List.length_append, List.append_assoc, List.take_succ_cons, List.take_zero, List.drop_succ_cons, List.drop_zero, List.set_cons_zero, List.set_cons_succ, true_or, or_true, and_self, Bool.false_eq_true, Nat.le_refl, Option.bind_some, Option.map_some, Option.getD_some, Option.isSome_some, List.map_cons, List.map_nil, List.cons_append, List.nil_append, List.append_nil, List.getElem?_cons_zero, List.getElem?_cons_succ, eq_self, Int.reduceLT, Int.reduceLE, Int.reduceNeg, Int.reduceEq, q2, e1, e19, e20, e21, wrap_in]
      exact ⟨_, by omega, j + 1, by simp, by omega, rfl, E3.trans E4, by rw [all_take _ hl, hall]; simp only [listOk, hall2, Bool.and_true, Bool.true_and, decide_eq_true_eq]; omega⟩
  · obtain rfl : j = 4 := by omega
    have q4 : ¬ ((4 : Nat) : Int) < ((4 : Nat) : Int) := by decide
    rw [← hl4, List.take_length] at hall
    rw [hall] at hQ
    simp (disch := omega) only [VW, VY, VZ, VA, VB, VC, VE, TY, ↓reduceIte, Nat.reduceEqDiff, Nat.reduceAdd, Nat.reduceMul, Nat.reduceSub, Nat.reduceLeDiff, List.length_cons, List.length_nil, List.length_append, List.append_assoc, List.take_succ_cons, List.take_zero, List.drop_succ_cons, List.drop_zero, List.set_cons_zero, List.set_cons_succ, true_or, or_true, and_self, Bool.false_eq_true, Nat.le_refl, Option.bind_some, Option.map_some, Option.getD_some, Option.isSome_some, List.map_cons, List.map_nil, List.cons_append, List.nil_append, List.append_nil, List.getElem?_cons_zero, List.getElem?_cons_succ, eq_self, Int.reduceLT, Int.reduceLE, Int.reduceNeg, Int.reduceEq, q4]
    exact hQ _ (E.trans E3)

end Go.Proofs
