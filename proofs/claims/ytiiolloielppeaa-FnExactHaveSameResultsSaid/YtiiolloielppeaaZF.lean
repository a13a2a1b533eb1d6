/- Contracts of functions, facts of types, or the plain law behind one statement (own work): ZF. Conditions: those told in each theorem. -/
import Derived.Test.YtiiolloielppeaaZE
set_option linter.all false
set_option linter.unusedSimpArgs false
set_option linter.unusedVariables false
set_option maxRecDepth 4000
namespace Go.Proofs
open Go Go.V
theorem swapRange_c {A U C W B : List El} {v g : Value} {a h : Heap} {L : List Asr} {Q : Value → Heap → Prop} {ia ib n : Int} (st : St a h (A ++ (U ++ (C ++ (W ++ B)))) v L) (hlen : (A ++ (U ++ (C ++ (W ++ B)))).length ≤ 1000) (hu : W.length = U.length)
    (hia : ia = (A.length : Int)) (hib : ib = (A.length : Int) + (U.length : Int) + (C.length : Int)) (hn : n = (U.length : Int))
    (hQ : ∀ h', St a h' (A ++ (W ++ (C ++ (U ++ B)))) v L → Q (.tuple #[]) h') :
    CallsV Try.prog 142 [v, .int .i64 ia, .int .i64 ib, .int .i64 n, g] h Q := by
  refine CallsV.start Try.func142 rfl (by rw [Try.results142]) (by kernel_rfl) (by rw [Try.ntmps142]; simp) ?_
  simp only [List.length_append] at hlen
  simp (disch := omega) only [VW, VY, VZ, VA, VB, VC, VE, TY, ↓reduceIte, Nat.reduceEqDiff, Nat.reduceAdd, Nat.reduceMul, Nat.reduceSub, Nat.reduceLeDiff, List.length_cons, List.length_nil, List.length_append, List.append_assoc, List.take_succ_cons, List.take_zero, List.drop_succ_cons, List.drop_zero, List.set_cons_zero, List.set_cons_succ, true_or, or_true, and_self, Bool.false_eq_true, Nat.le_refl, Option.bind_some, Option.map_some, Option.getD_some, Option.isSome_some, List.map_cons, List.map_nil, List.cons_append, List.nil_append, List.append_nil, List.getElem?_cons_zero, List.getElem?_cons_succ, eq_self, Int.reduceLT, Int.reduceLE, Int.reduceNeg, Int.reduceEq]
  refine loop_rule (fun m e h' => ∃ (U1 U2 W1 W2 : List El), e 0 = v ∧ e 1 = .int .i64 ia ∧ e 2 = .int .i64 ib ∧ e 3 = .int .i64 n ∧ e 10 = .int .i64 (U1.length : Int) ∧ U1 ++ U2 = U ∧ W1 ++ W2 = W ∧ W1.length = U1.length ∧ m = U2.length ∧ St a h' (A ++ (W1 ++ (U2 ++ (C ++ (U1 ++ (W2 ++ B)))))) v L) ?_ U.length _ _
    ⟨[], U, [], W, rfl, rfl, rfl, rfl, rfl, rfl, rfl, rfl, rfl, st⟩
  rintro m e h1 ⟨U1, U2, W1, W2, e0, e1, e2, e3, e10, rfl, rfl, hl1, rfl, st⟩
  simp only [List.length_append] at hu hib hn hlen
  cases U2 with
  | nil =>
    have hw : W2 = [] := List.eq_nil_of_length_eq_zero (by simp at hu; omega)
    subst hw
    have c1 : ¬ (U1.length : Int) < n := by rw [hn]; simp
    simp (disch := omega) only [VW, VY, VZ, VA, VB, VC, VE, TY, ↓reduceIte, Nat.reduceEqDiff, Nat.reduceAdd, Nat.reduceMul, Nat.reduceSub, Nat.reduceLeDiff, List.length_cons, List.length_nil, List.length_append, List.append_assoc, List.take_succ_cons, List.take_zero, List.drop_succ_cons, List.drop_zero, List.set_cons_zero, List.set_cons_succ, true_or, or_true, and_self, Bool.false_eq_true, Nat.le_refl, Option.bind_some, Option.map_some, Option.getD_some, Option.isSome_some, List.map_cons, List.map_nil, List.cons_append, List.nil_append, List.append_nil, List.getElem?_cons_zero, List.getElem?_cons_succ, eq_self, Int.reduceLT, Int.reduceLE, Int.reduceNeg, Int.reduceEq, e3, e10, c1]
    exact hQ _ (st.as (by simp))
  | cons u U3 =>
  cases W2 with
  | nil => simp at hu; omega
  | cons w W3 =>
  simp only [List.length_cons] at hu hib hn hlen
  have c1 : (U1.length : Int) < n := by rw [hn]; omega
  have st : St a h1 ((A ++ W1) ++ u :: ((U3 ++ (C ++ U1)) ++ w :: (W3 ++ B))) v L := st.as (by simp)
  obtain ⟨i, hi⟩ : ∃ i : Nat, (A ++ W1).length = i := ⟨_, rfl⟩
  obtain ⟨j, hj⟩ : ∃ j : Nat, (A ++ W1).length + 1 + (U3 ++ (C ++ U1)).length = j := ⟨_, rfl⟩
  obtain ⟨gu, gw⟩ := sw_get (A ++ W1) (U3 ++ (C ++ U1)) (W3 ++ B) u w hi hj
  obtain ⟨N, hN⟩ : ∃ N : Nat, ((A ++ W1) ++ u :: ((U3 ++ (C ++ U1)) ++ w :: (W3 ++ B))).length = N := ⟨_, rfl⟩
  have hi' : i = A.length + U1.length := by rw [← hi]; simp; omega
  have hj' : j = A.length + W1.length + 1 + U3.length + C.length + U1.length := by rw [← hj]; simp; omega
  have hN' : N = j + 1 + W3.length + B.length := by rw [← hN, hj']; simp; omega
  have ix := st.len.ix Try.prog
  rw [hN] at ix
  have cu := st.cell gu
  have cw := st.cell gw
  obtain ⟨a0, a1, a2, huc⟩ := Raw3.lit u.2
  obtain ⟨b0, b1, b2, hwc⟩ := Raw3.lit w.2
  rw [huc] at cu
  rw [hwc] at cw
  have k0 : IntKind.i64.wrap (ia + (U1.length : Int)) = (i : Int) := by rw [hia, hi', wrap_in _ (by omega)]; omega
  have k1 : IntKind.i64.wrap (ib + (U1.length : Int)) = (j : Int) := by rw [hib, hj', wrap_in _ (by omega)]; omega
  have k2 : (i : Int) < (N : Int) := by omega
  have k3 : (j : Int) < (N : Int) := by omega
  simp (disch := omega) only [VW, VY, VZ, VA, VB, VC, VE, TY, ↓reduceIte, Nat.reduceEqDiff, Nat.reduceAdd, Nat.reduceMul, Nat.reduceSub, Nat.reduceLeDiff, List.length_cons, List.length_nil, List.length_append, List.append_assoc, List.take_succ_cons, List.take_zero, List.drop_succ_cons, List.drop_zero, List.set_cons_zero, List.set_cons_succ, true_or, or_true, and_self, Bool.false_eq_true, Nat.le_refl, Option.bind_some, Option.map_some, Option.getD_some, Option.isSome_some, List.map_cons, List.map_nil, List.cons_append, List.nil_append, List.append_nil, List.getElem?_cons_zero, List.getElem?_cons_succ, eq_self, Int.reduceLT, Int.reduceLE, Int.reduceNeg, Int.reduceEq, e3, e10, c1]
  refine draw_tail [0, 1, 2, 3, 4, 5, 6, 7, 8, 9, 10, 11, 12, 13, 14, 15, 16, 17, 18, 19, 20] [21, 22, 23] (by kernel_rfl) (by simp only [List.filterMap_cons, List.filterMap_nil, List.getElem?_cons_zero, List.getElem?_cons_succ]; rfl) ?_
  simp (disch := omega) only [VW, VY, VZ, VA, VB, VC, VE, TY, ↓reduceIte, Nat.reduceEqDiff, Nat.reduceAdd, Nat.reduceMul, Nat.reduceSub, Nat.reduceLeDiff, List.length_cons, List.length_nil, List.length_append, List.append_assoc, List.take_succ_cons, List.take_zero, List.drop_succ_cons, List.drop_zero, List.set_cons_zero, List.set_cons_succ, true_or, or_true, and_self, Bool.false_eq_true, Nat.le_refl, Option.bind_some, Option.map_some, Option.getD_some, Option.isSome_some, List.map_cons, List.map_nil, List.cons_append, List.nil_append, List.append_nil, List.getElem?_cons_zero, List.getElem?_cons_succ, eq_self, Int.reduceLT, Int.reduceLE, Int.reduceNeg, Int.reduceEq, e0, e1, e2, e10, ix, cu, cw, k0, k1, k2, k3]
  refine tail_one (i := 21) (pl := [22]) (r := [23]) [] (by kernel_rfl) (by kernel_rfl) (by kernel_rfl) (by simp only [List.filterMap_cons, List.filterMap_nil, List.getElem?_cons_zero, List.getElem?_cons_succ]; rfl) (by rfl) (by simp only [heldCut, List.filter_cons, List.filter_nil, List.contains_cons, List.contains_nil, Nat.reduceBEq, Bool.or_false, Bool.or_true, reduceIte, Bool.false_eq_true]; rfl) ?_
  simp (disch := omega) only [VW, VY, VZ, VA, VB, VC, VE, TY, ↓reduceIte, Nat.reduceEqDiff, Nat.reduceAdd, Nat.reduceMul, Nat.reduceSub, Nat.reduceLeDiff, List.length_cons, List.length_nil, List.length_append, List.append_assoc, List.take_succ_cons, List.take_zero, List.drop_succ_cons, List.drop_zero, List.set_cons_zero, List.set_cons_succ, true_or, or_true, and_self, Bool.false_eq_true, Nat.le_refl, Option.bind_some, Option.map_some, Option.getD_some, Option.isSome_some, List.map_cons, List.map_nil, List.cons_append, List.nil_append, List.append_nil, List.getElem?_cons_zero, List.getElem?_cons_succ, eq_self, Int.reduceLT, Int.reduceLE, Int.reduceNeg, Int.reduceEq, e0, e1, e2, e10, ix, k0, k1, k2, k3]
  rw [← hwc]
  refine St.swap1 st hi hj fun h4 s4 => ?_
  simp (disch := omega) only [VW, VY, VZ, VA, VB, VC, VE, TY, ↓reduceIte, Nat.reduceEqDiff, Nat.reduceAdd, Nat.reduceMul, Nat.reduceSub, Nat.reduceLeDiff, List.length_cons, List.length_nil, List.length_append, List.append_assoc, List.take_succ_cons, List.take_zero, List.drop_succ_cons, List.drop_zero, List.set_cons_zero, List.set_cons_succ, true_or, or_true, and_self, Bool.false_eq_true, Nat.le_refl, Option.bind_some, Option.map_some, Option.getD_some, Option.isSome_some, List.map_cons, List.map_nil, List.cons_append, List.nil_append, List.append_nil, List.getElem?_cons_zero, List.getElem?_cons_succ, eq_self, Int.reduceLT, Int.reduceLE, Int.reduceNeg, Int.reduceEq, e0, e1, e2, e10, ix, k0, k1, k2, k3]
  refine tail_step [(23, [], [], true)] (by kernel_rfl) (by kernel_rfl) (a_cut (by simp only [List.filterMap_cons, List.filterMap_nil, List.getElem?_cons_zero, List.getElem?_cons_succ]; rfl) (by kernel_rfl) ?_ trivial)
  simp (disch := omega) only [VW, VY, VZ, VA, VB, VC, VE, TY, ↓reduceIte, Nat.reduceEqDiff, Nat.reduceAdd, Nat.reduceMul, Nat.reduceSub, Nat.reduceLeDiff, List.length_cons, List.length_nil, List.length_append, List.append_assoc, List.take_succ_cons, List.take_zero, List.drop_succ_cons, List.drop_zero, List.set_cons_zero, List.set_cons_succ, true_or, or_true, and_self, Bool.false_eq_true, Nat.le_refl, Option.bind_some, Option.map_some, Option.getD_some, Option.isSome_some, List.map_cons, List.map_nil, List.cons_append, List.nil_append, List.append_nil, List.getElem?_cons_zero, List.getElem?_cons_succ, eq_self, Int.reduceLT, Int.reduceLE, Int.reduceNeg, Int.reduceEq, e0, e1, e2, e10, ix, k0, k1, k2, k3]
  rw [← huc]
  refine St.swap11 s4 hi hj fun h5 st5 => ?_
  have k4 : IntKind.i64.wrap ((U1.length : Int) + 1) = (((U1 ++ [u]).length : Nat) : Int) := by rw [wrap_in _ (by omega)]; simp
  simp (disch := omega) only [VW, VY, VZ, VA, VB, VC, VE, TY, ↓reduceIte, Nat.reduceEqDiff, Nat.reduceAdd, Nat.reduceMul, Nat.reduceSub, Nat.reduceLeDiff, List.length_cons, List.length_nil, List.length_append, List.append_assoc, List.take_succ_cons, List.take_zero, List.drop_succ_cons, List.drop_zero, List.set_cons_zero, List.set_cons_succ, true_or, or_true, and_self, Bool.false_eq_true, Nat.le_refl, Option.bind_some, Option.map_some, Option.getD_some, Option.isSome_some, List.map_cons, List.map_nil, List.cons_append, List.nil_append, List.append_nil, List.getElem?_cons_zero, List.getElem?_cons_succ, eq_self, Int.reduceLT, Int.reduceLE, Int.reduceNeg, Int.reduceEq, e0, e1, e2, e3, e10, k4]
  exact ⟨U3.length, by simp, U1 ++ [u], U3, W1 ++ [w], W3, by simp, by simp, by simp, by simp [hl1], rfl, st5.as (by simp)⟩
theorem rotate_c {A U W B : List El} {v g : Value} {a h : Heap} {L : List Asr} {Q : Value → Heap → Prop} {ia im ib : Int} (st : St a h (A ++ (U ++ (W ++ B))) v L) (hlen : (A ++ (U ++ (W ++ B))).length ≤ 1000) (hu : 0 < U.length) (hw : 0 < W.length)
    (hia : ia = (A.length : Int)) (him : im = (A.length : Int) + (U.length : Int)) (hib : ib = (A.length : Int) + (U.length : Int) + (W.length : Int))
    (hQ : ∀ h', St a h' (A ++ (W ++ (U ++ B))) v L → Q (.tuple #[]) h') :
    CallsV Try.prog 139 [v, .int .i64 ia, .int .i64 im, .int .i64 ib, g] h Q := by
  refine CallsV.start Try.func139 rfl (by rw [Try.results139]) (by kernel_rfl) (by rw [Try.ntmps139]; simp) ?_
  simp only [List.length_append] at hlen
  have w1 : IntKind.i64.wrap (im - ia) = (U.length : Int) := by rw [him, hia, wrap_in _ (by omega)]; omega
  have w2 : IntKind.i64.wrap (ib - im) = (W.length : Int) := by rw [him, hib, wrap_in _ (by omega)]; omega
  simp (disch := omega) only [VW, VY, VZ, VA, VB, VC, VE, TY, ↓reduceIte, Nat.reduceEqDiff, Nat.reduceAdd, Nat.reduceMul, Nat.reduceSub, Nat.reduceLeDiff, List.length_cons, List.length_nil, List.length_append, List.append_assoc, List.take_succ_cons, List.take_zero, List.drop_succ_cons, List.drop_zero, List.set_cons_zero, List.set_cons_succ, true_or, or_true, and_self, Bool.false_eq_true, Nat.le_refl, Option.bind_some, Option.map_some, Option.getD_some, Option.isSome_some, List.map_cons, List.map_nil, List.cons_append, List.nil_append, List.append_nil, List.getElem?_cons_zero, List.getElem?_cons_succ, eq_self, Int.reduceLT, Int.reduceLE, Int.reduceNeg, Int.reduceEq, w1, w2]
  refine loop_rule (fun m e h' => ∃ (A1 X Y B1 : List El), e 0 = v ∧ e 2 = .int .i64 im ∧ e 4 = g ∧ e 10 = .int .i64 (X.length : Int) ∧ e 11 = .int .i64 (Y.length : Int) ∧ 0 < X.length ∧ 0 < Y.length ∧ im = (A1.length : Int) + (X.length : Int) ∧ A1.length + (X.length + (Y.length + B1.length)) ≤ 1000 ∧ A1 ++ (Y ++ (X ++ B1)) = A ++ (W ++ (U ++ B)) ∧ m = X.length + Y.length ∧ St a h' (A1 ++ (X ++ (Y ++ B1))) v L) ?_ (U.length + W.length) _ _
    ⟨A, U, W, B, rfl, rfl, rfl, rfl, rfl, hu, hw, him, by omega, rfl, rfl, st⟩
  rintro m e h1 ⟨A1, X, Y, B1, e0, e2, e4, e10, e11, hx, hy, hm, hle, heq, rfl, st⟩
  have q1 : IntKind.i64.wrap (im - (X.length : Int)) = (A1.length : Int) := by rw [hm, wrap_in _ (by omega)]; omega
  rcases Nat.lt_trichotomy X.length Y.length with c | c | c
  · have c1 : ¬ (X.length : Int) = (Y.length : Int) := by omega
    have c2 : ¬ (Y.length : Int) < (X.length : Int) := by omega
    have q2 : IntKind.i64.wrap (im + (Y.length : Int)) = im + (Y.length : Int) := wrap_in _ (by omega)
    have q3 : IntKind.i64.wrap (im + (Y.length : Int) - (X.length : Int)) = im + (Y.length : Int) - (X.length : Int) := wrap_in _ (by omega)
    obtain ⟨Y1, Y2, rfl, hY2⟩ : ∃ Y1 Y2 : List El, Y = Y1 ++ Y2 ∧ Y2.length = X.length := ⟨Y.take (Y.length - X.length), Y.drop (Y.length - X.length), (List.take_append_drop _ _).symm, by rw [List.length_drop]; omega⟩
    simp only [List.length_append] at c c1 c2 q2 q3 hy hle e11
    have q4 : IntKind.i64.wrap (((Y1.length + Y2.length : Nat) : Int) - (X.length : Int)) = (Y1.length : Int) := by rw [wrap_in _ (by omega)]; omega
    simp (disch := omega) only [VW, VY, VZ, VA, VB, VC, VE, TY, ↓reduceIte, Nat.reduceEqDiff, Nat.reduceAdd, Nat.reduceMul, Nat.reduceSub, Nat.reduceLeDiff, List.length_cons, List.length_nil, List.length_append, List.append_assoc, List.take_succ_cons, List.take_zero, List.drop_succ_cons, List.drop_zero, List.set_cons_zero, List.set_cons_succ, true_or, or_true, and_self, Bool.false_eq_true, Nat.le_refl, Option.bind_some, Option.map_some, Option.getD_some, Option.isSome_some, List.map_cons, List.map_nil, List.cons_append, List.nil_append, List.append_nil, List.getElem?_cons_zero, List.getElem?_cons_succ, eq_self, Int.reduceLT, Int.reduceLE, Int.reduceNeg, Int.reduceEq, e0, e2, e4, e10, e11, c1, c2, q1, q2, q3]
    refine .inl ⟨by kernel_rfl, ?_⟩; refine swapRange_c (A := A1) (U := X) (C := Y1) (W := Y2) (B := B1) (st.as (by simp)) (by simp only [List.length_append]; omega) hY2 rfl (by rw [hm]; omega) rfl fun h5 st5 => ?_
    simp (disch := omega) only [VW, VY, VZ, VA, VB, VC, VE, TY, ↓reduceIte, Nat.reduceEqDiff, Nat.reduceAdd, Nat.reduceMul, Nat.reduceSub, Nat.reduceLeDiff, List.length_cons, List.length_nil, List.length_append, List.append_assoc, List.take_succ_cons, List.take_zero, List.drop_succ_cons, List.drop_zero, List.set_cons_zero, List.set_cons_succ, true_or, or_true, and_self, Bool.false_eq_true, Nat.le_refl, Option.bind_some, Option.map_some, Option.getD_some, Option.isSome_some, List.map_cons, List.map_nil, List.cons_append, List.nil_append, List.append_nil, List.getElem?_cons_zero, List.getElem?_cons_succ, eq_self, Int.reduceLT, Int.reduceLE, Int.reduceNeg, Int.reduceEq, e0, e2, e4, e10, e11, q4]
    exact ⟨Y2.length + Y1.length, by omega, A1, Y2, Y1, X ++ B1, by rw [hY2], rfl, by omega, by omega, by omega, by rw [List.length_append]; omega, by rw [← heq]; simp, rfl, st5⟩
  · have c1 : (X.length : Int) = (Y.length : Int) := by omega
    simp (disch := omega) only [VW, VY, VZ, VA, VB, VC, VE, TY, ↓reduceIte, Nat.reduceEqDiff, Nat.reduceAdd, Nat.reduceMul, Nat.reduceSub, Nat.reduceLeDiff, List.length_cons, List.length_nil, List.length_append, List.append_assoc, List.take_succ_cons, List.take_zero, List.drop_succ_cons, List.drop_zero, List.set_cons_zero, List.set_cons_succ, true_or, or_true, and_self, Bool.false_eq_true, Nat.le_refl, Option.bind_some, Option.map_some, Option.getD_some, Option.isSome_some, List.map_cons, List.map_nil, List.cons_append, List.nil_append, List.append_nil, List.getElem?_cons_zero, List.getElem?_cons_succ, eq_self, Int.reduceLT, Int.reduceLE, Int.reduceNeg, Int.reduceEq, e0, e2, e4, e10, e11, c1]
    rw [c1] at q1
    simp (disch := omega) only [VW, VY, VZ, VA, VB, VC, VE, TY, ↓reduceIte, Nat.reduceEqDiff, Nat.reduceAdd, Nat.reduceMul, Nat.reduceSub, Nat.reduceLeDiff, List.length_cons, List.length_nil, List.length_append, List.append_assoc, List.take_succ_cons, List.take_zero, List.drop_succ_cons, List.drop_zero, List.set_cons_zero, List.set_cons_succ, true_or, or_true, and_self, Bool.false_eq_true, Nat.le_refl, Option.bind_some, Option.map_some, Option.getD_some, Option.isSome_some, List.map_cons, List.map_nil, List.cons_append, List.nil_append, List.append_nil, List.getElem?_cons_zero, List.getElem?_cons_succ, eq_self, Int.reduceLT, Int.reduceLE, Int.reduceNeg, Int.reduceEq, q1]
    refine .inl ⟨by kernel_rfl, ?_⟩; refine swapRange_c (A := A1) (U := X) (C := []) (W := Y) (B := B1) (st.as (by simp)) (by simp only [List.length_append, List.length_nil]; omega) c.symm rfl (by rw [hm]; simp) (by omega) fun h5 st5 => ?_
    simp (disch := omega) only [VW, VY, VZ, VA, VB, VC, VE, TY, ↓reduceIte, Nat.reduceEqDiff, Nat.reduceAdd, Nat.reduceMul, Nat.reduceSub, Nat.reduceLeDiff, List.length_cons, List.length_nil, List.length_append, List.append_assoc, List.take_succ_cons, List.take_zero, List.drop_succ_cons, List.drop_zero, List.set_cons_zero, List.set_cons_succ, true_or, or_true, and_self, Bool.false_eq_true, Nat.le_refl, Option.bind_some, Option.map_some, Option.getD_some, Option.isSome_some, List.map_cons, List.map_nil, List.cons_append, List.nil_append, List.append_nil, List.getElem?_cons_zero, List.getElem?_cons_succ, eq_self, Int.reduceLT, Int.reduceLE, Int.reduceNeg, Int.reduceEq]
    exact hQ _ (st5.as (by rw [← heq]; simp))
  · have c1 : ¬ (X.length : Int) = (Y.length : Int) := by omega
    have c2 : (Y.length : Int) < (X.length : Int) := by omega
    obtain ⟨X1, X2, rfl, hX1⟩ : ∃ X1 X2 : List El, X = X1 ++ X2 ∧ X1.length = Y.length := ⟨X.take Y.length, X.drop Y.length, (List.take_append_drop _ _).symm, by rw [List.length_take]; omega⟩
    simp only [List.length_append] at c c1 c2 q1 hx hm hle e10
    have q4 : IntKind.i64.wrap (((X1.length + X2.length : Nat) : Int) - (Y.length : Int)) = (X2.length : Int) := by rw [wrap_in _ (by omega)]; omega
    simp (disch := omega) only [VW, VY, VZ, VA, VB, VC, VE, TY, ↓reduceIte, Nat.reduceEqDiff, Nat.reduceAdd, Nat.reduceMul, Nat.reduceSub, Nat.reduceLeDiff, List.length_cons, List.length_nil, List.length_append, List.append_assoc, List.take_succ_cons, List.take_zero, List.drop_succ_cons, List.drop_zero, List.set_cons_zero, List.set_cons_succ, true_or, or_true, and_self, Bool.false_eq_true, Nat.le_refl, Option.bind_some, Option.map_some, Option.getD_some, Option.isSome_some, List.map_cons, List.map_nil, List.cons_append, List.nil_append, List.append_nil, List.getElem?_cons_zero, List.getElem?_cons_succ, eq_self, Int.reduceLT, Int.reduceLE, Int.reduceNeg, Int.reduceEq, e0, e2, e4, e10, e11, c1, c2, q1]
    refine .inl ⟨by kernel_rfl, ?_⟩; refine swapRange_c (A := A1) (U := X1) (C := X2) (W := Y) (B := B1) (st.as (by simp)) (by simp only [List.length_append]; omega) hX1.symm rfl (by rw [hm]; omega) (by omega) fun h5 st5 => ?_
    simp (disch := omega) only [VW, VY, VZ, VA, VB, VC, VE, TY, ↓reduceIte, Nat.reduceEqDiff, Nat.reduceAdd, Nat.reduceMul, Nat.reduceSub, Nat.reduceLeDiff, List.length_cons, List.length_nil, List.length_append, List.append_assoc, List.take_succ_cons, List.take_zero, List.drop_succ_cons, List.drop_zero, List.set_cons_zero, List.set_cons_succ, true_or, or_true, and_self, Bool.false_eq_true, Nat.le_refl, Option.bind_some, Option.map_some, Option.getD_some, Option.isSome_some, List.map_cons, List.map_nil, List.cons_append, List.nil_append, List.append_nil, List.getElem?_cons_zero, List.getElem?_cons_succ, eq_self, Int.reduceLT, Int.reduceLE, Int.reduceNeg, Int.reduceEq, e0, e2, e4, e10, e11, q4]
    exact ⟨X2.length + X1.length, by omega, A1 ++ Y, X2, X1, B1, rfl, by rw [hX1], by omega, by omega, by rw [List.length_append]; omega, by rw [List.length_append]; omega, by rw [← heq]; simp, rfl, st5.as (by simp)⟩
end Go.Proofs
