/- Contracts of functions, facts of types, or the plain law behind one statement (own work): ZK. Conditions: those told in each theorem. -/
import Derived.Test.YtiiolloielppeaaZJ
set_option linter.all false
set_option linter.unusedSimpArgs false
set_option linter.unusedVariables false
set_option maxRecDepth 4000
namespace Go.Proofs
open Go Go.V
def dimL : List Bx → Nat
  | [] => 0
  | x :: _ => x.low.length
def okB (d : Nat) (x : Bx) : Bool := boxM x && decide (x.low.length = d)
def sortAllM (l : List Bx) : List Bx × Bool := if l.all (okB (dimL l)) && decide (l.length ≤ 40) then (sortM l, true) else ([], false)
theorem okB_gd {d : Nat} {x : Bx} (h : okB d x = true) : Gd d x := by
  unfold okB at h
  simpa [Gd] using h
theorem dimL_get {l : List Bx} {x : Bx} (h : l[0]? = some x) : dimL l = x.low.length := by
  cases l with
  | nil => simp at h
  | cons y l => simp at h; subst h; rfl
theorem SortBoxes_i {l : List Bx} {v : Value} {h : Heap} {Q : Value → Heap → Prop} (r : Row h l v) (hQ : ∀ w h', Sep h h' [repA (sortAllM l).1 [w]] → Q (.tuple #[w, .bool (sortAllM l).2]) h') :
    CallsV Try.prog 34 [v] h Q := by
  refine CallsV.start Try.func34 rfl (by rw [Try.results34]) (by kernel_rfl) (by rw [Try.ntmps34]; simp) ?_
  unfold sortAllM at hQ
  have hle := r.le
  simp (disch := omega) only [VW, VY, VZ, VA, VB, VC, VE, TY, ↓reduceIte, Nat.reduceEqDiff, Nat.reduceAdd, Nat.reduceMul, Nat.reduceSub, Nat.reduceLeDiff, List.length_cons, List.length_nil, List.length_append, List.append_assoc, List.take_succ_cons, List.take_zero, List.drop_succ_cons, List.drop_zero, List.set_cons_zero, List.set_cons_succ, true_or, or_true, and_self, Bool.false_eq_true, Nat.le_refl, Option.bind_some, Option.map_some, Option.getD_some, Option.isSome_some, List.map_cons, List.map_nil, List.cons_append, List.nil_append, List.append_nil, List.getElem?_cons_zero, List.getElem?_cons_succ, eq_self, Int.reduceLT, Int.reduceLE, Int.reduceNeg, Int.reduceEq, r.isRow.len]
  refine loop_rule (fun n e h' => ∃ (i : Nat), e 0 = v ∧ e 6 = .int .i64 (l.length : Int) ∧ e 7 = .int .i64 (i : Int) ∧ i ≤ l.length ∧ n = l.length - i ∧ h = h' ∧ (l.take i).all (okB (dimL l)) = true) ?_ l.length _ _
    ⟨0, rfl, rfl, rfl, Nat.zero_le _, rfl, rfl, by simp⟩
  rintro n e h1 ⟨i, e0, e6, e7, hi, rfl, rfl, hall⟩
  simp (disch := omega) only [VW, VY, VZ, VA, VB, VC, VE, TY, ↓reduceIte, Nat.reduceEqDiff, Nat.reduceAdd, Nat.reduceMul, Nat.reduceSub, Nat.reduceLeDiff, List.length_cons, List.length_nil, List.length_append, List.append_assoc, List.take_succ_cons, List.take_zero, List.drop_succ_cons, List.drop_zero, List.set_cons_zero, List.set_cons_succ, true_or, or_true, and_self, Bool.false_eq_true, Nat.le_refl, Option.bind_some, Option.map_some, Option.getD_some, Option.isSome_some, List.map_cons, List.map_nil, List.cons_append, List.nil_append, List.append_nil, List.getElem?_cons_zero, List.getElem?_cons_succ, eq_self, Int.reduceLT, Int.reduceLE, Int.reduceNeg, Int.reduceEq, e6, e7]
  by_cases hlt : i < l.length
  · obtain ⟨x, hx⟩ := get_some hlt
    obtain ⟨y, hy⟩ := get_some (show 0 < l.length by omega)
    have hd := dimL_get hy
    have px := r.ptr hx
    have py := r.ptr hy
    rw [Bx.sz] at px py
    obtain ⟨x1, x2, X0, X1, X2, fx, rx1, rx2, _⟩ := at_Bx px
    obtain ⟨y1, y2, Y0, Y1, Y2, fy, ry1, ry2, _⟩ := at_Bx py
    rw [Nat.zero_mul, Nat.add_zero] at Y1
    have q1 : (i : Int) < (l.length : Int) := by omega
    have q0 : (0 : Int) < (l.length : Int) := by omega
    have hat := all_take (okB (dimL l)) hx
    rw [hall, Bool.true_and] at hat
    simp (disch := omega) only [VW, VY, VZ, VA, VB, VC, VE, TY, ↓reduceIte, Nat.reduceEqDiff, Nat.reduceAdd, Nat.reduceMul, Nat.reduceSub, Nat.reduceLeDiff, List.length_cons, List.length_nil, List.length_append, List.append_assoc, List.take_succ_cons, List.take_zero, List.drop_succ_cons, List.drop_zero, List.set_cons_zero, List.set_cons_succ, true_or, or_true, and_self, Bool.false_eq_true, Nat.le_refl, Option.bind_some, Option.map_some, Option.getD_some, Option.isSome_some, List.map_cons, List.map_nil, List.cons_append, List.nil_append, List.append_nil, List.getElem?_cons_zero, List.getElem?_cons_succ, eq_self, Int.reduceLT, Int.reduceLE, Int.reduceNeg, Int.reduceEq, e7, q1]
    refine draw_id (by kernel_rfl) ?_
    simp (disch := omega) only [VW, VY, VZ, VA, VB, VC, VE, TY, ↓reduceIte, Nat.reduceEqDiff, Nat.reduceAdd, Nat.reduceMul, Nat.reduceSub, Nat.reduceLeDiff, List.length_cons, List.length_nil, List.length_append, List.append_assoc, List.take_succ_cons, List.take_zero, List.drop_succ_cons, List.drop_zero, List.set_cons_zero, List.set_cons_succ, true_or, or_true, and_self, Bool.false_eq_true, Nat.le_refl, Option.bind_some, Option.map_some, Option.getD_some, Option.isSome_some, List.map_cons, List.map_nil, List.cons_append, List.nil_append, List.append_nil, List.getElem?_cons_zero, List.getElem?_cons_succ, eq_self, Int.reduceLT, Int.reduceLE, Int.reduceNeg, Int.reduceEq, e0, r.isRow.ix, q1]
    refine .inl ⟨by kernel_rfl, ?_⟩; refine isBox_c px ?_
    cases hb : boxM x with
    | false =>
      have hf : l.all (okB (dimL l)) = false := all_false hx (by unfold okB; rw [hb]; rfl)
      rw [hf] at hQ
      simp (disch := omega) only [VW, VY, VZ, VA, VB, VC, VE, TY, ↓reduceIte, Nat.reduceEqDiff, Nat.reduceAdd, Nat.reduceMul, Nat.reduceSub, Nat.reduceLeDiff, List.length_cons, List.length_nil, List.length_append, List.append_assoc, List.take_succ_cons, List.take_zero, List.drop_succ_cons, List.drop_zero, List.set_cons_zero, List.set_cons_succ, true_or, or_true, and_self, Bool.false_eq_true, Nat.le_refl, Option.bind_some, Option.map_some, Option.getD_some, Option.isSome_some, List.map_cons, List.map_nil, List.cons_append, List.nil_append, List.append_nil, List.getElem?_cons_zero, List.getElem?_cons_succ, eq_self, Int.reduceLT, Int.reduceLE, Int.reduceNeg, Int.reduceEq]
      exact hQ _ _ ((Sep.nil (.refl h)).rep0 rep_nil)
    | true =>
      by_cases hl : x.low.length = y.low.length
      · have hl' : (x.low.length : Int) = (y.low.length : Int) := by omega
        simp (disch := omega) only [VW, VY, VZ, VA, VB, VC, VE, TY, ↓reduceIte, Nat.reduceEqDiff, Nat.reduceAdd, Nat.reduceMul, Nat.reduceSub, Nat.reduceLeDiff, List.length_cons, List.length_nil, List.length_append, List.append_assoc, List.take_succ_cons, List.take_zero, List.drop_succ_cons, List.drop_zero, List.set_cons_zero, List.set_cons_succ, true_or, or_true, and_self, Bool.false_eq_true, Nat.le_refl, Option.bind_some, Option.map_some, Option.getD_some, Option.isSome_some, List.map_cons, List.map_nil, List.cons_append, List.nil_append, List.append_nil, List.getElem?_cons_zero, List.getElem?_cons_succ, eq_self, Int.reduceLT, Int.reduceLE, Int.reduceNeg, Int.reduceEq, e0, r.isRow.ix, q1, q0, X1, Y1, rx1.isRow.len, ry1.isRow.len, hl', e6, e7, wrap_in]
        exact ⟨_, by omega, i + 1, by simp, by omega, rfl, by rw [hat]; unfold okB; rw [hb, hd, hl]; simp⟩
      · have hl' : ¬ (x.low.length : Int) = (y.low.length : Int) := by omega
        have hf : l.all (okB (dimL l)) = false := all_false hx (by unfold okB; rw [hb, hd]; simpa using hl)
        rw [hf] at hQ
        simp (disch := omega) only [VW, VY, VZ, VA, VB, VC, VE, TY, ↓reduceIte, Nat.reduceEqDiff, Nat.reduceAdd, Nat.reduceMul, Nat.reduceSub, Nat.reduceLeDiff, List.length_cons, List.length_nil, List.length_append, List.append_assoc, List.take_succ_cons, List.take_zero, List.drop_succ_cons, List.drop_zero, List.set_cons_zero, List.set_cons_succ, true_or, or_true, and_self, Bool.false_eq_true, Nat.le_refl, Option.bind_some, Option.map_some, Option.getD_some, Option.isSome_some, List.map_cons, List.map_nil, List.cons_append, List.nil_append, List.append_nil, List.getElem?_cons_zero, List.getElem?_cons_succ, eq_self, Int.reduceLT, Int.reduceLE, Int.reduceNeg, Int.reduceEq, e0, r.isRow.ix, q1, q0, X1, Y1, rx1.isRow.len, ry1.isRow.len, hl']
        exact hQ _ _ ((Sep.nil (.refl h)).rep0 rep_nil)
  · obtain rfl : i = l.length := by omega
    have q1 : ¬ (l.length : Int) < (l.length : Int) := by omega
    rw [List.take_length] at hall
    rw [hall, Bool.true_and] at hQ
    by_cases c : l.length ≤ 40
    · have c1 : ¬ (40 : Int) < (l.length : Int) := by omega
      rw [if_pos (decide_eq_true c)] at hQ
      simp (disch := omega) only [VW, VY, VZ, VA, VB, VC, VE, TY, ↓reduceIte, Nat.reduceEqDiff, Nat.reduceAdd, Nat.reduceMul, Nat.reduceSub, Nat.reduceLeDiff, List.length_cons, List.length_nil, List.length_append, List.append_assoc, List.take_succ_cons, List.take_zero, List.drop_succ_cons, List.drop_zero, List.set_cons_zero, List.set_cons_succ, true_or, or_true, and_self, Bool.false_eq_true, Nat.le_refl, Option.bind_some, Option.map_some, Option.getD_some, Option.isSome_some, List.map_cons, List.map_nil, List.cons_append, List.nil_append, List.append_nil, List.getElem?_cons_zero, List.getElem?_cons_succ, eq_self, Int.reduceLT, Int.reduceLE, Int.reduceNeg, Int.reduceEq, q1, e0, r.isRow.len, c1]
      refine .inl ⟨by kernel_rfl, ?_⟩; refine sortBoxes_c (s := dimL l) r (fun x hx => okB_gd (List.all_eq_true.1 hall x hx)) c fun w h2 s2 => ?_
      have pl := s2.row.isRow.plain
      simp (disch := omega) only [VW, VY, VZ, VA, VB, VC, VE, TY, ↓reduceIte, Nat.reduceEqDiff, Nat.reduceAdd, Nat.reduceMul, Nat.reduceSub, Nat.reduceLeDiff, List.length_cons, List.length_nil, List.length_append, List.append_assoc, List.take_succ_cons, List.take_zero, List.drop_succ_cons, List.drop_zero, List.set_cons_zero, List.set_cons_succ, true_or, or_true, and_self, Bool.false_eq_true, Nat.le_refl, Option.bind_some, Option.map_some, Option.getD_some, Option.isSome_some, List.map_cons, List.map_nil, List.cons_append, List.nil_append, List.append_nil, List.getElem?_cons_zero, List.getElem?_cons_succ, eq_self, Int.reduceLT, Int.reduceLE, Int.reduceNeg, Int.reduceEq, pl]
      exact hQ _ _ s2.toRep
    · have c1 : (40 : Int) < (l.length : Int) := by omega
      rw [if_neg (by simpa using c)] at hQ
      simp (disch := omega) only [VW, VY, VZ, VA, VB, VC, VE, TY, ↓reduceIte, Nat.reduceEqDiff, Nat.reduceAdd, Nat.reduceMul, Nat.reduceSub, Nat.reduceLeDiff, List.length_cons, List.length_nil, List.length_append, List.append_assoc, List.take_succ_cons, List.take_zero, List.drop_succ_cons, List.drop_zero, List.set_cons_zero, List.set_cons_succ, true_or, or_true, and_self, Bool.false_eq_true, Nat.le_refl, Option.bind_some, Option.map_some, Option.getD_some, Option.isSome_some, List.map_cons, List.map_nil, List.cons_append, List.nil_append, List.append_nil, List.getElem?_cons_zero, List.getElem?_cons_succ, eq_self, Int.reduceLT, Int.reduceLE, Int.reduceNeg, Int.reduceEq, q1, e0, r.isRow.len, c1]
      exact hQ _ _ ((Sep.nil (.refl h)).rep0 rep_nil)
end Go.Proofs
