/- Contracts of functions, facts of types, or the plain law behind one statement (own work): P4. Conditions: those told in each theorem. -/
import Derived.Test.YtheliocfcjkbhaaP3
import Derived.Test.YtheliocfcjkbhaaK3
set_option linter.all false
set_option linter.unusedSimpArgs false
set_option linter.unusedVariables false
set_option maxRecDepth 4000
namespace Go.Proofs
open Go Go.V

theorem newPool_cnt (x : Wk) (s : Int) : Mrk.cnt (newPoolM x s).1 ≤ 8 * Siz.siz x := by
  unfold newPoolM
  cases workM x s with
  | false =>
    have : Mrk.cnt (⟨⟨[], [], [], [], 0⟩, []⟩ : Pl) = 0 := rfl
    simp [this]
  | true =>
    have e : Mrk.cnt (⟨x, []⟩ : Pl) = Mrk.cnt x + 0 := rfl
    have := CntB.c x
    simp only [if_true]
    omega

def busyM (x : Pl) (s : Int) : List Int × Bool := if poolM x s = true then (x.taken.map (·.worker), true) else ([], false)
theorem poolM_len {x : Pl} {s : Int} (h : poolM x s = true) : x.taken.length ≤ 8 := by
  simp only [poolM, Bool.and_eq_true] at h
  have := takenM_len h.1 (by decide)
  omega
theorem busy_cnt (x : Pl) (s : Int) : cntL (busyM x s).1 ≤ 8 := by
  have c1 : ∀ l : List Int, cntL l = l.length := fun l => by
    induction l with
    | nil => rfl
    | cons y l ih => have : cntL (y :: l) = 1 + cntL l := rfl; simp [this, ih]; omega
  rw [c1]
  unfold busyM
  by_cases h : poolM x s = true
  · rw [if_pos h]; have := poolM_len h; simpa using this
  · rw [if_neg h]; simp

theorem BusyWorkers_i {x : Pl} {cs : List Value} {s : Int} {h : Heap} {Q : Value → Heap → Prop} (hx : Here h x cs) (hQ : ∀ w h', Sep h h' [repA (busyM x s).1 [w]] → Q (.tuple #[w, .bool (busyM x s).2]) h') :
    CallsV Try.prog 37 [.agg cs.toArray, .int .i64 s] h Q := by
  have hxx := hx
  obtain ⟨v1, v2, v3, v4, v5, rfl, r1, r2, r3, r4, f5, r6⟩ := here_Pl hx
  refine CallsV.start Try.func37 rfl (by rw [Try.results37]) (by kernel_rfl) (by rw [Try.ntmps37]; simp) ?_
  have sp := Sep.blk1 h [v1, v2, v3, v4, .int .i64 x.work.steps, v5] 47 true
  unfold busyM at hQ
  simp (disch := omega) only [VW, VY, VZ, VA, VB, TY, ↓reduceIte, Nat.reduceEqDiff, Nat.reduceAdd, Nat.reduceMul, Nat.reduceSub, Nat.reduceLeDiff, List.length_cons, List.length_nil, List.length_append, List.append_assoc, List.take_succ_cons, List.take_zero, List.drop_succ_cons, List.drop_zero, List.set_cons_zero, List.set_cons_succ, true_or, or_true, and_self, Bool.false_eq_true, Nat.le_refl, Option.bind_some, Option.map_some, Option.getD_some, Option.isSome_some, List.map_cons, List.map_nil, List.cons_append, List.nil_append, List.append_nil, List.getElem?_cons_zero, List.getElem?_cons_succ, eq_self, Int.reduceLT, Int.reduceLE, Int.reduceNeg, Int.reduceEq]
  refine .inl ⟨by kernel_rfl, ?_⟩; refine isPool_c (sp.ptr (hxx.mono sp.ext)) fun h1 E1 => ?_
  have sp := sp.mono E1
  by_cases hw : poolM x s = true
  · have hn := poolM_len hw
    rw [if_pos hw] at hQ
    rw [hw]
    have g := sp.rd
    simp (disch := omega) only [VW, VY, VZ, VA, VB, TY, ↓reduceIte, Nat.reduceEqDiff, Nat.reduceAdd, Nat.reduceMul, Nat.reduceSub, Nat.reduceLeDiff, List.length_cons, List.length_nil, List.length_append, List.append_assoc, List.take_succ_cons, List.take_zero, List.drop_succ_cons, List.drop_zero, List.set_cons_zero, List.set_cons_succ, true_or, or_true, and_self, Bool.false_eq_true, Nat.le_refl, Option.bind_some, Option.map_some, Option.getD_some, Option.isSome_some, List.map_cons, List.map_nil, List.cons_append, List.nil_append, List.append_nil, List.getElem?_cons_zero, List.getElem?_cons_succ, eq_self, Int.reduceLT, Int.reduceLE, Int.reduceNeg, Int.reduceEq, g, r6.isRow.len]
    refine loop_rule (fun n e h' => ∃ (i : Nat) (vo : Value), e 13 = v5 ∧ e 14 = .int .i64 x.taken.length ∧ e 15 = .int .i64 i ∧ e 6 = vo ∧ i ≤ x.taken.length ∧ n = x.taken.length - i ∧ Sep h h' [ownA 3 ((x.taken.take i).map (·.worker)) vo]) ?_ x.taken.length _ _
      ⟨0, _, rfl, rfl, rfl, rfl, Nat.zero_le _, rfl, (Sep.nil sp.ext).nilA _⟩
    rintro n e h2 ⟨i, vo, e13, e14, e15, e6, hi, rfl, so⟩
    simp (disch := omega) only [VW, VY, VZ, VA, VB, TY, ↓reduceIte, Nat.reduceEqDiff, Nat.reduceAdd, Nat.reduceMul, Nat.reduceSub, Nat.reduceLeDiff, List.length_cons, List.length_nil, List.length_append, List.append_assoc, List.take_succ_cons, List.take_zero, List.drop_succ_cons, List.drop_zero, List.set_cons_zero, List.set_cons_succ, true_or, or_true, and_self, Bool.false_eq_true, Nat.le_refl, Option.bind_some, Option.map_some, Option.getD_some, Option.isSome_some, List.map_cons, List.map_nil, List.cons_append, List.nil_append, List.append_nil, List.getElem?_cons_zero, List.getElem?_cons_succ, eq_self, Int.reduceLT, Int.reduceLE, Int.reduceNeg, Int.reduceEq, e13, e14, e15]
    by_cases hlt : i < x.taken.length
    · obtain ⟨t, ht⟩ := get_some hlt
      have q1 : (i : Int) < (x.taken.length : Int) := by omega
      obtain ⟨ts, t3, t4⟩ := (r6.mono so.ext).at ht
      rw [Tkn.sz] at t3
      obtain ⟨w1, w2, rfl, f1, f2, k1, k2⟩ := here_Tkn t4
      have so := (so.newBlk [.int .i64 t.worker, .int .i64 t.box.k, w1, w2] 106 true).tail
      simp (disch := omega) only [VW, VY, VZ, VA, VB, TY, ↓reduceIte, Nat.reduceEqDiff, Nat.reduceAdd, Nat.reduceMul, Nat.reduceSub, Nat.reduceLeDiff, List.length_cons, List.length_nil, List.length_append, List.append_assoc, List.take_succ_cons, List.take_zero, List.drop_succ_cons, List.drop_zero, List.set_cons_zero, List.set_cons_succ, true_or, or_true, and_self, Bool.false_eq_true, Nat.le_refl, Option.bind_some, Option.map_some, Option.getD_some, Option.isSome_some, List.map_cons, List.map_nil, List.cons_append, List.nil_append, List.append_nil, List.getElem?_cons_zero, List.getElem?_cons_succ, eq_self, Int.reduceLT, Int.reduceLE, Int.reduceNeg, Int.reduceEq, e13, e14, e15, e6, q1, r6.isRow.ix, t3]
      refine sep_append (y := t.worker) (so.rep0 (rep_int f1)).swap (snoc2 _ _ _) (len1 _ _) te22 tk3 rfl (by decide) (by simp; omega) fun v4 h4 so => ?_
      simp (disch := omega) only [VW, VY, VZ, VA, VB, TY, ↓reduceIte, Nat.reduceEqDiff, Nat.reduceAdd, Nat.reduceMul, Nat.reduceSub, Nat.reduceLeDiff, List.length_cons, List.length_nil, List.length_append, List.append_assoc, List.take_succ_cons, List.take_zero, List.drop_succ_cons, List.drop_zero, List.set_cons_zero, List.set_cons_succ, true_or, or_true, and_self, Bool.false_eq_true, Nat.le_refl, Option.bind_some, Option.map_some, Option.getD_some, Option.isSome_some, List.map_cons, List.map_nil, List.cons_append, List.nil_append, List.append_nil, List.getElem?_cons_zero, List.getElem?_cons_succ, eq_self, Int.reduceLT, Int.reduceLE, Int.reduceNeg, Int.reduceEq, e13, e14, e15, wrap_in]
      exact ⟨_, by omega, i + 1, v4, by simp, rfl, by omega, rfl, by rw [List.take_add_one, ht]; simpa using so⟩
    · obtain rfl : i = x.taken.length := by omega
      have q1 : ¬ (x.taken.length : Int) < (x.taken.length : Int) := by omega
      rw [List.take_length] at so
      have pl := so.row.isRow.plain
      simp (disch := omega) only [VW, VY, VZ, VA, VB, TY, ↓reduceIte, Nat.reduceEqDiff, Nat.reduceAdd, Nat.reduceMul, Nat.reduceSub, Nat.reduceLeDiff, List.length_cons, List.length_nil, List.length_append, List.append_assoc, List.take_succ_cons, List.take_zero, List.drop_succ_cons, List.drop_zero, List.set_cons_zero, List.set_cons_succ, true_or, or_true, and_self, Bool.false_eq_true, Nat.le_refl, Option.bind_some, Option.map_some, Option.getD_some, Option.isSome_some, List.map_cons, List.map_nil, List.cons_append, List.nil_append, List.append_nil, List.getElem?_cons_zero, List.getElem?_cons_succ, eq_self, Int.reduceLT, Int.reduceLE, Int.reduceNeg, Int.reduceEq, q1, e6, pl]
      exact hQ _ _ so.toRep
  · have hw' : poolM x s = false := by simpa using hw
    rw [if_neg hw] at hQ
    rw [hw']
    simp (disch := omega) only [VW, VY, VZ, VA, VB, TY, ↓reduceIte, Nat.reduceEqDiff, Nat.reduceAdd, Nat.reduceMul, Nat.reduceSub, Nat.reduceLeDiff, List.length_cons, List.length_nil, List.length_append, List.append_assoc, List.take_succ_cons, List.take_zero, List.drop_succ_cons, List.drop_zero, List.set_cons_zero, List.set_cons_succ, true_or, or_true, and_self, Bool.false_eq_true, Nat.le_refl, Option.bind_some, Option.map_some, Option.getD_some, Option.isSome_some, List.map_cons, List.map_nil, List.cons_append, List.nil_append, List.append_nil, List.getElem?_cons_zero, List.getElem?_cons_succ, eq_self, Int.reduceLT, Int.reduceLE, Int.reduceNeg, Int.reduceEq]
    exact hQ _ _ ((Sep.nil sp.ext).rep0 rep_nil)
theorem BusyWorkers_s {x : Pl} {cs : List Value} {s : Int} {h : Heap} {Q : Value → Heap → Prop} (hx : Here h x cs) (hQ : ∀ w h', Sep h h' [repA (busyM x s).1 [w]] → Q (.tuple #[w, .bool (busyM x s).2]) h') :
    CallsV Try.prog 36 [.agg cs.toArray, .int .i64 s] h Q := by
  have hxx := hx
  obtain ⟨v1, v2, v3, v4, v5, rfl, r1, r2, r3, r4, f5, r6⟩ := here_Pl hx
  refine CallsV.start Try.func36 rfl (by rw [Try.results36]) (by kernel_rfl) (by rw [Try.ntmps36]; simp) ?_
  have sp := Sep.blk1 h [v1, v2, v3, v4, .int .i64 x.work.steps, v5] 47 true
  unfold busyM at hQ
  simp (disch := omega) only [VW, VY, VZ, VA, VB, TY, ↓reduceIte, Nat.reduceEqDiff, Nat.reduceAdd, Nat.reduceMul, Nat.reduceSub, Nat.reduceLeDiff, List.length_cons, List.length_nil, List.length_append, List.append_assoc, List.take_succ_cons, List.take_zero, List.drop_succ_cons, List.drop_zero, List.set_cons_zero, List.set_cons_succ, true_or, or_true, and_self, Bool.false_eq_true, Nat.le_refl, Option.bind_some, Option.map_some, Option.getD_some, Option.isSome_some, List.map_cons, List.map_nil, List.cons_append, List.nil_append, List.append_nil, List.getElem?_cons_zero, List.getElem?_cons_succ, eq_self, Int.reduceLT, Int.reduceLE, Int.reduceNeg, Int.reduceEq]
  refine .inl ⟨by kernel_rfl, ?_⟩; refine wkGood_c (hxx.mono sp.ext) fun h1 E1 => ?_
  have sp := sp.mono E1
  by_cases hw : poolM x s = true
  · have hn := poolM_len hw
    rw [if_pos hw] at hQ
    rw [hw]
    have g := sp.rd
    simp (disch := omega) only [VW, VY, VZ, VA, VB, TY, ↓reduceIte, Nat.reduceEqDiff, Nat.reduceAdd, Nat.reduceMul, Nat.reduceSub, Nat.reduceLeDiff, List.length_cons, List.length_nil, List.length_append, List.append_assoc, List.take_succ_cons, List.take_zero, List.drop_succ_cons, List.drop_zero, List.set_cons_zero, List.set_cons_succ, true_or, or_true, and_self, Bool.false_eq_true, Nat.le_refl, Option.bind_some, Option.map_some, Option.getD_some, Option.isSome_some, List.map_cons, List.map_nil, List.cons_append, List.nil_append, List.append_nil, List.getElem?_cons_zero, List.getElem?_cons_succ, eq_self, Int.reduceLT, Int.reduceLE, Int.reduceNeg, Int.reduceEq, g, r6.isRow.len]
    refine loop_rule (fun n e h' => ∃ (i : Nat) (vo : Value), e 14 = v5 ∧ e 15 = .int .i64 x.taken.length ∧ e 16 = .int .i64 i ∧ e 6 = vo ∧ i ≤ x.taken.length ∧ n = x.taken.length - i ∧ Sep h h' [ownA 3 ((x.taken.take i).map (·.worker)) vo]) ?_ x.taken.length _ _
      ⟨0, _, rfl, rfl, rfl, rfl, Nat.zero_le _, rfl, (Sep.nil sp.ext).nilA _⟩
    rintro n e h2 ⟨i, vo, e14, e15, e16, e6, hi, rfl, so⟩
    simp (disch := omega) only [VW, VY, VZ, VA, VB, TY, ↓reduceIte, Nat.reduceEqDiff, Nat.reduceAdd, Nat.reduceMul, Nat.reduceSub, Nat.reduceLeDiff, List.length_cons, List.length_nil, List.length_append, List.append_assoc, List.take_succ_cons, List.take_zero, List.drop_succ_cons, List.drop_zero, List.set_cons_zero, List.set_cons_succ, true_or, or_true, and_self, Bool.false_eq_true, Nat.le_refl, Option.bind_some, Option.map_some, Option.getD_some, Option.isSome_some, List.map_cons, List.map_nil, List.cons_append, List.nil_append, List.append_nil, List.getElem?_cons_zero, List.getElem?_cons_succ, eq_self, Int.reduceLT, Int.reduceLE, Int.reduceNeg, Int.reduceEq, e14, e15, e16]
    by_cases hlt : i < x.taken.length
    · obtain ⟨t, ht⟩ := get_some hlt
      have q1 : (i : Int) < (x.taken.length : Int) := by omega
      obtain ⟨ts, t3, t4⟩ := (r6.mono so.ext).at ht
      rw [Tkn.sz] at t3
      obtain ⟨w1, w2, rfl, f1, f2, k1, k2⟩ := here_Tkn t4
      have so := (so.newBlk [.int .i64 t.worker, .int .i64 t.box.k, w1, w2] 106 true).tail
      simp (disch := omega) only [VW, VY, VZ, VA, VB, TY, ↓reduceIte, Nat.reduceEqDiff, Nat.reduceAdd, Nat.reduceMul, Nat.reduceSub, Nat.reduceLeDiff, List.length_cons, List.length_nil, List.length_append, List.append_assoc, List.take_succ_cons, List.take_zero, List.drop_succ_cons, List.drop_zero, List.set_cons_zero, List.set_cons_succ, true_or, or_true, and_self, Bool.false_eq_true, Nat.le_refl, Option.bind_some, Option.map_some, Option.getD_some, Option.isSome_some, List.map_cons, List.map_nil, List.cons_append, List.nil_append, List.append_nil, List.getElem?_cons_zero, List.getElem?_cons_succ, eq_self, Int.reduceLT, Int.reduceLE, Int.reduceNeg, Int.reduceEq, e14, e15, e16, e6, q1, r6.isRow.ix, t3]
      refine sep_append (y := t.worker) (so.rep0 (rep_int f1)).swap (snoc2 _ _ _) (len1 _ _) te22 tk3 rfl (by decide) (by simp; omega) fun v4 h4 so => ?_
      simp (disch := omega) only [VW, VY, VZ, VA, VB, TY, ↓reduceIte, Nat.reduceEqDiff, Nat.reduceAdd, Nat.reduceMul, Nat.reduceSub, Nat.reduceLeDiff, List.length_cons, List.length_nil, List.length_append, List.append_assoc, List.take_succ_cons, List.take_zero, List.drop_succ_cons, List.drop_zero, List.set_cons_zero, List.set_cons_succ, true_or, or_true, and_self, Bool.false_eq_true, Nat.le_refl, Option.bind_some, Option.map_some, Option.getD_some, Option.isSome_some, List.map_cons, List.map_nil, List.cons_append, List.nil_append, List.append_nil, List.getElem?_cons_zero, List.getElem?_cons_succ, eq_self, Int.reduceLT, Int.reduceLE, Int.reduceNeg, Int.reduceEq, e14, e15, e16, wrap_in]
      exact ⟨_, by omega, i + 1, v4, by simp, rfl, by omega, rfl, by rw [List.take_add_one, ht]; simpa using so⟩
    · obtain rfl : i = x.taken.length := by omega
      have q1 : ¬ (x.taken.length : Int) < (x.taken.length : Int) := by omega
      rw [List.take_length] at so
      have pl := so.row.isRow.plain
      simp (disch := omega) only [VW, VY, VZ, VA, VB, TY, ↓reduceIte, Nat.reduceEqDiff, Nat.reduceAdd, Nat.reduceMul, Nat.reduceSub, Nat.reduceLeDiff, List.length_cons, List.length_nil, List.length_append, List.append_assoc, List.take_succ_cons, List.take_zero, List.drop_succ_cons, List.drop_zero, List.set_cons_zero, List.set_cons_succ, true_or, or_true, and_self, Bool.false_eq_true, Nat.le_refl, Option.bind_some, Option.map_some, Option.getD_some, Option.isSome_some, List.map_cons, List.map_nil, List.cons_append, List.nil_append, List.append_nil, List.getElem?_cons_zero, List.getElem?_cons_succ, eq_self, Int.reduceLT, Int.reduceLE, Int.reduceNeg, Int.reduceEq, q1, e6, pl]
      exact hQ _ _ so.toRep
  · have hw' : poolM x s = false := by simpa using hw
    rw [if_neg hw] at hQ
    rw [hw']
    simp (disch := omega) only [VW, VY, VZ, VA, VB, TY, ↓reduceIte, Nat.reduceEqDiff, Nat.reduceAdd, Nat.reduceMul, Nat.reduceSub, Nat.reduceLeDiff, List.length_cons, List.length_nil, List.length_append, List.append_assoc, List.take_succ_cons, List.take_zero, List.drop_succ_cons, List.drop_zero, List.set_cons_zero, List.set_cons_succ, true_or, or_true, and_self, Bool.false_eq_true, Nat.le_refl, Option.bind_some, Option.map_some, Option.getD_some, Option.isSome_some, List.map_cons, List.map_nil, List.cons_append, List.nil_append, List.append_nil, List.getElem?_cons_zero, List.getElem?_cons_succ, eq_self, Int.reduceLT, Int.reduceLE, Int.reduceNeg, Int.reduceEq]
    exact hQ _ _ ((Sep.nil sp.ext).rep0 rep_nil)
end Go.Proofs
