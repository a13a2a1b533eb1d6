/- Contracts of functions, facts of types, or the plain law behind one statement (own work): Q17. Conditions: those told in each theorem. -/
import Derived.Test.YtiiolloielppeaaGreatDoorQ14
set_option linter.all false
set_option linter.unusedSimpArgs false
set_option linter.unusedVariables false
set_option maxRecDepth 4000
set_option linter.unusedSectionVars false
namespace Go.Proofs
open Go Go.V
def restV (s : ByteArray) (t : Int) : Wk := (restM s t).getD wkZ
def restB (s : ByteArray) (t : Int) : Bool := (restM s t).isSome
theorem rest_cnt (s : ByteArray) (t : Int) : Mrk.cnt (restV s t) ≤ 2000 := by
  unfold restV
  cases h : restM s t with
  | none => exact (by decide : Mrk.cnt wkZ ≤ 2000)
  | some w => exact work_cnt (restM_valid h)
theorem Restore_i {s : ByteArray} {t : Int} {h : Heap} {Q : Value → Heap → Prop} (hs : s.size ≤ 1000000)
    (hQ : ∀ cs h', Sep h h' [repA (restV s t) cs] → Q (.tuple #[.agg cs.toArray, .bool (restB s t)]) h') :
    CallsV Tryz.prog 5 [.string s, .int .i64 t] h Q := by
  unfold restV restB at hQ
  refine CallsV.start Tryz.func5 rfl (by rw [Tryz.results5]) (by kernel_rfl) (by rw [Tryz.ntmps5]; simp) ?_
  have u := Sep.blk1 h [.slice none 0 0, .slice none 0 0, .slice none 0 0, .slice none 0 0, .int .i64 0] 24 true
  simp (disch := omega) only [VW, VY, VZ, VA, VB, VC, VE, TY, ↓reduceIte, Nat.reduceEqDiff, Nat.reduceAdd, Nat.reduceMul, Nat.reduceSub, Nat.reduceLeDiff, List.length_cons, List.length_nil, List.length_append, List.append_assoc, List.take_succ_cons, List.take_zero, List.drop_succ_cons, List.drop_zero, List.set_cons_zero, List.set_cons_succ, true_or, or_true, and_self, Bool.false_eq_true, Nat.le_refl, Option.bind_some, Option.map_some, Option.getD_some, Option.isSome_some, List.map_cons, List.map_nil, List.cons_append, List.nil_append, List.append_nil, List.getElem?_cons_zero, List.getElem?_cons_succ, eq_self, Int.reduceLT, Int.reduceLE, Int.reduceNeg, Int.reduceEq]
  refine .inl ⟨by kernel_rfl, ?_⟩; refine inside_c ?_
  by_cases c : 1 ≤ t ∧ t ≤ 3
  · have d := decide_eq_true c
    simp (disch := omega) only [VW, VY, VZ, VA, VB, VC, VE, TY, ↓reduceIte, Nat.reduceEqDiff, Nat.reduceAdd, Nat.reduceMul, Nat.reduceSub, Nat.reduceLeDiff, List.length_cons, List.length_nil, List.length_append, List.append_assoc, List.take_succ_cons, List.take_zero, List.drop_succ_cons, List.drop_zero, List.set_cons_zero, List.set_cons_succ, true_or, or_true, and_self, Bool.false_eq_true, Nat.le_refl, Option.bind_some, Option.map_some, Option.getD_some, Option.isSome_some, List.map_cons, List.map_nil, List.cons_append, List.nil_append, List.append_nil, List.getElem?_cons_zero, List.getElem?_cons_succ, eq_self, Int.reduceLT, Int.reduceLE, Int.reduceNeg, Int.reduceEq, d]
    refine .inl ⟨by kernel_rfl, ?_⟩; refine restore_c hs fun cs h2 s2 => ?_
    have hl := Here.len s2.here
    rw [Wk.sz] at hl
    have tk : cs.take 5 = cs := List.take_of_length_le (Nat.le_of_eq hl)
    have u := u.add s2
    simp (disch := omega) only [VW, VY, VZ, VA, VB, VC, VE, TY, ↓reduceIte, Nat.reduceEqDiff, Nat.reduceAdd, Nat.reduceMul, Nat.reduceSub, Nat.reduceLeDiff, List.length_cons, List.length_nil, List.length_append, List.append_assoc, List.take_succ_cons, List.take_zero, List.drop_succ_cons, List.drop_zero, List.set_cons_zero, List.set_cons_succ, true_or, or_true, and_self, Bool.false_eq_true, Nat.le_refl, Option.bind_some, Option.map_some, Option.getD_some, Option.isSome_some, List.map_cons, List.map_nil, List.cons_append, List.nil_append, List.append_nil, List.getElem?_cons_zero, List.getElem?_cons_succ, eq_self, Int.reduceLT, Int.reduceLE, Int.reduceNeg, Int.reduceEq, hl, tk]
    refine sep_store (u.pull 1 rfl) (by simp [hl]) fun h3 u => ?_
    have u := u.as (ds := cs) (by simp [t_put, hl])
    have gz := u.rdAll (n := 5) hl.symm
    simp (disch := omega) only [VW, VY, VZ, VA, VB, VC, VE, TY, ↓reduceIte, Nat.reduceEqDiff, Nat.reduceAdd, Nat.reduceMul, Nat.reduceSub, Nat.reduceLeDiff, List.length_cons, List.length_nil, List.length_append, List.append_assoc, List.take_succ_cons, List.take_zero, List.drop_succ_cons, List.drop_zero, List.set_cons_zero, List.set_cons_succ, true_or, or_true, and_self, Bool.false_eq_true, Nat.le_refl, Option.bind_some, Option.map_some, Option.getD_some, Option.isSome_some, List.map_cons, List.map_nil, List.cons_append, List.nil_append, List.append_nil, List.getElem?_cons_zero, List.getElem?_cons_succ, eq_self, Int.reduceLT, Int.reduceLE, Int.reduceNeg, Int.reduceEq, gz, hl, tk]
    exact hQ _ _ u.tail.head
  · have d := decide_eq_false c
    rw [restM_side c] at hQ
    simp (disch := omega) only [VW, VY, VZ, VA, VB, VC, VE, TY, ↓reduceIte, Nat.reduceEqDiff, Nat.reduceAdd, Nat.reduceMul, Nat.reduceSub, Nat.reduceLeDiff, List.length_cons, List.length_nil, List.length_append, List.append_assoc, List.take_succ_cons, List.take_zero, List.drop_succ_cons, List.drop_zero, List.set_cons_zero, List.set_cons_succ, true_or, or_true, and_self, Bool.false_eq_true, Nat.le_refl, Option.bind_some, Option.map_some, Option.getD_some, Option.isSome_some, List.map_cons, List.map_nil, List.cons_append, List.nil_append, List.append_nil, List.getElem?_cons_zero, List.getElem?_cons_succ, eq_self, Int.reduceLT, Int.reduceLE, Int.reduceNeg, Int.reduceEq, d]
    exact hQ _ _ ((wk_zero (Sep.nil (.app _ _))).head)
theorem Restore_s {s : ByteArray} {t : Int} {h : Heap} {Q : Value → Heap → Prop} (hs : s.size ≤ 1000000)
    (hQ : ∀ cs h', Sep h h' [repA (restV s t) cs] → Q (.tuple #[.agg cs.toArray, .bool (restB s t)]) h') :
    CallsV Tryz.prog 4 [.string s, .int .i64 t] h Q := by
  unfold restV restB at hQ
  refine CallsV.start Tryz.func4 rfl (by rw [Tryz.results4]) (by kernel_rfl) (by rw [Tryz.ntmps4]; simp) ?_
  have u := Sep.blk1 h [.slice none 0 0, .slice none 0 0, .slice none 0 0, .slice none 0 0, .int .i64 0] 24 true
  simp (disch := omega) only [VW, VY, VZ, VA, VB, VC, VE, TY, ↓reduceIte, Nat.reduceEqDiff, Nat.reduceAdd, Nat.reduceMul, Nat.reduceSub, Nat.reduceLeDiff, List.length_cons, List.length_nil, List.length_append, List.append_assoc, List.take_succ_cons, List.take_zero, List.drop_succ_cons, List.drop_zero, List.set_cons_zero, List.set_cons_succ, true_or, or_true, and_self, Bool.false_eq_true, Nat.le_refl, Option.bind_some, Option.map_some, Option.getD_some, Option.isSome_some, List.map_cons, List.map_nil, List.cons_append, List.nil_append, List.append_nil, List.getElem?_cons_zero, List.getElem?_cons_succ, eq_self, Int.reduceLT, Int.reduceLE, Int.reduceNeg, Int.reduceEq]
  refine .inl ⟨by kernel_rfl, ?_⟩; refine cpRestore_c hs fun cs h2 s2 => ?_
  have hl := Here.len s2.here
  rw [Wk.sz] at hl
  have tk : cs.take 5 = cs := List.take_of_length_le (Nat.le_of_eq hl)
  have u := u.add s2
  simp (disch := omega) only [VW, VY, VZ, VA, VB, VC, VE, TY, ↓reduceIte, Nat.reduceEqDiff, Nat.reduceAdd, Nat.reduceMul, Nat.reduceSub, Nat.reduceLeDiff, List.length_cons, List.length_nil, List.length_append, List.append_assoc, List.take_succ_cons, List.take_zero, List.drop_succ_cons, List.drop_zero, List.set_cons_zero, List.set_cons_succ, true_or, or_true, and_self, Bool.false_eq_true, Nat.le_refl, Option.bind_some, Option.map_some, Option.getD_some, Option.isSome_some, List.map_cons, List.map_nil, List.cons_append, List.nil_append, List.append_nil, List.getElem?_cons_zero, List.getElem?_cons_succ, eq_self, Int.reduceLT, Int.reduceLE, Int.reduceNeg, Int.reduceEq, hl, tk]
  refine sep_store (u.pull 1 rfl) (by simp [hl]) fun h3 u => ?_
  have u := u.as (ds := cs) (by simp [t_put, hl])
  have gz := u.rdAll (n := 5) hl.symm
  simp (disch := omega) only [VW, VY, VZ, VA, VB, VC, VE, TY, ↓reduceIte, Nat.reduceEqDiff, Nat.reduceAdd, Nat.reduceMul, Nat.reduceSub, Nat.reduceLeDiff, List.length_cons, List.length_nil, List.length_append, List.append_assoc, List.take_succ_cons, List.take_zero, List.drop_succ_cons, List.drop_zero, List.set_cons_zero, List.set_cons_succ, true_or, or_true, and_self, Bool.false_eq_true, Nat.le_refl, Option.bind_some, Option.map_some, Option.getD_some, Option.isSome_some, List.map_cons, List.map_nil, List.cons_append, List.nil_append, List.append_nil, List.getElem?_cons_zero, List.getElem?_cons_succ, eq_self, Int.reduceLT, Int.reduceLE, Int.reduceNeg, Int.reduceEq, gz, hl, tk]
  exact hQ _ _ u.tail.head
end Go.Proofs
