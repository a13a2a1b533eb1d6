/- Contracts of functions, facts of types, or the plain law behind one statement (own work): P2. Conditions: those told in each theorem. -/
import Derived.Test.YtheliocfcjkbhaaP1
set_option linter.all false
set_option linter.unusedSimpArgs false
set_option linter.unusedVariables false
set_option maxRecDepth 4000
namespace Go.Proofs
open Go Go.V

theorem IsPool_i {x : Pl} {cs : List Value} {s : Int} {h : Heap} {Q : Value → Heap → Prop} (hx : Here h x cs) (hQ : ∀ h', Ext h h' → Q (.bool (poolM x s)) h') :
    CallsV Try.prog 23 [.agg cs.toArray, .int .i64 s] h Q := by
  refine CallsV.start Try.func23 rfl (by rw [Try.results23]) (by kernel_rfl) (by rw [Try.ntmps23]; simp) ?_
  have hl := Here.len hx
  rw [Pl.sz] at hl
  simp (disch := omega) only [VW, VY, VZ, VA, VB, TY, ↓reduceIte, Nat.reduceEqDiff, Nat.reduceAdd, Nat.reduceMul, Nat.reduceSub, Nat.reduceLeDiff, List.length_cons, List.length_nil, List.length_append, List.append_assoc, List.take_succ_cons, List.take_zero, List.drop_succ_cons, List.drop_zero, List.set_cons_zero, List.set_cons_succ, true_or, or_true, and_self, Bool.false_eq_true, Nat.le_refl, Option.bind_some, Option.map_some, Option.getD_some, Option.isSome_some, List.map_cons, List.map_nil, List.cons_append, List.nil_append, List.append_nil, List.getElem?_cons_zero, List.getElem?_cons_succ, eq_self, Int.reduceLT, Int.reduceLE, Int.reduceNeg, Int.reduceEq, hl]
  refine .inl ⟨by kernel_rfl, ?_⟩; refine isPool_c (at_blk (k := ⟨cs, 47, false, true⟩) getB_append_new rfl (hx.mono (.one h _))) fun h2 E2 => ?_
  simp (disch := omega) only [VW, VY, VZ, VA, VB, TY, ↓reduceIte, Nat.reduceEqDiff, Nat.reduceAdd, Nat.reduceMul, Nat.reduceSub, Nat.reduceLeDiff, List.length_cons, List.length_nil, List.length_append, List.append_assoc, List.take_succ_cons, List.take_zero, List.drop_succ_cons, List.drop_zero, List.set_cons_zero, List.set_cons_succ, true_or, or_true, and_self, Bool.false_eq_true, Nat.le_refl, Option.bind_some, Option.map_some, Option.getD_some, Option.isSome_some, List.map_cons, List.map_nil, List.cons_append, List.nil_append, List.append_nil, List.getElem?_cons_zero, List.getElem?_cons_succ, eq_self, Int.reduceLT, Int.reduceLE, Int.reduceNeg, Int.reduceEq]
  exact hQ _ ((Ext.one h _).trans E2)
theorem IsPool_s {x : Pl} {cs : List Value} {s : Int} {h : Heap} {Q : Value → Heap → Prop} (hx : Here h x cs) (hQ : ∀ h', Ext h h' → Q (.bool (poolM x s)) h') :
    CallsV Try.prog 21 [.agg cs.toArray, .int .i64 s] h Q := by
  refine CallsV.start Try.func21 rfl (by rw [Try.results21]) (by kernel_rfl) (by rw [Try.ntmps21]; simp) ?_
  have sb := Sep.blk1 h cs 47 true
  have hl := Here.len hx
  rw [Pl.sz] at hl
  have tk := List.take_of_length_le (Nat.le_of_eq hl)
  simp (disch := omega) only [VW, VY, VZ, VA, VB, TY, ↓reduceIte, Nat.reduceEqDiff, Nat.reduceAdd, Nat.reduceMul, Nat.reduceSub, Nat.reduceLeDiff, List.length_cons, List.length_nil, List.length_append, List.append_assoc, List.take_succ_cons, List.take_zero, List.drop_succ_cons, List.drop_zero, List.set_cons_zero, List.set_cons_succ, true_or, or_true, and_self, Bool.false_eq_true, Nat.le_refl, Option.bind_some, Option.map_some, Option.getD_some, Option.isSome_some, List.map_cons, List.map_nil, List.cons_append, List.nil_append, List.append_nil, List.getElem?_cons_zero, List.getElem?_cons_succ, eq_self, Int.reduceLT, Int.reduceLE, Int.reduceNeg, Int.reduceEq, hl, tk]
  refine .inl ⟨by kernel_rfl, ?_⟩; refine wkGood_c (hx.mono sb.ext) fun h2 E2 => ?_
  simp (disch := omega) only [VW, VY, VZ, VA, VB, TY, ↓reduceIte, Nat.reduceEqDiff, Nat.reduceAdd, Nat.reduceMul, Nat.reduceSub, Nat.reduceLeDiff, List.length_cons, List.length_nil, List.length_append, List.append_assoc, List.take_succ_cons, List.take_zero, List.drop_succ_cons, List.drop_zero, List.set_cons_zero, List.set_cons_succ, true_or, or_true, and_self, Bool.false_eq_true, Nat.le_refl, Option.bind_some, Option.map_some, Option.getD_some, Option.isSome_some, List.map_cons, List.map_nil, List.cons_append, List.nil_append, List.append_nil, List.getElem?_cons_zero, List.getElem?_cons_succ, eq_self, Int.reduceLT, Int.reduceLE, Int.reduceNeg, Int.reduceEq]
  exact hQ _ (sb.ext.trans E2)
end Go.Proofs
