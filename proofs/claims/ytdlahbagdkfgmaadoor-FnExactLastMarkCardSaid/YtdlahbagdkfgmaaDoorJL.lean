/- Contracts of functions, facts of types, or the plain law behind one statement (own work): JL. Conditions: those told in each theorem. -/
import Derived.Test.YtdlahbagdkfgmaaDoorJZ
set_option linter.all false
set_option linter.unusedSimpArgs false
set_option linter.unusedVariables false
set_option maxRecDepth 4000
namespace Go.Proofs
open Go Go.V
def bdJ (x : Jn) : Prop := x.safe.size ≤ 140737488351232 ∧ x.pending.size ≤ 140737488351232
theorem szJournal_n {x : Jn} {cs : List Value} {left : Int} {h : Heap} {Q : Value → Heap → Prop} (hx : Here h x cs) (b : bdJ x) (h0 : -200000000000000 ≤ left) (h1 : left < 0)
    (hQ : ∀ h', Ext h h' → Q (.int .i64 (-1)) h') : CallsV Tryd.prog 13 [.agg cs.toArray, .int .i64 left] h Q := by
  obtain ⟨rfl, vf1, vf2⟩ := here_Jn hx
  obtain ⟨b1, b2⟩ := b
  refine CallsV.start Tryd.func13 rfl (by rw [Tryd.results13]) (by kernel_rfl) (by rw [Tryd.ntmps13]; simp) ?_
  have s := Sep.blk1 h [.string x.safe, .string x.pending] 23 true
  simp (disch := omega) only [VW, VY, VZ, VA, VB, VC, VE, TY, ↓reduceIte, Nat.reduceEqDiff, Nat.reduceAdd, Nat.reduceMul, Nat.reduceSub, Nat.reduceLeDiff, List.length_cons, List.length_nil, List.length_append, List.append_assoc, List.take_succ_cons, List.take_zero, List.drop_succ_cons, List.drop_zero, List.set_cons_zero, List.set_cons_succ, true_or, or_true, and_self, Bool.false_eq_true, Nat.le_refl, Option.bind_some, Option.map_some, Option.getD_some, Option.isSome_some, List.map_cons, List.map_nil, List.cons_append, List.nil_append, List.append_nil, List.getElem?_cons_zero, List.getElem?_cons_succ, eq_self, Int.reduceLT, Int.reduceLE, Int.reduceNeg, Int.reduceEq, wrap_in]
  have c' : left - (x.safe.size : Int) < 0 := by omega
  simp (disch := omega) only [VW, VY, VZ, VA, VB, VC, VE, TY, ↓reduceIte, Nat.reduceEqDiff, Nat.reduceAdd, Nat.reduceMul, Nat.reduceSub, Nat.reduceLeDiff, List.length_cons, List.length_nil, List.length_append, List.append_assoc, List.take_succ_cons, List.take_zero, List.drop_succ_cons, List.drop_zero, List.set_cons_zero, List.set_cons_succ, true_or, or_true, and_self, Bool.false_eq_true, Nat.le_refl, Option.bind_some, Option.map_some, Option.getD_some, Option.isSome_some, List.map_cons, List.map_nil, List.cons_append, List.nil_append, List.append_nil, List.getElem?_cons_zero, List.getElem?_cons_succ, eq_self, Int.reduceLT, Int.reduceLE, Int.reduceNeg, Int.reduceEq, c']
  exact hQ _ s.ext
end Go.Proofs
