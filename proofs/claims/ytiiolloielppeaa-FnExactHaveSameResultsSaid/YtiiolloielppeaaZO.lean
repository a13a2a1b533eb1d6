/- Contracts of functions, facts of types, or the plain law behind one statement (own work): ZO. Conditions: those told in each theorem. -/
import Derived.Test.YtiiolloielppeaaZN
set_option linter.all false
set_option linter.unusedSimpArgs false
set_option linter.unusedVariables false
set_option maxRecDepth 4000
namespace Go.Proofs
open Go Go.V
theorem wkBox_c {x : Bx} {cs : List Value} {h : Heap} {Q : Value → Heap → Prop} (hx : Here h x cs) (hb : x.low.length ≤ 1000000 ∧ x.high.length ≤ 1000000) (hQ : ∀ ds h', Sep h h' [repA x ds] → Q (.agg ds.toArray) h') :
    CallsV Try.prog 105 [.agg cs.toArray] h Q := by
  obtain ⟨v1, v2, rfl, f1, r1, r2⟩ := here_Bx hx
  refine CallsV.start Try.func105 rfl (by rw [Try.results105]) (by kernel_rfl) (by rw [Try.ntmps105]; simp) ?_
  have u := Sep.blk2 h [.int .i64 x.k, v1, v2] [.int .i64 0, .slice none 0 0, .slice none 0 0] 42 42 true true
  have g := (u.pull 1 rfl).rd
  simp (disch := omega) only [VW, VY, VZ, VA, VB, VC, VE, TY, ↓reduceIte, Nat.reduceEqDiff, Nat.reduceAdd, Nat.reduceMul, Nat.reduceSub, Nat.reduceLeDiff, List.length_cons, List.length_nil, List.length_append, List.append_assoc, List.take_succ_cons, List.take_zero, List.drop_succ_cons, List.drop_zero, List.set_cons_zero, List.set_cons_succ, true_or, or_true, and_self, Bool.false_eq_true, Nat.le_refl, Option.bind_some, Option.map_some, Option.getD_some, Option.isSome_some, List.map_cons, List.map_nil, List.cons_append, List.nil_append, List.append_nil, List.getElem?_cons_zero, List.getElem?_cons_succ, eq_self, Int.reduceLT, Int.reduceLE, Int.reduceNeg, Int.reduceEq]
  refine draw_ord [0, 1, 2, 3, 5, 6, 4, 7, 8, 9] (by kernel_rfl) (by simp only [List.filterMap_cons, List.filterMap_nil, List.getElem?_cons_zero, List.getElem?_cons_succ]; rfl) ?_
  simp (disch := omega) only [VW, VY, VZ, VA, VB, VC, VE, TY, ↓reduceIte, Nat.reduceEqDiff, Nat.reduceAdd, Nat.reduceMul, Nat.reduceSub, Nat.reduceLeDiff, List.length_cons, List.length_nil, List.length_append, List.append_assoc, List.take_succ_cons, List.take_zero, List.drop_succ_cons, List.drop_zero, List.set_cons_zero, List.set_cons_succ, true_or, or_true, and_self, Bool.false_eq_true, Nat.le_refl, Option.bind_some, Option.map_some, Option.getD_some, Option.isSome_some, List.map_cons, List.map_nil, List.cons_append, List.nil_append, List.append_nil, List.getElem?_cons_zero, List.getElem?_cons_succ, eq_self, Int.reduceLT, Int.reduceLE, Int.reduceNeg, Int.reduceEq, g]
  refine .inl ⟨by kernel_rfl, ?_⟩; refine l1Own_c (r1.mono u.ext) (by omega) fun u1 h1 s1 => ?_
  have E := u.ext.trans s1.ext
  have u := u.add s1
  have g := (u.pull 2 rfl).rd
  simp (disch := omega) only [VW, VY, VZ, VA, VB, VC, VE, TY, ↓reduceIte, Nat.reduceEqDiff, Nat.reduceAdd, Nat.reduceMul, Nat.reduceSub, Nat.reduceLeDiff, List.length_cons, List.length_nil, List.length_append, List.append_assoc, List.take_succ_cons, List.take_zero, List.drop_succ_cons, List.drop_zero, List.set_cons_zero, List.set_cons_succ, true_or, or_true, and_self, Bool.false_eq_true, Nat.le_refl, Option.bind_some, Option.map_some, Option.getD_some, Option.isSome_some, List.map_cons, List.map_nil, List.cons_append, List.nil_append, List.append_nil, List.getElem?_cons_zero, List.getElem?_cons_succ, eq_self, Int.reduceLT, Int.reduceLE, Int.reduceNeg, Int.reduceEq, g]
  refine .inl ⟨by kernel_rfl, ?_⟩; refine l1Own_c (r2.mono E) (by omega) fun u2 h2 s2 => ?_
  have u := u.add s2
  have g := (u.pull 3 rfl).rd
  have q1 := s1.row.isRow.cells
  have q2 := s2.row.isRow.cells
  have p1 := s1.row.isRow.plain
  have p2 := s2.row.isRow.plain
  simp (disch := omega) only [VW, VY, VZ, VA, VB, VC, VE, TY, ↓reduceIte, Nat.reduceEqDiff, Nat.reduceAdd, Nat.reduceMul, Nat.reduceSub, Nat.reduceLeDiff, List.length_cons, List.length_nil, List.length_append, List.append_assoc, List.take_succ_cons, List.take_zero, List.drop_succ_cons, List.drop_zero, List.set_cons_zero, List.set_cons_succ, true_or, or_true, and_self, Bool.false_eq_true, Nat.le_refl, Option.bind_some, Option.map_some, Option.getD_some, Option.isSome_some, List.map_cons, List.map_nil, List.cons_append, List.nil_append, List.append_nil, List.getElem?_cons_zero, List.getElem?_cons_succ, eq_self, Int.reduceLT, Int.reduceLE, Int.reduceNeg, Int.reduceEq, g, q1, q2]
  refine sep_store (u.pull 2 rfl) (by simp) fun h9 u => ?_
  have u := u.as (ds := [.int .i64 x.k, u1, u2]) (by simp [t_put])
  have gz := u.rdAll (n := 3) rfl
  have gk := (u.pull 3 rfl).rd
  simp (disch := omega) only [VW, VY, VZ, VA, VB, VC, VE, TY, ↓reduceIte, Nat.reduceEqDiff, Nat.reduceAdd, Nat.reduceMul, Nat.reduceSub, Nat.reduceLeDiff, List.length_cons, List.length_nil, List.length_append, List.append_assoc, List.take_succ_cons, List.take_zero, List.drop_succ_cons, List.drop_zero, List.set_cons_zero, List.set_cons_succ, true_or, or_true, and_self, Bool.false_eq_true, Nat.le_refl, Option.bind_some, Option.map_some, Option.getD_some, Option.isSome_some, List.map_cons, List.map_nil, List.cons_append, List.nil_append, List.append_nil, List.getElem?_cons_zero, List.getElem?_cons_succ, eq_self, Int.reduceLT, Int.reduceLE, Int.reduceNeg, Int.reduceEq, gz, gk, p1, p2]
  have s := (u.pull 1 rfl).toRep
  have s := (s.pull 2 rfl).toRep.pair
  have s := (Sep.rep0 (x := x.k) s (rep_int f1)).pair
  have s : Sep h h9 (repA x ([.int .i64 x.k] ++ ([u1] ++ [u2])) :: _) := s
  exact hQ _ _ s.head
theorem Sep.inCons {a h : Heap} {L : List Asr} {x : Bx} {cs : List Value} {z : List El} (hc : cs.length = 3) (s : Sep a h (repA x cs :: inA z :: L)) : Sep a h (inA ((x, ⟨cs, hc⟩) :: z) :: L) := by
  refine s.both.to ?_
  rintro fp ⟨f, g, rfl, h1, fps, h2, rfl⟩ hd
  exact ⟨f ++ fps.flatten, ⟨f :: fps, ⟨f, fps, rfl, h1, h2⟩, rfl⟩, hd, fun b hb => hb⟩
end Go.Proofs
