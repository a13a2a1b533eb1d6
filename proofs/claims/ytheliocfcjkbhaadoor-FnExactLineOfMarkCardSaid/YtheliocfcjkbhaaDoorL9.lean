/- Contracts of functions, facts of types, or the plain law behind one statement (own work): L9. Conditions: those told in each theorem. -/
import Derived.Test.YtheliocfcjkbhaaDoorLO
set_option linter.all false
set_option linter.unusedSimpArgs false
set_option linter.unusedVariables false
set_option maxRecDepth 4000
namespace Go.Proofs
open Go Go.V
theorem lineOfMark_law {h : Heap} {a0 : Int} {x1 : Mk} {cs1 : List Value} (i0 : inI64 a0) (i1 : Here h x1 cs1) : CallsV Tryd.prog 4 [.int .i64 a0, .agg cs1.toArray] h fun v _ => v = .bool true := by
  refine CallsV.start Tryd.func4 rfl (by rw [Tryd.results4]) (by kernel_rfl) (by rw [Tryd.ntmps4]; simp) ?_
  have l1 := Here.len i1
  rw [Mk.sz] at l1
  have tk1 : cs1.take 2 = cs1 := List.take_of_length_le (Nat.le_of_eq l1)
  have s := Sep.blk1 h cs1 35 true
  have garg1 := (s.pull 0 rfl).rdAll (n := 2) l1.symm
  try simp (disch := omega) only [VW, VY, VZ, VA, VB, VC, VE, TY, ↓reduceIte, Nat.reduceEqDiff, Nat.reduceAdd, Nat.reduceMul, Nat.reduceSub, Nat.reduceLeDiff, List.length_cons, List.length_nil, List.length_append, List.append_assoc, List.take_succ_cons, List.take_zero, List.drop_succ_cons, List.drop_zero, List.set_cons_zero, List.set_cons_succ, true_or, or_true, and_self, Bool.false_eq_true, Nat.le_refl, Option.bind_some, Option.map_some, Option.getD_some, Option.isSome_some, List.map_cons, List.map_nil, List.cons_append, List.nil_append, List.append_nil, List.getElem?_cons_zero, List.getElem?_cons_succ, eq_self, Int.reduceLT, Int.reduceLE, Int.reduceNeg, Int.reduceEq, l1, tk1, garg1, b_neb, bne_self_eq_false, beq_self_eq_true]
  refine .inl ⟨by kernel_rfl, ?_⟩; refine szMark_c (i1.mono s.ext) (by omega) (by omega) fun h1 E1 => ?_
  have s := s.mono E1
  by_cases z1 : (1000000 : Int) < (Siz.siz x1 : Int)
  · rw [szR_lt z1]
    simp (disch := omega) only [VW, VY, VZ, VA, VB, VC, VE, TY, ↓reduceIte, Nat.reduceEqDiff, Nat.reduceAdd, Nat.reduceMul, Nat.reduceSub, Nat.reduceLeDiff, List.length_cons, List.length_nil, List.length_append, List.append_assoc, List.take_succ_cons, List.take_zero, List.drop_succ_cons, List.drop_zero, List.set_cons_zero, List.set_cons_succ, true_or, or_true, and_self, Bool.false_eq_true, Nat.le_refl, Option.bind_some, Option.map_some, Option.getD_some, Option.isSome_some, List.map_cons, List.map_nil, List.cons_append, List.nil_append, List.append_nil, List.getElem?_cons_zero, List.getElem?_cons_succ, eq_self, Int.reduceLT, Int.reduceLE, Int.reduceNeg, Int.reduceEq]
  rw [szR_ge z1]
  have c1 : ¬ (1000000 - (Siz.siz x1 : Int)) < 0 := by omega
  have n1 : Siz.siz x1 ≤ 1000000 := by omega
  have garg1 := (s.pull 0 rfl).rdAll (n := 2) l1.symm
  try simp (disch := omega) only [VW, VY, VZ, VA, VB, VC, VE, TY, ↓reduceIte, Nat.reduceEqDiff, Nat.reduceAdd, Nat.reduceMul, Nat.reduceSub, Nat.reduceLeDiff, List.length_cons, List.length_nil, List.length_append, List.append_assoc, List.take_succ_cons, List.take_zero, List.drop_succ_cons, List.drop_zero, List.set_cons_zero, List.set_cons_succ, true_or, or_true, and_self, Bool.false_eq_true, Nat.le_refl, Option.bind_some, Option.map_some, Option.getD_some, Option.isSome_some, List.map_cons, List.map_nil, List.cons_append, List.nil_append, List.append_nil, List.getElem?_cons_zero, List.getElem?_cons_succ, eq_self, Int.reduceLT, Int.reduceLE, Int.reduceNeg, Int.reduceEq, l1, tk1, c1, garg1, b_neb, bne_self_eq_false, beq_self_eq_true]
  refine .inl ⟨by kernel_rfl, ?_⟩; refine toMark_c (b := false) (i1.mono s.ext) n1 fun ds2 h2 s2 => ?_
  have s := s.add s2
  have ld2 : ds2.length = 2 := s2.gpull
  have td2 : ds2.take 2 = ds2 := List.take_of_length_le (Nat.le_of_eq ld2)
  have garg1 := (s.pull 1 rfl).rdAll (n := 2) l1.symm
  try simp (disch := omega) only [VW, VY, VZ, VA, VB, VC, VE, TY, ↓reduceIte, Nat.reduceEqDiff, Nat.reduceAdd, Nat.reduceMul, Nat.reduceSub, Nat.reduceLeDiff, List.length_cons, List.length_nil, List.length_append, List.append_assoc, List.take_succ_cons, List.take_zero, List.drop_succ_cons, List.drop_zero, List.set_cons_zero, List.set_cons_succ, true_or, or_true, and_self, Bool.false_eq_true, Nat.le_refl, Option.bind_some, Option.map_some, Option.getD_some, Option.isSome_some, List.map_cons, List.map_nil, List.cons_append, List.nil_append, List.append_nil, List.getElem?_cons_zero, List.getElem?_cons_succ, eq_self, Int.reduceLT, Int.reduceLE, Int.reduceNeg, Int.reduceEq, l1, tk1, c1, ld2, td2, garg1, b_neb, bne_self_eq_false, beq_self_eq_true]
  refine .inl ⟨by kernel_rfl, ?_⟩; refine LineOfMark_s i0 (s.pull 0 rfl).gHere fun h3 E3 => ?_
  have s := s.mono E3
  have garg1 := (s.pull 1 rfl).rdAll (n := 2) l1.symm
  try simp (disch := omega) only [VW, VY, VZ, VA, VB, VC, VE, TY, ↓reduceIte, Nat.reduceEqDiff, Nat.reduceAdd, Nat.reduceMul, Nat.reduceSub, Nat.reduceLeDiff, List.length_cons, List.length_nil, List.length_append, List.append_assoc, List.take_succ_cons, List.take_zero, List.drop_succ_cons, List.drop_zero, List.set_cons_zero, List.set_cons_succ, true_or, or_true, and_self, Bool.false_eq_true, Nat.le_refl, Option.bind_some, Option.map_some, Option.getD_some, Option.isSome_some, List.map_cons, List.map_nil, List.cons_append, List.nil_append, List.append_nil, List.getElem?_cons_zero, List.getElem?_cons_succ, eq_self, Int.reduceLT, Int.reduceLE, Int.reduceNeg, Int.reduceEq, l1, tk1, c1, ld2, td2, garg1, b_neb, bne_self_eq_false, beq_self_eq_true]
  refine .inl ⟨by kernel_rfl, ?_⟩; refine toMark_c (b := false) (i1.mono s.ext) n1 fun ds4 h4 s4 => ?_
  have s := s.add s4
  have ld4 : ds4.length = 2 := s4.gpull
  have td4 : ds4.take 2 = ds4 := List.take_of_length_le (Nat.le_of_eq ld4)
  have garg1 := (s.pull 2 rfl).rdAll (n := 2) l1.symm
  try simp (disch := omega) only [VW, VY, VZ, VA, VB, VC, VE, TY, ↓reduceIte, Nat.reduceEqDiff, Nat.reduceAdd, Nat.reduceMul, Nat.reduceSub, Nat.reduceLeDiff, List.length_cons, List.length_nil, List.length_append, List.append_assoc, List.take_succ_cons, List.take_zero, List.drop_succ_cons, List.drop_zero, List.set_cons_zero, List.set_cons_succ, true_or, or_true, and_self, Bool.false_eq_true, Nat.le_refl, Option.bind_some, Option.map_some, Option.getD_some, Option.isSome_some, List.map_cons, List.map_nil, List.cons_append, List.nil_append, List.append_nil, List.getElem?_cons_zero, List.getElem?_cons_succ, eq_self, Int.reduceLT, Int.reduceLE, Int.reduceNeg, Int.reduceEq, l1, tk1, c1, ld2, td2, ld4, td4, garg1, b_neb, bne_self_eq_false, beq_self_eq_true]
  refine .inl ⟨by kernel_rfl, ?_⟩; refine LineOfMark_i i0 (s.pull 0 rfl).gHere fun h5 E5 => ?_
  have s := s.mono E5
  have garg1 := (s.pull 2 rfl).rdAll (n := 2) l1.symm
  try simp (disch := omega) only [VW, VY, VZ, VA, VB, VC, VE, TY, ↓reduceIte, Nat.reduceEqDiff, Nat.reduceAdd, Nat.reduceMul, Nat.reduceSub, Nat.reduceLeDiff, List.length_cons, List.length_nil, List.length_append, List.append_assoc, List.take_succ_cons, List.take_zero, List.drop_succ_cons, List.drop_zero, List.set_cons_zero, List.set_cons_succ, true_or, or_true, and_self, Bool.false_eq_true, Nat.le_refl, Option.bind_some, Option.map_some, Option.getD_some, Option.isSome_some, List.map_cons, List.map_nil, List.cons_append, List.nil_append, List.append_nil, List.getElem?_cons_zero, List.getElem?_cons_succ, eq_self, Int.reduceLT, Int.reduceLE, Int.reduceNeg, Int.reduceEq, l1, tk1, c1, ld2, td2, ld4, td4, garg1, b_neb, bne_self_eq_false, beq_self_eq_true]
end Go.Proofs
