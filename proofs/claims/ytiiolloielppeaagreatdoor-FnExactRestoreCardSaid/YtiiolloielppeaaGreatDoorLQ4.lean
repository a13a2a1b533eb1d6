/- Contracts of functions, facts of types, or the plain law behind one statement (own work): LQ4. Conditions: those told in each theorem. -/
import Derived.Test.YtiiolloielppeaaGreatDoorQ17
set_option linter.all false
set_option linter.unusedSimpArgs false
set_option linter.unusedVariables false
set_option maxRecDepth 4000
namespace Go.Proofs
open Go Go.V
theorem restore_law {h : Heap} {a0 : ByteArray} {a1 : Int} (i0 : a0.size ≤ 9223372036854775807) (i1 : inI64 a1) : CallsV Tryz.prog 3 [.string a0, .int .i64 a1] h fun v _ => v = .bool true := by
  refine CallsV.start Tryz.func3 rfl (by rw [Tryz.results3]) (by kernel_rfl) (by rw [Tryz.ntmps3]; simp) ?_
  have s := Sep.nil (.refl h)
  try simp (disch := omega) only [VW, VY, VZ, VA, VB, VC, VE, TY, ↓reduceIte, Nat.reduceEqDiff, Nat.reduceAdd, Nat.reduceMul, Nat.reduceSub, Nat.reduceLeDiff, List.length_cons, List.length_nil, List.length_append, List.append_assoc, List.take_succ_cons, List.take_zero, List.drop_succ_cons, List.drop_zero, List.set_cons_zero, List.set_cons_succ, true_or, or_true, and_self, Bool.false_eq_true, Nat.le_refl, Option.bind_some, Option.map_some, Option.getD_some, Option.isSome_some, List.map_cons, List.map_nil, List.cons_append, List.nil_append, List.append_nil, List.getElem?_cons_zero, List.getElem?_cons_succ, eq_self, Int.reduceLT, Int.reduceLE, Int.reduceNeg, Int.reduceEq, wrap_in]
  by_cases z : (1000000 : Int) < (a0.size : Int)
  · simp (disch := omega) only [VW, VY, VZ, VA, VB, VC, VE, TY, ↓reduceIte, Nat.reduceEqDiff, Nat.reduceAdd, Nat.reduceMul, Nat.reduceSub, Nat.reduceLeDiff, List.length_cons, List.length_nil, List.length_append, List.append_assoc, List.take_succ_cons, List.take_zero, List.drop_succ_cons, List.drop_zero, List.set_cons_zero, List.set_cons_succ, true_or, or_true, and_self, Bool.false_eq_true, Nat.le_refl, Option.bind_some, Option.map_some, Option.getD_some, Option.isSome_some, List.map_cons, List.map_nil, List.cons_append, List.nil_append, List.append_nil, List.getElem?_cons_zero, List.getElem?_cons_succ, eq_self, Int.reduceLT, Int.reduceLE, Int.reduceNeg, Int.reduceEq, z]
  have n0 : a0.size ≤ 1000000 := by omega
  try simp (disch := omega) only [VW, VY, VZ, VA, VB, VC, VE, TY, ↓reduceIte, Nat.reduceEqDiff, Nat.reduceAdd, Nat.reduceMul, Nat.reduceSub, Nat.reduceLeDiff, List.length_cons, List.length_nil, List.length_append, List.append_assoc, List.take_succ_cons, List.take_zero, List.drop_succ_cons, List.drop_zero, List.set_cons_zero, List.set_cons_succ, true_or, or_true, and_self, Bool.false_eq_true, Nat.le_refl, Option.bind_some, Option.map_some, Option.getD_some, Option.isSome_some, List.map_cons, List.map_nil, List.cons_append, List.nil_append, List.append_nil, List.getElem?_cons_zero, List.getElem?_cons_succ, eq_self, Int.reduceLT, Int.reduceLE, Int.reduceNeg, Int.reduceEq, z, b_neb, bne_self_eq_false, beq_self_eq_true]
  refine .inl ⟨by kernel_rfl, ?_⟩; refine Restore_s n0 fun ds1 h1 s1 => ?_
  have s := s.add s1
  have ld1 : ds1.length = 5 := s1.rlen
  have td1 : ds1.take 5 = ds1 := List.take_of_length_le (Nat.le_of_eq ld1)
  try simp (disch := omega) only [VW, VY, VZ, VA, VB, VC, VE, TY, ↓reduceIte, Nat.reduceEqDiff, Nat.reduceAdd, Nat.reduceMul, Nat.reduceSub, Nat.reduceLeDiff, List.length_cons, List.length_nil, List.length_append, List.append_assoc, List.take_succ_cons, List.take_zero, List.drop_succ_cons, List.drop_zero, List.set_cons_zero, List.set_cons_succ, true_or, or_true, and_self, Bool.false_eq_true, Nat.le_refl, Option.bind_some, Option.map_some, Option.getD_some, Option.isSome_some, List.map_cons, List.map_nil, List.cons_append, List.nil_append, List.append_nil, List.getElem?_cons_zero, List.getElem?_cons_succ, eq_self, Int.reduceLT, Int.reduceLE, Int.reduceNeg, Int.reduceEq, z, ld1, td1]
  have s := s.newBlk ds1 24 true
  have gvar1 := (s.pull 0 rfl).rdAll (n := 5) ld1.symm
  try simp (disch := omega) only [VW, VY, VZ, VA, VB, VC, VE, TY, ↓reduceIte, Nat.reduceEqDiff, Nat.reduceAdd, Nat.reduceMul, Nat.reduceSub, Nat.reduceLeDiff, List.length_cons, List.length_nil, List.length_append, List.append_assoc, List.take_succ_cons, List.take_zero, List.drop_succ_cons, List.drop_zero, List.set_cons_zero, List.set_cons_succ, true_or, or_true, and_self, Bool.false_eq_true, Nat.le_refl, Option.bind_some, Option.map_some, Option.getD_some, Option.isSome_some, List.map_cons, List.map_nil, List.cons_append, List.nil_append, List.append_nil, List.getElem?_cons_zero, List.getElem?_cons_succ, eq_self, Int.reduceLT, Int.reduceLE, Int.reduceNeg, Int.reduceEq, z, ld1, td1, gvar1, b_neb, bne_self_eq_false, beq_self_eq_true]
  refine .inl ⟨by kernel_rfl, ?_⟩; refine Restore_i n0 fun ds2 h2 s2 => ?_
  have s := s.add s2
  have ld2 : ds2.length = 5 := s2.rlen
  have td2 : ds2.take 5 = ds2 := List.take_of_length_le (Nat.le_of_eq ld2)
  have gvar1 := (s.pull 1 rfl).rdAll (n := 5) ld1.symm
  try simp (disch := omega) only [VW, VY, VZ, VA, VB, VC, VE, TY, ↓reduceIte, Nat.reduceEqDiff, Nat.reduceAdd, Nat.reduceMul, Nat.reduceSub, Nat.reduceLeDiff, List.length_cons, List.length_nil, List.length_append, List.append_assoc, List.take_succ_cons, List.take_zero, List.drop_succ_cons, List.drop_zero, List.set_cons_zero, List.set_cons_succ, true_or, or_true, and_self, Bool.false_eq_true, Nat.le_refl, Option.bind_some, Option.map_some, Option.getD_some, Option.isSome_some, List.map_cons, List.map_nil, List.cons_append, List.nil_append, List.append_nil, List.getElem?_cons_zero, List.getElem?_cons_succ, eq_self, Int.reduceLT, Int.reduceLE, Int.reduceNeg, Int.reduceEq, z, ld1, td1, ld2, td2, gvar1]
  have s := s.newBlk ds2 24 true
  have gvar1 := (s.pull 2 rfl).rdAll (n := 5) ld1.symm
  have gvar2 := (s.pull 0 rfl).rdAll (n := 5) ld2.symm
  try simp (disch := omega) only [VW, VY, VZ, VA, VB, VC, VE, TY, ↓reduceIte, Nat.reduceEqDiff, Nat.reduceAdd, Nat.reduceMul, Nat.reduceSub, Nat.reduceLeDiff, List.length_cons, List.length_nil, List.length_append, List.append_assoc, List.take_succ_cons, List.take_zero, List.drop_succ_cons, List.drop_zero, List.set_cons_zero, List.set_cons_succ, true_or, or_true, and_self, Bool.false_eq_true, Nat.le_refl, Option.bind_some, Option.map_some, Option.getD_some, Option.isSome_some, List.map_cons, List.map_nil, List.cons_append, List.nil_append, List.append_nil, List.getElem?_cons_zero, List.getElem?_cons_succ, eq_self, Int.reduceLT, Int.reduceLE, Int.reduceNeg, Int.reduceEq, z, ld1, td1, ld2, td2, gvar1, gvar2, b_neb, bne_self_eq_false, beq_self_eq_true]
  refine .inl ⟨by kernel_rfl, ?_⟩; refine eqWork_c ((s.pull 1 rfl).here) ((s.pull 3 rfl).here) fun h3 E3 => ?_
  have s := s.mono E3
  have gvar1 := (s.pull 2 rfl).rdAll (n := 5) ld1.symm
  have gvar2 := (s.pull 0 rfl).rdAll (n := 5) ld2.symm
  try simp (disch := omega) only [VW, VY, VZ, VA, VB, VC, VE, TY, ↓reduceIte, Nat.reduceEqDiff, Nat.reduceAdd, Nat.reduceMul, Nat.reduceSub, Nat.reduceLeDiff, List.length_cons, List.length_nil, List.length_append, List.append_assoc, List.take_succ_cons, List.take_zero, List.drop_succ_cons, List.drop_zero, List.set_cons_zero, List.set_cons_succ, true_or, or_true, and_self, Bool.false_eq_true, Nat.le_refl, Option.bind_some, Option.map_some, Option.getD_some, Option.isSome_some, List.map_cons, List.map_nil, List.cons_append, List.nil_append, List.append_nil, List.getElem?_cons_zero, List.getElem?_cons_succ, eq_self, Int.reduceLT, Int.reduceLE, Int.reduceNeg, Int.reduceEq, z, ld1, td1, ld2, td2, gvar1, gvar2, b_neb, bne_self_eq_false, beq_self_eq_true]
  refine .inl ⟨by kernel_rfl, ?_⟩; refine markWork_c (s.pull 1 rfl) (by decide) (by have := rest_cnt a0 a1; omega) fun h4 s => ?_
  have gvar1 := (s.pull 2 rfl).rdAll (n := 5) ld1.symm
  have gvar2 := (s.pull 1 rfl).rdAll (n := 5) ld2.symm
  try simp (disch := omega) only [VW, VY, VZ, VA, VB, VC, VE, TY, ↓reduceIte, Nat.reduceEqDiff, Nat.reduceAdd, Nat.reduceMul, Nat.reduceSub, Nat.reduceLeDiff, List.length_cons, List.length_nil, List.length_append, List.append_assoc, List.take_succ_cons, List.take_zero, List.drop_succ_cons, List.drop_zero, List.set_cons_zero, List.set_cons_succ, true_or, or_true, and_self, Bool.false_eq_true, Nat.le_refl, Option.bind_some, Option.map_some, Option.getD_some, Option.isSome_some, List.map_cons, List.map_nil, List.cons_append, List.nil_append, List.append_nil, List.getElem?_cons_zero, List.getElem?_cons_succ, eq_self, Int.reduceLT, Int.reduceLE, Int.reduceNeg, Int.reduceEq, z, ld1, td1, ld2, td2, gvar1, gvar2, b_neb, bne_self_eq_false, beq_self_eq_true]
  refine .inl ⟨by kernel_rfl, ?_⟩; refine heldWork_c (x := restV a0 a1) (s.pull 0 rfl).here (by decide) (by have := rest_cnt a0 a1; omega) fun h5 E5 => ?_
  have s := s.mono E5
  have nk5 : ¬ (101 : Int) + (Mrk.cnt (restV a0 a1) : Nat) < 0 := by omega
  have gvar1 := (s.pull 2 rfl).rdAll (n := 5) ld1.symm
  have gvar2 := (s.pull 1 rfl).rdAll (n := 5) ld2.symm
  try simp (disch := omega) only [VW, VY, VZ, VA, VB, VC, VE, TY, ↓reduceIte, Nat.reduceEqDiff, Nat.reduceAdd, Nat.reduceMul, Nat.reduceSub, Nat.reduceLeDiff, List.length_cons, List.length_nil, List.length_append, List.append_assoc, List.take_succ_cons, List.take_zero, List.drop_succ_cons, List.drop_zero, List.set_cons_zero, List.set_cons_succ, true_or, or_true, and_self, Bool.false_eq_true, Nat.le_refl, Option.bind_some, Option.map_some, Option.getD_some, Option.isSome_some, List.map_cons, List.map_nil, List.cons_append, List.nil_append, List.append_nil, List.getElem?_cons_zero, List.getElem?_cons_succ, eq_self, Int.reduceLT, Int.reduceLE, Int.reduceNeg, Int.reduceEq, z, ld1, td1, ld2, td2, nk5, gvar1, gvar2, b_neb, bne_self_eq_false, beq_self_eq_true]
  refine .inl ⟨by kernel_rfl, ?_⟩; refine Restore_i n0 fun ds6 h6 s6 => ?_
  have s := s.add s6
  have ld6 : ds6.length = 5 := s6.rlen
  have td6 : ds6.take 5 = ds6 := List.take_of_length_le (Nat.le_of_eq ld6)
  have gvar1 := (s.pull 3 rfl).rdAll (n := 5) ld1.symm
  have gvar2 := (s.pull 2 rfl).rdAll (n := 5) ld2.symm
  try simp (disch := omega) only [VW, VY, VZ, VA, VB, VC, VE, TY, ↓reduceIte, Nat.reduceEqDiff, Nat.reduceAdd, Nat.reduceMul, Nat.reduceSub, Nat.reduceLeDiff, List.length_cons, List.length_nil, List.length_append, List.append_assoc, List.take_succ_cons, List.take_zero, List.drop_succ_cons, List.drop_zero, List.set_cons_zero, List.set_cons_succ, true_or, or_true, and_self, Bool.false_eq_true, Nat.le_refl, Option.bind_some, Option.map_some, Option.getD_some, Option.isSome_some, List.map_cons, List.map_nil, List.cons_append, List.nil_append, List.append_nil, List.getElem?_cons_zero, List.getElem?_cons_succ, eq_self, Int.reduceLT, Int.reduceLE, Int.reduceNeg, Int.reduceEq, z, ld1, td1, ld2, td2, nk5, ld6, td6, gvar1, gvar2]
  have s := s.newBlk ds6 24 true
  have gvar1 := (s.pull 4 rfl).rdAll (n := 5) ld1.symm
  have gvar2 := (s.pull 3 rfl).rdAll (n := 5) ld2.symm
  have gvar6 := (s.pull 0 rfl).rdAll (n := 5) ld6.symm
  try simp (disch := omega) only [VW, VY, VZ, VA, VB, VC, VE, TY, ↓reduceIte, Nat.reduceEqDiff, Nat.reduceAdd, Nat.reduceMul, Nat.reduceSub, Nat.reduceLeDiff, List.length_cons, List.length_nil, List.length_append, List.append_assoc, List.take_succ_cons, List.take_zero, List.drop_succ_cons, List.drop_zero, List.set_cons_zero, List.set_cons_succ, true_or, or_true, and_self, Bool.false_eq_true, Nat.le_refl, Option.bind_some, Option.map_some, Option.getD_some, Option.isSome_some, List.map_cons, List.map_nil, List.cons_append, List.nil_append, List.append_nil, List.getElem?_cons_zero, List.getElem?_cons_succ, eq_self, Int.reduceLT, Int.reduceLE, Int.reduceNeg, Int.reduceEq, z, ld1, td1, ld2, td2, nk5, ld6, td6, gvar1, gvar2, gvar6, b_neb, bne_self_eq_false, beq_self_eq_true]
  refine .inl ⟨by kernel_rfl, ?_⟩; refine eqWork_c ((s.pull 1 rfl).here) ((s.pull 5 rfl).here) fun h7 E7 => ?_
  have s := s.mono E7
  have gvar1 := (s.pull 4 rfl).rdAll (n := 5) ld1.symm
  have gvar2 := (s.pull 3 rfl).rdAll (n := 5) ld2.symm
  have gvar6 := (s.pull 0 rfl).rdAll (n := 5) ld6.symm
  try simp (disch := omega) only [VW, VY, VZ, VA, VB, VC, VE, TY, ↓reduceIte, Nat.reduceEqDiff, Nat.reduceAdd, Nat.reduceMul, Nat.reduceSub, Nat.reduceLeDiff, List.length_cons, List.length_nil, List.length_append, List.append_assoc, List.take_succ_cons, List.take_zero, List.drop_succ_cons, List.drop_zero, List.set_cons_zero, List.set_cons_succ, true_or, or_true, and_self, Bool.false_eq_true, Nat.le_refl, Option.bind_some, Option.map_some, Option.getD_some, Option.isSome_some, List.map_cons, List.map_nil, List.cons_append, List.nil_append, List.append_nil, List.getElem?_cons_zero, List.getElem?_cons_succ, eq_self, Int.reduceLT, Int.reduceLE, Int.reduceNeg, Int.reduceEq, z, ld1, td1, ld2, td2, nk5, ld6, td6, gvar1, gvar2, gvar6, b_neb, bne_self_eq_false, beq_self_eq_true]
  refine .inl ⟨by kernel_rfl, ?_⟩; refine heldWork_c (x := restV a0 a1) (s.pull 2 rfl).here (by decide) (by have := rest_cnt a0 a1; omega) fun h8 E8 => ?_
  have s := s.mono E8
  have nk8 : ¬ (101 : Int) + (Mrk.cnt (restV a0 a1) : Nat) < 0 := by omega
  have gvar1 := (s.pull 4 rfl).rdAll (n := 5) ld1.symm
  have gvar2 := (s.pull 3 rfl).rdAll (n := 5) ld2.symm
  have gvar6 := (s.pull 0 rfl).rdAll (n := 5) ld6.symm
  try simp (disch := omega) only [VW, VY, VZ, VA, VB, VC, VE, TY, ↓reduceIte, Nat.reduceEqDiff, Nat.reduceAdd, Nat.reduceMul, Nat.reduceSub, Nat.reduceLeDiff, List.length_cons, List.length_nil, List.length_append, List.append_assoc, List.take_succ_cons, List.take_zero, List.drop_succ_cons, List.drop_zero, List.set_cons_zero, List.set_cons_succ, true_or, or_true, and_self, Bool.false_eq_true, Nat.le_refl, Option.bind_some, Option.map_some, Option.getD_some, Option.isSome_some, List.map_cons, List.map_nil, List.cons_append, List.nil_append, List.append_nil, List.getElem?_cons_zero, List.getElem?_cons_succ, eq_self, Int.reduceLT, Int.reduceLE, Int.reduceNeg, Int.reduceEq, z, ld1, td1, ld2, td2, nk5, ld6, td6, nk8, gvar1, gvar2, gvar6, b_neb, bne_self_eq_false, beq_self_eq_true]
end Go.Proofs
