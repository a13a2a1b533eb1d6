/- Contracts of functions, facts of types, or the plain law behind one statement (own work): XP. Conditions: those told in each theorem. -/
import Derived.Test.YtiiolloielppeaaXO
import Derived.Test.YtiiolloielppeaaK2
set_option linter.all false
set_option linter.unusedSimpArgs false
set_option linter.unusedVariables false
set_option maxRecDepth 4000
namespace Go.Proofs
open Go Go.V
theorem areWorkApart_law {h : Heap} {x0 : Wk} {cs0 : List Value} {a1 : Int} (i0 : Here h x0 cs0) (i1 : inI64 a1) : CallsV Try.prog 3 [.agg cs0.toArray, .int .i64 a1] h fun v _ => v = .bool true := by
  refine CallsV.start Try.func3 rfl (by rw [Try.results3]) (by kernel_rfl) (by rw [Try.ntmps3]; simp) ?_
  have l0 := Here.len i0
  rw [Wk.sz] at l0
  have tk0 : cs0.take 5 = cs0 := List.take_of_length_le (Nat.le_of_eq l0)
  have s := Sep.blk1 h cs0 24 true
  have garg0 := (s.pull 0 rfl).rdAll (n := 5) l0.symm
  try simp (disch := omega) only [VW, VY, VZ, VA, VB, VC, VE, TY, ↓reduceIte, Nat.reduceEqDiff, Nat.reduceAdd, Nat.reduceMul, Nat.reduceSub, Nat.reduceLeDiff, List.length_cons, List.length_nil, List.length_append, List.append_assoc, List.take_succ_cons, List.take_zero, List.drop_succ_cons, List.drop_zero, List.set_cons_zero, List.set_cons_succ, true_or, or_true, and_self, Bool.false_eq_true, Nat.le_refl, Option.bind_some, Option.map_some, Option.getD_some, Option.isSome_some, List.map_cons, List.map_nil, List.cons_append, List.nil_append, List.append_nil, List.getElem?_cons_zero, List.getElem?_cons_succ, eq_self, Int.reduceLT, Int.reduceLE, Int.reduceNeg, Int.reduceEq, l0, tk0, garg0, b_neb, bne_self_eq_false, beq_self_eq_true]
  refine .inl ⟨by kernel_rfl, ?_⟩; refine szWork_c (i0.mono s.ext) (by omega) (by omega) fun h1 E1 => ?_
  have s := s.mono E1
  by_cases z0 : (1000000 : Int) < (Siz.siz x0 : Int)
  · rw [szR_lt z0]
    simp (disch := omega) only [VW, VY, VZ, VA, VB, VC, VE, TY, ↓reduceIte, Nat.reduceEqDiff, Nat.reduceAdd, Nat.reduceMul, Nat.reduceSub, Nat.reduceLeDiff, List.length_cons, List.length_nil, List.length_append, List.append_assoc, List.take_succ_cons, List.take_zero, List.drop_succ_cons, List.drop_zero, List.set_cons_zero, List.set_cons_succ, true_or, or_true, and_self, Bool.false_eq_true, Nat.le_refl, Option.bind_some, Option.map_some, Option.getD_some, Option.isSome_some, List.map_cons, List.map_nil, List.cons_append, List.nil_append, List.append_nil, List.getElem?_cons_zero, List.getElem?_cons_succ, eq_self, Int.reduceLT, Int.reduceLE, Int.reduceNeg, Int.reduceEq]
  rw [szR_ge z0]
  have c1 : ¬ (1000000 - (Siz.siz x0 : Int)) < 0 := by omega
  have n0 : Siz.siz x0 ≤ 1000000 := by omega
  have garg0 := (s.pull 0 rfl).rdAll (n := 5) l0.symm
  try simp (disch := omega) only [VW, VY, VZ, VA, VB, VC, VE, TY, ↓reduceIte, Nat.reduceEqDiff, Nat.reduceAdd, Nat.reduceMul, Nat.reduceSub, Nat.reduceLeDiff, List.length_cons, List.length_nil, List.length_append, List.append_assoc, List.take_succ_cons, List.take_zero, List.drop_succ_cons, List.drop_zero, List.set_cons_zero, List.set_cons_succ, true_or, or_true, and_self, Bool.false_eq_true, Nat.le_refl, Option.bind_some, Option.map_some, Option.getD_some, Option.isSome_some, List.map_cons, List.map_nil, List.cons_append, List.nil_append, List.append_nil, List.getElem?_cons_zero, List.getElem?_cons_succ, eq_self, Int.reduceLT, Int.reduceLE, Int.reduceNeg, Int.reduceEq, l0, tk0, c1, garg0, b_neb, bne_self_eq_false, beq_self_eq_true]
  refine .inl ⟨by kernel_rfl, ?_⟩; refine toWork_c (b := false) (i0.mono s.ext) n0 fun ds2 h2 s2 => ?_
  have s := s.add s2
  have ld2 : ds2.length = 5 := s2.gpull
  have td2 : ds2.take 5 = ds2 := List.take_of_length_le (Nat.le_of_eq ld2)
  have garg0 := (s.pull 1 rfl).rdAll (n := 5) l0.symm
  try simp (disch := omega) only [VW, VY, VZ, VA, VB, VC, VE, TY, ↓reduceIte, Nat.reduceEqDiff, Nat.reduceAdd, Nat.reduceMul, Nat.reduceSub, Nat.reduceLeDiff, List.length_cons, List.length_nil, List.length_append, List.append_assoc, List.take_succ_cons, List.take_zero, List.drop_succ_cons, List.drop_zero, List.set_cons_zero, List.set_cons_succ, true_or, or_true, and_self, Bool.false_eq_true, Nat.le_refl, Option.bind_some, Option.map_some, Option.getD_some, Option.isSome_some, List.map_cons, List.map_nil, List.cons_append, List.nil_append, List.append_nil, List.getElem?_cons_zero, List.getElem?_cons_succ, eq_self, Int.reduceLT, Int.reduceLE, Int.reduceNeg, Int.reduceEq, l0, tk0, c1, ld2, td2, garg0, b_neb, bne_self_eq_false, beq_self_eq_true]
  refine .inl ⟨by kernel_rfl, ?_⟩; refine AreWorkApart_s (s.pull 0 rfl).gHere fun h3 E3 => ?_
  have s := s.mono E3
  have garg0 := (s.pull 1 rfl).rdAll (n := 5) l0.symm
  try simp (disch := omega) only [VW, VY, VZ, VA, VB, VC, VE, TY, ↓reduceIte, Nat.reduceEqDiff, Nat.reduceAdd, Nat.reduceMul, Nat.reduceSub, Nat.reduceLeDiff, List.length_cons, List.length_nil, List.length_append, List.append_assoc, List.take_succ_cons, List.take_zero, List.drop_succ_cons, List.drop_zero, List.set_cons_zero, List.set_cons_succ, true_or, or_true, and_self, Bool.false_eq_true, Nat.le_refl, Option.bind_some, Option.map_some, Option.getD_some, Option.isSome_some, List.map_cons, List.map_nil, List.cons_append, List.nil_append, List.append_nil, List.getElem?_cons_zero, List.getElem?_cons_succ, eq_self, Int.reduceLT, Int.reduceLE, Int.reduceNeg, Int.reduceEq, l0, tk0, c1, ld2, td2, garg0, b_neb, bne_self_eq_false, beq_self_eq_true]
  refine .inl ⟨by kernel_rfl, ?_⟩; refine toWork_c (b := false) (i0.mono s.ext) n0 fun ds4 h4 s4 => ?_
  have s := s.add s4
  have ld4 : ds4.length = 5 := s4.gpull
  have td4 : ds4.take 5 = ds4 := List.take_of_length_le (Nat.le_of_eq ld4)
  have garg0 := (s.pull 2 rfl).rdAll (n := 5) l0.symm
  try simp (disch := omega) only [VW, VY, VZ, VA, VB, VC, VE, TY, ↓reduceIte, Nat.reduceEqDiff, Nat.reduceAdd, Nat.reduceMul, Nat.reduceSub, Nat.reduceLeDiff, List.length_cons, List.length_nil, List.length_append, List.append_assoc, List.take_succ_cons, List.take_zero, List.drop_succ_cons, List.drop_zero, List.set_cons_zero, List.set_cons_succ, true_or, or_true, and_self, Bool.false_eq_true, Nat.le_refl, Option.bind_some, Option.map_some, Option.getD_some, Option.isSome_some, List.map_cons, List.map_nil, List.cons_append, List.nil_append, List.append_nil, List.getElem?_cons_zero, List.getElem?_cons_succ, eq_self, Int.reduceLT, Int.reduceLE, Int.reduceNeg, Int.reduceEq, l0, tk0, c1, ld2, td2, ld4, td4, garg0]
  have s := s.newBlk ds4 30 true
  have garg0 := (s.pull 3 rfl).rdAll (n := 5) l0.symm
  have gx4 := (s.pull 0 rfl).rdAll (n := 5) ld4.symm
  try simp (disch := omega) only [VW, VY, VZ, VA, VB, VC, VE, TY, ↓reduceIte, Nat.reduceEqDiff, Nat.reduceAdd, Nat.reduceMul, Nat.reduceSub, Nat.reduceLeDiff, List.length_cons, List.length_nil, List.length_append, List.append_assoc, List.take_succ_cons, List.take_zero, List.drop_succ_cons, List.drop_zero, List.set_cons_zero, List.set_cons_succ, true_or, or_true, and_self, Bool.false_eq_true, Nat.le_refl, Option.bind_some, Option.map_some, Option.getD_some, Option.isSome_some, List.map_cons, List.map_nil, List.cons_append, List.nil_append, List.append_nil, List.getElem?_cons_zero, List.getElem?_cons_succ, eq_self, Int.reduceLT, Int.reduceLE, Int.reduceNeg, Int.reduceEq, l0, tk0, c1, ld2, td2, ld4, td4, garg0, gx4, b_neb, bne_self_eq_false, beq_self_eq_true]
  refine .inl ⟨by kernel_rfl, ?_⟩; refine AreWorkApart_i (s.pull 1 rfl).gHere fun h5 E5 => ?_
  have s := s.mono E5
  have garg0 := (s.pull 3 rfl).rdAll (n := 5) l0.symm
  have gx4 := (s.pull 0 rfl).rdAll (n := 5) ld4.symm
  try simp (disch := omega) only [VW, VY, VZ, VA, VB, VC, VE, TY, ↓reduceIte, Nat.reduceEqDiff, Nat.reduceAdd, Nat.reduceMul, Nat.reduceSub, Nat.reduceLeDiff, List.length_cons, List.length_nil, List.length_append, List.append_assoc, List.take_succ_cons, List.take_zero, List.drop_succ_cons, List.drop_zero, List.set_cons_zero, List.set_cons_succ, true_or, or_true, and_self, Bool.false_eq_true, Nat.le_refl, Option.bind_some, Option.map_some, Option.getD_some, Option.isSome_some, List.map_cons, List.map_nil, List.cons_append, List.nil_append, List.append_nil, List.getElem?_cons_zero, List.getElem?_cons_succ, eq_self, Int.reduceLT, Int.reduceLE, Int.reduceNeg, Int.reduceEq, l0, tk0, c1, ld2, td2, ld4, td4, garg0, gx4, b_neb, bne_self_eq_false, beq_self_eq_true]
  refine draw_ord [0, 1, 2, 3, 4] (by kernel_rfl) (by simp only [List.filterMap_cons, List.filterMap_nil, List.getElem?_cons_zero, List.getElem?_cons_succ]; rfl) ?_
  try simp (disch := omega) only [VW, VY, VZ, VA, VB, VC, VE, TY, ↓reduceIte, Nat.reduceEqDiff, Nat.reduceAdd, Nat.reduceMul, Nat.reduceSub, Nat.reduceLeDiff, List.length_cons, List.length_nil, List.length_append, List.append_assoc, List.take_succ_cons, List.take_zero, List.drop_succ_cons, List.drop_zero, List.set_cons_zero, List.set_cons_succ, true_or, or_true, and_self, Bool.false_eq_true, Nat.le_refl, Option.bind_some, Option.map_some, Option.getD_some, Option.isSome_some, List.map_cons, List.map_nil, List.cons_append, List.nil_append, List.append_nil, List.getElem?_cons_zero, List.getElem?_cons_succ, eq_self, Int.reduceLT, Int.reduceLE, Int.reduceNeg, Int.reduceEq, l0, tk0, c1, ld2, td2, ld4, td4, garg0, gx4, b_neb, bne_self_eq_false, beq_self_eq_true]
  refine .inl ⟨by kernel_rfl, ?_⟩; refine toWork_c (b := false) (i0.mono s.ext) n0 fun ds6 h6 s6 => ?_
  have s := s.add s6
  have ld6 : ds6.length = 5 := s6.gpull
  have td6 : ds6.take 5 = ds6 := List.take_of_length_le (Nat.le_of_eq ld6)
  have garg0 := (s.pull 4 rfl).rdAll (n := 5) l0.symm
  have gx4 := (s.pull 1 rfl).rdAll (n := 5) ld4.symm
  try simp (disch := omega) only [VW, VY, VZ, VA, VB, VC, VE, TY, ↓reduceIte, Nat.reduceEqDiff, Nat.reduceAdd, Nat.reduceMul, Nat.reduceSub, Nat.reduceLeDiff, List.length_cons, List.length_nil, List.length_append, List.append_assoc, List.take_succ_cons, List.take_zero, List.drop_succ_cons, List.drop_zero, List.set_cons_zero, List.set_cons_succ, true_or, or_true, and_self, Bool.false_eq_true, Nat.le_refl, Option.bind_some, Option.map_some, Option.getD_some, Option.isSome_some, List.map_cons, List.map_nil, List.cons_append, List.nil_append, List.append_nil, List.getElem?_cons_zero, List.getElem?_cons_succ, eq_self, Int.reduceLT, Int.reduceLE, Int.reduceNeg, Int.reduceEq, l0, tk0, c1, ld2, td2, ld4, td4, ld6, td6, garg0, gx4, b_neb, bne_self_eq_false, beq_self_eq_true]
  refine .inl ⟨by kernel_rfl, ?_⟩; refine intactWork_c (s.pull 2 rfl).gGiv (s.pull 0 rfl).gGiv n0 fun h7 E7 => ?_
  have s := s.mono E7
  have garg0 := (s.pull 4 rfl).rdAll (n := 5) l0.symm
  have gx4 := (s.pull 1 rfl).rdAll (n := 5) ld4.symm
  try simp (disch := omega) only [VW, VY, VZ, VA, VB, VC, VE, TY, ↓reduceIte, Nat.reduceEqDiff, Nat.reduceAdd, Nat.reduceMul, Nat.reduceSub, Nat.reduceLeDiff, List.length_cons, List.length_nil, List.length_append, List.append_assoc, List.take_succ_cons, List.take_zero, List.drop_succ_cons, List.drop_zero, List.set_cons_zero, List.set_cons_succ, true_or, or_true, and_self, Bool.false_eq_true, Nat.le_refl, Option.bind_some, Option.map_some, Option.getD_some, Option.isSome_some, List.map_cons, List.map_nil, List.cons_append, List.nil_append, List.append_nil, List.getElem?_cons_zero, List.getElem?_cons_succ, eq_self, Int.reduceLT, Int.reduceLE, Int.reduceNeg, Int.reduceEq, l0, tk0, c1, ld2, td2, ld4, td4, ld6, td6, garg0, gx4, b_neb, bne_self_eq_false, beq_self_eq_true]
  refine .inl ⟨by kernel_rfl, ?_⟩; refine toWork_c (b := true) (i0.mono s.ext) n0 fun ds8 h8 s8 => ?_
  have s := s.add s8
  have ld8 : ds8.length = 5 := s8.gpull
  have td8 : ds8.take 5 = ds8 := List.take_of_length_le (Nat.le_of_eq ld8)
  have garg0 := (s.pull 5 rfl).rdAll (n := 5) l0.symm
  have gx4 := (s.pull 2 rfl).rdAll (n := 5) ld4.symm
  try simp (disch := omega) only [VW, VY, VZ, VA, VB, VC, VE, TY, ↓reduceIte, Nat.reduceEqDiff, Nat.reduceAdd, Nat.reduceMul, Nat.reduceSub, Nat.reduceLeDiff, List.length_cons, List.length_nil, List.length_append, List.append_assoc, List.take_succ_cons, List.take_zero, List.drop_succ_cons, List.drop_zero, List.set_cons_zero, List.set_cons_succ, true_or, or_true, and_self, Bool.false_eq_true, Nat.le_refl, Option.bind_some, Option.map_some, Option.getD_some, Option.isSome_some, List.map_cons, List.map_nil, List.cons_append, List.nil_append, List.append_nil, List.getElem?_cons_zero, List.getElem?_cons_succ, eq_self, Int.reduceLT, Int.reduceLE, Int.reduceNeg, Int.reduceEq, l0, tk0, c1, ld2, td2, ld4, td4, ld6, td6, ld8, td8, garg0, gx4, b_neb, bne_self_eq_false, beq_self_eq_true]
  refine .inl ⟨by kernel_rfl, ?_⟩; refine AreWorkApart_i (s.pull 0 rfl).gHere fun h9 E9 => ?_
  have s := s.mono E9
  have garg0 := (s.pull 5 rfl).rdAll (n := 5) l0.symm
  have gx4 := (s.pull 2 rfl).rdAll (n := 5) ld4.symm
  try simp (disch := omega) only [VW, VY, VZ, VA, VB, VC, VE, TY, ↓reduceIte, Nat.reduceEqDiff, Nat.reduceAdd, Nat.reduceMul, Nat.reduceSub, Nat.reduceLeDiff, List.length_cons, List.length_nil, List.length_append, List.append_assoc, List.take_succ_cons, List.take_zero, List.drop_succ_cons, List.drop_zero, List.set_cons_zero, List.set_cons_succ, true_or, or_true, and_self, Bool.false_eq_true, Nat.le_refl, Option.bind_some, Option.map_some, Option.getD_some, Option.isSome_some, List.map_cons, List.map_nil, List.cons_append, List.nil_append, List.append_nil, List.getElem?_cons_zero, List.getElem?_cons_succ, eq_self, Int.reduceLT, Int.reduceLE, Int.reduceNeg, Int.reduceEq, l0, tk0, c1, ld2, td2, ld4, td4, ld6, td6, ld8, td8, garg0, gx4, b_neb, bne_self_eq_false, beq_self_eq_true]
end Go.Proofs
