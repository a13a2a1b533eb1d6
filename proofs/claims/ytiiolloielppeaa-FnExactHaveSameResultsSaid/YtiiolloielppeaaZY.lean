/- Contracts of functions, facts of types, or the plain law behind one statement (own work): ZY. Conditions: those told in each theorem. -/
import Derived.Test.YtiiolloielppeaaZX
import Derived.Test.YtiiolloielppeaaK2
set_option linter.all false
set_option linter.unusedSimpArgs false
set_option linter.unusedVariables false
set_option maxRecDepth 4000
namespace Go.Proofs
open Go Go.V
theorem haveSameResults_law {h : Heap} {x0 : Wk} {cs0 : List Value} {x1 : Wk} {cs1 : List Value} {a2 : Int} (i0 : Here h x0 cs0) (i1 : Here h x1 cs1) (i2 : inI64 a2) : CallsV Try.prog 8 [.agg cs0.toArray, .agg cs1.toArray, .int .i64 a2] h fun v _ => v = .bool true := by
  refine CallsV.start Try.func8 rfl (by rw [Try.results8]) (by kernel_rfl) (by rw [Try.ntmps8]; simp) ?_
  have l0 := Here.len i0
  rw [Wk.sz] at l0
  have tk0 : cs0.take 5 = cs0 := List.take_of_length_le (Nat.le_of_eq l0)
  have l1 := Here.len i1
  rw [Wk.sz] at l1
  have tk1 : cs1.take 5 = cs1 := List.take_of_length_le (Nat.le_of_eq l1)
  have s := Sep.blk2 h cs0 cs1 24 24 true true
  have garg0 := (s.pull 1 rfl).rdAll (n := 5) l0.symm
  have garg1 := (s.pull 0 rfl).rdAll (n := 5) l1.symm
  try simp (disch := omega) only [VW, VY, VZ, VA, VB, VC, VE, TY, ↓reduceIte, Nat.reduceEqDiff, Nat.reduceAdd, Nat.reduceMul, Nat.reduceSub, Nat.reduceLeDiff, List.length_cons, List.length_nil, List.length_append, List.append_assoc, List.take_succ_cons, List.take_zero, List.drop_succ_cons, List.drop_zero, List.set_cons_zero, List.set_cons_succ, true_or, or_true, and_self, Bool.false_eq_true, Nat.le_refl, Option.bind_some, Option.map_some, Option.getD_some, Option.isSome_some, List.map_cons, List.map_nil, List.cons_append, List.nil_append, List.append_nil, List.getElem?_cons_zero, List.getElem?_cons_succ, eq_self, Int.reduceLT, Int.reduceLE, Int.reduceNeg, Int.reduceEq, l0, tk0, l1, tk1, garg0, garg1, b_neb, bne_self_eq_false, beq_self_eq_true]
  refine .inl ⟨by kernel_rfl, ?_⟩; refine szWork_c (i0.mono s.ext) (by omega) (by omega) fun h1 E1 => ?_
  have s := s.mono E1
  by_cases z0 : (1000000 : Int) < (Siz.siz x0 : Int)
  · rw [szR_lt z0]
    simp (disch := omega) only [VW, VY, VZ, VA, VB, VC, VE, TY, ↓reduceIte, Nat.reduceEqDiff, Nat.reduceAdd, Nat.reduceMul, Nat.reduceSub, Nat.reduceLeDiff, List.length_cons, List.length_nil, List.length_append, List.append_assoc, List.take_succ_cons, List.take_zero, List.drop_succ_cons, List.drop_zero, List.set_cons_zero, List.set_cons_succ, true_or, or_true, and_self, Bool.false_eq_true, Nat.le_refl, Option.bind_some, Option.map_some, Option.getD_some, Option.isSome_some, List.map_cons, List.map_nil, List.cons_append, List.nil_append, List.append_nil, List.getElem?_cons_zero, List.getElem?_cons_succ, eq_self, Int.reduceLT, Int.reduceLE, Int.reduceNeg, Int.reduceEq]
  rw [szR_ge z0]
  have c1 : ¬ (1000000 - (Siz.siz x0 : Int)) < 0 := by omega
  have n0 : Siz.siz x0 ≤ 1000000 := by omega
  have garg0 := (s.pull 1 rfl).rdAll (n := 5) l0.symm
  have garg1 := (s.pull 0 rfl).rdAll (n := 5) l1.symm
  try simp (disch := omega) only [VW, VY, VZ, VA, VB, VC, VE, TY, ↓reduceIte, Nat.reduceEqDiff, Nat.reduceAdd, Nat.reduceMul, Nat.reduceSub, Nat.reduceLeDiff, List.length_cons, List.length_nil, List.length_append, List.append_assoc, List.take_succ_cons, List.take_zero, List.drop_succ_cons, List.drop_zero, List.set_cons_zero, List.set_cons_succ, true_or, or_true, and_self, Bool.false_eq_true, Nat.le_refl, Option.bind_some, Option.map_some, Option.getD_some, Option.isSome_some, List.map_cons, List.map_nil, List.cons_append, List.nil_append, List.append_nil, List.getElem?_cons_zero, List.getElem?_cons_succ, eq_self, Int.reduceLT, Int.reduceLE, Int.reduceNeg, Int.reduceEq, l0, tk0, l1, tk1, c1, garg0, garg1, b_neb, bne_self_eq_false, beq_self_eq_true]
  refine .inl ⟨by kernel_rfl, ?_⟩; refine szWork_c (i1.mono s.ext) (by omega) (by omega) fun h2 E2 => ?_
  have s := s.mono E2
  by_cases z1 : (1000000 - (Siz.siz x0 : Int) : Int) < (Siz.siz x1 : Int)
  · rw [szR_lt z1]
    simp (disch := omega) only [VW, VY, VZ, VA, VB, VC, VE, TY, ↓reduceIte, Nat.reduceEqDiff, Nat.reduceAdd, Nat.reduceMul, Nat.reduceSub, Nat.reduceLeDiff, List.length_cons, List.length_nil, List.length_append, List.append_assoc, List.take_succ_cons, List.take_zero, List.drop_succ_cons, List.drop_zero, List.set_cons_zero, List.set_cons_succ, true_or, or_true, and_self, Bool.false_eq_true, Nat.le_refl, Option.bind_some, Option.map_some, Option.getD_some, Option.isSome_some, List.map_cons, List.map_nil, List.cons_append, List.nil_append, List.append_nil, List.getElem?_cons_zero, List.getElem?_cons_succ, eq_self, Int.reduceLT, Int.reduceLE, Int.reduceNeg, Int.reduceEq]
  rw [szR_ge z1]
  have c2 : ¬ (1000000 - (Siz.siz x0 : Int) - (Siz.siz x1 : Int)) < 0 := by omega
  have n1 : Siz.siz x1 ≤ 1000000 := by omega
  have garg0 := (s.pull 1 rfl).rdAll (n := 5) l0.symm
  have garg1 := (s.pull 0 rfl).rdAll (n := 5) l1.symm
  try simp (disch := omega) only [VW, VY, VZ, VA, VB, VC, VE, TY, ↓reduceIte, Nat.reduceEqDiff, Nat.reduceAdd, Nat.reduceMul, Nat.reduceSub, Nat.reduceLeDiff, List.length_cons, List.length_nil, List.length_append, List.append_assoc, List.take_succ_cons, List.take_zero, List.drop_succ_cons, List.drop_zero, List.set_cons_zero, List.set_cons_succ, true_or, or_true, and_self, Bool.false_eq_true, Nat.le_refl, Option.bind_some, Option.map_some, Option.getD_some, Option.isSome_some, List.map_cons, List.map_nil, List.cons_append, List.nil_append, List.append_nil, List.getElem?_cons_zero, List.getElem?_cons_succ, eq_self, Int.reduceLT, Int.reduceLE, Int.reduceNeg, Int.reduceEq, l0, tk0, l1, tk1, c1, c2, garg0, garg1, b_neb, bne_self_eq_false, beq_self_eq_true]
  refine draw_ord [0, 2, 4, 1, 3, 5, 6, 7, 8, 9, 10] (by kernel_rfl) (by simp only [List.filterMap_cons, List.filterMap_nil, List.getElem?_cons_zero, List.getElem?_cons_succ]; rfl) ?_
  try simp (disch := omega) only [VW, VY, VZ, VA, VB, VC, VE, TY, ↓reduceIte, Nat.reduceEqDiff, Nat.reduceAdd, Nat.reduceMul, Nat.reduceSub, Nat.reduceLeDiff, List.length_cons, List.length_nil, List.length_append, List.append_assoc, List.take_succ_cons, List.take_zero, List.drop_succ_cons, List.drop_zero, List.set_cons_zero, List.set_cons_succ, true_or, or_true, and_self, Bool.false_eq_true, Nat.le_refl, Option.bind_some, Option.map_some, Option.getD_some, Option.isSome_some, List.map_cons, List.map_nil, List.cons_append, List.nil_append, List.append_nil, List.getElem?_cons_zero, List.getElem?_cons_succ, eq_self, Int.reduceLT, Int.reduceLE, Int.reduceNeg, Int.reduceEq, l0, tk0, l1, tk1, c1, c2, garg0, garg1, b_neb, bne_self_eq_false, beq_self_eq_true]
  refine .inl ⟨by kernel_rfl, ?_⟩; refine toWork_c (b := false) (i0.mono s.ext) n0 fun ds3 h3 s3 => ?_
  have s := s.add s3
  have ld3 : ds3.length = 5 := s3.gpull
  have td3 : ds3.take 5 = ds3 := List.take_of_length_le (Nat.le_of_eq ld3)
  have garg0 := (s.pull 2 rfl).rdAll (n := 5) l0.symm
  have garg1 := (s.pull 1 rfl).rdAll (n := 5) l1.symm
  try simp (disch := omega) only [VW, VY, VZ, VA, VB, VC, VE, TY, ↓reduceIte, Nat.reduceEqDiff, Nat.reduceAdd, Nat.reduceMul, Nat.reduceSub, Nat.reduceLeDiff, List.length_cons, List.length_nil, List.length_append, List.append_assoc, List.take_succ_cons, List.take_zero, List.drop_succ_cons, List.drop_zero, List.set_cons_zero, List.set_cons_succ, true_or, or_true, and_self, Bool.false_eq_true, Nat.le_refl, Option.bind_some, Option.map_some, Option.getD_some, Option.isSome_some, List.map_cons, List.map_nil, List.cons_append, List.nil_append, List.append_nil, List.getElem?_cons_zero, List.getElem?_cons_succ, eq_self, Int.reduceLT, Int.reduceLE, Int.reduceNeg, Int.reduceEq, l0, tk0, l1, tk1, c1, c2, ld3, td3, garg0, garg1, b_neb, bne_self_eq_false, beq_self_eq_true]
  refine .inl ⟨by kernel_rfl, ?_⟩; refine toWork_c (b := false) (i1.mono s.ext) n1 fun ds4 h4 s4 => ?_
  have s := s.add s4
  have ld4 : ds4.length = 5 := s4.gpull
  have td4 : ds4.take 5 = ds4 := List.take_of_length_le (Nat.le_of_eq ld4)
  have garg0 := (s.pull 3 rfl).rdAll (n := 5) l0.symm
  have garg1 := (s.pull 2 rfl).rdAll (n := 5) l1.symm
  try simp (disch := omega) only [VW, VY, VZ, VA, VB, VC, VE, TY, ↓reduceIte, Nat.reduceEqDiff, Nat.reduceAdd, Nat.reduceMul, Nat.reduceSub, Nat.reduceLeDiff, List.length_cons, List.length_nil, List.length_append, List.append_assoc, List.take_succ_cons, List.take_zero, List.drop_succ_cons, List.drop_zero, List.set_cons_zero, List.set_cons_succ, true_or, or_true, and_self, Bool.false_eq_true, Nat.le_refl, Option.bind_some, Option.map_some, Option.getD_some, Option.isSome_some, List.map_cons, List.map_nil, List.cons_append, List.nil_append, List.append_nil, List.getElem?_cons_zero, List.getElem?_cons_succ, eq_self, Int.reduceLT, Int.reduceLE, Int.reduceNeg, Int.reduceEq, l0, tk0, l1, tk1, c1, c2, ld3, td3, ld4, td4, garg0, garg1, b_neb, bne_self_eq_false, beq_self_eq_true]
  refine .inl ⟨by kernel_rfl, ?_⟩; refine HaveSameResults_s (s.pull 1 rfl).gHere (s.pull 0 rfl).gHere fun h5 E5 => ?_
  have s := s.mono E5
  have garg0 := (s.pull 3 rfl).rdAll (n := 5) l0.symm
  have garg1 := (s.pull 2 rfl).rdAll (n := 5) l1.symm
  try simp (disch := omega) only [VW, VY, VZ, VA, VB, VC, VE, TY, ↓reduceIte, Nat.reduceEqDiff, Nat.reduceAdd, Nat.reduceMul, Nat.reduceSub, Nat.reduceLeDiff, List.length_cons, List.length_nil, List.length_append, List.append_assoc, List.take_succ_cons, List.take_zero, List.drop_succ_cons, List.drop_zero, List.set_cons_zero, List.set_cons_succ, true_or, or_true, and_self, Bool.false_eq_true, Nat.le_refl, Option.bind_some, Option.map_some, Option.getD_some, Option.isSome_some, List.map_cons, List.map_nil, List.cons_append, List.nil_append, List.append_nil, List.getElem?_cons_zero, List.getElem?_cons_succ, eq_self, Int.reduceLT, Int.reduceLE, Int.reduceNeg, Int.reduceEq, l0, tk0, l1, tk1, c1, c2, ld3, td3, ld4, td4, garg0, garg1, b_neb, bne_self_eq_false, beq_self_eq_true]
  refine .inl ⟨by kernel_rfl, ?_⟩; refine toWork_c (b := false) (i0.mono s.ext) n0 fun ds6 h6 s6 => ?_
  have s := s.add s6
  have ld6 : ds6.length = 5 := s6.gpull
  have td6 : ds6.take 5 = ds6 := List.take_of_length_le (Nat.le_of_eq ld6)
  have garg0 := (s.pull 4 rfl).rdAll (n := 5) l0.symm
  have garg1 := (s.pull 3 rfl).rdAll (n := 5) l1.symm
  try simp (disch := omega) only [VW, VY, VZ, VA, VB, VC, VE, TY, ↓reduceIte, Nat.reduceEqDiff, Nat.reduceAdd, Nat.reduceMul, Nat.reduceSub, Nat.reduceLeDiff, List.length_cons, List.length_nil, List.length_append, List.append_assoc, List.take_succ_cons, List.take_zero, List.drop_succ_cons, List.drop_zero, List.set_cons_zero, List.set_cons_succ, true_or, or_true, and_self, Bool.false_eq_true, Nat.le_refl, Option.bind_some, Option.map_some, Option.getD_some, Option.isSome_some, List.map_cons, List.map_nil, List.cons_append, List.nil_append, List.append_nil, List.getElem?_cons_zero, List.getElem?_cons_succ, eq_self, Int.reduceLT, Int.reduceLE, Int.reduceNeg, Int.reduceEq, l0, tk0, l1, tk1, c1, c2, ld3, td3, ld4, td4, ld6, td6, garg0, garg1]
  have s := s.newBlk ds6 30 true
  have garg0 := (s.pull 5 rfl).rdAll (n := 5) l0.symm
  have garg1 := (s.pull 4 rfl).rdAll (n := 5) l1.symm
  have gx6 := (s.pull 0 rfl).rdAll (n := 5) ld6.symm
  try simp (disch := omega) only [VW, VY, VZ, VA, VB, VC, VE, TY, ↓reduceIte, Nat.reduceEqDiff, Nat.reduceAdd, Nat.reduceMul, Nat.reduceSub, Nat.reduceLeDiff, List.length_cons, List.length_nil, List.length_append, List.append_assoc, List.take_succ_cons, List.take_zero, List.drop_succ_cons, List.drop_zero, List.set_cons_zero, List.set_cons_succ, true_or, or_true, and_self, Bool.false_eq_true, Nat.le_refl, Option.bind_some, Option.map_some, Option.getD_some, Option.isSome_some, List.map_cons, List.map_nil, List.cons_append, List.nil_append, List.append_nil, List.getElem?_cons_zero, List.getElem?_cons_succ, eq_self, Int.reduceLT, Int.reduceLE, Int.reduceNeg, Int.reduceEq, l0, tk0, l1, tk1, c1, c2, ld3, td3, ld4, td4, ld6, td6, garg0, garg1, gx6, b_neb, bne_self_eq_false, beq_self_eq_true]
  refine .inl ⟨by kernel_rfl, ?_⟩; refine toWork_c (b := false) (i1.mono s.ext) n1 fun ds7 h7 s7 => ?_
  have s := s.add s7
  have ld7 : ds7.length = 5 := s7.gpull
  have td7 : ds7.take 5 = ds7 := List.take_of_length_le (Nat.le_of_eq ld7)
  have garg0 := (s.pull 6 rfl).rdAll (n := 5) l0.symm
  have garg1 := (s.pull 5 rfl).rdAll (n := 5) l1.symm
  have gx6 := (s.pull 1 rfl).rdAll (n := 5) ld6.symm
  try simp (disch := omega) only [VW, VY, VZ, VA, VB, VC, VE, TY, ↓reduceIte, Nat.reduceEqDiff, Nat.reduceAdd, Nat.reduceMul, Nat.reduceSub, Nat.reduceLeDiff, List.length_cons, List.length_nil, List.length_append, List.append_assoc, List.take_succ_cons, List.take_zero, List.drop_succ_cons, List.drop_zero, List.set_cons_zero, List.set_cons_succ, true_or, or_true, and_self, Bool.false_eq_true, Nat.le_refl, Option.bind_some, Option.map_some, Option.getD_some, Option.isSome_some, List.map_cons, List.map_nil, List.cons_append, List.nil_append, List.append_nil, List.getElem?_cons_zero, List.getElem?_cons_succ, eq_self, Int.reduceLT, Int.reduceLE, Int.reduceNeg, Int.reduceEq, l0, tk0, l1, tk1, c1, c2, ld3, td3, ld4, td4, ld6, td6, ld7, td7, garg0, garg1, gx6]
  have s := s.newBlk ds7 30 true
  have garg0 := (s.pull 7 rfl).rdAll (n := 5) l0.symm
  have garg1 := (s.pull 6 rfl).rdAll (n := 5) l1.symm
  have gx6 := (s.pull 2 rfl).rdAll (n := 5) ld6.symm
  have gx7 := (s.pull 0 rfl).rdAll (n := 5) ld7.symm
  try simp (disch := omega) only [VW, VY, VZ, VA, VB, VC, VE, TY, ↓reduceIte, Nat.reduceEqDiff, Nat.reduceAdd, Nat.reduceMul, Nat.reduceSub, Nat.reduceLeDiff, List.length_cons, List.length_nil, List.length_append, List.append_assoc, List.take_succ_cons, List.take_zero, List.drop_succ_cons, List.drop_zero, List.set_cons_zero, List.set_cons_succ, true_or, or_true, and_self, Bool.false_eq_true, Nat.le_refl, Option.bind_some, Option.map_some, Option.getD_some, Option.isSome_some, List.map_cons, List.map_nil, List.cons_append, List.nil_append, List.append_nil, List.getElem?_cons_zero, List.getElem?_cons_succ, eq_self, Int.reduceLT, Int.reduceLE, Int.reduceNeg, Int.reduceEq, l0, tk0, l1, tk1, c1, c2, ld3, td3, ld4, td4, ld6, td6, ld7, td7, garg0, garg1, gx6, gx7, b_neb, bne_self_eq_false, beq_self_eq_true]
  refine .inl ⟨by kernel_rfl, ?_⟩; refine HaveSameResults_i (s.pull 3 rfl).gHere (s.pull 1 rfl).gHere fun h8 E8 => ?_
  have s := s.mono E8
  have garg0 := (s.pull 7 rfl).rdAll (n := 5) l0.symm
  have garg1 := (s.pull 6 rfl).rdAll (n := 5) l1.symm
  have gx6 := (s.pull 2 rfl).rdAll (n := 5) ld6.symm
  have gx7 := (s.pull 0 rfl).rdAll (n := 5) ld7.symm
  try simp (disch := omega) only [VW, VY, VZ, VA, VB, VC, VE, TY, ↓reduceIte, Nat.reduceEqDiff, Nat.reduceAdd, Nat.reduceMul, Nat.reduceSub, Nat.reduceLeDiff, List.length_cons, List.length_nil, List.length_append, List.append_assoc, List.take_succ_cons, List.take_zero, List.drop_succ_cons, List.drop_zero, List.set_cons_zero, List.set_cons_succ, true_or, or_true, and_self, Bool.false_eq_true, Nat.le_refl, Option.bind_some, Option.map_some, Option.getD_some, Option.isSome_some, List.map_cons, List.map_nil, List.cons_append, List.nil_append, List.append_nil, List.getElem?_cons_zero, List.getElem?_cons_succ, eq_self, Int.reduceLT, Int.reduceLE, Int.reduceNeg, Int.reduceEq, l0, tk0, l1, tk1, c1, c2, ld3, td3, ld4, td4, ld6, td6, ld7, td7, garg0, garg1, gx6, gx7, b_neb, bne_self_eq_false, beq_self_eq_true]
  refine draw_ord [0, 1, 2, 3, 4] (by kernel_rfl) (by simp only [List.filterMap_cons, List.filterMap_nil, List.getElem?_cons_zero, List.getElem?_cons_succ]; rfl) ?_
  try simp (disch := omega) only [VW, VY, VZ, VA, VB, VC, VE, TY, ↓reduceIte, Nat.reduceEqDiff, Nat.reduceAdd, Nat.reduceMul, Nat.reduceSub, Nat.reduceLeDiff, List.length_cons, List.length_nil, List.length_append, List.append_assoc, List.take_succ_cons, List.take_zero, List.drop_succ_cons, List.drop_zero, List.set_cons_zero, List.set_cons_succ, true_or, or_true, and_self, Bool.false_eq_true, Nat.le_refl, Option.bind_some, Option.map_some, Option.getD_some, Option.isSome_some, List.map_cons, List.map_nil, List.cons_append, List.nil_append, List.append_nil, List.getElem?_cons_zero, List.getElem?_cons_succ, eq_self, Int.reduceLT, Int.reduceLE, Int.reduceNeg, Int.reduceEq, l0, tk0, l1, tk1, c1, c2, ld3, td3, ld4, td4, ld6, td6, ld7, td7, garg0, garg1, gx6, gx7, b_neb, bne_self_eq_false, beq_self_eq_true]
  refine .inl ⟨by kernel_rfl, ?_⟩; refine toWork_c (b := false) (i0.mono s.ext) n0 fun ds9 h9 s9 => ?_
  have s := s.add s9
  have ld9 : ds9.length = 5 := s9.gpull
  have td9 : ds9.take 5 = ds9 := List.take_of_length_le (Nat.le_of_eq ld9)
  have garg0 := (s.pull 8 rfl).rdAll (n := 5) l0.symm
  have garg1 := (s.pull 7 rfl).rdAll (n := 5) l1.symm
  have gx6 := (s.pull 3 rfl).rdAll (n := 5) ld6.symm
  have gx7 := (s.pull 1 rfl).rdAll (n := 5) ld7.symm
  try simp (disch := omega) only [VW, VY, VZ, VA, VB, VC, VE, TY, ↓reduceIte, Nat.reduceEqDiff, Nat.reduceAdd, Nat.reduceMul, Nat.reduceSub, Nat.reduceLeDiff, List.length_cons, List.length_nil, List.length_append, List.append_assoc, List.take_succ_cons, List.take_zero, List.drop_succ_cons, List.drop_zero, List.set_cons_zero, List.set_cons_succ, true_or, or_true, and_self, Bool.false_eq_true, Nat.le_refl, Option.bind_some, Option.map_some, Option.getD_some, Option.isSome_some, List.map_cons, List.map_nil, List.cons_append, List.nil_append, List.append_nil, List.getElem?_cons_zero, List.getElem?_cons_succ, eq_self, Int.reduceLT, Int.reduceLE, Int.reduceNeg, Int.reduceEq, l0, tk0, l1, tk1, c1, c2, ld3, td3, ld4, td4, ld6, td6, ld7, td7, ld9, td9, garg0, garg1, gx6, gx7, b_neb, bne_self_eq_false, beq_self_eq_true]
  refine .inl ⟨by kernel_rfl, ?_⟩; refine intactWork_c (s.pull 4 rfl).gGiv (s.pull 0 rfl).gGiv n0 fun h10 E10 => ?_
  have s := s.mono E10
  have garg0 := (s.pull 8 rfl).rdAll (n := 5) l0.symm
  have garg1 := (s.pull 7 rfl).rdAll (n := 5) l1.symm
  have gx6 := (s.pull 3 rfl).rdAll (n := 5) ld6.symm
  have gx7 := (s.pull 1 rfl).rdAll (n := 5) ld7.symm
  try simp (disch := omega) only [VW, VY, VZ, VA, VB, VC, VE, TY, ↓reduceIte, Nat.reduceEqDiff, Nat.reduceAdd, Nat.reduceMul, Nat.reduceSub, Nat.reduceLeDiff, List.length_cons, List.length_nil, List.length_append, List.append_assoc, List.take_succ_cons, List.take_zero, List.drop_succ_cons, List.drop_zero, List.set_cons_zero, List.set_cons_succ, true_or, or_true, and_self, Bool.false_eq_true, Nat.le_refl, Option.bind_some, Option.map_some, Option.getD_some, Option.isSome_some, List.map_cons, List.map_nil, List.cons_append, List.nil_append, List.append_nil, List.getElem?_cons_zero, List.getElem?_cons_succ, eq_self, Int.reduceLT, Int.reduceLE, Int.reduceNeg, Int.reduceEq, l0, tk0, l1, tk1, c1, c2, ld3, td3, ld4, td4, ld6, td6, ld7, td7, ld9, td9, garg0, garg1, gx6, gx7, b_neb, bne_self_eq_false, beq_self_eq_true]
  refine draw_ord [0, 1, 2, 3, 4] (by kernel_rfl) (by simp only [List.filterMap_cons, List.filterMap_nil, List.getElem?_cons_zero, List.getElem?_cons_succ]; rfl) ?_
  try simp (disch := omega) only [VW, VY, VZ, VA, VB, VC, VE, TY, ↓reduceIte, Nat.reduceEqDiff, Nat.reduceAdd, Nat.reduceMul, Nat.reduceSub, Nat.reduceLeDiff, List.length_cons, List.length_nil, List.length_append, List.append_assoc, List.take_succ_cons, List.take_zero, List.drop_succ_cons, List.drop_zero, List.set_cons_zero, List.set_cons_succ, true_or, or_true, and_self, Bool.false_eq_true, Nat.le_refl, Option.bind_some, Option.map_some, Option.getD_some, Option.isSome_some, List.map_cons, List.map_nil, List.cons_append, List.nil_append, List.append_nil, List.getElem?_cons_zero, List.getElem?_cons_succ, eq_self, Int.reduceLT, Int.reduceLE, Int.reduceNeg, Int.reduceEq, l0, tk0, l1, tk1, c1, c2, ld3, td3, ld4, td4, ld6, td6, ld7, td7, ld9, td9, garg0, garg1, gx6, gx7, b_neb, bne_self_eq_false, beq_self_eq_true]
  refine .inl ⟨by kernel_rfl, ?_⟩; refine toWork_c (b := false) (i1.mono s.ext) n1 fun ds11 h11 s11 => ?_
  have s := s.add s11
  have ld11 : ds11.length = 5 := s11.gpull
  have td11 : ds11.take 5 = ds11 := List.take_of_length_le (Nat.le_of_eq ld11)
  have garg0 := (s.pull 9 rfl).rdAll (n := 5) l0.symm
  have garg1 := (s.pull 8 rfl).rdAll (n := 5) l1.symm
  have gx6 := (s.pull 4 rfl).rdAll (n := 5) ld6.symm
  have gx7 := (s.pull 2 rfl).rdAll (n := 5) ld7.symm
  try simp (disch := omega) only [VW, VY, VZ, VA, VB, VC, VE, TY, ↓reduceIte, Nat.reduceEqDiff, Nat.reduceAdd, Nat.reduceMul, Nat.reduceSub, Nat.reduceLeDiff, List.length_cons, List.length_nil, List.length_append, List.append_assoc, List.take_succ_cons, List.take_zero, List.drop_succ_cons, List.drop_zero, List.set_cons_zero, List.set_cons_succ, true_or, or_true, and_self, Bool.false_eq_true, Nat.le_refl, Option.bind_some, Option.map_some, Option.getD_some, Option.isSome_some, List.map_cons, List.map_nil, List.cons_append, List.nil_append, List.append_nil, List.getElem?_cons_zero, List.getElem?_cons_succ, eq_self, Int.reduceLT, Int.reduceLE, Int.reduceNeg, Int.reduceEq, l0, tk0, l1, tk1, c1, c2, ld3, td3, ld4, td4, ld6, td6, ld7, td7, ld9, td9, ld11, td11, garg0, garg1, gx6, gx7, b_neb, bne_self_eq_false, beq_self_eq_true]
  refine .inl ⟨by kernel_rfl, ?_⟩; refine intactWork_c (s.pull 3 rfl).gGiv (s.pull 0 rfl).gGiv n1 fun h12 E12 => ?_
  have s := s.mono E12
  have garg0 := (s.pull 9 rfl).rdAll (n := 5) l0.symm
  have garg1 := (s.pull 8 rfl).rdAll (n := 5) l1.symm
  have gx6 := (s.pull 4 rfl).rdAll (n := 5) ld6.symm
  have gx7 := (s.pull 2 rfl).rdAll (n := 5) ld7.symm
  try simp (disch := omega) only [VW, VY, VZ, VA, VB, VC, VE, TY, ↓reduceIte, Nat.reduceEqDiff, Nat.reduceAdd, Nat.reduceMul, Nat.reduceSub, Nat.reduceLeDiff, List.length_cons, List.length_nil, List.length_append, List.append_assoc, List.take_succ_cons, List.take_zero, List.drop_succ_cons, List.drop_zero, List.set_cons_zero, List.set_cons_succ, true_or, or_true, and_self, Bool.false_eq_true, Nat.le_refl, Option.bind_some, Option.map_some, Option.getD_some, Option.isSome_some, List.map_cons, List.map_nil, List.cons_append, List.nil_append, List.append_nil, List.getElem?_cons_zero, List.getElem?_cons_succ, eq_self, Int.reduceLT, Int.reduceLE, Int.reduceNeg, Int.reduceEq, l0, tk0, l1, tk1, c1, c2, ld3, td3, ld4, td4, ld6, td6, ld7, td7, ld9, td9, ld11, td11, garg0, garg1, gx6, gx7, b_neb, bne_self_eq_false, beq_self_eq_true]
  refine draw_ord [0, 2, 4, 1, 3, 5, 6, 7, 8, 9, 10] (by kernel_rfl) (by simp only [List.filterMap_cons, List.filterMap_nil, List.getElem?_cons_zero, List.getElem?_cons_succ]; rfl) ?_
  try simp (disch := omega) only [VW, VY, VZ, VA, VB, VC, VE, TY, ↓reduceIte, Nat.reduceEqDiff, Nat.reduceAdd, Nat.reduceMul, Nat.reduceSub, Nat.reduceLeDiff, List.length_cons, List.length_nil, List.length_append, List.append_assoc, List.take_succ_cons, List.take_zero, List.drop_succ_cons, List.drop_zero, List.set_cons_zero, List.set_cons_succ, true_or, or_true, and_self, Bool.false_eq_true, Nat.le_refl, Option.bind_some, Option.map_some, Option.getD_some, Option.isSome_some, List.map_cons, List.map_nil, List.cons_append, List.nil_append, List.append_nil, List.getElem?_cons_zero, List.getElem?_cons_succ, eq_self, Int.reduceLT, Int.reduceLE, Int.reduceNeg, Int.reduceEq, l0, tk0, l1, tk1, c1, c2, ld3, td3, ld4, td4, ld6, td6, ld7, td7, ld9, td9, ld11, td11, garg0, garg1, gx6, gx7, b_neb, bne_self_eq_false, beq_self_eq_true]
  refine .inl ⟨by kernel_rfl, ?_⟩; refine toWork_c (b := true) (i0.mono s.ext) n0 fun ds13 h13 s13 => ?_
  have s := s.add s13
  have ld13 : ds13.length = 5 := s13.gpull
  have td13 : ds13.take 5 = ds13 := List.take_of_length_le (Nat.le_of_eq ld13)
  have garg0 := (s.pull 10 rfl).rdAll (n := 5) l0.symm
  have garg1 := (s.pull 9 rfl).rdAll (n := 5) l1.symm
  have gx6 := (s.pull 5 rfl).rdAll (n := 5) ld6.symm
  have gx7 := (s.pull 3 rfl).rdAll (n := 5) ld7.symm
  try simp (disch := omega) only [VW, VY, VZ, VA, VB, VC, VE, TY, ↓reduceIte, Nat.reduceEqDiff, Nat.reduceAdd, Nat.reduceMul, Nat.reduceSub, Nat.reduceLeDiff, List.length_cons, List.length_nil, List.length_append, List.append_assoc, List.take_succ_cons, List.take_zero, List.drop_succ_cons, List.drop_zero, List.set_cons_zero, List.set_cons_succ, true_or, or_true, and_self, Bool.false_eq_true, Nat.le_refl, Option.bind_some, Option.map_some, Option.getD_some, Option.isSome_some, List.map_cons, List.map_nil, List.cons_append, List.nil_append, List.append_nil, List.getElem?_cons_zero, List.getElem?_cons_succ, eq_self, Int.reduceLT, Int.reduceLE, Int.reduceNeg, Int.reduceEq, l0, tk0, l1, tk1, c1, c2, ld3, td3, ld4, td4, ld6, td6, ld7, td7, ld9, td9, ld11, td11, ld13, td13, garg0, garg1, gx6, gx7, b_neb, bne_self_eq_false, beq_self_eq_true]
  refine .inl ⟨by kernel_rfl, ?_⟩; refine toWork_c (b := true) (i1.mono s.ext) n1 fun ds14 h14 s14 => ?_
  have s := s.add s14
  have ld14 : ds14.length = 5 := s14.gpull
  have td14 : ds14.take 5 = ds14 := List.take_of_length_le (Nat.le_of_eq ld14)
  have garg0 := (s.pull 11 rfl).rdAll (n := 5) l0.symm
  have garg1 := (s.pull 10 rfl).rdAll (n := 5) l1.symm
  have gx6 := (s.pull 6 rfl).rdAll (n := 5) ld6.symm
  have gx7 := (s.pull 4 rfl).rdAll (n := 5) ld7.symm
  try simp (disch := omega) only [VW, VY, VZ, VA, VB, VC, VE, TY, ↓reduceIte, Nat.reduceEqDiff, Nat.reduceAdd, Nat.reduceMul, Nat.reduceSub, Nat.reduceLeDiff, List.length_cons, List.length_nil, List.length_append, List.append_assoc, List.take_succ_cons, List.take_zero, List.drop_succ_cons, List.drop_zero, List.set_cons_zero, List.set_cons_succ, true_or, or_true, and_self, Bool.false_eq_true, Nat.le_refl, Option.bind_some, Option.map_some, Option.getD_some, Option.isSome_some, List.map_cons, List.map_nil, List.cons_append, List.nil_append, List.append_nil, List.getElem?_cons_zero, List.getElem?_cons_succ, eq_self, Int.reduceLT, Int.reduceLE, Int.reduceNeg, Int.reduceEq, l0, tk0, l1, tk1, c1, c2, ld3, td3, ld4, td4, ld6, td6, ld7, td7, ld9, td9, ld11, td11, ld13, td13, ld14, td14, garg0, garg1, gx6, gx7, b_neb, bne_self_eq_false, beq_self_eq_true]
  refine .inl ⟨by kernel_rfl, ?_⟩; refine HaveSameResults_i (s.pull 1 rfl).gHere (s.pull 0 rfl).gHere fun h15 E15 => ?_
  have s := s.mono E15
  have garg0 := (s.pull 11 rfl).rdAll (n := 5) l0.symm
  have garg1 := (s.pull 10 rfl).rdAll (n := 5) l1.symm
  have gx6 := (s.pull 6 rfl).rdAll (n := 5) ld6.symm
  have gx7 := (s.pull 4 rfl).rdAll (n := 5) ld7.symm
  try simp (disch := omega) only [VW, VY, VZ, VA, VB, VC, VE, TY, ↓reduceIte, Nat.reduceEqDiff, Nat.reduceAdd, Nat.reduceMul, Nat.reduceSub, Nat.reduceLeDiff, List.length_cons, List.length_nil, List.length_append, List.append_assoc, List.take_succ_cons, List.take_zero, List.drop_succ_cons, List.drop_zero, List.set_cons_zero, List.set_cons_succ, true_or, or_true, and_self, Bool.false_eq_true, Nat.le_refl, Option.bind_some, Option.map_some, Option.getD_some, Option.isSome_some, List.map_cons, List.map_nil, List.cons_append, List.nil_append, List.append_nil, List.getElem?_cons_zero, List.getElem?_cons_succ, eq_self, Int.reduceLT, Int.reduceLE, Int.reduceNeg, Int.reduceEq, l0, tk0, l1, tk1, c1, c2, ld3, td3, ld4, td4, ld6, td6, ld7, td7, ld9, td9, ld11, td11, ld13, td13, ld14, td14, garg0, garg1, gx6, gx7, b_neb, bne_self_eq_false, beq_self_eq_true]
end Go.Proofs
