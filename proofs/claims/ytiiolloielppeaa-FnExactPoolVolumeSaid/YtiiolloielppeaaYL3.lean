/- Contracts of functions, facts of types, or the plain law behind one statement (own work): YL3. Conditions: those told in each theorem. -/
import Derived.Test.YtiiolloielppeaaYU2
set_option linter.all false
set_option linter.unusedSimpArgs false
set_option linter.unusedVariables false
set_option maxRecDepth 4000
namespace Go.Proofs
open Go Go.V
theorem poolVolume_law {h : Heap} {x0 : Pl} {cs0 : List Value} {a1 : Int} (i0 : Here h x0 cs0) (i1 : inI64 a1) : CallsV Try.prog 6 [.agg cs0.toArray, .int .i64 a1] h fun v _ => v = .bool true := by
  refine CallsV.start Try.func6 rfl (by rw [Try.results6]) (by kernel_rfl) (by rw [Try.ntmps6]; simp) ?_
  have l0 := Here.len i0
  rw [Pl.sz] at l0
  have tk0 : cs0.take 6 = cs0 := List.take_of_length_le (Nat.le_of_eq l0)
  have s := Sep.blk1 h cs0 55 true
  have garg0 := (s.pull 0 rfl).rdAll (n := 6) l0.symm
  try simp (disch := omega) only [VW, VY, VZ, VA, VB, VC, VE, TY, ↓reduceIte, Nat.reduceEqDiff, Nat.reduceAdd, Nat.reduceMul, Nat.reduceSub, Nat.reduceLeDiff, List.length_cons, List.length_nil, List.length_append, List.append_assoc, List.take_succ_cons, List.take_zero, List.drop_succ_cons, List.drop_zero, List.set_cons_zero, List.set_cons_succ, true_or, or_true, and_self, Bool.false_eq_true, Nat.le_refl, Option.bind_some, Option.map_some, Option.getD_some, Option.isSome_some, List.map_cons, List.map_nil, List.cons_append, List.nil_append, List.append_nil, List.getElem?_cons_zero, List.getElem?_cons_succ, eq_self, Int.reduceLT, Int.reduceLE, Int.reduceNeg, Int.reduceEq, l0, tk0, garg0, b_neb, bne_self_eq_false, beq_self_eq_true]
  refine .inl ⟨by kernel_rfl, ?_⟩; refine szPool_c (i0.mono s.ext) (by omega) (by omega) fun h1 E1 => ?_
  have s := s.mono E1
  by_cases z0 : (1000000 : Int) < (Siz.siz x0 : Int)
  · rw [szR_lt z0]
    simp (disch := omega) only [VW, VY, VZ, VA, VB, VC, VE, TY, ↓reduceIte, Nat.reduceEqDiff, Nat.reduceAdd, Nat.reduceMul, Nat.reduceSub, Nat.reduceLeDiff, List.length_cons, List.length_nil, List.length_append, List.append_assoc, List.take_succ_cons, List.take_zero, List.drop_succ_cons, List.drop_zero, List.set_cons_zero, List.set_cons_succ, true_or, or_true, and_self, Bool.false_eq_true, Nat.le_refl, Option.bind_some, Option.map_some, Option.getD_some, Option.isSome_some, List.map_cons, List.map_nil, List.cons_append, List.nil_append, List.append_nil, List.getElem?_cons_zero, List.getElem?_cons_succ, eq_self, Int.reduceLT, Int.reduceLE, Int.reduceNeg, Int.reduceEq]
  rw [szR_ge z0]
  have c1 : ¬ (1000000 - (Siz.siz x0 : Int)) < 0 := by omega
  have n0 : Siz.siz x0 ≤ 1000000 := by omega
  have garg0 := (s.pull 0 rfl).rdAll (n := 6) l0.symm
  try simp (disch := omega) only [VW, VY, VZ, VA, VB, VC, VE, TY, ↓reduceIte, Nat.reduceEqDiff, Nat.reduceAdd, Nat.reduceMul, Nat.reduceSub, Nat.reduceLeDiff, List.length_cons, List.length_nil, List.length_append, List.append_assoc, List.take_succ_cons, List.take_zero, List.drop_succ_cons, List.drop_zero, List.set_cons_zero, List.set_cons_succ, true_or, or_true, and_self, Bool.false_eq_true, Nat.le_refl, Option.bind_some, Option.map_some, Option.getD_some, Option.isSome_some, List.map_cons, List.map_nil, List.cons_append, List.nil_append, List.append_nil, List.getElem?_cons_zero, List.getElem?_cons_succ, eq_self, Int.reduceLT, Int.reduceLE, Int.reduceNeg, Int.reduceEq, l0, tk0, c1, garg0, b_neb, bne_self_eq_false, beq_self_eq_true]
  refine .inl ⟨by kernel_rfl, ?_⟩; refine toPool_c (b := false) (i0.mono s.ext) n0 fun ds2 h2 s2 => ?_
  have s := s.add s2
  have ld2 : ds2.length = 6 := s2.gpull
  have td2 : ds2.take 6 = ds2 := List.take_of_length_le (Nat.le_of_eq ld2)
  have garg0 := (s.pull 1 rfl).rdAll (n := 6) l0.symm
  try simp (disch := omega) only [VW, VY, VZ, VA, VB, VC, VE, TY, ↓reduceIte, Nat.reduceEqDiff, Nat.reduceAdd, Nat.reduceMul, Nat.reduceSub, Nat.reduceLeDiff, List.length_cons, List.length_nil, List.length_append, List.append_assoc, List.take_succ_cons, List.take_zero, List.drop_succ_cons, List.drop_zero, List.set_cons_zero, List.set_cons_succ, true_or, or_true, and_self, Bool.false_eq_true, Nat.le_refl, Option.bind_some, Option.map_some, Option.getD_some, Option.isSome_some, List.map_cons, List.map_nil, List.cons_append, List.nil_append, List.append_nil, List.getElem?_cons_zero, List.getElem?_cons_succ, eq_self, Int.reduceLT, Int.reduceLE, Int.reduceNeg, Int.reduceEq, l0, tk0, c1, ld2, td2, garg0, b_neb, bne_self_eq_false, beq_self_eq_true]
  refine .inl ⟨by kernel_rfl, ?_⟩; refine PoolVolume_s' (s.pull 0 rfl).gHere fun h3 E3 => ?_
  have s := s.mono E3
  have garg0 := (s.pull 1 rfl).rdAll (n := 6) l0.symm
  have sz3 := s.newBlk [.int .i64 0, .int .i64 0] 39 true
  have gzarg0 := (sz3.pull 2 rfl).rdAll (n := 6) l0.symm
  have sn3 := s.newBlk [.int .i64 (poolVV x0 a1).n, .int .i64 (poolVV x0 a1).k] 39 true
  have gnarg0 := (sn3.pull 2 rfl).rdAll (n := 6) l0.symm
  try simp (disch := omega) only [VW, VY, VZ, VA, VB, VC, VE, TY, ↓reduceIte, Nat.reduceEqDiff, Nat.reduceAdd, Nat.reduceMul, Nat.reduceSub, Nat.reduceLeDiff, List.length_cons, List.length_nil, List.length_append, List.append_assoc, List.take_succ_cons, List.take_zero, List.drop_succ_cons, List.drop_zero, List.set_cons_zero, List.set_cons_succ, true_or, or_true, and_self, Bool.false_eq_true, Nat.le_refl, Option.bind_some, Option.map_some, Option.getD_some, Option.isSome_some, List.map_cons, List.map_nil, List.cons_append, List.nil_append, List.append_nil, List.getElem?_cons_zero, List.getElem?_cons_succ, eq_self, Int.reduceLT, Int.reduceLE, Int.reduceNeg, Int.reduceEq, l0, tk0, c1, ld2, td2, garg0, gzarg0, gnarg0]
  have s := sn3
  have ld3 : ([.int .i64 (poolVV x0 a1).n, .int .i64 (poolVV x0 a1).k] : List Value).length = 2 := rfl
  have garg0 := (s.pull 2 rfl).rdAll (n := 6) l0.symm
  have gvar3 := (s.pull 0 rfl).rdAll (n := 2) ld3.symm
  try simp (disch := omega) only [VW, VY, VZ, VA, VB, VC, VE, TY, ↓reduceIte, Nat.reduceEqDiff, Nat.reduceAdd, Nat.reduceMul, Nat.reduceSub, Nat.reduceLeDiff, List.length_cons, List.length_nil, List.length_append, List.append_assoc, List.take_succ_cons, List.take_zero, List.drop_succ_cons, List.drop_zero, List.set_cons_zero, List.set_cons_succ, true_or, or_true, and_self, Bool.false_eq_true, Nat.le_refl, Option.bind_some, Option.map_some, Option.getD_some, Option.isSome_some, List.map_cons, List.map_nil, List.cons_append, List.nil_append, List.append_nil, List.getElem?_cons_zero, List.getElem?_cons_succ, eq_self, Int.reduceLT, Int.reduceLE, Int.reduceNeg, Int.reduceEq, l0, tk0, c1, ld2, td2, garg0, gvar3, b_neb, bne_self_eq_false, beq_self_eq_true]
  refine .inl ⟨by kernel_rfl, ?_⟩; refine toPool_c (b := false) (i0.mono s.ext) n0 fun ds4 h4 s4 => ?_
  have s := s.add s4
  have ld4 : ds4.length = 6 := s4.gpull
  have td4 : ds4.take 6 = ds4 := List.take_of_length_le (Nat.le_of_eq ld4)
  have garg0 := (s.pull 3 rfl).rdAll (n := 6) l0.symm
  have gvar3 := (s.pull 1 rfl).rdAll (n := 2) ld3.symm
  try simp (disch := omega) only [VW, VY, VZ, VA, VB, VC, VE, TY, ↓reduceIte, Nat.reduceEqDiff, Nat.reduceAdd, Nat.reduceMul, Nat.reduceSub, Nat.reduceLeDiff, List.length_cons, List.length_nil, List.length_append, List.append_assoc, List.take_succ_cons, List.take_zero, List.drop_succ_cons, List.drop_zero, List.set_cons_zero, List.set_cons_succ, true_or, or_true, and_self, Bool.false_eq_true, Nat.le_refl, Option.bind_some, Option.map_some, Option.getD_some, Option.isSome_some, List.map_cons, List.map_nil, List.cons_append, List.nil_append, List.append_nil, List.getElem?_cons_zero, List.getElem?_cons_succ, eq_self, Int.reduceLT, Int.reduceLE, Int.reduceNeg, Int.reduceEq, l0, tk0, c1, ld2, td2, ld4, td4, garg0, gvar3]
  have s := s.newBlk ds4 60 true
  have garg0 := (s.pull 4 rfl).rdAll (n := 6) l0.symm
  have gvar3 := (s.pull 2 rfl).rdAll (n := 2) ld3.symm
  have gx4 := (s.pull 0 rfl).rdAll (n := 6) ld4.symm
  try simp (disch := omega) only [VW, VY, VZ, VA, VB, VC, VE, TY, ↓reduceIte, Nat.reduceEqDiff, Nat.reduceAdd, Nat.reduceMul, Nat.reduceSub, Nat.reduceLeDiff, List.length_cons, List.length_nil, List.length_append, List.append_assoc, List.take_succ_cons, List.take_zero, List.drop_succ_cons, List.drop_zero, List.set_cons_zero, List.set_cons_succ, true_or, or_true, and_self, Bool.false_eq_true, Nat.le_refl, Option.bind_some, Option.map_some, Option.getD_some, Option.isSome_some, List.map_cons, List.map_nil, List.cons_append, List.nil_append, List.append_nil, List.getElem?_cons_zero, List.getElem?_cons_succ, eq_self, Int.reduceLT, Int.reduceLE, Int.reduceNeg, Int.reduceEq, l0, tk0, c1, ld2, td2, ld4, td4, garg0, gvar3, gx4, b_neb, bne_self_eq_false, beq_self_eq_true]
  refine .inl ⟨by kernel_rfl, ?_⟩; refine PoolVolume_i' (s.pull 1 rfl).gHere fun h5 E5 => ?_
  have s := s.mono E5
  have garg0 := (s.pull 4 rfl).rdAll (n := 6) l0.symm
  have gvar3 := (s.pull 2 rfl).rdAll (n := 2) ld3.symm
  have gx4 := (s.pull 0 rfl).rdAll (n := 6) ld4.symm
  have sz5 := s.newBlk [.int .i64 0, .int .i64 0] 39 true
  have gzarg0 := (sz5.pull 5 rfl).rdAll (n := 6) l0.symm
  have gzvar3 := (sz5.pull 3 rfl).rdAll (n := 2) ld3.symm
  have gzx4 := (sz5.pull 1 rfl).rdAll (n := 6) ld4.symm
  have sn5 := s.newBlk [.int .i64 (poolVV x0 a1).n, .int .i64 (poolVV x0 a1).k] 39 true
  have gnarg0 := (sn5.pull 5 rfl).rdAll (n := 6) l0.symm
  have gnvar3 := (sn5.pull 3 rfl).rdAll (n := 2) ld3.symm
  have gnx4 := (sn5.pull 1 rfl).rdAll (n := 6) ld4.symm
  try simp (disch := omega) only [VW, VY, VZ, VA, VB, VC, VE, TY, ↓reduceIte, Nat.reduceEqDiff, Nat.reduceAdd, Nat.reduceMul, Nat.reduceSub, Nat.reduceLeDiff, List.length_cons, List.length_nil, List.length_append, List.append_assoc, List.take_succ_cons, List.take_zero, List.drop_succ_cons, List.drop_zero, List.set_cons_zero, List.set_cons_succ, true_or, or_true, and_self, Bool.false_eq_true, Nat.le_refl, Option.bind_some, Option.map_some, Option.getD_some, Option.isSome_some, List.map_cons, List.map_nil, List.cons_append, List.nil_append, List.append_nil, List.getElem?_cons_zero, List.getElem?_cons_succ, eq_self, Int.reduceLT, Int.reduceLE, Int.reduceNeg, Int.reduceEq, l0, tk0, c1, ld2, td2, ld4, td4, garg0, gvar3, gx4, gzarg0, gzvar3, gzx4, gnarg0, gnvar3, gnx4]
  have s := sn5
  have ld5 : ([.int .i64 (poolVV x0 a1).n, .int .i64 (poolVV x0 a1).k] : List Value).length = 2 := rfl
  have garg0 := (s.pull 5 rfl).rdAll (n := 6) l0.symm
  have gvar3 := (s.pull 3 rfl).rdAll (n := 2) ld3.symm
  have gx4 := (s.pull 1 rfl).rdAll (n := 6) ld4.symm
  have gvar5 := (s.pull 0 rfl).rdAll (n := 2) ld5.symm
  try simp (disch := omega) only [VW, VY, VZ, VA, VB, VC, VE, TY, ↓reduceIte, Nat.reduceEqDiff, Nat.reduceAdd, Nat.reduceMul, Nat.reduceSub, Nat.reduceLeDiff, List.length_cons, List.length_nil, List.length_append, List.append_assoc, List.take_succ_cons, List.take_zero, List.drop_succ_cons, List.drop_zero, List.set_cons_zero, List.set_cons_succ, true_or, or_true, and_self, Bool.false_eq_true, Nat.le_refl, Option.bind_some, Option.map_some, Option.getD_some, Option.isSome_some, List.map_cons, List.map_nil, List.cons_append, List.nil_append, List.append_nil, List.getElem?_cons_zero, List.getElem?_cons_succ, eq_self, Int.reduceLT, Int.reduceLE, Int.reduceNeg, Int.reduceEq, l0, tk0, c1, ld2, td2, ld4, td4, garg0, gvar3, gx4, gvar5, b_neb, bne_self_eq_false, beq_self_eq_true]
  refine .inl ⟨by kernel_rfl, ?_⟩; refine eqDyadic_c (mk_Dy (poolVV_sz x0 a1).1 (poolVV_sz x0 a1).2) (mk_Dy (poolVV_sz x0 a1).1 (poolVV_sz x0 a1).2) fun h6 E6 => ?_
  have s := s.mono E6
  have garg0 := (s.pull 5 rfl).rdAll (n := 6) l0.symm
  have gvar3 := (s.pull 3 rfl).rdAll (n := 2) ld3.symm
  have gx4 := (s.pull 1 rfl).rdAll (n := 6) ld4.symm
  have gvar5 := (s.pull 0 rfl).rdAll (n := 2) ld5.symm
  try simp (disch := omega) only [VW, VY, VZ, VA, VB, VC, VE, TY, ↓reduceIte, Nat.reduceEqDiff, Nat.reduceAdd, Nat.reduceMul, Nat.reduceSub, Nat.reduceLeDiff, List.length_cons, List.length_nil, List.length_append, List.append_assoc, List.take_succ_cons, List.take_zero, List.drop_succ_cons, List.drop_zero, List.set_cons_zero, List.set_cons_succ, true_or, or_true, and_self, Bool.false_eq_true, Nat.le_refl, Option.bind_some, Option.map_some, Option.getD_some, Option.isSome_some, List.map_cons, List.map_nil, List.cons_append, List.nil_append, List.append_nil, List.getElem?_cons_zero, List.getElem?_cons_succ, eq_self, Int.reduceLT, Int.reduceLE, Int.reduceNeg, Int.reduceEq, l0, tk0, c1, ld2, td2, ld4, td4, garg0, gvar3, gx4, gvar5, b_neb, bne_self_eq_false, beq_self_eq_true]
  refine draw_ord [0, 1, 2, 3, 4] (by kernel_rfl) (by simp only [List.filterMap_cons, List.filterMap_nil, List.getElem?_cons_zero, List.getElem?_cons_succ]; rfl) ?_
  try simp (disch := omega) only [VW, VY, VZ, VA, VB, VC, VE, TY, ↓reduceIte, Nat.reduceEqDiff, Nat.reduceAdd, Nat.reduceMul, Nat.reduceSub, Nat.reduceLeDiff, List.length_cons, List.length_nil, List.length_append, List.append_assoc, List.take_succ_cons, List.take_zero, List.drop_succ_cons, List.drop_zero, List.set_cons_zero, List.set_cons_succ, true_or, or_true, and_self, Bool.false_eq_true, Nat.le_refl, Option.bind_some, Option.map_some, Option.getD_some, Option.isSome_some, List.map_cons, List.map_nil, List.cons_append, List.nil_append, List.append_nil, List.getElem?_cons_zero, List.getElem?_cons_succ, eq_self, Int.reduceLT, Int.reduceLE, Int.reduceNeg, Int.reduceEq, l0, tk0, c1, ld2, td2, ld4, td4, garg0, gvar3, gx4, gvar5, b_neb, bne_self_eq_false, beq_self_eq_true]
  refine .inl ⟨by kernel_rfl, ?_⟩; refine toPool_c (b := false) (i0.mono s.ext) n0 fun ds7 h7 s7 => ?_
  have s := s.add s7
  have ld7 : ds7.length = 6 := s7.gpull
  have td7 : ds7.take 6 = ds7 := List.take_of_length_le (Nat.le_of_eq ld7)
  have garg0 := (s.pull 6 rfl).rdAll (n := 6) l0.symm
  have gvar3 := (s.pull 4 rfl).rdAll (n := 2) ld3.symm
  have gx4 := (s.pull 2 rfl).rdAll (n := 6) ld4.symm
  have gvar5 := (s.pull 1 rfl).rdAll (n := 2) ld5.symm
  try simp (disch := omega) only [VW, VY, VZ, VA, VB, VC, VE, TY, ↓reduceIte, Nat.reduceEqDiff, Nat.reduceAdd, Nat.reduceMul, Nat.reduceSub, Nat.reduceLeDiff, List.length_cons, List.length_nil, List.length_append, List.append_assoc, List.take_succ_cons, List.take_zero, List.drop_succ_cons, List.drop_zero, List.set_cons_zero, List.set_cons_succ, true_or, or_true, and_self, Bool.false_eq_true, Nat.le_refl, Option.bind_some, Option.map_some, Option.getD_some, Option.isSome_some, List.map_cons, List.map_nil, List.cons_append, List.nil_append, List.append_nil, List.getElem?_cons_zero, List.getElem?_cons_succ, eq_self, Int.reduceLT, Int.reduceLE, Int.reduceNeg, Int.reduceEq, l0, tk0, c1, ld2, td2, ld4, td4, ld7, td7, garg0, gvar3, gx4, gvar5, b_neb, bne_self_eq_false, beq_self_eq_true]
  refine .inl ⟨by kernel_rfl, ?_⟩; refine intactPool_c (s.pull 3 rfl).gGiv (s.pull 0 rfl).gGiv n0 fun h8 E8 => ?_
  have s := s.mono E8
  have garg0 := (s.pull 6 rfl).rdAll (n := 6) l0.symm
  have gvar3 := (s.pull 4 rfl).rdAll (n := 2) ld3.symm
  have gx4 := (s.pull 2 rfl).rdAll (n := 6) ld4.symm
  have gvar5 := (s.pull 1 rfl).rdAll (n := 2) ld5.symm
  try simp (disch := omega) only [VW, VY, VZ, VA, VB, VC, VE, TY, ↓reduceIte, Nat.reduceEqDiff, Nat.reduceAdd, Nat.reduceMul, Nat.reduceSub, Nat.reduceLeDiff, List.length_cons, List.length_nil, List.length_append, List.append_assoc, List.take_succ_cons, List.take_zero, List.drop_succ_cons, List.drop_zero, List.set_cons_zero, List.set_cons_succ, true_or, or_true, and_self, Bool.false_eq_true, Nat.le_refl, Option.bind_some, Option.map_some, Option.getD_some, Option.isSome_some, List.map_cons, List.map_nil, List.cons_append, List.nil_append, List.append_nil, List.getElem?_cons_zero, List.getElem?_cons_succ, eq_self, Int.reduceLT, Int.reduceLE, Int.reduceNeg, Int.reduceEq, l0, tk0, c1, ld2, td2, ld4, td4, ld7, td7, garg0, gvar3, gx4, gvar5, b_neb, bne_self_eq_false, beq_self_eq_true]
  refine .inl ⟨by kernel_rfl, ?_⟩; refine toPool_c (b := true) (i0.mono s.ext) n0 fun ds9 h9 s9 => ?_
  have s := s.add s9
  have ld9 : ds9.length = 6 := s9.gpull
  have td9 : ds9.take 6 = ds9 := List.take_of_length_le (Nat.le_of_eq ld9)
  have garg0 := (s.pull 7 rfl).rdAll (n := 6) l0.symm
  have gvar3 := (s.pull 5 rfl).rdAll (n := 2) ld3.symm
  have gx4 := (s.pull 3 rfl).rdAll (n := 6) ld4.symm
  have gvar5 := (s.pull 2 rfl).rdAll (n := 2) ld5.symm
  try simp (disch := omega) only [VW, VY, VZ, VA, VB, VC, VE, TY, ↓reduceIte, Nat.reduceEqDiff, Nat.reduceAdd, Nat.reduceMul, Nat.reduceSub, Nat.reduceLeDiff, List.length_cons, List.length_nil, List.length_append, List.append_assoc, List.take_succ_cons, List.take_zero, List.drop_succ_cons, List.drop_zero, List.set_cons_zero, List.set_cons_succ, true_or, or_true, and_self, Bool.false_eq_true, Nat.le_refl, Option.bind_some, Option.map_some, Option.getD_some, Option.isSome_some, List.map_cons, List.map_nil, List.cons_append, List.nil_append, List.append_nil, List.getElem?_cons_zero, List.getElem?_cons_succ, eq_self, Int.reduceLT, Int.reduceLE, Int.reduceNeg, Int.reduceEq, l0, tk0, c1, ld2, td2, ld4, td4, ld7, td7, ld9, td9, garg0, gvar3, gx4, gvar5, b_neb, bne_self_eq_false, beq_self_eq_true]
  refine .inl ⟨by kernel_rfl, ?_⟩; refine PoolVolume_i' (s.pull 0 rfl).gHere fun h10 E10 => ?_
  have s := s.mono E10
  have garg0 := (s.pull 7 rfl).rdAll (n := 6) l0.symm
  have gvar3 := (s.pull 5 rfl).rdAll (n := 2) ld3.symm
  have gx4 := (s.pull 3 rfl).rdAll (n := 6) ld4.symm
  have gvar5 := (s.pull 2 rfl).rdAll (n := 2) ld5.symm
  have sz10 := s.newBlk [.int .i64 0, .int .i64 0] 39 true
  have gzarg0 := (sz10.pull 8 rfl).rdAll (n := 6) l0.symm
  have gzvar3 := (sz10.pull 6 rfl).rdAll (n := 2) ld3.symm
  have gzx4 := (sz10.pull 4 rfl).rdAll (n := 6) ld4.symm
  have gzvar5 := (sz10.pull 3 rfl).rdAll (n := 2) ld5.symm
  have sn10 := s.newBlk [.int .i64 (poolVV x0 a1).n, .int .i64 (poolVV x0 a1).k] 39 true
  have gnarg0 := (sn10.pull 8 rfl).rdAll (n := 6) l0.symm
  have gnvar3 := (sn10.pull 6 rfl).rdAll (n := 2) ld3.symm
  have gnx4 := (sn10.pull 4 rfl).rdAll (n := 6) ld4.symm
  have gnvar5 := (sn10.pull 3 rfl).rdAll (n := 2) ld5.symm
  try simp (disch := omega) only [VW, VY, VZ, VA, VB, VC, VE, TY, ↓reduceIte, Nat.reduceEqDiff, Nat.reduceAdd, Nat.reduceMul, Nat.reduceSub, Nat.reduceLeDiff, List.length_cons, List.length_nil, List.length_append, List.append_assoc, List.take_succ_cons, List.take_zero, List.drop_succ_cons, List.drop_zero, List.set_cons_zero, List.set_cons_succ, true_or, or_true, and_self, Bool.false_eq_true, Nat.le_refl, Option.bind_some, Option.map_some, Option.getD_some, Option.isSome_some, List.map_cons, List.map_nil, List.cons_append, List.nil_append, List.append_nil, List.getElem?_cons_zero, List.getElem?_cons_succ, eq_self, Int.reduceLT, Int.reduceLE, Int.reduceNeg, Int.reduceEq, l0, tk0, c1, ld2, td2, ld4, td4, ld7, td7, ld9, td9, garg0, gvar3, gx4, gvar5, gzarg0, gzvar3, gzx4, gzvar5, gnarg0, gnvar3, gnx4, gnvar5]
  have s := sn10
  have ld10 : ([.int .i64 (poolVV x0 a1).n, .int .i64 (poolVV x0 a1).k] : List Value).length = 2 := rfl
  have garg0 := (s.pull 8 rfl).rdAll (n := 6) l0.symm
  have gvar3 := (s.pull 6 rfl).rdAll (n := 2) ld3.symm
  have gx4 := (s.pull 4 rfl).rdAll (n := 6) ld4.symm
  have gvar5 := (s.pull 3 rfl).rdAll (n := 2) ld5.symm
  have gvar10 := (s.pull 0 rfl).rdAll (n := 2) ld10.symm
  try simp (disch := omega) only [VW, VY, VZ, VA, VB, VC, VE, TY, ↓reduceIte, Nat.reduceEqDiff, Nat.reduceAdd, Nat.reduceMul, Nat.reduceSub, Nat.reduceLeDiff, List.length_cons, List.length_nil, List.length_append, List.append_assoc, List.take_succ_cons, List.take_zero, List.drop_succ_cons, List.drop_zero, List.set_cons_zero, List.set_cons_succ, true_or, or_true, and_self, Bool.false_eq_true, Nat.le_refl, Option.bind_some, Option.map_some, Option.getD_some, Option.isSome_some, List.map_cons, List.map_nil, List.cons_append, List.nil_append, List.append_nil, List.getElem?_cons_zero, List.getElem?_cons_succ, eq_self, Int.reduceLT, Int.reduceLE, Int.reduceNeg, Int.reduceEq, l0, tk0, c1, ld2, td2, ld4, td4, ld7, td7, ld9, td9, garg0, gvar3, gx4, gvar5, gvar10, b_neb, bne_self_eq_false, beq_self_eq_true]
  refine .inl ⟨by kernel_rfl, ?_⟩; refine eqDyadic_c (mk_Dy (poolVV_sz x0 a1).1 (poolVV_sz x0 a1).2) (mk_Dy (poolVV_sz x0 a1).1 (poolVV_sz x0 a1).2) fun h11 E11 => ?_
  have s := s.mono E11
  have garg0 := (s.pull 8 rfl).rdAll (n := 6) l0.symm
  have gvar3 := (s.pull 6 rfl).rdAll (n := 2) ld3.symm
  have gx4 := (s.pull 4 rfl).rdAll (n := 6) ld4.symm
  have gvar5 := (s.pull 3 rfl).rdAll (n := 2) ld5.symm
  have gvar10 := (s.pull 0 rfl).rdAll (n := 2) ld10.symm
  try simp (disch := omega) only [VW, VY, VZ, VA, VB, VC, VE, TY, ↓reduceIte, Nat.reduceEqDiff, Nat.reduceAdd, Nat.reduceMul, Nat.reduceSub, Nat.reduceLeDiff, List.length_cons, List.length_nil, List.length_append, List.append_assoc, List.take_succ_cons, List.take_zero, List.drop_succ_cons, List.drop_zero, List.set_cons_zero, List.set_cons_succ, true_or, or_true, and_self, Bool.false_eq_true, Nat.le_refl, Option.bind_some, Option.map_some, Option.getD_some, Option.isSome_some, List.map_cons, List.map_nil, List.cons_append, List.nil_append, List.append_nil, List.getElem?_cons_zero, List.getElem?_cons_succ, eq_self, Int.reduceLT, Int.reduceLE, Int.reduceNeg, Int.reduceEq, l0, tk0, c1, ld2, td2, ld4, td4, ld7, td7, ld9, td9, garg0, gvar3, gx4, gvar5, gvar10, b_neb, bne_self_eq_false, beq_self_eq_true]
end Go.Proofs
