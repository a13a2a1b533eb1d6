/- Contracts of functions, facts of types, or the plain law behind one statement (own work): LU3. Conditions: those told in each theorem. -/
import Derived.Test.YtlnephhhcofilaaGreatMI
import Derived.Test.YtlnephhhcofilaaGreatH2
import Derived.Test.YtlnephhhcofilaaGreatHT
set_option linter.all false
set_option linter.unusedSimpArgs false
set_option linter.unusedVariables false
set_option maxRecDepth 4000
namespace Go.Proofs
open Go Go.V
open Nat (reduceEqDiff reduceAdd reduceMul reduceSub reduceLeDiff)
open Int (reduceLT reduceLE reduceNeg reduceEq)
theorem doAddUp_law {h : Heap} {x0 : (List (List Tm))} {v0 : Value} {x1 : Bx} {cs1 : List Value} {a2 : Int} (i0 : Row h x0 v0) (i1 : Here h x1 cs1) (i2 : inI64 a2) : CallsV Tryz.prog 5 [v0, .agg cs1.toArray, .int .i64 a2] h fun v _ => v = .bool true := by
  refine CallsV.start Tryz.func5 rfl (by rw [Tryz.results5]) (by kernel_rfl) (by rw [Tryz.ntmps5]; simp) ?_
  have l1 := Here.len i1
  rw [Bx.sz] at l1
  have tk1 : cs1.take 3 = cs1 := List.take_of_length_le (Nat.le_of_eq l1)
  have s := Sep.blk1 h cs1 25 true
  have garg1 := (s.pull 0 rfl).rdAll (n := 3) l1.symm
  try simp (disch := omega) only [WA, ↓reduceIte, reduceEqDiff, reduceAdd, reduceMul, reduceSub, reduceLeDiff, reduceLT, reduceLE, reduceNeg, reduceEq, l1, tk1, garg1, b_neb, bne_self_eq_false, beq_self_eq_true]
  refine .inl ⟨by kernel_rfl, ?_⟩; refine szTermSS_c (i0.mono s.ext) (by omega) (by omega) fun h1 E1 => ?_
  have s := s.mono E1
  by_cases z0 : (1000000 : Int) < (Siz.siz x0 : Int)
  · rw [szR_lt z0]
    simp (disch := omega) only [WA, ↓reduceIte, reduceEqDiff, reduceAdd, reduceMul, reduceSub, reduceLeDiff, reduceLT, reduceLE, reduceNeg, reduceEq]
  rw [szR_ge z0]
  have c1 : ¬ (1000000 - (Siz.siz x0 : Int)) < 0 := by omega
  have n0 : Siz.siz x0 ≤ 1000000 := by omega
  have garg1 := (s.pull 0 rfl).rdAll (n := 3) l1.symm
  try simp (disch := omega) only [WA, ↓reduceIte, reduceEqDiff, reduceAdd, reduceMul, reduceSub, reduceLeDiff, reduceLT, reduceLE, reduceNeg, reduceEq, l1, tk1, c1, garg1, b_neb, bne_self_eq_false, beq_self_eq_true]
  refine .inl ⟨by kernel_rfl, ?_⟩; refine szBox_c (i1.mono s.ext) (by omega) (by omega) fun h2 E2 => ?_
  have s := s.mono E2
  by_cases z1 : (1000000 - (Siz.siz x0 : Int) : Int) < (Siz.siz x1 : Int)
  · rw [szR_lt z1]
    simp (disch := omega) only [WA, ↓reduceIte, reduceEqDiff, reduceAdd, reduceMul, reduceSub, reduceLeDiff, reduceLT, reduceLE, reduceNeg, reduceEq]
  rw [szR_ge z1]
  have c2 : ¬ (1000000 - (Siz.siz x0 : Int) - (Siz.siz x1 : Int)) < 0 := by omega
  have n1 : Siz.siz x1 ≤ 1000000 := by omega
  have garg1 := (s.pull 0 rfl).rdAll (n := 3) l1.symm
  try simp (disch := omega) only [WA, ↓reduceIte, reduceEqDiff, reduceAdd, reduceMul, reduceSub, reduceLeDiff, reduceLT, reduceLE, reduceNeg, reduceEq, l1, tk1, c1, c2, garg1, b_neb, bne_self_eq_false, beq_self_eq_true]
  refine draw_ord [0, 2, 4, 1, 3, 5, 6, 7, 8, 9, 10] (by kernel_rfl) (by simp only [List.filterMap_cons, List.filterMap_nil, List.getElem?_cons_zero, List.getElem?_cons_succ]; rfl) ?_
  try simp (disch := omega) only [WA, ↓reduceIte, reduceEqDiff, reduceAdd, reduceMul, reduceSub, reduceLeDiff, reduceLT, reduceLE, reduceNeg, reduceEq, l1, tk1, c1, c2, garg1, b_neb, bne_self_eq_false, beq_self_eq_true]
  refine .inl ⟨by kernel_rfl, ?_⟩; refine toTermSS_c (b := false) (i0.mono s.ext) n0 fun w3 h3 s3 => ?_
  have s := s.add s3
  have garg1 := (s.pull 1 rfl).rdAll (n := 3) l1.symm
  try simp (disch := omega) only [WA, ↓reduceIte, reduceEqDiff, reduceAdd, reduceMul, reduceSub, reduceLeDiff, reduceLT, reduceLE, reduceNeg, reduceEq, l1, tk1, c1, c2, garg1, b_neb, bne_self_eq_false, beq_self_eq_true]
  refine .inl ⟨by kernel_rfl, ?_⟩; refine toBox_c (b := false) (i1.mono s.ext) n1 fun ds4 h4 s4 => ?_
  have s := s.add s4
  have ld4 : ds4.length = 3 := s4.gpull
  have td4 : ds4.take 3 = ds4 := List.take_of_length_le (Nat.le_of_eq ld4)
  have garg1 := (s.pull 2 rfl).rdAll (n := 3) l1.symm
  try simp (disch := omega) only [WA, ↓reduceIte, reduceEqDiff, reduceAdd, reduceMul, reduceSub, reduceLeDiff, reduceLT, reduceLE, reduceNeg, reduceEq, l1, tk1, c1, c2, ld4, td4, garg1, b_neb, bne_self_eq_false, beq_self_eq_true]
  refine .inl ⟨by kernel_rfl, ?_⟩; refine DoAddUp_s (s.pull 1 rfl).gRep.rowR (s.pull 0 rfl).gHere i2 fun h5 E5 => ?_
  have s := s.mono E5
  have garg1 := (s.pull 2 rfl).rdAll (n := 3) l1.symm
  try simp (disch := omega) only [WA, ↓reduceIte, reduceEqDiff, reduceAdd, reduceMul, reduceSub, reduceLeDiff, reduceLT, reduceLE, reduceNeg, reduceEq, l1, tk1, c1, c2, ld4, td4, garg1, b_neb, bne_self_eq_false, beq_self_eq_true]
  refine .inl ⟨by kernel_rfl, ?_⟩; refine toTermSS_c (b := false) (i0.mono s.ext) n0 fun w6 h6 s6 => ?_
  have s := s.add s6
  have garg1 := (s.pull 3 rfl).rdAll (n := 3) l1.symm
  try simp (disch := omega) only [WA, ↓reduceIte, reduceEqDiff, reduceAdd, reduceMul, reduceSub, reduceLeDiff, reduceLT, reduceLE, reduceNeg, reduceEq, l1, tk1, c1, c2, ld4, td4, garg1, b_neb, bne_self_eq_false, beq_self_eq_true]
  refine .inl ⟨by kernel_rfl, ?_⟩; refine toBox_c (b := false) (i1.mono s.ext) n1 fun ds7 h7 s7 => ?_
  have s := s.add s7
  have ld7 : ds7.length = 3 := s7.gpull
  have td7 : ds7.take 3 = ds7 := List.take_of_length_le (Nat.le_of_eq ld7)
  have garg1 := (s.pull 4 rfl).rdAll (n := 3) l1.symm
  try simp (disch := omega) only [WA, ↓reduceIte, reduceEqDiff, reduceAdd, reduceMul, reduceSub, reduceLeDiff, reduceLT, reduceLE, reduceNeg, reduceEq, l1, tk1, c1, c2, ld4, td4, ld7, td7, garg1]
  have s := s.newBlk ds7 32 true
  have garg1 := (s.pull 5 rfl).rdAll (n := 3) l1.symm
  have gx7 := (s.pull 0 rfl).rdAll (n := 3) ld7.symm
  try simp (disch := omega) only [WA, ↓reduceIte, reduceEqDiff, reduceAdd, reduceMul, reduceSub, reduceLeDiff, reduceLT, reduceLE, reduceNeg, reduceEq, l1, tk1, c1, c2, ld4, td4, ld7, td7, garg1, gx7, b_neb, bne_self_eq_false, beq_self_eq_true]
  refine .inl ⟨by kernel_rfl, ?_⟩; refine DoAddUp_i (s.pull 2 rfl).gRep.rowR (s.pull 1 rfl).gHere i2 fun h8 E8 => ?_
  have s := s.mono E8
  have garg1 := (s.pull 5 rfl).rdAll (n := 3) l1.symm
  have gx7 := (s.pull 0 rfl).rdAll (n := 3) ld7.symm
  try simp (disch := omega) only [WA, ↓reduceIte, reduceEqDiff, reduceAdd, reduceMul, reduceSub, reduceLeDiff, reduceLT, reduceLE, reduceNeg, reduceEq, l1, tk1, c1, c2, ld4, td4, ld7, td7, garg1, gx7, b_neb, bne_self_eq_false, beq_self_eq_true]
  refine .inl ⟨by kernel_rfl, ?_⟩; refine toTermSS_c (b := false) (i0.mono s.ext) n0 fun w9 h9 s9 => ?_
  have s := s.add s9
  have garg1 := (s.pull 6 rfl).rdAll (n := 3) l1.symm
  have gx7 := (s.pull 1 rfl).rdAll (n := 3) ld7.symm
  try simp (disch := omega) only [WA, ↓reduceIte, reduceEqDiff, reduceAdd, reduceMul, reduceSub, reduceLeDiff, reduceLT, reduceLE, reduceNeg, reduceEq, l1, tk1, c1, c2, ld4, td4, ld7, td7, garg1, gx7, b_neb, bne_self_eq_false, beq_self_eq_true]
  refine .inl ⟨by kernel_rfl, ?_⟩; refine intactTermSS_c (s.pull 3 rfl).gGiv (s.pull 0 rfl).gGiv n0 fun h10 E10 => ?_
  have s := s.mono E10
  have garg1 := (s.pull 6 rfl).rdAll (n := 3) l1.symm
  have gx7 := (s.pull 1 rfl).rdAll (n := 3) ld7.symm
  try simp (disch := omega) only [WA, ↓reduceIte, reduceEqDiff, reduceAdd, reduceMul, reduceSub, reduceLeDiff, reduceLT, reduceLE, reduceNeg, reduceEq, l1, tk1, c1, c2, ld4, td4, ld7, td7, garg1, gx7, b_neb, bne_self_eq_false, beq_self_eq_true]
  refine draw_ord [0, 1, 2, 3, 4] (by kernel_rfl) (by simp only [List.filterMap_cons, List.filterMap_nil, List.getElem?_cons_zero, List.getElem?_cons_succ]; rfl) ?_
  try simp (disch := omega) only [WA, ↓reduceIte, reduceEqDiff, reduceAdd, reduceMul, reduceSub, reduceLeDiff, reduceLT, reduceLE, reduceNeg, reduceEq, l1, tk1, c1, c2, ld4, td4, ld7, td7, garg1, gx7, b_neb, bne_self_eq_false, beq_self_eq_true]
  refine .inl ⟨by kernel_rfl, ?_⟩; refine toBox_c (b := false) (i1.mono s.ext) n1 fun ds11 h11 s11 => ?_
  have s := s.add s11
  have ld11 : ds11.length = 3 := s11.gpull
  have td11 : ds11.take 3 = ds11 := List.take_of_length_le (Nat.le_of_eq ld11)
  have garg1 := (s.pull 7 rfl).rdAll (n := 3) l1.symm
  have gx7 := (s.pull 2 rfl).rdAll (n := 3) ld7.symm
  try simp (disch := omega) only [WA, ↓reduceIte, reduceEqDiff, reduceAdd, reduceMul, reduceSub, reduceLeDiff, reduceLT, reduceLE, reduceNeg, reduceEq, l1, tk1, c1, c2, ld4, td4, ld7, td7, ld11, td11, garg1, gx7, b_neb, bne_self_eq_false, beq_self_eq_true]
  refine .inl ⟨by kernel_rfl, ?_⟩; refine intactBox_c (s.pull 3 rfl).gGiv (s.pull 0 rfl).gGiv n1 fun h12 E12 => ?_
  have s := s.mono E12
  have garg1 := (s.pull 7 rfl).rdAll (n := 3) l1.symm
  have gx7 := (s.pull 2 rfl).rdAll (n := 3) ld7.symm
  try simp (disch := omega) only [WA, ↓reduceIte, reduceEqDiff, reduceAdd, reduceMul, reduceSub, reduceLeDiff, reduceLT, reduceLE, reduceNeg, reduceEq, l1, tk1, c1, c2, ld4, td4, ld7, td7, ld11, td11, garg1, gx7, b_neb, bne_self_eq_false, beq_self_eq_true]
  refine draw_ord [0, 2, 4, 1, 3, 5, 6, 7, 8, 9, 10] (by kernel_rfl) (by simp only [List.filterMap_cons, List.filterMap_nil, List.getElem?_cons_zero, List.getElem?_cons_succ]; rfl) ?_
  try simp (disch := omega) only [WA, ↓reduceIte, reduceEqDiff, reduceAdd, reduceMul, reduceSub, reduceLeDiff, reduceLT, reduceLE, reduceNeg, reduceEq, l1, tk1, c1, c2, ld4, td4, ld7, td7, ld11, td11, garg1, gx7, b_neb, bne_self_eq_false, beq_self_eq_true]
  refine .inl ⟨by kernel_rfl, ?_⟩; refine toTermSS_c (b := true) (i0.mono s.ext) n0 fun w13 h13 s13 => ?_
  have s := s.add s13
  have garg1 := (s.pull 8 rfl).rdAll (n := 3) l1.symm
  have gx7 := (s.pull 3 rfl).rdAll (n := 3) ld7.symm
  try simp (disch := omega) only [WA, ↓reduceIte, reduceEqDiff, reduceAdd, reduceMul, reduceSub, reduceLeDiff, reduceLT, reduceLE, reduceNeg, reduceEq, l1, tk1, c1, c2, ld4, td4, ld7, td7, ld11, td11, garg1, gx7, b_neb, bne_self_eq_false, beq_self_eq_true]
  refine .inl ⟨by kernel_rfl, ?_⟩; refine toBox_c (b := true) (i1.mono s.ext) n1 fun ds14 h14 s14 => ?_
  have s := s.add s14
  have ld14 : ds14.length = 3 := s14.gpull
  have td14 : ds14.take 3 = ds14 := List.take_of_length_le (Nat.le_of_eq ld14)
  have garg1 := (s.pull 9 rfl).rdAll (n := 3) l1.symm
  have gx7 := (s.pull 4 rfl).rdAll (n := 3) ld7.symm
  try simp (disch := omega) only [WA, ↓reduceIte, reduceEqDiff, reduceAdd, reduceMul, reduceSub, reduceLeDiff, reduceLT, reduceLE, reduceNeg, reduceEq, l1, tk1, c1, c2, ld4, td4, ld7, td7, ld11, td11, ld14, td14, garg1, gx7, b_neb, bne_self_eq_false, beq_self_eq_true]
  refine .inl ⟨by kernel_rfl, ?_⟩; refine DoAddUp_i (s.pull 1 rfl).gRep.rowR (s.pull 0 rfl).gHere i2 fun h15 E15 => ?_
  have s := s.mono E15
  have garg1 := (s.pull 9 rfl).rdAll (n := 3) l1.symm
  have gx7 := (s.pull 4 rfl).rdAll (n := 3) ld7.symm
  try simp (disch := omega) only [WA, ↓reduceIte, reduceEqDiff, reduceAdd, reduceMul, reduceSub, reduceLeDiff, reduceLT, reduceLE, reduceNeg, reduceEq, l1, tk1, c1, c2, ld4, td4, ld7, td7, ld11, td11, ld14, td14, garg1, gx7, b_neb, bne_self_eq_false, beq_self_eq_true]
end Go.Proofs
