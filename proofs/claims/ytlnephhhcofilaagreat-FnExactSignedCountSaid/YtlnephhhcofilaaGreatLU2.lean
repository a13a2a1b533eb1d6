/- Contracts of functions, facts of types, or the plain law behind one statement (own work): LU2. Conditions: those told in each theorem. -/
import Derived.Test.YtlnephhhcofilaaGreatUH
import Derived.Test.YtlnephhhcofilaaGreatH2
import Derived.Test.YtlnephhhcofilaaGreatHT
set_option linter.all false
set_option linter.unusedSimpArgs false
set_option linter.unusedVariables false
set_option maxRecDepth 4000
namespace Go.Proofs
open Go Go.V
theorem signedCount_law {h : Heap} {x0 : (List (List Tm))} {v0 : Value} {x1 : (List Bx)} {v1 : Value} (i0 : Row h x0 v0) (i1 : Row h x1 v1) : CallsV Tryz.prog 4 [v0, v1] h fun v _ => v = .bool true := by
  refine CallsV.start Tryz.func4 rfl (by rw [Tryz.results4]) (by kernel_rfl) (by rw [Tryz.ntmps4]; simp) ?_
  have s := Sep.nil (.refl h)
  try simp (disch := omega) only [VW, VY, VZ, VA, VB, VC, VE, TY, VL, ↓reduceIte, Nat.reduceEqDiff, Nat.reduceAdd, Nat.reduceMul, Nat.reduceSub, Nat.reduceLeDiff, Int.reduceLT, Int.reduceLE, Int.reduceNeg, Int.reduceEq, b_neb, bne_self_eq_false, beq_self_eq_true]
  refine .inl ⟨by kernel_rfl, ?_⟩; refine szTermSS_c (i0.mono s.ext) (by omega) (by omega) fun h1 E1 => ?_
  have s := s.mono E1
  by_cases z0 : (1000000 : Int) < (Siz.siz x0 : Int)
  · rw [szR_lt z0]
    simp (disch := omega) only [VW, VY, VZ, VA, VB, VC, VE, TY, VL, ↓reduceIte, Nat.reduceEqDiff, Nat.reduceAdd, Nat.reduceMul, Nat.reduceSub, Nat.reduceLeDiff, Int.reduceLT, Int.reduceLE, Int.reduceNeg, Int.reduceEq]
  rw [szR_ge z0]
  have c1 : ¬ (1000000 - (Siz.siz x0 : Int)) < 0 := by omega
  have n0 : Siz.siz x0 ≤ 1000000 := by omega
  try simp (disch := omega) only [VW, VY, VZ, VA, VB, VC, VE, TY, VL, ↓reduceIte, Nat.reduceEqDiff, Nat.reduceAdd, Nat.reduceMul, Nat.reduceSub, Nat.reduceLeDiff, Int.reduceLT, Int.reduceLE, Int.reduceNeg, Int.reduceEq, c1, b_neb, bne_self_eq_false, beq_self_eq_true]
  refine .inl ⟨by kernel_rfl, ?_⟩; refine szBoxS_c (i1.mono s.ext) (by omega) (by omega) fun h2 E2 => ?_
  have s := s.mono E2
  by_cases z1 : (1000000 - (Siz.siz x0 : Int) : Int) < (Siz.siz x1 : Int)
  · rw [szR_lt z1]
    simp (disch := omega) only [VW, VY, VZ, VA, VB, VC, VE, TY, VL, ↓reduceIte, Nat.reduceEqDiff, Nat.reduceAdd, Nat.reduceMul, Nat.reduceSub, Nat.reduceLeDiff, Int.reduceLT, Int.reduceLE, Int.reduceNeg, Int.reduceEq]
  rw [szR_ge z1]
  have c2 : ¬ (1000000 - (Siz.siz x0 : Int) - (Siz.siz x1 : Int)) < 0 := by omega
  have n1 : Siz.siz x1 ≤ 1000000 := by omega
  try simp (disch := omega) only [VW, VY, VZ, VA, VB, VC, VE, TY, VL, ↓reduceIte, Nat.reduceEqDiff, Nat.reduceAdd, Nat.reduceMul, Nat.reduceSub, Nat.reduceLeDiff, Int.reduceLT, Int.reduceLE, Int.reduceNeg, Int.reduceEq, c1, c2, b_neb, bne_self_eq_false, beq_self_eq_true]
  refine .inl ⟨by kernel_rfl, ?_⟩; refine toTermSS_c (b := false) (i0.mono s.ext) n0 fun w3 h3 s3 => ?_
  have s := s.add s3
  try simp (disch := omega) only [VW, VY, VZ, VA, VB, VC, VE, TY, VL, ↓reduceIte, Nat.reduceEqDiff, Nat.reduceAdd, Nat.reduceMul, Nat.reduceSub, Nat.reduceLeDiff, Int.reduceLT, Int.reduceLE, Int.reduceNeg, Int.reduceEq, c1, c2, b_neb, bne_self_eq_false, beq_self_eq_true]
  refine .inl ⟨by kernel_rfl, ?_⟩; refine toBoxS_c (b := false) (i1.mono s.ext) n1 fun w4 h4 s4 => ?_
  have s := s.add s4
  try simp (disch := omega) only [VW, VY, VZ, VA, VB, VC, VE, TY, VL, ↓reduceIte, Nat.reduceEqDiff, Nat.reduceAdd, Nat.reduceMul, Nat.reduceSub, Nat.reduceLeDiff, Int.reduceLT, Int.reduceLE, Int.reduceNeg, Int.reduceEq, c1, c2, b_neb, bne_self_eq_false, beq_self_eq_true]
  refine .inl ⟨by kernel_rfl, ?_⟩; refine SignedCount_s (s.pull 1 rfl).gRep.rowR (s.pull 0 rfl).gRep.rowR fun h5 E5 => ?_
  have s := s.mono E5
  try simp (disch := omega) only [VW, VY, VZ, VA, VB, VC, VE, TY, VL, ↓reduceIte, Nat.reduceEqDiff, Nat.reduceAdd, Nat.reduceMul, Nat.reduceSub, Nat.reduceLeDiff, Int.reduceLT, Int.reduceLE, Int.reduceNeg, Int.reduceEq, c1, c2, b_neb, bne_self_eq_false, beq_self_eq_true]
  refine .inl ⟨by kernel_rfl, ?_⟩; refine toTermSS_c (b := false) (i0.mono s.ext) n0 fun w6 h6 s6 => ?_
  have s := s.add s6
  try simp (disch := omega) only [VW, VY, VZ, VA, VB, VC, VE, TY, VL, ↓reduceIte, Nat.reduceEqDiff, Nat.reduceAdd, Nat.reduceMul, Nat.reduceSub, Nat.reduceLeDiff, Int.reduceLT, Int.reduceLE, Int.reduceNeg, Int.reduceEq, c1, c2, b_neb, bne_self_eq_false, beq_self_eq_true]
  refine .inl ⟨by kernel_rfl, ?_⟩; refine toBoxS_c (b := false) (i1.mono s.ext) n1 fun w7 h7 s7 => ?_
  have s := s.add s7
  try simp (disch := omega) only [VW, VY, VZ, VA, VB, VC, VE, TY, VL, ↓reduceIte, Nat.reduceEqDiff, Nat.reduceAdd, Nat.reduceMul, Nat.reduceSub, Nat.reduceLeDiff, Int.reduceLT, Int.reduceLE, Int.reduceNeg, Int.reduceEq, c1, c2, b_neb, bne_self_eq_false, beq_self_eq_true]
  refine .inl ⟨by kernel_rfl, ?_⟩; refine SignedCount_i (s.pull 1 rfl).gRep.rowR (s.pull 0 rfl).gRep.rowR fun h8 E8 => ?_
  have s := s.mono E8
  try simp (disch := omega) only [VW, VY, VZ, VA, VB, VC, VE, TY, VL, ↓reduceIte, Nat.reduceEqDiff, Nat.reduceAdd, Nat.reduceMul, Nat.reduceSub, Nat.reduceLeDiff, Int.reduceLT, Int.reduceLE, Int.reduceNeg, Int.reduceEq, c1, c2, b_neb, bne_self_eq_false, beq_self_eq_true]
  refine .inl ⟨by kernel_rfl, ?_⟩; refine toTermSS_c (b := false) (i0.mono s.ext) n0 fun w9 h9 s9 => ?_
  have s := s.add s9
  try simp (disch := omega) only [VW, VY, VZ, VA, VB, VC, VE, TY, VL, ↓reduceIte, Nat.reduceEqDiff, Nat.reduceAdd, Nat.reduceMul, Nat.reduceSub, Nat.reduceLeDiff, Int.reduceLT, Int.reduceLE, Int.reduceNeg, Int.reduceEq, c1, c2, b_neb, bne_self_eq_false, beq_self_eq_true]
  refine .inl ⟨by kernel_rfl, ?_⟩; refine intactTermSS_c (s.pull 2 rfl).gGiv (s.pull 0 rfl).gGiv n0 fun h10 E10 => ?_
  have s := s.mono E10
  try simp (disch := omega) only [VW, VY, VZ, VA, VB, VC, VE, TY, VL, ↓reduceIte, Nat.reduceEqDiff, Nat.reduceAdd, Nat.reduceMul, Nat.reduceSub, Nat.reduceLeDiff, Int.reduceLT, Int.reduceLE, Int.reduceNeg, Int.reduceEq, c1, c2, b_neb, bne_self_eq_false, beq_self_eq_true]
  refine .inl ⟨by kernel_rfl, ?_⟩; refine toBoxS_c (b := false) (i1.mono s.ext) n1 fun w11 h11 s11 => ?_
  have s := s.add s11
  try simp (disch := omega) only [VW, VY, VZ, VA, VB, VC, VE, TY, VL, ↓reduceIte, Nat.reduceEqDiff, Nat.reduceAdd, Nat.reduceMul, Nat.reduceSub, Nat.reduceLeDiff, Int.reduceLT, Int.reduceLE, Int.reduceNeg, Int.reduceEq, c1, c2, b_neb, bne_self_eq_false, beq_self_eq_true]
  refine .inl ⟨by kernel_rfl, ?_⟩; refine intactBoxS_c (s.pull 2 rfl).gGiv (s.pull 0 rfl).gGiv n1 fun h12 E12 => ?_
  have s := s.mono E12
  try simp (disch := omega) only [VW, VY, VZ, VA, VB, VC, VE, TY, VL, ↓reduceIte, Nat.reduceEqDiff, Nat.reduceAdd, Nat.reduceMul, Nat.reduceSub, Nat.reduceLeDiff, Int.reduceLT, Int.reduceLE, Int.reduceNeg, Int.reduceEq, c1, c2, b_neb, bne_self_eq_false, beq_self_eq_true]
  refine .inl ⟨by kernel_rfl, ?_⟩; refine toTermSS_c (b := true) (i0.mono s.ext) n0 fun w13 h13 s13 => ?_
  have s := s.add s13
  try simp (disch := omega) only [VW, VY, VZ, VA, VB, VC, VE, TY, VL, ↓reduceIte, Nat.reduceEqDiff, Nat.reduceAdd, Nat.reduceMul, Nat.reduceSub, Nat.reduceLeDiff, Int.reduceLT, Int.reduceLE, Int.reduceNeg, Int.reduceEq, c1, c2, b_neb, bne_self_eq_false, beq_self_eq_true]
  refine .inl ⟨by kernel_rfl, ?_⟩; refine toBoxS_c (b := true) (i1.mono s.ext) n1 fun w14 h14 s14 => ?_
  have s := s.add s14
  try simp (disch := omega) only [VW, VY, VZ, VA, VB, VC, VE, TY, VL, ↓reduceIte, Nat.reduceEqDiff, Nat.reduceAdd, Nat.reduceMul, Nat.reduceSub, Nat.reduceLeDiff, Int.reduceLT, Int.reduceLE, Int.reduceNeg, Int.reduceEq, c1, c2, b_neb, bne_self_eq_false, beq_self_eq_true]
  refine .inl ⟨by kernel_rfl, ?_⟩; refine SignedCount_i (s.pull 1 rfl).gRep.rowR (s.pull 0 rfl).gRep.rowR fun h15 E15 => ?_
  have s := s.mono E15
  try simp (disch := omega) only [VW, VY, VZ, VA, VB, VC, VE, TY, VL, ↓reduceIte, Nat.reduceEqDiff, Nat.reduceAdd, Nat.reduceMul, Nat.reduceSub, Nat.reduceLeDiff, Int.reduceLT, Int.reduceLE, Int.reduceNeg, Int.reduceEq, c1, c2, b_neb, bne_self_eq_false, beq_self_eq_true]
end Go.Proofs
