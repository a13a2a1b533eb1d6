/- Contracts of functions, facts of types, or the plain law behind one statement (own work): EL1. Conditions: those told in each theorem. -/
import Derived.Test.YtajkecjbdoineaaEK
import Derived.Test.YtajkecjbdoineaaH6
import Derived.Test.YtajkecjbdoineaaK5
set_option linter.all false
set_option linter.unusedSimpArgs false
set_option linter.unusedVariables false
set_option maxRecDepth 4000
namespace Go.Proofs
open Go Go.V
open Nat (reduceEqDiff reduceAdd reduceMul reduceSub reduceLeDiff)
open Int (reduceLT reduceLE reduceNeg reduceEq)
theorem multiplicityParts_law {h : Heap} {x0 : (List Int)} {v0 : Value} (i0 : Row h x0 v0) : CallsV Try.prog 3 [v0] h fun v _ => v = .bool true := by
  refine CallsV.start Try.func3 rfl (by rw [Try.results3]) (by kernel_rfl) (by rw [Try.ntmps3]; simp) ?_
  have s := Sep.nil (.refl h)
  try simp (disch := omega) only [WA, ↓reduceIte, reduceEqDiff, reduceAdd, reduceMul, reduceSub, reduceLeDiff, reduceLT, reduceLE, reduceNeg, reduceEq, i0.isRow.len, wrap_in]
  by_cases z : (1000000 : Int) < (x0.length : Int)
  · simp (disch := omega) only [WA, ↓reduceIte, reduceEqDiff, reduceAdd, reduceMul, reduceSub, reduceLeDiff, reduceLT, reduceLE, reduceNeg, reduceEq, z]
  have n0 : Siz.siz x0 ≤ 1000000 := by rw [siz_zero (fun _ => rfl)]; omega
  try simp (disch := omega) only [WA, ↓reduceIte, reduceEqDiff, reduceAdd, reduceMul, reduceSub, reduceLeDiff, reduceLT, reduceLE, reduceNeg, reduceEq, z, b_neb, bne_self_eq_false, beq_self_eq_true]
  refine .inl ⟨by kernel_rfl, ?_⟩; refine toIntS_c (b := false) (i0.mono s.ext) n0 fun w1 h1 s1 => ?_
  have s := s.add s1
  try simp (disch := omega) only [WA, ↓reduceIte, reduceEqDiff, reduceAdd, reduceMul, reduceSub, reduceLeDiff, reduceLT, reduceLE, reduceNeg, reduceEq, z, b_neb, bne_self_eq_false, beq_self_eq_true]
  refine .inl ⟨by kernel_rfl, ?_⟩; refine MultiplicityParts_s (s.pull 0 rfl).gRep.rowR fun w2 h2 s2 => ?_
  have s := s.add s2
  have pl2 := s2.rowR.isRow.plain
  try simp (disch := omega) only [WA, ↓reduceIte, reduceEqDiff, reduceAdd, reduceMul, reduceSub, reduceLeDiff, reduceLT, reduceLE, reduceNeg, reduceEq, z, pl2, b_neb, bne_self_eq_false, beq_self_eq_true]
  refine .inl ⟨by kernel_rfl, ?_⟩; refine toIntS_c (b := false) (i0.mono s.ext) n0 fun w3 h3 s3 => ?_
  have s := s.add s3
  try simp (disch := omega) only [WA, ↓reduceIte, reduceEqDiff, reduceAdd, reduceMul, reduceSub, reduceLeDiff, reduceLT, reduceLE, reduceNeg, reduceEq, z, pl2, b_neb, bne_self_eq_false, beq_self_eq_true]
  refine .inl ⟨by kernel_rfl, ?_⟩; refine MultiplicityParts_i (s.pull 0 rfl).gRep.rowR fun w4 h4 s4 => ?_
  have s := s.add s4
  have pl4 := s4.rowR.isRow.plain
  try simp (disch := omega) only [WA, ↓reduceIte, reduceEqDiff, reduceAdd, reduceMul, reduceSub, reduceLeDiff, reduceLT, reduceLE, reduceNeg, reduceEq, z, pl2, pl4, b_neb, bne_self_eq_false, beq_self_eq_true]
  refine .inl ⟨by kernel_rfl, ?_⟩; refine eqIntSS_c ((s.pull 0 rfl).rowR) ((s.pull 2 rfl).rowR) fun h5 E5 => ?_
  have s := s.mono E5
  try simp (disch := omega) only [WA, ↓reduceIte, reduceEqDiff, reduceAdd, reduceMul, reduceSub, reduceLeDiff, reduceLT, reduceLE, reduceNeg, reduceEq, z, pl2, pl4, b_neb, bne_self_eq_false, beq_self_eq_true]
  refine .inl ⟨by kernel_rfl, ?_⟩; refine toIntS_c (b := false) (i0.mono s.ext) n0 fun w6 h6 s6 => ?_
  have s := s.add s6
  try simp (disch := omega) only [WA, ↓reduceIte, reduceEqDiff, reduceAdd, reduceMul, reduceSub, reduceLeDiff, reduceLT, reduceLE, reduceNeg, reduceEq, z, pl2, pl4, b_neb, bne_self_eq_false, beq_self_eq_true]
  refine .inl ⟨by kernel_rfl, ?_⟩; refine intactIntS_c (s.pull 2 rfl).gGiv (s.pull 0 rfl).gGiv n0 fun h7 E7 => ?_
  have s := s.mono E7
  try simp (disch := omega) only [WA, ↓reduceIte, reduceEqDiff, reduceAdd, reduceMul, reduceSub, reduceLeDiff, reduceLT, reduceLE, reduceNeg, reduceEq, z, pl2, pl4, b_neb, bne_self_eq_false, beq_self_eq_true]
  refine .inl ⟨by kernel_rfl, ?_⟩; refine markIntS_c (s.pull 2 rfl).gRep (by decide) (by have := cntL_le x0; omega) fun h8 s => ?_
  have nk8 : ¬ (101 : Int) + (cntL x0 : Nat) < 0 := by omega
  try simp (disch := omega) only [WA, ↓reduceIte, reduceEqDiff, reduceAdd, reduceMul, reduceSub, reduceLeDiff, reduceLT, reduceLE, reduceNeg, reduceEq, z, pl2, pl4, nk8, b_neb, bne_self_eq_false, beq_self_eq_true]
  refine .inl ⟨by kernel_rfl, ?_⟩; refine eqIntSS_c ((s.pull 2 rfl).rowR) ((s.pull 3 rfl).rowR) fun h9 E9 => ?_
  have s := s.mono E9
  try simp (disch := omega) only [WA, ↓reduceIte, reduceEqDiff, reduceAdd, reduceMul, reduceSub, reduceLeDiff, reduceLT, reduceLE, reduceNeg, reduceEq, z, pl2, pl4, nk8, b_neb, bne_self_eq_false, beq_self_eq_true]
  refine .inl ⟨by kernel_rfl, ?_⟩; refine markIntSS_c (s.pull 2 rfl) (by decide) (by have := mpM_cnt x0; omega) fun h10 s => ?_
  try simp (disch := omega) only [WA, ↓reduceIte, reduceEqDiff, reduceAdd, reduceMul, reduceSub, reduceLeDiff, reduceLT, reduceLE, reduceNeg, reduceEq, z, pl2, pl4, nk8, b_neb, bne_self_eq_false, beq_self_eq_true]
  refine .inl ⟨by kernel_rfl, ?_⟩; refine heldIntSS_c (l := ((mpM x0).getD [])) (s.pull 0 rfl).rowR (by decide) (by have := mpM_cnt x0; omega) fun h11 E11 => ?_
  have s := s.mono E11
  have nk11 : ¬ (101 : Int) + (cntL (((mpM x0).getD [])) : Nat) < 0 := by omega
  try simp (disch := omega) only [WA, ↓reduceIte, reduceEqDiff, reduceAdd, reduceMul, reduceSub, reduceLeDiff, reduceLT, reduceLE, reduceNeg, reduceEq, z, pl2, pl4, nk8, nk11, b_neb, bne_self_eq_false, beq_self_eq_true]
  refine .inl ⟨by kernel_rfl, ?_⟩; refine toIntS_c (b := true) (i0.mono s.ext) n0 fun w12 h12 s12 => ?_
  have s := s.add s12
  try simp (disch := omega) only [WA, ↓reduceIte, reduceEqDiff, reduceAdd, reduceMul, reduceSub, reduceLeDiff, reduceLT, reduceLE, reduceNeg, reduceEq, z, pl2, pl4, nk8, nk11, b_neb, bne_self_eq_false, beq_self_eq_true]
  refine .inl ⟨by kernel_rfl, ?_⟩; refine MultiplicityParts_i (s.pull 0 rfl).gRep.rowR fun w13 h13 s13 => ?_
  have s := s.add s13
  have pl13 := s13.rowR.isRow.plain
  try simp (disch := omega) only [WA, ↓reduceIte, reduceEqDiff, reduceAdd, reduceMul, reduceSub, reduceLeDiff, reduceLT, reduceLE, reduceNeg, reduceEq, z, pl2, pl4, nk8, nk11, pl13, b_neb, bne_self_eq_false, beq_self_eq_true]
  refine .inl ⟨by kernel_rfl, ?_⟩; refine eqIntSS_c ((s.pull 0 rfl).rowR) ((s.pull 5 rfl).rowR) fun h14 E14 => ?_
  have s := s.mono E14
  try simp (disch := omega) only [WA, ↓reduceIte, reduceEqDiff, reduceAdd, reduceMul, reduceSub, reduceLeDiff, reduceLT, reduceLE, reduceNeg, reduceEq, z, pl2, pl4, nk8, nk11, pl13, b_neb, bne_self_eq_false, beq_self_eq_true]
  refine .inl ⟨by kernel_rfl, ?_⟩; refine heldIntSS_c (l := ((mpM x0).getD [])) (s.pull 2 rfl).rowR (by decide) (by have := mpM_cnt x0; omega) fun h15 E15 => ?_
  have s := s.mono E15
  have nk15 : ¬ (101 : Int) + (cntL (((mpM x0).getD [])) : Nat) < 0 := by omega
  try simp (disch := omega) only [WA, ↓reduceIte, reduceEqDiff, reduceAdd, reduceMul, reduceSub, reduceLeDiff, reduceLT, reduceLE, reduceNeg, reduceEq, z, pl2, pl4, nk8, nk11, pl13, nk15, b_neb, bne_self_eq_false, beq_self_eq_true]
end Go.Proofs
