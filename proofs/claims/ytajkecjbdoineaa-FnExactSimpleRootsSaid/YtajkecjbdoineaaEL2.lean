/- Contracts of functions, facts of types, or the plain law behind one statement (own work): EL2. Conditions: those told in each theorem. -/
import Derived.Test.YtajkecjbdoineaaEP
import Derived.Test.YtajkecjbdoineaaH6
import Derived.Test.YtajkecjbdoineaaK5
set_option linter.all false
set_option linter.unusedSimpArgs false
set_option linter.unusedVariables false
set_option maxRecDepth 4000
namespace Go.Proofs
open Go Go.V
open Nat (reduceEqDiff reduceAdd reduceMul reduceSub reduceLeDiff)
open Int (reduceLT reduceLE reduceNeg reduceEq)
theorem simpleRoots_law {h : Heap} {x0 : (List Int)} {v0 : Value} (i0 : Row h x0 v0) : CallsV Try.prog 4 [v0] h fun v _ => v = .bool true := by
  refine CallsV.start Try.func4 rfl (by rw [Try.results4]) (by kernel_rfl) (by rw [Try.ntmps4]; simp) ?_
  have s := Sep.nil (.refl h)
  try simp (disch := omega) only [WA, ↓reduceIte, reduceEqDiff, reduceAdd, reduceMul, reduceSub, reduceLeDiff, reduceLT, reduceLE, reduceNeg, reduceEq, i0.isRow.len, wrap_in]
  by_cases z : (1000000 : Int) < (x0.length : Int)
  · simp (disch := omega) only [WA, ↓reduceIte, reduceEqDiff, reduceAdd, reduceMul, reduceSub, reduceLeDiff, reduceLT, reduceLE, reduceNeg, reduceEq, z]
  have n0 : Siz.siz x0 ≤ 1000000 := by rw [siz_zero (fun _ => rfl)]; omega
  try simp (disch := omega) only [WA, ↓reduceIte, reduceEqDiff, reduceAdd, reduceMul, reduceSub, reduceLeDiff, reduceLT, reduceLE, reduceNeg, reduceEq, z, b_neb, bne_self_eq_false, beq_self_eq_true]
  refine .inl ⟨by kernel_rfl, ?_⟩; refine toIntS_c (b := false) (i0.mono s.ext) n0 fun w1 h1 s1 => ?_
  have s := s.add s1
  try simp (disch := omega) only [WA, ↓reduceIte, reduceEqDiff, reduceAdd, reduceMul, reduceSub, reduceLeDiff, reduceLT, reduceLE, reduceNeg, reduceEq, z, b_neb, bne_self_eq_false, beq_self_eq_true]
  refine .inl ⟨by kernel_rfl, ?_⟩; refine SimpleRoots_s (s.pull 0 rfl).gRep.rowR fun h2 E2 => ?_
  have s := s.mono E2
  try simp (disch := omega) only [WA, ↓reduceIte, reduceEqDiff, reduceAdd, reduceMul, reduceSub, reduceLeDiff, reduceLT, reduceLE, reduceNeg, reduceEq, z, b_neb, bne_self_eq_false, beq_self_eq_true]
  refine .inl ⟨by kernel_rfl, ?_⟩; refine toIntS_c (b := false) (i0.mono s.ext) n0 fun w3 h3 s3 => ?_
  have s := s.add s3
  try simp (disch := omega) only [WA, ↓reduceIte, reduceEqDiff, reduceAdd, reduceMul, reduceSub, reduceLeDiff, reduceLT, reduceLE, reduceNeg, reduceEq, z, b_neb, bne_self_eq_false, beq_self_eq_true]
  refine .inl ⟨by kernel_rfl, ?_⟩; refine SimpleRoots_i (s.pull 0 rfl).gRep.rowR fun h4 E4 => ?_
  have s := s.mono E4
  try simp (disch := omega) only [WA, ↓reduceIte, reduceEqDiff, reduceAdd, reduceMul, reduceSub, reduceLeDiff, reduceLT, reduceLE, reduceNeg, reduceEq, z, b_neb, bne_self_eq_false, beq_self_eq_true]
  refine .inl ⟨by kernel_rfl, ?_⟩; refine toIntS_c (b := false) (i0.mono s.ext) n0 fun w5 h5 s5 => ?_
  have s := s.add s5
  try simp (disch := omega) only [WA, ↓reduceIte, reduceEqDiff, reduceAdd, reduceMul, reduceSub, reduceLeDiff, reduceLT, reduceLE, reduceNeg, reduceEq, z, b_neb, bne_self_eq_false, beq_self_eq_true]
  refine .inl ⟨by kernel_rfl, ?_⟩; refine intactIntS_c (s.pull 1 rfl).gGiv (s.pull 0 rfl).gGiv n0 fun h6 E6 => ?_
  have s := s.mono E6
  try simp (disch := omega) only [WA, ↓reduceIte, reduceEqDiff, reduceAdd, reduceMul, reduceSub, reduceLeDiff, reduceLT, reduceLE, reduceNeg, reduceEq, z, b_neb, bne_self_eq_false, beq_self_eq_true]
  refine .inl ⟨by kernel_rfl, ?_⟩; refine toIntS_c (b := true) (i0.mono s.ext) n0 fun w7 h7 s7 => ?_
  have s := s.add s7
  try simp (disch := omega) only [WA, ↓reduceIte, reduceEqDiff, reduceAdd, reduceMul, reduceSub, reduceLeDiff, reduceLT, reduceLE, reduceNeg, reduceEq, z, b_neb, bne_self_eq_false, beq_self_eq_true]
  refine .inl ⟨by kernel_rfl, ?_⟩; refine SimpleRoots_i (s.pull 0 rfl).gRep.rowR fun h8 E8 => ?_
  have s := s.mono E8
  try simp (disch := omega) only [WA, ↓reduceIte, reduceEqDiff, reduceAdd, reduceMul, reduceSub, reduceLeDiff, reduceLT, reduceLE, reduceNeg, reduceEq, z, b_neb, bne_self_eq_false, beq_self_eq_true]
end Go.Proofs
