/- Contracts of functions, facts of types, or the plain law behind one statement (own work): LJ8. Conditions: those told in each theorem. -/
import Derived.Test.YtdlahbagdkfgmaaDoorJZ
set_option linter.all false
set_option linter.unusedSimpArgs false
set_option linter.unusedVariables false
set_option maxRecDepth 4000
namespace Go.Proofs
open Go Go.V
theorem compactJournal_law {h : Heap} {x0 : Jn} {cs0 : List Value} (i0 : Here h x0 cs0) : CallsV Tryd.prog 10 [.agg cs0.toArray] h fun v _ => v = .bool true := by
  refine CallsV.start Tryd.func10 rfl (by rw [Tryd.results10]) (by kernel_rfl) (by rw [Tryd.ntmps10]; simp) ?_
  have l0 := Here.len i0
  rw [Jn.sz] at l0
  have tk0 : cs0.take 2 = cs0 := List.take_of_length_le (Nat.le_of_eq l0)
  have s := Sep.blk1 h cs0 23 true
  have garg0 := (s.pull 0 rfl).rdAll (n := 2) l0.symm
  try simp (disch := omega) only [VW, VY, VZ, VA, VB, VC, VE, TY, ↓reduceIte, Nat.reduceEqDiff, Nat.reduceAdd, Nat.reduceMul, Nat.reduceSub, Nat.reduceLeDiff, List.length_cons, List.length_nil, List.length_append, List.append_assoc, List.take_succ_cons, List.take_zero, List.drop_succ_cons, List.drop_zero, List.set_cons_zero, List.set_cons_succ, true_or, or_true, and_self, Bool.false_eq_true, Nat.le_refl, Option.bind_some, Option.map_some, Option.getD_some, Option.isSome_some, List.map_cons, List.map_nil, List.cons_append, List.nil_append, List.append_nil, List.getElem?_cons_zero, List.getElem?_cons_succ, eq_self, Int.reduceLT, Int.reduceLE, Int.reduceNeg, Int.reduceEq, l0, tk0, garg0, b_neb, bne_self_eq_false, beq_self_eq_true]
  refine .inl ⟨by kernel_rfl, ?_⟩; refine szJournal_c (i0.mono s.ext) (by omega) (by omega) fun h1 E1 => ?_
  have s := s.mono E1
  by_cases z0 : (1000000 : Int) < (Siz.siz x0 : Int)
  · rw [szR_lt z0]
    simp (disch := omega) only [VW, VY, VZ, VA, VB, VC, VE, TY, ↓reduceIte, Nat.reduceEqDiff, Nat.reduceAdd, Nat.reduceMul, Nat.reduceSub, Nat.reduceLeDiff, List.length_cons, List.length_nil, List.length_append, List.append_assoc, List.take_succ_cons, List.take_zero, List.drop_succ_cons, List.drop_zero, List.set_cons_zero, List.set_cons_succ, true_or, or_true, and_self, Bool.false_eq_true, Nat.le_refl, Option.bind_some, Option.map_some, Option.getD_some, Option.isSome_some, List.map_cons, List.map_nil, List.cons_append, List.nil_append, List.append_nil, List.getElem?_cons_zero, List.getElem?_cons_succ, eq_self, Int.reduceLT, Int.reduceLE, Int.reduceNeg, Int.reduceEq]
  rw [szR_ge z0]
  have c1 : ¬ (1000000 - (Siz.siz x0 : Int)) < 0 := by omega
  have n0 : Siz.siz x0 ≤ 1000000 := by omega
  have garg0 := (s.pull 0 rfl).rdAll (n := 2) l0.symm
  try simp (disch := omega) only [VW, VY, VZ, VA, VB, VC, VE, TY, ↓reduceIte, Nat.reduceEqDiff, Nat.reduceAdd, Nat.reduceMul, Nat.reduceSub, Nat.reduceLeDiff, List.length_cons, List.length_nil, List.length_append, List.append_assoc, List.take_succ_cons, List.take_zero, List.drop_succ_cons, List.drop_zero, List.set_cons_zero, List.set_cons_succ, true_or, or_true, and_self, Bool.false_eq_true, Nat.le_refl, Option.bind_some, Option.map_some, Option.getD_some, Option.isSome_some, List.map_cons, List.map_nil, List.cons_append, List.nil_append, List.append_nil, List.getElem?_cons_zero, List.getElem?_cons_succ, eq_self, Int.reduceLT, Int.reduceLE, Int.reduceNeg, Int.reduceEq, l0, tk0, c1, garg0, b_neb, bne_self_eq_false, beq_self_eq_true]
  refine .inl ⟨by kernel_rfl, ?_⟩; refine toJournal_c (b := false) (i0.mono s.ext) n0 fun ds2 h2 s2 => ?_
  have s := s.add s2
  have ld2 : ds2.length = 2 := s2.gpull
  have td2 : ds2.take 2 = ds2 := List.take_of_length_le (Nat.le_of_eq ld2)
  have garg0 := (s.pull 1 rfl).rdAll (n := 2) l0.symm
  try simp (disch := omega) only [VW, VY, VZ, VA, VB, VC, VE, TY, ↓reduceIte, Nat.reduceEqDiff, Nat.reduceAdd, Nat.reduceMul, Nat.reduceSub, Nat.reduceLeDiff, List.length_cons, List.length_nil, List.length_append, List.append_assoc, List.take_succ_cons, List.take_zero, List.drop_succ_cons, List.drop_zero, List.set_cons_zero, List.set_cons_succ, true_or, or_true, and_self, Bool.false_eq_true, Nat.le_refl, Option.bind_some, Option.map_some, Option.getD_some, Option.isSome_some, List.map_cons, List.map_nil, List.cons_append, List.nil_append, List.append_nil, List.getElem?_cons_zero, List.getElem?_cons_succ, eq_self, Int.reduceLT, Int.reduceLE, Int.reduceNeg, Int.reduceEq, l0, tk0, c1, ld2, td2, garg0, b_neb, bne_self_eq_false, beq_self_eq_true]
  refine .inl ⟨by kernel_rfl, ?_⟩; refine CompactJournal_s (s.pull 0 rfl).gHere n0 fun h3 E3 => ?_
  have s := s.mono E3
  have garg0 := (s.pull 1 rfl).rdAll (n := 2) l0.symm
  have sz3 := s.newBlk [.string ⟨#[]⟩, .string ⟨#[]⟩] 26 true
  have gzarg0 := (sz3.pull 2 rfl).rdAll (n := 2) l0.symm
  have sn3 := s.newBlk [.string (compactM x0).1.safe, .string (compactM x0).1.pending] 26 true
  have gnarg0 := (sn3.pull 2 rfl).rdAll (n := 2) l0.symm
  try simp (disch := omega) only [VW, VY, VZ, VA, VB, VC, VE, TY, ↓reduceIte, Nat.reduceEqDiff, Nat.reduceAdd, Nat.reduceMul, Nat.reduceSub, Nat.reduceLeDiff, List.length_cons, List.length_nil, List.length_append, List.append_assoc, List.take_succ_cons, List.take_zero, List.drop_succ_cons, List.drop_zero, List.set_cons_zero, List.set_cons_succ, true_or, or_true, and_self, Bool.false_eq_true, Nat.le_refl, Option.bind_some, Option.map_some, Option.getD_some, Option.isSome_some, List.map_cons, List.map_nil, List.cons_append, List.nil_append, List.append_nil, List.getElem?_cons_zero, List.getElem?_cons_succ, eq_self, Int.reduceLT, Int.reduceLE, Int.reduceNeg, Int.reduceEq, l0, tk0, c1, ld2, td2, garg0, gzarg0, gnarg0]
  have s := sn3
  have ld3 : ([.string (compactM x0).1.safe, .string (compactM x0).1.pending] : List Value).length = 2 := rfl
  have garg0 := (s.pull 2 rfl).rdAll (n := 2) l0.symm
  have gvar3 := (s.pull 0 rfl).rdAll (n := 2) ld3.symm
  try simp (disch := omega) only [VW, VY, VZ, VA, VB, VC, VE, TY, ↓reduceIte, Nat.reduceEqDiff, Nat.reduceAdd, Nat.reduceMul, Nat.reduceSub, Nat.reduceLeDiff, List.length_cons, List.length_nil, List.length_append, List.append_assoc, List.take_succ_cons, List.take_zero, List.drop_succ_cons, List.drop_zero, List.set_cons_zero, List.set_cons_succ, true_or, or_true, and_self, Bool.false_eq_true, Nat.le_refl, Option.bind_some, Option.map_some, Option.getD_some, Option.isSome_some, List.map_cons, List.map_nil, List.cons_append, List.nil_append, List.append_nil, List.getElem?_cons_zero, List.getElem?_cons_succ, eq_self, Int.reduceLT, Int.reduceLE, Int.reduceNeg, Int.reduceEq, l0, tk0, c1, ld2, td2, garg0, gvar3, b_neb, bne_self_eq_false, beq_self_eq_true]
  refine .inl ⟨by kernel_rfl, ?_⟩; refine toJournal_c (b := false) (i0.mono s.ext) n0 fun ds4 h4 s4 => ?_
  have s := s.add s4
  have ld4 : ds4.length = 2 := s4.gpull
  have td4 : ds4.take 2 = ds4 := List.take_of_length_le (Nat.le_of_eq ld4)
  have garg0 := (s.pull 3 rfl).rdAll (n := 2) l0.symm
  have gvar3 := (s.pull 1 rfl).rdAll (n := 2) ld3.symm
  try simp (disch := omega) only [VW, VY, VZ, VA, VB, VC, VE, TY, ↓reduceIte, Nat.reduceEqDiff, Nat.reduceAdd, Nat.reduceMul, Nat.reduceSub, Nat.reduceLeDiff, List.length_cons, List.length_nil, List.length_append, List.append_assoc, List.take_succ_cons, List.take_zero, List.drop_succ_cons, List.drop_zero, List.set_cons_zero, List.set_cons_succ, true_or, or_true, and_self, Bool.false_eq_true, Nat.le_refl, Option.bind_some, Option.map_some, Option.getD_some, Option.isSome_some, List.map_cons, List.map_nil, List.cons_append, List.nil_append, List.append_nil, List.getElem?_cons_zero, List.getElem?_cons_succ, eq_self, Int.reduceLT, Int.reduceLE, Int.reduceNeg, Int.reduceEq, l0, tk0, c1, ld2, td2, ld4, td4, garg0, gvar3, b_neb, bne_self_eq_false, beq_self_eq_true]
  refine .inl ⟨by kernel_rfl, ?_⟩; refine CompactJournal_i (s.pull 0 rfl).gHere n0 fun h5 E5 => ?_
  have s := s.mono E5
  have garg0 := (s.pull 3 rfl).rdAll (n := 2) l0.symm
  have gvar3 := (s.pull 1 rfl).rdAll (n := 2) ld3.symm
  have sz5 := s.newBlk [.string ⟨#[]⟩, .string ⟨#[]⟩] 26 true
  have gzarg0 := (sz5.pull 4 rfl).rdAll (n := 2) l0.symm
  have gzvar3 := (sz5.pull 2 rfl).rdAll (n := 2) ld3.symm
  have sn5 := s.newBlk [.string (compactM x0).1.safe, .string (compactM x0).1.pending] 26 true
  have gnarg0 := (sn5.pull 4 rfl).rdAll (n := 2) l0.symm
  have gnvar3 := (sn5.pull 2 rfl).rdAll (n := 2) ld3.symm
  try simp (disch := omega) only [VW, VY, VZ, VA, VB, VC, VE, TY, ↓reduceIte, Nat.reduceEqDiff, Nat.reduceAdd, Nat.reduceMul, Nat.reduceSub, Nat.reduceLeDiff, List.length_cons, List.length_nil, List.length_append, List.append_assoc, List.take_succ_cons, List.take_zero, List.drop_succ_cons, List.drop_zero, List.set_cons_zero, List.set_cons_succ, true_or, or_true, and_self, Bool.false_eq_true, Nat.le_refl, Option.bind_some, Option.map_some, Option.getD_some, Option.isSome_some, List.map_cons, List.map_nil, List.cons_append, List.nil_append, List.append_nil, List.getElem?_cons_zero, List.getElem?_cons_succ, eq_self, Int.reduceLT, Int.reduceLE, Int.reduceNeg, Int.reduceEq, l0, tk0, c1, ld2, td2, ld4, td4, garg0, gvar3, gzarg0, gzvar3, gnarg0, gnvar3]
  have s := sn5
  have ld5 : ([.string (compactM x0).1.safe, .string (compactM x0).1.pending] : List Value).length = 2 := rfl
  have garg0 := (s.pull 4 rfl).rdAll (n := 2) l0.symm
  have gvar3 := (s.pull 2 rfl).rdAll (n := 2) ld3.symm
  have gvar5 := (s.pull 0 rfl).rdAll (n := 2) ld5.symm
  try simp (disch := omega) only [VW, VY, VZ, VA, VB, VC, VE, TY, ↓reduceIte, Nat.reduceEqDiff, Nat.reduceAdd, Nat.reduceMul, Nat.reduceSub, Nat.reduceLeDiff, List.length_cons, List.length_nil, List.length_append, List.append_assoc, List.take_succ_cons, List.take_zero, List.drop_succ_cons, List.drop_zero, List.set_cons_zero, List.set_cons_succ, true_or, or_true, and_self, Bool.false_eq_true, Nat.le_refl, Option.bind_some, Option.map_some, Option.getD_some, Option.isSome_some, List.map_cons, List.map_nil, List.cons_append, List.nil_append, List.append_nil, List.getElem?_cons_zero, List.getElem?_cons_succ, eq_self, Int.reduceLT, Int.reduceLE, Int.reduceNeg, Int.reduceEq, l0, tk0, c1, ld2, td2, ld4, td4, garg0, gvar3, gvar5, b_neb, bne_self_eq_false, beq_self_eq_true]
  refine .inl ⟨by kernel_rfl, ?_⟩; refine eqJournal_c (mk_Jn compactM_sz.1 compactM_sz.2) (mk_Jn compactM_sz.1 compactM_sz.2) fun h6 E6 => ?_
  have s := s.mono E6
  have garg0 := (s.pull 4 rfl).rdAll (n := 2) l0.symm
  have gvar3 := (s.pull 2 rfl).rdAll (n := 2) ld3.symm
  have gvar5 := (s.pull 0 rfl).rdAll (n := 2) ld5.symm
  try simp (disch := omega) only [VW, VY, VZ, VA, VB, VC, VE, TY, ↓reduceIte, Nat.reduceEqDiff, Nat.reduceAdd, Nat.reduceMul, Nat.reduceSub, Nat.reduceLeDiff, List.length_cons, List.length_nil, List.length_append, List.append_assoc, List.take_succ_cons, List.take_zero, List.drop_succ_cons, List.drop_zero, List.set_cons_zero, List.set_cons_succ, true_or, or_true, and_self, Bool.false_eq_true, Nat.le_refl, Option.bind_some, Option.map_some, Option.getD_some, Option.isSome_some, List.map_cons, List.map_nil, List.cons_append, List.nil_append, List.append_nil, List.getElem?_cons_zero, List.getElem?_cons_succ, eq_self, Int.reduceLT, Int.reduceLE, Int.reduceNeg, Int.reduceEq, l0, tk0, c1, ld2, td2, ld4, td4, garg0, gvar3, gvar5, b_neb, bne_self_eq_false, beq_self_eq_true]
end Go.Proofs
