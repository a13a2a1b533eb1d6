/- Contracts of functions, facts of types, or the plain law behind one statement (own work): LJ5. Conditions: those told in each theorem. -/
import Derived.Test.YtdlahbagdkfgmaaDoorJX
set_option linter.all false
set_option linter.unusedSimpArgs false
set_option linter.unusedVariables false
set_option maxRecDepth 4000
namespace Go.Proofs
open Go Go.V
theorem appendMark_law {h : Heap} {x0 : Jn} {cs0 : List Value} {x1 : Mk} {cs1 : List Value} (i0 : Here h x0 cs0) (i1 : Here h x1 cs1) : CallsV Tryd.prog 8 [.agg cs0.toArray, .agg cs1.toArray] h fun v _ => v = .bool true := by
  refine CallsV.start Tryd.func8 rfl (by rw [Tryd.results8]) (by kernel_rfl) (by rw [Tryd.ntmps8]; simp) ?_
  have l0 := Here.len i0
  rw [Jn.sz] at l0
  have tk0 : cs0.take 2 = cs0 := List.take_of_length_le (Nat.le_of_eq l0)
  have l1 := Here.len i1
  rw [Mk.sz] at l1
  have tk1 : cs1.take 2 = cs1 := List.take_of_length_le (Nat.le_of_eq l1)
  have s := Sep.blk2 h cs0 cs1 23 41 true true
  have garg0 := (s.pull 1 rfl).rdAll (n := 2) l0.symm
  have garg1 := (s.pull 0 rfl).rdAll (n := 2) l1.symm
  try simp (disch := omega) only [VW, VY, VZ, VA, VB, VC, VE, TY, ↓reduceIte, Nat.reduceEqDiff, Nat.reduceAdd, Nat.reduceMul, Nat.reduceSub, Nat.reduceLeDiff, List.length_cons, List.length_nil, List.length_append, List.append_assoc, List.take_succ_cons, List.take_zero, List.drop_succ_cons, List.drop_zero, List.set_cons_zero, List.set_cons_succ, true_or, or_true, and_self, Bool.false_eq_true, Nat.le_refl, Option.bind_some, Option.map_some, Option.getD_some, Option.isSome_some, List.map_cons, List.map_nil, List.cons_append, List.nil_append, List.append_nil, List.getElem?_cons_zero, List.getElem?_cons_succ, eq_self, Int.reduceLT, Int.reduceLE, Int.reduceNeg, Int.reduceEq, l0, tk0, l1, tk1, garg0, garg1, b_neb, bne_self_eq_false, beq_self_eq_true]
  refine .inl ⟨by kernel_rfl, ?_⟩; refine szJournal_c (i0.mono s.ext) (by omega) (by omega) fun h1 E1 => ?_
  have s := s.mono E1
  by_cases z0 : (1000000 : Int) < (Siz.siz x0 : Int)
  · rw [szR_lt z0]
    simp (disch := omega) only [VW, VY, VZ, VA, VB, VC, VE, TY, ↓reduceIte, Nat.reduceEqDiff, Nat.reduceAdd, Nat.reduceMul, Nat.reduceSub, Nat.reduceLeDiff, List.length_cons, List.length_nil, List.length_append, List.append_assoc, List.take_succ_cons, List.take_zero, List.drop_succ_cons, List.drop_zero, List.set_cons_zero, List.set_cons_succ, true_or, or_true, and_self, Bool.false_eq_true, Nat.le_refl, Option.bind_some, Option.map_some, Option.getD_some, Option.isSome_some, List.map_cons, List.map_nil, List.cons_append, List.nil_append, List.append_nil, List.getElem?_cons_zero, List.getElem?_cons_succ, eq_self, Int.reduceLT, Int.reduceLE, Int.reduceNeg, Int.reduceEq]
  rw [szR_ge z0]
  have c1 : ¬ (1000000 - (Siz.siz x0 : Int)) < 0 := by omega
  have n0 : Siz.siz x0 ≤ 1000000 := by omega
  have garg0 := (s.pull 1 rfl).rdAll (n := 2) l0.symm
  have garg1 := (s.pull 0 rfl).rdAll (n := 2) l1.symm
  try simp (disch := omega) only [VW, VY, VZ, VA, VB, VC, VE, TY, ↓reduceIte, Nat.reduceEqDiff, Nat.reduceAdd, Nat.reduceMul, Nat.reduceSub, Nat.reduceLeDiff, List.length_cons, List.length_nil, List.length_append, List.append_assoc, List.take_succ_cons, List.take_zero, List.drop_succ_cons, List.drop_zero, List.set_cons_zero, List.set_cons_succ, true_or, or_true, and_self, Bool.false_eq_true, Nat.le_refl, Option.bind_some, Option.map_some, Option.getD_some, Option.isSome_some, List.map_cons, List.map_nil, List.cons_append, List.nil_append, List.append_nil, List.getElem?_cons_zero, List.getElem?_cons_succ, eq_self, Int.reduceLT, Int.reduceLE, Int.reduceNeg, Int.reduceEq, l0, tk0, l1, tk1, c1, garg0, garg1, b_neb, bne_self_eq_false, beq_self_eq_true]
  refine .inl ⟨by kernel_rfl, ?_⟩; refine szMark_c (i1.mono s.ext) (by omega) (by omega) fun h2 E2 => ?_
  have s := s.mono E2
  by_cases z1 : (1000000 - (Siz.siz x0 : Int) : Int) < (Siz.siz x1 : Int)
  · rw [szR_lt z1]
    simp (disch := omega) only [VW, VY, VZ, VA, VB, VC, VE, TY, ↓reduceIte, Nat.reduceEqDiff, Nat.reduceAdd, Nat.reduceMul, Nat.reduceSub, Nat.reduceLeDiff, List.length_cons, List.length_nil, List.length_append, List.append_assoc, List.take_succ_cons, List.take_zero, List.drop_succ_cons, List.drop_zero, List.set_cons_zero, List.set_cons_succ, true_or, or_true, and_self, Bool.false_eq_true, Nat.le_refl, Option.bind_some, Option.map_some, Option.getD_some, Option.isSome_some, List.map_cons, List.map_nil, List.cons_append, List.nil_append, List.append_nil, List.getElem?_cons_zero, List.getElem?_cons_succ, eq_self, Int.reduceLT, Int.reduceLE, Int.reduceNeg, Int.reduceEq]
  rw [szR_ge z1]
  have c2 : ¬ (1000000 - (Siz.siz x0 : Int) - (Siz.siz x1 : Int)) < 0 := by omega
  have n1 : Siz.siz x1 ≤ 1000000 := by omega
  have garg0 := (s.pull 1 rfl).rdAll (n := 2) l0.symm
  have garg1 := (s.pull 0 rfl).rdAll (n := 2) l1.symm
  try simp (disch := omega) only [VW, VY, VZ, VA, VB, VC, VE, TY, ↓reduceIte, Nat.reduceEqDiff, Nat.reduceAdd, Nat.reduceMul, Nat.reduceSub, Nat.reduceLeDiff, List.length_cons, List.length_nil, List.length_append, List.append_assoc, List.take_succ_cons, List.take_zero, List.drop_succ_cons, List.drop_zero, List.set_cons_zero, List.set_cons_succ, true_or, or_true, and_self, Bool.false_eq_true, Nat.le_refl, Option.bind_some, Option.map_some, Option.getD_some, Option.isSome_some, List.map_cons, List.map_nil, List.cons_append, List.nil_append, List.append_nil, List.getElem?_cons_zero, List.getElem?_cons_succ, eq_self, Int.reduceLT, Int.reduceLE, Int.reduceNeg, Int.reduceEq, l0, tk0, l1, tk1, c1, c2, garg0, garg1, b_neb, bne_self_eq_false, beq_self_eq_true]
  refine draw_post (fun e' h' => ∃ (b : Nat), e' 6 = .pointer (some ⟨b, 0, none⟩) ∧ e' 7 = .bool (appendM x0 x1).2 ∧ e' 2 = .pointer (some ⟨h.length, 0, none⟩) ∧ e' 3 = .pointer (some ⟨h.length + 1, 0, none⟩) ∧ Sep h h' [blkA b [.string (appendM x0 x1).1.safe, .string (appendM x0 x1).1.pending] 26, blkA (h.length + 1) cs1 41, blkA (h.length) cs0 23]) ?_ ?_
  focus
    refine draw_tail [0, 2] [1, 3, 4, 5, 6, 7, 8, 9, 10] (by kernel_rfl) (by simp only [List.filterMap_cons, List.filterMap_nil, List.getElem?_cons_zero, List.getElem?_cons_succ]; rfl) ?_
    try simp (disch := omega) only [VW, VY, VZ, VA, VB, VC, VE, TY, ↓reduceIte, Nat.reduceEqDiff, Nat.reduceAdd, Nat.reduceMul, Nat.reduceSub, Nat.reduceLeDiff, List.length_cons, List.length_nil, List.length_append, List.append_assoc, List.take_succ_cons, List.take_zero, List.drop_succ_cons, List.drop_zero, List.set_cons_zero, List.set_cons_succ, true_or, or_true, and_self, Bool.false_eq_true, Nat.le_refl, Option.bind_some, Option.map_some, Option.getD_some, Option.isSome_some, List.map_cons, List.map_nil, List.cons_append, List.nil_append, List.append_nil, List.getElem?_cons_zero, List.getElem?_cons_succ, eq_self, Int.reduceLT, Int.reduceLE, Int.reduceNeg, Int.reduceEq, l0, tk0, l1, tk1, c1, c2, garg0, garg1, b_neb, bne_self_eq_false, beq_self_eq_true]
    refine tail_step [(1, [], [3, 4, 5, 6, 7, 8, 9, 10]), (8, [], [1, 3, 4, 5, 6, 7, 9, 10])] (by kernel_rfl) (by kernel_rfl) (a_cons (by simp only [List.filterMap_cons, List.filterMap_nil, List.getElem?_cons_zero, List.getElem?_cons_succ]; rfl) (by kernel_rfl) ?_ (a_cons (by simp only [List.filterMap_cons, List.filterMap_nil, List.getElem?_cons_zero, List.getElem?_cons_succ]; rfl) (by kernel_rfl) ?_ trivial))
    focus
      have garg0 := (s.pull 1 rfl).rdAll (n := 2) l0.symm
      have garg1 := (s.pull 0 rfl).rdAll (n := 2) l1.symm
      try simp (disch := omega) only [VW, VY, VZ, VA, VB, VC, VE, TY, ↓reduceIte, Nat.reduceEqDiff, Nat.reduceAdd, Nat.reduceMul, Nat.reduceSub, Nat.reduceLeDiff, List.length_cons, List.length_nil, List.length_append, List.append_assoc, List.take_succ_cons, List.take_zero, List.drop_succ_cons, List.drop_zero, List.set_cons_zero, List.set_cons_succ, true_or, or_true, and_self, Bool.false_eq_true, Nat.le_refl, Option.bind_some, Option.map_some, Option.getD_some, Option.isSome_some, List.map_cons, List.map_nil, List.cons_append, List.nil_append, List.append_nil, List.getElem?_cons_zero, List.getElem?_cons_succ, eq_self, Int.reduceLT, Int.reduceLE, Int.reduceNeg, Int.reduceEq, l0, tk0, l1, tk1, c1, c2, garg0, garg1]
      refine .inl ⟨by kernel_rfl, ?_⟩; refine toJournal_c (b := false) (i0.mono s.ext) n0 fun ds4 h4 s4 => ?_
      have s := s.add s4
      have ld4 : ds4.length = 2 := s4.gpull
      have td4 : ds4.take 2 = ds4 := List.take_of_length_le (Nat.le_of_eq ld4)
      have garg0 := (s.pull 2 rfl).rdAll (n := 2) l0.symm
      have garg1 := (s.pull 1 rfl).rdAll (n := 2) l1.symm
      try simp (disch := omega) only [VW, VY, VZ, VA, VB, VC, VE, TY, ↓reduceIte, Nat.reduceEqDiff, Nat.reduceAdd, Nat.reduceMul, Nat.reduceSub, Nat.reduceLeDiff, List.length_cons, List.length_nil, List.length_append, List.append_assoc, List.take_succ_cons, List.take_zero, List.drop_succ_cons, List.drop_zero, List.set_cons_zero, List.set_cons_succ, true_or, or_true, and_self, Bool.false_eq_true, Nat.le_refl, Option.bind_some, Option.map_some, Option.getD_some, Option.isSome_some, List.map_cons, List.map_nil, List.cons_append, List.nil_append, List.append_nil, List.getElem?_cons_zero, List.getElem?_cons_succ, eq_self, Int.reduceLT, Int.reduceLE, Int.reduceNeg, Int.reduceEq, l0, tk0, l1, tk1, c1, c2, ld4, td4, garg0, garg1]
      refine tail_step [(3, [], [4, 5, 6, 7, 8, 9, 10]), (8, [], [3, 4, 5, 6, 7, 9, 10])] (by kernel_rfl) (by kernel_rfl) (a_cons (by simp only [List.filterMap_cons, List.filterMap_nil, List.getElem?_cons_zero, List.getElem?_cons_succ]; rfl) (by kernel_rfl) ?_ (a_cons (by simp only [List.filterMap_cons, List.filterMap_nil, List.getElem?_cons_zero, List.getElem?_cons_succ]; rfl) (by kernel_rfl) ?_ trivial))
      focus
        have garg0 := (s.pull 2 rfl).rdAll (n := 2) l0.symm
        have garg1 := (s.pull 1 rfl).rdAll (n := 2) l1.symm
        try simp (disch := omega) only [VW, VY, VZ, VA, VB, VC, VE, TY, ↓reduceIte, Nat.reduceEqDiff, Nat.reduceAdd, Nat.reduceMul, Nat.reduceSub, Nat.reduceLeDiff, List.length_cons, List.length_nil, List.length_append, List.append_assoc, List.take_succ_cons, List.take_zero, List.drop_succ_cons, List.drop_zero, List.set_cons_zero, List.set_cons_succ, true_or, or_true, and_self, Bool.false_eq_true, Nat.le_refl, Option.bind_some, Option.map_some, Option.getD_some, Option.isSome_some, List.map_cons, List.map_nil, List.cons_append, List.nil_append, List.append_nil, List.getElem?_cons_zero, List.getElem?_cons_succ, eq_self, Int.reduceLT, Int.reduceLE, Int.reduceNeg, Int.reduceEq, l0, tk0, l1, tk1, c1, c2, ld4, td4, garg0, garg1]
        refine .inl ⟨by kernel_rfl, ?_⟩; refine toMark_c (b := false) (i1.mono s.ext) n1 fun ds5 h5 s5 => ?_
        have s := s.add s5
        have ld5 : ds5.length = 2 := s5.gpull
        have td5 : ds5.take 2 = ds5 := List.take_of_length_le (Nat.le_of_eq ld5)
        have garg0 := (s.pull 3 rfl).rdAll (n := 2) l0.symm
        have garg1 := (s.pull 2 rfl).rdAll (n := 2) l1.symm
        try simp (disch := omega) only [VW, VY, VZ, VA, VB, VC, VE, TY, ↓reduceIte, Nat.reduceEqDiff, Nat.reduceAdd, Nat.reduceMul, Nat.reduceSub, Nat.reduceLeDiff, List.length_cons, List.length_nil, List.length_append, List.append_assoc, List.take_succ_cons, List.take_zero, List.drop_succ_cons, List.drop_zero, List.set_cons_zero, List.set_cons_succ, true_or, or_true, and_self, Bool.false_eq_true, Nat.le_refl, Option.bind_some, Option.map_some, Option.getD_some, Option.isSome_some, List.map_cons, List.map_nil, List.cons_append, List.nil_append, List.append_nil, List.getElem?_cons_zero, List.getElem?_cons_succ, eq_self, Int.reduceLT, Int.reduceLE, Int.reduceNeg, Int.reduceEq, l0, tk0, l1, tk1, c1, c2, ld4, td4, ld5, td5, garg0, garg1]
        refine tail_step [(4, [5, 6, 7], [8, 9, 10]), (8, [], [4, 5, 6, 7, 9, 10])] (by kernel_rfl) (by kernel_rfl) (a_cons (by simp only [List.filterMap_cons, List.filterMap_nil, List.getElem?_cons_zero, List.getElem?_cons_succ]; rfl) (by kernel_rfl) ?_ (a_cons (by simp only [List.filterMap_cons, List.filterMap_nil, List.getElem?_cons_zero, List.getElem?_cons_succ]; rfl) (by kernel_rfl) ?_ trivial))
        focus
          have garg0 := (s.pull 3 rfl).rdAll (n := 2) l0.symm
          have garg1 := (s.pull 2 rfl).rdAll (n := 2) l1.symm
          try simp (disch := omega) only [VW, VY, VZ, VA, VB, VC, VE, TY, ↓reduceIte, Nat.reduceEqDiff, Nat.reduceAdd, Nat.reduceMul, Nat.reduceSub, Nat.reduceLeDiff, List.length_cons, List.length_nil, List.length_append, List.append_assoc, List.take_succ_cons, List.take_zero, List.drop_succ_cons, List.drop_zero, List.set_cons_zero, List.set_cons_succ, true_or, or_true, and_self, Bool.false_eq_true, Nat.le_refl, Option.bind_some, Option.map_some, Option.getD_some, Option.isSome_some, List.map_cons, List.map_nil, List.cons_append, List.nil_append, List.append_nil, List.getElem?_cons_zero, List.getElem?_cons_succ, eq_self, Int.reduceLT, Int.reduceLE, Int.reduceNeg, Int.reduceEq, l0, tk0, l1, tk1, c1, c2, ld4, td4, ld5, td5, garg0, garg1]
          refine .inl ⟨by kernel_rfl, ?_⟩; refine AppendMark_s (s.pull 1 rfl).gHere (s.pull 0 rfl).gHere n0 n1 fun h6 E6 => ?_
          have s := s.mono E6
          have garg0 := (s.pull 3 rfl).rdAll (n := 2) l0.symm
          have garg1 := (s.pull 2 rfl).rdAll (n := 2) l1.symm
          try simp (disch := omega) only [VW, VY, VZ, VA, VB, VC, VE, TY, ↓reduceIte, Nat.reduceEqDiff, Nat.reduceAdd, Nat.reduceMul, Nat.reduceSub, Nat.reduceLeDiff, List.length_cons, List.length_nil, List.length_append, List.append_assoc, List.take_succ_cons, List.take_zero, List.drop_succ_cons, List.drop_zero, List.set_cons_zero, List.set_cons_succ, true_or, or_true, and_self, Bool.false_eq_true, Nat.le_refl, Option.bind_some, Option.map_some, Option.getD_some, Option.isSome_some, List.map_cons, List.map_nil, List.cons_append, List.nil_append, List.append_nil, List.getElem?_cons_zero, List.getElem?_cons_succ, eq_self, Int.reduceLT, Int.reduceLE, Int.reduceNeg, Int.reduceEq, l0, tk0, l1, tk1, c1, c2, ld4, td4, ld5, td5, garg0, garg1]
          refine tail_step [(8, [], [9, 10])] (by kernel_rfl) (by kernel_rfl) (a_cons (by simp only [List.filterMap_cons, List.filterMap_nil, List.getElem?_cons_zero, List.getElem?_cons_succ]; rfl) (by kernel_rfl) ?_ trivial)
          focus
            have s := s.newBlk [.string ⟨#[]⟩, .string ⟨#[]⟩] 26 true
            have garg0 := (s.pull 4 rfl).rdAll (n := 2) l0.symm
            have garg1 := (s.pull 3 rfl).rdAll (n := 2) l1.symm
            try simp (disch := omega) only [VW, VY, VZ, VA, VB, VC, VE, TY, ↓reduceIte, Nat.reduceEqDiff, Nat.reduceAdd, Nat.reduceMul, Nat.reduceSub, Nat.reduceLeDiff, List.length_cons, List.length_nil, List.length_append, List.append_assoc, List.take_succ_cons, List.take_zero, List.drop_succ_cons, List.drop_zero, List.set_cons_zero, List.set_cons_succ, true_or, or_true, and_self, Bool.false_eq_true, Nat.le_refl, Option.bind_some, Option.map_some, Option.getD_some, Option.isSome_some, List.map_cons, List.map_nil, List.cons_append, List.nil_append, List.append_nil, List.getElem?_cons_zero, List.getElem?_cons_succ, eq_self, Int.reduceLT, Int.reduceLE, Int.reduceNeg, Int.reduceEq, l0, tk0, l1, tk1, c1, c2, ld4, td4, ld5, td5, garg0, garg1]
            generalize ((h6 ++ [some ⟨[.string ⟨#[]⟩, .string ⟨#[]⟩], 26, false, true⟩] : Heap)) = h7 at s ⊢
            have garg0 := (s.pull 4 rfl).rdAll (n := 2) l0.symm
            have garg1 := (s.pull 3 rfl).rdAll (n := 2) l1.symm
            try simp (disch := omega) only [VW, VY, VZ, VA, VB, VC, VE, TY, ↓reduceIte, Nat.reduceEqDiff, Nat.reduceAdd, Nat.reduceMul, Nat.reduceSub, Nat.reduceLeDiff, List.length_cons, List.length_nil, List.length_append, List.append_assoc, List.take_succ_cons, List.take_zero, List.drop_succ_cons, List.drop_zero, List.set_cons_zero, List.set_cons_succ, true_or, or_true, and_self, Bool.false_eq_true, Nat.le_refl, Option.bind_some, Option.map_some, Option.getD_some, Option.isSome_some, List.map_cons, List.map_nil, List.cons_append, List.nil_append, List.append_nil, List.getElem?_cons_zero, List.getElem?_cons_succ, eq_self, Int.reduceLT, Int.reduceLE, Int.reduceNeg, Int.reduceEq, l0, tk0, l1, tk1, c1, c2, ld4, td4, ld5, td5, garg0, garg1]
            refine tail_step [(9, [10], [])] (by kernel_rfl) (by kernel_rfl) (a_cons (by simp only [List.filterMap_cons, List.filterMap_nil, List.getElem?_cons_zero, List.getElem?_cons_succ]; rfl) (by kernel_rfl) ?_ trivial)
            focus
              have garg0 := (s.pull 4 rfl).rdAll (n := 2) l0.symm
              have garg1 := (s.pull 3 rfl).rdAll (n := 2) l1.symm
              try simp (disch := omega) only [VW, VY, VZ, VA, VB, VC, VE, TY, ↓reduceIte, Nat.reduceEqDiff, Nat.reduceAdd, Nat.reduceMul, Nat.reduceSub, Nat.reduceLeDiff, List.length_cons, List.length_nil, List.length_append, List.append_assoc, List.take_succ_cons, List.take_zero, List.drop_succ_cons, List.drop_zero, List.set_cons_zero, List.set_cons_succ, true_or, or_true, and_self, Bool.false_eq_true, Nat.le_refl, Option.bind_some, Option.map_some, Option.getD_some, Option.isSome_some, List.map_cons, List.map_nil, List.cons_append, List.nil_append, List.append_nil, List.getElem?_cons_zero, List.getElem?_cons_succ, eq_self, Int.reduceLT, Int.reduceLE, Int.reduceNeg, Int.reduceEq, l0, tk0, l1, tk1, c1, c2, ld4, td4, ld5, td5, garg0, garg1]
              refine sep_store (s.pull 0 rfl) (by simp) fun h8 s => ?_
              have s := s.as (ds := [.string (appendM x0 x1).1.safe, .string (appendM x0 x1).1.pending]) (by simp [t_put])
              have garg0 := (s.pull 4 rfl).rdAll (n := 2) l0.symm
              have garg1 := (s.pull 3 rfl).rdAll (n := 2) l1.symm
              try simp (disch := omega) only [VW, VY, VZ, VA, VB, VC, VE, TY, ↓reduceIte, Nat.reduceEqDiff, Nat.reduceAdd, Nat.reduceMul, Nat.reduceSub, Nat.reduceLeDiff, List.length_cons, List.length_nil, List.length_append, List.append_assoc, List.take_succ_cons, List.take_zero, List.drop_succ_cons, List.drop_zero, List.set_cons_zero, List.set_cons_succ, true_or, or_true, and_self, Bool.false_eq_true, Nat.le_refl, Option.bind_some, Option.map_some, Option.getD_some, Option.isSome_some, List.map_cons, List.map_nil, List.cons_append, List.nil_append, List.append_nil, List.getElem?_cons_zero, List.getElem?_cons_succ, eq_self, Int.reduceLT, Int.reduceLE, Int.reduceNeg, Int.reduceEq, l0, tk0, l1, tk1, c1, c2, ld4, td4, ld5, td5, garg0, garg1]
              have s := s.pull 4 rfl
              have s := s.pull 4 rfl
              have s := s.pull 2 rfl
              unfold Post
              exact ⟨_, rfl, rfl, rfl, rfl, Sep.keep (L := [_, _, _]) s⟩
        focus
          have s := s.newBlk [.string ⟨#[]⟩, .string ⟨#[]⟩] 26 true
          have garg0 := (s.pull 4 rfl).rdAll (n := 2) l0.symm
          have garg1 := (s.pull 3 rfl).rdAll (n := 2) l1.symm
          try simp (disch := omega) only [VW, VY, VZ, VA, VB, VC, VE, TY, ↓reduceIte, Nat.reduceEqDiff, Nat.reduceAdd, Nat.reduceMul, Nat.reduceSub, Nat.reduceLeDiff, List.length_cons, List.length_nil, List.length_append, List.append_assoc, List.take_succ_cons, List.take_zero, List.drop_succ_cons, List.drop_zero, List.set_cons_zero, List.set_cons_succ, true_or, or_true, and_self, Bool.false_eq_true, Nat.le_refl, Option.bind_some, Option.map_some, Option.getD_some, Option.isSome_some, List.map_cons, List.map_nil, List.cons_append, List.nil_append, List.append_nil, List.getElem?_cons_zero, List.getElem?_cons_succ, eq_self, Int.reduceLT, Int.reduceLE, Int.reduceNeg, Int.reduceEq, l0, tk0, l1, tk1, c1, c2, ld4, td4, ld5, td5, garg0, garg1]
          generalize ((h5 ++ [some ⟨[.string ⟨#[]⟩, .string ⟨#[]⟩], 26, false, true⟩] : Heap)) = h9 at s ⊢
          have garg0 := (s.pull 4 rfl).rdAll (n := 2) l0.symm
          have garg1 := (s.pull 3 rfl).rdAll (n := 2) l1.symm
          try simp (disch := omega) only [VW, VY, VZ, VA, VB, VC, VE, TY, ↓reduceIte, Nat.reduceEqDiff, Nat.reduceAdd, Nat.reduceMul, Nat.reduceSub, Nat.reduceLeDiff, List.length_cons, List.length_nil, List.length_append, List.append_assoc, List.take_succ_cons, List.take_zero, List.drop_succ_cons, List.drop_zero, List.set_cons_zero, List.set_cons_succ, true_or, or_true, and_self, Bool.false_eq_true, Nat.le_refl, Option.bind_some, Option.map_some, Option.getD_some, Option.isSome_some, List.map_cons, List.map_nil, List.cons_append, List.nil_append, List.append_nil, List.getElem?_cons_zero, List.getElem?_cons_succ, eq_self, Int.reduceLT, Int.reduceLE, Int.reduceNeg, Int.reduceEq, l0, tk0, l1, tk1, c1, c2, ld4, td4, ld5, td5, garg0, garg1]
          refine tail_step [(4, [5, 6, 7], [9, 10])] (by kernel_rfl) (by kernel_rfl) (a_cons (by simp only [List.filterMap_cons, List.filterMap_nil, List.getElem?_cons_zero, List.getElem?_cons_succ]; rfl) (by kernel_rfl) ?_ trivial)
          focus
            have garg0 := (s.pull 4 rfl).rdAll (n := 2) l0.symm
            have garg1 := (s.pull 3 rfl).rdAll (n := 2) l1.symm
            try simp (disch := omega) only [VW, VY, VZ, VA, VB, VC, VE, TY, ↓reduceIte, Nat.reduceEqDiff, Nat.reduceAdd, Nat.reduceMul, Nat.reduceSub, Nat.reduceLeDiff, List.length_cons, List.length_nil, List.length_append, List.append_assoc, List.take_succ_cons, List.take_zero, List.drop_succ_cons, List.drop_zero, List.set_cons_zero, List.set_cons_succ, true_or, or_true, and_self, Bool.false_eq_true, Nat.le_refl, Option.bind_some, Option.map_some, Option.getD_some, Option.isSome_some, List.map_cons, List.map_nil, List.cons_append, List.nil_append, List.append_nil, List.getElem?_cons_zero, List.getElem?_cons_succ, eq_self, Int.reduceLT, Int.reduceLE, Int.reduceNeg, Int.reduceEq, l0, tk0, l1, tk1, c1, c2, ld4, td4, ld5, td5, garg0, garg1]
            refine .inl ⟨by kernel_rfl, ?_⟩; refine AppendMark_s (s.pull 2 rfl).gHere (s.pull 1 rfl).gHere n0 n1 fun h10 E10 => ?_
            have s := s.mono E10
            have garg0 := (s.pull 4 rfl).rdAll (n := 2) l0.symm
            have garg1 := (s.pull 3 rfl).rdAll (n := 2) l1.symm
            try simp (disch := omega) only [VW, VY, VZ, VA, VB, VC, VE, TY, ↓reduceIte, Nat.reduceEqDiff, Nat.reduceAdd, Nat.reduceMul, Nat.reduceSub, Nat.reduceLeDiff, List.length_cons, List.length_nil, List.length_append, List.append_assoc, List.take_succ_cons, List.take_zero, List.drop_succ_cons, List.drop_zero, List.set_cons_zero, List.set_cons_succ, true_or, or_true, and_self, Bool.false_eq_true, Nat.le_refl, Option.bind_some, Option.map_some, Option.getD_some, Option.isSome_some, List.map_cons, List.map_nil, List.cons_append, List.nil_append, List.append_nil, List.getElem?_cons_zero, List.getElem?_cons_succ, eq_self, Int.reduceLT, Int.reduceLE, Int.reduceNeg, Int.reduceEq, l0, tk0, l1, tk1, c1, c2, ld4, td4, ld5, td5, garg0, garg1]
            refine tail_step [(9, [10], [])] (by kernel_rfl) (by kernel_rfl) (a_cons (by simp only [List.filterMap_cons, List.filterMap_nil, List.getElem?_cons_zero, List.getElem?_cons_succ]; rfl) (by kernel_rfl) ?_ trivial)
            focus
              have garg0 := (s.pull 4 rfl).rdAll (n := 2) l0.symm
              have garg1 := (s.pull 3 rfl).rdAll (n := 2) l1.symm
              try simp (disch := omega) only [VW, VY, VZ, VA, VB, VC, VE, TY, ↓reduceIte, Nat.reduceEqDiff, Nat.reduceAdd, Nat.reduceMul, Nat.reduceSub, Nat.reduceLeDiff, List.length_cons, List.length_nil, List.length_append, List.append_assoc, List.take_succ_cons, List.take_zero, List.drop_succ_cons, List.drop_zero, List.set_cons_zero, List.set_cons_succ, true_or, or_true, and_self, Bool.false_eq_true, Nat.le_refl, Option.bind_some, Option.map_some, Option.getD_some, Option.isSome_some, List.map_cons, List.map_nil, List.cons_append, List.nil_append, List.append_nil, List.getElem?_cons_zero, List.getElem?_cons_succ, eq_self, Int.reduceLT, Int.reduceLE, Int.reduceNeg, Int.reduceEq, l0, tk0, l1, tk1, c1, c2, ld4, td4, ld5, td5, garg0, garg1]
              refine sep_store (s.pull 0 rfl) (by simp) fun h11 s => ?_
              have s := s.as (ds := [.string (appendM x0 x1).1.safe, .string (appendM x0 x1).1.pending]) (by simp [t_put])
              have garg0 := (s.pull 4 rfl).rdAll (n := 2) l0.symm
              have garg1 := (s.pull 3 rfl).rdAll (n := 2) l1.symm
              try simp (disch := omega) only [VW, VY, VZ, VA, VB, VC, VE, TY, ↓reduceIte, Nat.reduceEqDiff, Nat.reduceAdd, Nat.reduceMul, Nat.reduceSub, Nat.reduceLeDiff, List.length_cons, List.length_nil, List.length_append, List.append_assoc, List.take_succ_cons, List.take_zero, List.drop_succ_cons, List.drop_zero, List.set_cons_zero, List.set_cons_succ, true_or, or_true, and_self, Bool.false_eq_true, Nat.le_refl, Option.bind_some, Option.map_some, Option.getD_some, Option.isSome_some, List.map_cons, List.map_nil, List.cons_append, List.nil_append, List.append_nil, List.getElem?_cons_zero, List.getElem?_cons_succ, eq_self, Int.reduceLT, Int.reduceLE, Int.reduceNeg, Int.reduceEq, l0, tk0, l1, tk1, c1, c2, ld4, td4, ld5, td5, garg0, garg1]
              have s := s.pull 4 rfl
              have s := s.pull 4 rfl
              have s := s.pull 2 rfl
              unfold Post
              exact ⟨_, rfl, rfl, rfl, rfl, Sep.keep (L := [_, _, _]) s⟩
      focus
        have s := s.newBlk [.string ⟨#[]⟩, .string ⟨#[]⟩] 26 true
        have garg0 := (s.pull 3 rfl).rdAll (n := 2) l0.symm
        have garg1 := (s.pull 2 rfl).rdAll (n := 2) l1.symm
        try simp (disch := omega) only [VW, VY, VZ, VA, VB, VC, VE, TY, ↓reduceIte, Nat.reduceEqDiff, Nat.reduceAdd, Nat.reduceMul, Nat.reduceSub, Nat.reduceLeDiff, List.length_cons, List.length_nil, List.length_append, List.append_assoc, List.take_succ_cons, List.take_zero, List.drop_succ_cons, List.drop_zero, List.set_cons_zero, List.set_cons_succ, true_or, or_true, and_self, Bool.false_eq_true, Nat.le_refl, Option.bind_some, Option.map_some, Option.getD_some, Option.isSome_some, List.map_cons, List.map_nil, List.cons_append, List.nil_append, List.append_nil, List.getElem?_cons_zero, List.getElem?_cons_succ, eq_self, Int.reduceLT, Int.reduceLE, Int.reduceNeg, Int.reduceEq, l0, tk0, l1, tk1, c1, c2, ld4, td4, garg0, garg1]
        generalize ((h4 ++ [some ⟨[.string ⟨#[]⟩, .string ⟨#[]⟩], 26, false, true⟩] : Heap)) = h12 at s ⊢
        have garg0 := (s.pull 3 rfl).rdAll (n := 2) l0.symm
        have garg1 := (s.pull 2 rfl).rdAll (n := 2) l1.symm
        try simp (disch := omega) only [VW, VY, VZ, VA, VB, VC, VE, TY, ↓reduceIte, Nat.reduceEqDiff, Nat.reduceAdd, Nat.reduceMul, Nat.reduceSub, Nat.reduceLeDiff, List.length_cons, List.length_nil, List.length_append, List.append_assoc, List.take_succ_cons, List.take_zero, List.drop_succ_cons, List.drop_zero, List.set_cons_zero, List.set_cons_succ, true_or, or_true, and_self, Bool.false_eq_true, Nat.le_refl, Option.bind_some, Option.map_some, Option.getD_some, Option.isSome_some, List.map_cons, List.map_nil, List.cons_append, List.nil_append, List.append_nil, List.getElem?_cons_zero, List.getElem?_cons_succ, eq_self, Int.reduceLT, Int.reduceLE, Int.reduceNeg, Int.reduceEq, l0, tk0, l1, tk1, c1, c2, ld4, td4, garg0, garg1]
        refine tail_step [(3, [], [4, 5, 6, 7, 9, 10])] (by kernel_rfl) (by kernel_rfl) (a_cons (by simp only [List.filterMap_cons, List.filterMap_nil, List.getElem?_cons_zero, List.getElem?_cons_succ]; rfl) (by kernel_rfl) ?_ trivial)
        focus
          have garg0 := (s.pull 3 rfl).rdAll (n := 2) l0.symm
          have garg1 := (s.pull 2 rfl).rdAll (n := 2) l1.symm
          try simp (disch := omega) only [VW, VY, VZ, VA, VB, VC, VE, TY, ↓reduceIte, Nat.reduceEqDiff, Nat.reduceAdd, Nat.reduceMul, Nat.reduceSub, Nat.reduceLeDiff, List.length_cons, List.length_nil, List.length_append, List.append_assoc, List.take_succ_cons, List.take_zero, List.drop_succ_cons, List.drop_zero, List.set_cons_zero, List.set_cons_succ, true_or, or_true, and_self, Bool.false_eq_true, Nat.le_refl, Option.bind_some, Option.map_some, Option.getD_some, Option.isSome_some, List.map_cons, List.map_nil, List.cons_append, List.nil_append, List.append_nil, List.getElem?_cons_zero, List.getElem?_cons_succ, eq_self, Int.reduceLT, Int.reduceLE, Int.reduceNeg, Int.reduceEq, l0, tk0, l1, tk1, c1, c2, ld4, td4, garg0, garg1]
          refine .inl ⟨by kernel_rfl, ?_⟩; refine toMark_c (b := false) (i1.mono s.ext) n1 fun ds13 h13 s13 => ?_
          have s := s.add s13
          have ld13 : ds13.length = 2 := s13.gpull
          have td13 : ds13.take 2 = ds13 := List.take_of_length_le (Nat.le_of_eq ld13)
          have garg0 := (s.pull 4 rfl).rdAll (n := 2) l0.symm
          have garg1 := (s.pull 3 rfl).rdAll (n := 2) l1.symm
          try simp (disch := omega) only [VW, VY, VZ, VA, VB, VC, VE, TY, ↓reduceIte, Nat.reduceEqDiff, Nat.reduceAdd, Nat.reduceMul, Nat.reduceSub, Nat.reduceLeDiff, List.length_cons, List.length_nil, List.length_append, List.append_assoc, List.take_succ_cons, List.take_zero, List.drop_succ_cons, List.drop_zero, List.set_cons_zero, List.set_cons_succ, true_or, or_true, and_self, Bool.false_eq_true, Nat.le_refl, Option.bind_some, Option.map_some, Option.getD_some, Option.isSome_some, List.map_cons, List.map_nil, List.cons_append, List.nil_append, List.append_nil, List.getElem?_cons_zero, List.getElem?_cons_succ, eq_self, Int.reduceLT, Int.reduceLE, Int.reduceNeg, Int.reduceEq, l0, tk0, l1, tk1, c1, c2, ld4, td4, ld13, td13, garg0, garg1]
          refine tail_step [(4, [5, 6, 7], [9, 10])] (by kernel_rfl) (by kernel_rfl) (a_cons (by simp only [List.filterMap_cons, List.filterMap_nil, List.getElem?_cons_zero, List.getElem?_cons_succ]; rfl) (by kernel_rfl) ?_ trivial)
          focus
            have garg0 := (s.pull 4 rfl).rdAll (n := 2) l0.symm
            have garg1 := (s.pull 3 rfl).rdAll (n := 2) l1.symm
            try simp (disch := omega) only [VW, VY, VZ, VA, VB, VC, VE, TY, ↓reduceIte, Nat.reduceEqDiff, Nat.reduceAdd, Nat.reduceMul, Nat.reduceSub, Nat.reduceLeDiff, List.length_cons, List.length_nil, List.length_append, List.append_assoc, List.take_succ_cons, List.take_zero, List.drop_succ_cons, List.drop_zero, List.set_cons_zero, List.set_cons_succ, true_or, or_true, and_self, Bool.false_eq_true, Nat.le_refl, Option.bind_some, Option.map_some, Option.getD_some, Option.isSome_some, List.map_cons, List.map_nil, List.cons_append, List.nil_append, List.append_nil, List.getElem?_cons_zero, List.getElem?_cons_succ, eq_self, Int.reduceLT, Int.reduceLE, Int.reduceNeg, Int.reduceEq, l0, tk0, l1, tk1, c1, c2, ld4, td4, ld13, td13, garg0, garg1]
            refine .inl ⟨by kernel_rfl, ?_⟩; refine AppendMark_s (s.pull 2 rfl).gHere (s.pull 0 rfl).gHere n0 n1 fun h14 E14 => ?_
            have s := s.mono E14
            have garg0 := (s.pull 4 rfl).rdAll (n := 2) l0.symm
            have garg1 := (s.pull 3 rfl).rdAll (n := 2) l1.symm
            try simp (disch := omega) only [VW, VY, VZ, VA, VB, VC, VE, TY, ↓reduceIte, Nat.reduceEqDiff, Nat.reduceAdd, Nat.reduceMul, Nat.reduceSub, Nat.reduceLeDiff, List.length_cons, List.length_nil, List.length_append, List.append_assoc, List.take_succ_cons, List.take_zero, List.drop_succ_cons, List.drop_zero, List.set_cons_zero, List.set_cons_succ, true_or, or_true, and_self, Bool.false_eq_true, Nat.le_refl, Option.bind_some, Option.map_some, Option.getD_some, Option.isSome_some, List.map_cons, List.map_nil, List.cons_append, List.nil_append, List.append_nil, List.getElem?_cons_zero, List.getElem?_cons_succ, eq_self, Int.reduceLT, Int.reduceLE, Int.reduceNeg, Int.reduceEq, l0, tk0, l1, tk1, c1, c2, ld4, td4, ld13, td13, garg0, garg1]
            refine tail_step [(9, [10], [])] (by kernel_rfl) (by kernel_rfl) (a_cons (by simp only [List.filterMap_cons, List.filterMap_nil, List.getElem?_cons_zero, List.getElem?_cons_succ]; rfl) (by kernel_rfl) ?_ trivial)
            focus
              have garg0 := (s.pull 4 rfl).rdAll (n := 2) l0.symm
              have garg1 := (s.pull 3 rfl).rdAll (n := 2) l1.symm
              try simp (disch := omega) only [VW, VY, VZ, VA, VB, VC, VE, TY, ↓reduceIte, Nat.reduceEqDiff, Nat.reduceAdd, Nat.reduceMul, Nat.reduceSub, Nat.reduceLeDiff, List.length_cons, List.length_nil, List.length_append, List.append_assoc, List.take_succ_cons, List.take_zero, List.drop_succ_cons, List.drop_zero, List.set_cons_zero, List.set_cons_succ, true_or, or_true, and_self, Bool.false_eq_true, Nat.le_refl, Option.bind_some, Option.map_some, Option.getD_some, Option.isSome_some, List.map_cons, List.map_nil, List.cons_append, List.nil_append, List.append_nil, List.getElem?_cons_zero, List.getElem?_cons_succ, eq_self, Int.reduceLT, Int.reduceLE, Int.reduceNeg, Int.reduceEq, l0, tk0, l1, tk1, c1, c2, ld4, td4, ld13, td13, garg0, garg1]
              refine sep_store (s.pull 1 rfl) (by simp) fun h15 s => ?_
              have s := s.as (ds := [.string (appendM x0 x1).1.safe, .string (appendM x0 x1).1.pending]) (by simp [t_put])
              have garg0 := (s.pull 4 rfl).rdAll (n := 2) l0.symm
              have garg1 := (s.pull 3 rfl).rdAll (n := 2) l1.symm
              try simp (disch := omega) only [VW, VY, VZ, VA, VB, VC, VE, TY, ↓reduceIte, Nat.reduceEqDiff, Nat.reduceAdd, Nat.reduceMul, Nat.reduceSub, Nat.reduceLeDiff, List.length_cons, List.length_nil, List.length_append, List.append_assoc, List.take_succ_cons, List.take_zero, List.drop_succ_cons, List.drop_zero, List.set_cons_zero, List.set_cons_succ, true_or, or_true, and_self, Bool.false_eq_true, Nat.le_refl, Option.bind_some, Option.map_some, Option.getD_some, Option.isSome_some, List.map_cons, List.map_nil, List.cons_append, List.nil_append, List.append_nil, List.getElem?_cons_zero, List.getElem?_cons_succ, eq_self, Int.reduceLT, Int.reduceLE, Int.reduceNeg, Int.reduceEq, l0, tk0, l1, tk1, c1, c2, ld4, td4, ld13, td13, garg0, garg1]
              have s := s.pull 4 rfl
              have s := s.pull 4 rfl
              have s := s.pull 2 rfl
              unfold Post
              exact ⟨_, rfl, rfl, rfl, rfl, Sep.keep (L := [_, _, _]) s⟩
    focus
      have s := s.newBlk [.string ⟨#[]⟩, .string ⟨#[]⟩] 26 true
      have garg0 := (s.pull 2 rfl).rdAll (n := 2) l0.symm
      have garg1 := (s.pull 1 rfl).rdAll (n := 2) l1.symm
      try simp (disch := omega) only [VW, VY, VZ, VA, VB, VC, VE, TY, ↓reduceIte, Nat.reduceEqDiff, Nat.reduceAdd, Nat.reduceMul, Nat.reduceSub, Nat.reduceLeDiff, List.length_cons, List.length_nil, List.length_append, List.append_assoc, List.take_succ_cons, List.take_zero, List.drop_succ_cons, List.drop_zero, List.set_cons_zero, List.set_cons_succ, true_or, or_true, and_self, Bool.false_eq_true, Nat.le_refl, Option.bind_some, Option.map_some, Option.getD_some, Option.isSome_some, List.map_cons, List.map_nil, List.cons_append, List.nil_append, List.append_nil, List.getElem?_cons_zero, List.getElem?_cons_succ, eq_self, Int.reduceLT, Int.reduceLE, Int.reduceNeg, Int.reduceEq, l0, tk0, l1, tk1, c1, c2, garg0, garg1]
      generalize ((h2 ++ [some ⟨[.string ⟨#[]⟩, .string ⟨#[]⟩], 26, false, true⟩] : Heap)) = h16 at s ⊢
      have garg0 := (s.pull 2 rfl).rdAll (n := 2) l0.symm
      have garg1 := (s.pull 1 rfl).rdAll (n := 2) l1.symm
      try simp (disch := omega) only [VW, VY, VZ, VA, VB, VC, VE, TY, ↓reduceIte, Nat.reduceEqDiff, Nat.reduceAdd, Nat.reduceMul, Nat.reduceSub, Nat.reduceLeDiff, List.length_cons, List.length_nil, List.length_append, List.append_assoc, List.take_succ_cons, List.take_zero, List.drop_succ_cons, List.drop_zero, List.set_cons_zero, List.set_cons_succ, true_or, or_true, and_self, Bool.false_eq_true, Nat.le_refl, Option.bind_some, Option.map_some, Option.getD_some, Option.isSome_some, List.map_cons, List.map_nil, List.cons_append, List.nil_append, List.append_nil, List.getElem?_cons_zero, List.getElem?_cons_succ, eq_self, Int.reduceLT, Int.reduceLE, Int.reduceNeg, Int.reduceEq, l0, tk0, l1, tk1, c1, c2, garg0, garg1]
      refine tail_step [(1, [], [3, 4, 5, 6, 7, 9, 10])] (by kernel_rfl) (by kernel_rfl) (a_cons (by simp only [List.filterMap_cons, List.filterMap_nil, List.getElem?_cons_zero, List.getElem?_cons_succ]; rfl) (by kernel_rfl) ?_ trivial)
      focus
        have garg0 := (s.pull 2 rfl).rdAll (n := 2) l0.symm
        have garg1 := (s.pull 1 rfl).rdAll (n := 2) l1.symm
        try simp (disch := omega) only [VW, VY, VZ, VA, VB, VC, VE, TY, ↓reduceIte, Nat.reduceEqDiff, Nat.reduceAdd, Nat.reduceMul, Nat.reduceSub, Nat.reduceLeDiff, List.length_cons, List.length_nil, List.length_append, List.append_assoc, List.take_succ_cons, List.take_zero, List.drop_succ_cons, List.drop_zero, List.set_cons_zero, List.set_cons_succ, true_or, or_true, and_self, Bool.false_eq_true, Nat.le_refl, Option.bind_some, Option.map_some, Option.getD_some, Option.isSome_some, List.map_cons, List.map_nil, List.cons_append, List.nil_append, List.append_nil, List.getElem?_cons_zero, List.getElem?_cons_succ, eq_self, Int.reduceLT, Int.reduceLE, Int.reduceNeg, Int.reduceEq, l0, tk0, l1, tk1, c1, c2, garg0, garg1]
        refine .inl ⟨by kernel_rfl, ?_⟩; refine toJournal_c (b := false) (i0.mono s.ext) n0 fun ds17 h17 s17 => ?_
        have s := s.add s17
        have ld17 : ds17.length = 2 := s17.gpull
        have td17 : ds17.take 2 = ds17 := List.take_of_length_le (Nat.le_of_eq ld17)
        have garg0 := (s.pull 3 rfl).rdAll (n := 2) l0.symm
        have garg1 := (s.pull 2 rfl).rdAll (n := 2) l1.symm
        try simp (disch := omega) only [VW, VY, VZ, VA, VB, VC, VE, TY, ↓reduceIte, Nat.reduceEqDiff, Nat.reduceAdd, Nat.reduceMul, Nat.reduceSub, Nat.reduceLeDiff, List.length_cons, List.length_nil, List.length_append, List.append_assoc, List.take_succ_cons, List.take_zero, List.drop_succ_cons, List.drop_zero, List.set_cons_zero, List.set_cons_succ, true_or, or_true, and_self, Bool.false_eq_true, Nat.le_refl, Option.bind_some, Option.map_some, Option.getD_some, Option.isSome_some, List.map_cons, List.map_nil, List.cons_append, List.nil_append, List.append_nil, List.getElem?_cons_zero, List.getElem?_cons_succ, eq_self, Int.reduceLT, Int.reduceLE, Int.reduceNeg, Int.reduceEq, l0, tk0, l1, tk1, c1, c2, ld17, td17, garg0, garg1]
        refine tail_step [(3, [], [4, 5, 6, 7, 9, 10])] (by kernel_rfl) (by kernel_rfl) (a_cons (by simp only [List.filterMap_cons, List.filterMap_nil, List.getElem?_cons_zero, List.getElem?_cons_succ]; rfl) (by kernel_rfl) ?_ trivial)
        focus
          have garg0 := (s.pull 3 rfl).rdAll (n := 2) l0.symm
          have garg1 := (s.pull 2 rfl).rdAll (n := 2) l1.symm
          try simp (disch := omega) only [VW, VY, VZ, VA, VB, VC, VE, TY, ↓reduceIte, Nat.reduceEqDiff, Nat.reduceAdd, Nat.reduceMul, Nat.reduceSub, Nat.reduceLeDiff, List.length_cons, List.length_nil, List.length_append, List.append_assoc, List.take_succ_cons, List.take_zero, List.drop_succ_cons, List.drop_zero, List.set_cons_zero, List.set_cons_succ, true_or, or_true, and_self, Bool.false_eq_true, Nat.le_refl, Option.bind_some, Option.map_some, Option.getD_some, Option.isSome_some, List.map_cons, List.map_nil, List.cons_append, List.nil_append, List.append_nil, List.getElem?_cons_zero, List.getElem?_cons_succ, eq_self, Int.reduceLT, Int.reduceLE, Int.reduceNeg, Int.reduceEq, l0, tk0, l1, tk1, c1, c2, ld17, td17, garg0, garg1]
          refine .inl ⟨by kernel_rfl, ?_⟩; refine toMark_c (b := false) (i1.mono s.ext) n1 fun ds18 h18 s18 => ?_
          have s := s.add s18
          have ld18 : ds18.length = 2 := s18.gpull
          have td18 : ds18.take 2 = ds18 := List.take_of_length_le (Nat.le_of_eq ld18)
          have garg0 := (s.pull 4 rfl).rdAll (n := 2) l0.symm
          have garg1 := (s.pull 3 rfl).rdAll (n := 2) l1.symm
          try simp (disch := omega) only [VW, VY, VZ, VA, VB, VC, VE, TY, ↓reduceIte, Nat.reduceEqDiff, Nat.reduceAdd, Nat.reduceMul, Nat.reduceSub, Nat.reduceLeDiff, List.length_cons, List.length_nil, List.length_append, List.append_assoc, List.take_succ_cons, List.take_zero, List.drop_succ_cons, List.drop_zero, List.set_cons_zero, List.set_cons_succ, true_or, or_true, and_self, Bool.false_eq_true, Nat.le_refl, Option.bind_some, Option.map_some, Option.getD_some, Option.isSome_some, List.map_cons, List.map_nil, List.cons_append, List.nil_append, List.append_nil, List.getElem?_cons_zero, List.getElem?_cons_succ, eq_self, Int.reduceLT, Int.reduceLE, Int.reduceNeg, Int.reduceEq, l0, tk0, l1, tk1, c1, c2, ld17, td17, ld18, td18, garg0, garg1]
          refine tail_step [(4, [5, 6, 7], [9, 10])] (by kernel_rfl) (by kernel_rfl) (a_cons (by simp only [List.filterMap_cons, List.filterMap_nil, List.getElem?_cons_zero, List.getElem?_cons_succ]; rfl) (by kernel_rfl) ?_ trivial)
          focus
            have garg0 := (s.pull 4 rfl).rdAll (n := 2) l0.symm
            have garg1 := (s.pull 3 rfl).rdAll (n := 2) l1.symm
            try simp (disch := omega) only [VW, VY, VZ, VA, VB, VC, VE, TY, ↓reduceIte, Nat.reduceEqDiff, Nat.reduceAdd, Nat.reduceMul, Nat.reduceSub, Nat.reduceLeDiff, List.length_cons, List.length_nil, List.length_append, List.append_assoc, List.take_succ_cons, List.take_zero, List.drop_succ_cons, List.drop_zero, List.set_cons_zero, List.set_cons_succ, true_or, or_true, and_self, Bool.false_eq_true, Nat.le_refl, Option.bind_some, Option.map_some, Option.getD_some, Option.isSome_some, List.map_cons, List.map_nil, List.cons_append, List.nil_append, List.append_nil, List.getElem?_cons_zero, List.getElem?_cons_succ, eq_self, Int.reduceLT, Int.reduceLE, Int.reduceNeg, Int.reduceEq, l0, tk0, l1, tk1, c1, c2, ld17, td17, ld18, td18, garg0, garg1]
            refine .inl ⟨by kernel_rfl, ?_⟩; refine AppendMark_s (s.pull 1 rfl).gHere (s.pull 0 rfl).gHere n0 n1 fun h19 E19 => ?_
            have s := s.mono E19
            have garg0 := (s.pull 4 rfl).rdAll (n := 2) l0.symm
            have garg1 := (s.pull 3 rfl).rdAll (n := 2) l1.symm
            try simp (disch := omega) only [VW, VY, VZ, VA, VB, VC, VE, TY, ↓reduceIte, Nat.reduceEqDiff, Nat.reduceAdd, Nat.reduceMul, Nat.reduceSub, Nat.reduceLeDiff, List.length_cons, List.length_nil, List.length_append, List.append_assoc, List.take_succ_cons, List.take_zero, List.drop_succ_cons, List.drop_zero, List.set_cons_zero, List.set_cons_succ, true_or, or_true, and_self, Bool.false_eq_true, Nat.le_refl, Option.bind_some, Option.map_some, Option.getD_some, Option.isSome_some, List.map_cons, List.map_nil, List.cons_append, List.nil_append, List.append_nil, List.getElem?_cons_zero, List.getElem?_cons_succ, eq_self, Int.reduceLT, Int.reduceLE, Int.reduceNeg, Int.reduceEq, l0, tk0, l1, tk1, c1, c2, ld17, td17, ld18, td18, garg0, garg1]
            refine tail_step [(9, [10], [])] (by kernel_rfl) (by kernel_rfl) (a_cons (by simp only [List.filterMap_cons, List.filterMap_nil, List.getElem?_cons_zero, List.getElem?_cons_succ]; rfl) (by kernel_rfl) ?_ trivial)
            focus
              have garg0 := (s.pull 4 rfl).rdAll (n := 2) l0.symm
              have garg1 := (s.pull 3 rfl).rdAll (n := 2) l1.symm
              try simp (disch := omega) only [VW, VY, VZ, VA, VB, VC, VE, TY, ↓reduceIte, Nat.reduceEqDiff, Nat.reduceAdd, Nat.reduceMul, Nat.reduceSub, Nat.reduceLeDiff, List.length_cons, List.length_nil, List.length_append, List.append_assoc, List.take_succ_cons, List.take_zero, List.drop_succ_cons, List.drop_zero, List.set_cons_zero, List.set_cons_succ, true_or, or_true, and_self, Bool.false_eq_true, Nat.le_refl, Option.bind_some, Option.map_some, Option.getD_some, Option.isSome_some, List.map_cons, List.map_nil, List.cons_append, List.nil_append, List.append_nil, List.getElem?_cons_zero, List.getElem?_cons_succ, eq_self, Int.reduceLT, Int.reduceLE, Int.reduceNeg, Int.reduceEq, l0, tk0, l1, tk1, c1, c2, ld17, td17, ld18, td18, garg0, garg1]
              refine sep_store (s.pull 2 rfl) (by simp) fun h20 s => ?_
              have s := s.as (ds := [.string (appendM x0 x1).1.safe, .string (appendM x0 x1).1.pending]) (by simp [t_put])
              have garg0 := (s.pull 4 rfl).rdAll (n := 2) l0.symm
              have garg1 := (s.pull 3 rfl).rdAll (n := 2) l1.symm
              try simp (disch := omega) only [VW, VY, VZ, VA, VB, VC, VE, TY, ↓reduceIte, Nat.reduceEqDiff, Nat.reduceAdd, Nat.reduceMul, Nat.reduceSub, Nat.reduceLeDiff, List.length_cons, List.length_nil, List.length_append, List.append_assoc, List.take_succ_cons, List.take_zero, List.drop_succ_cons, List.drop_zero, List.set_cons_zero, List.set_cons_succ, true_or, or_true, and_self, Bool.false_eq_true, Nat.le_refl, Option.bind_some, Option.map_some, Option.getD_some, Option.isSome_some, List.map_cons, List.map_nil, List.cons_append, List.nil_append, List.append_nil, List.getElem?_cons_zero, List.getElem?_cons_succ, eq_self, Int.reduceLT, Int.reduceLE, Int.reduceNeg, Int.reduceEq, l0, tk0, l1, tk1, c1, c2, ld17, td17, ld18, td18, garg0, garg1]
              have s := s.pull 4 rfl
              have s := s.pull 4 rfl
              have s := s.pull 2 rfl
              unfold Post
              exact ⟨_, rfl, rfl, rfl, rfl, Sep.keep (L := [_, _, _]) s⟩
  rintro e3 h3 ⟨b3, e6_3, e7_3, e2_3, e3_3, s⟩
  have ld3 : ([.string (appendM x0 x1).1.safe, .string (appendM x0 x1).1.pending] : List Value).length = 2 := rfl
  have garg0 := (s.pull 2 rfl).rdAll (n := 2) l0.symm
  have garg1 := (s.pull 1 rfl).rdAll (n := 2) l1.symm
  have gvar3 := (s.pull 0 rfl).rdAll (n := 2) ld3.symm
  try simp (disch := omega) only [VW, VY, VZ, VA, VB, VC, VE, TY, ↓reduceIte, Nat.reduceEqDiff, Nat.reduceAdd, Nat.reduceMul, Nat.reduceSub, Nat.reduceLeDiff, List.length_cons, List.length_nil, List.length_append, List.append_assoc, List.take_succ_cons, List.take_zero, List.drop_succ_cons, List.drop_zero, List.set_cons_zero, List.set_cons_succ, true_or, or_true, and_self, Bool.false_eq_true, Nat.le_refl, Option.bind_some, Option.map_some, Option.getD_some, Option.isSome_some, List.map_cons, List.map_nil, List.cons_append, List.nil_append, List.append_nil, List.getElem?_cons_zero, List.getElem?_cons_succ, eq_self, Int.reduceLT, Int.reduceLE, Int.reduceNeg, Int.reduceEq, l0, tk0, l1, tk1, c1, c2, e6_3, e7_3, e2_3, e3_3, garg0, garg1, gvar3, b_neb, bne_self_eq_false, beq_self_eq_true]
  refine draw_post (fun e' h' => ∃ (b : Nat), e' 8 = .pointer (some ⟨b, 0, none⟩) ∧ e' 9 = .bool (appendM x0 x1).2 ∧ e' 2 = .pointer (some ⟨h.length, 0, none⟩) ∧ e' 3 = .pointer (some ⟨h.length + 1, 0, none⟩) ∧ e' 6 = .pointer (some ⟨b3, 0, none⟩) ∧ e' 7 = .bool (appendM x0 x1).2 ∧ Sep h h' [blkA b [.string (appendM x0 x1).1.safe, .string (appendM x0 x1).1.pending] 26, blkA b3 [.string (appendM x0 x1).1.safe, .string (appendM x0 x1).1.pending] 26, blkA (h.length + 1) cs1 41, blkA (h.length) cs0 23]) ?_ ?_
  focus
    refine draw_tail [0, 2] [1, 3, 4, 5, 6, 7, 8, 9, 10] (by kernel_rfl) (by simp only [List.filterMap_cons, List.filterMap_nil, List.getElem?_cons_zero, List.getElem?_cons_succ]; rfl) ?_
    try simp (disch := omega) only [VW, VY, VZ, VA, VB, VC, VE, TY, ↓reduceIte, Nat.reduceEqDiff, Nat.reduceAdd, Nat.reduceMul, Nat.reduceSub, Nat.reduceLeDiff, List.length_cons, List.length_nil, List.length_append, List.append_assoc, List.take_succ_cons, List.take_zero, List.drop_succ_cons, List.drop_zero, List.set_cons_zero, List.set_cons_succ, true_or, or_true, and_self, Bool.false_eq_true, Nat.le_refl, Option.bind_some, Option.map_some, Option.getD_some, Option.isSome_some, List.map_cons, List.map_nil, List.cons_append, List.nil_append, List.append_nil, List.getElem?_cons_zero, List.getElem?_cons_succ, eq_self, Int.reduceLT, Int.reduceLE, Int.reduceNeg, Int.reduceEq, l0, tk0, l1, tk1, c1, c2, e6_3, e7_3, e2_3, e3_3, garg0, garg1, gvar3, b_neb, bne_self_eq_false, beq_self_eq_true]
    refine tail_step [(1, [], [3, 4, 5, 6, 7, 8, 9, 10]), (8, [], [1, 3, 4, 5, 6, 7, 9, 10])] (by kernel_rfl) (by kernel_rfl) (a_cons (by simp only [List.filterMap_cons, List.filterMap_nil, List.getElem?_cons_zero, List.getElem?_cons_succ]; rfl) (by kernel_rfl) ?_ (a_cons (by simp only [List.filterMap_cons, List.filterMap_nil, List.getElem?_cons_zero, List.getElem?_cons_succ]; rfl) (by kernel_rfl) ?_ trivial))
    focus
      have garg0 := (s.pull 2 rfl).rdAll (n := 2) l0.symm
      have garg1 := (s.pull 1 rfl).rdAll (n := 2) l1.symm
      have gvar3 := (s.pull 0 rfl).rdAll (n := 2) ld3.symm
      try simp (disch := omega) only [VW, VY, VZ, VA, VB, VC, VE, TY, ↓reduceIte, Nat.reduceEqDiff, Nat.reduceAdd, Nat.reduceMul, Nat.reduceSub, Nat.reduceLeDiff, List.length_cons, List.length_nil, List.length_append, List.append_assoc, List.take_succ_cons, List.take_zero, List.drop_succ_cons, List.drop_zero, List.set_cons_zero, List.set_cons_succ, true_or, or_true, and_self, Bool.false_eq_true, Nat.le_refl, Option.bind_some, Option.map_some, Option.getD_some, Option.isSome_some, List.map_cons, List.map_nil, List.cons_append, List.nil_append, List.append_nil, List.getElem?_cons_zero, List.getElem?_cons_succ, eq_self, Int.reduceLT, Int.reduceLE, Int.reduceNeg, Int.reduceEq, l0, tk0, l1, tk1, c1, c2, e6_3, e7_3, e2_3, e3_3, garg0, garg1, gvar3]
      refine .inl ⟨by kernel_rfl, ?_⟩; refine toJournal_c (b := false) (i0.mono s.ext) n0 fun ds22 h22 s22 => ?_
      have s := s.add s22
      have ld22 : ds22.length = 2 := s22.gpull
      have td22 : ds22.take 2 = ds22 := List.take_of_length_le (Nat.le_of_eq ld22)
      have garg0 := (s.pull 3 rfl).rdAll (n := 2) l0.symm
      have garg1 := (s.pull 2 rfl).rdAll (n := 2) l1.symm
      have gvar3 := (s.pull 1 rfl).rdAll (n := 2) ld3.symm
      try simp (disch := omega) only [VW, VY, VZ, VA, VB, VC, VE, TY, ↓reduceIte, Nat.reduceEqDiff, Nat.reduceAdd, Nat.reduceMul, Nat.reduceSub, Nat.reduceLeDiff, List.length_cons, List.length_nil, List.length_append, List.append_assoc, List.take_succ_cons, List.take_zero, List.drop_succ_cons, List.drop_zero, List.set_cons_zero, List.set_cons_succ, true_or, or_true, and_self, Bool.false_eq_true, Nat.le_refl, Option.bind_some, Option.map_some, Option.getD_some, Option.isSome_some, List.map_cons, List.map_nil, List.cons_append, List.nil_append, List.append_nil, List.getElem?_cons_zero, List.getElem?_cons_succ, eq_self, Int.reduceLT, Int.reduceLE, Int.reduceNeg, Int.reduceEq, l0, tk0, l1, tk1, c1, c2, e6_3, e7_3, e2_3, e3_3, ld22, td22, garg0, garg1, gvar3]
      refine tail_step [(3, [], [4, 5, 6, 7, 8, 9, 10]), (8, [], [3, 4, 5, 6, 7, 9, 10])] (by kernel_rfl) (by kernel_rfl) (a_cons (by simp only [List.filterMap_cons, List.filterMap_nil, List.getElem?_cons_zero, List.getElem?_cons_succ]; rfl) (by kernel_rfl) ?_ (a_cons (by simp only [List.filterMap_cons, List.filterMap_nil, List.getElem?_cons_zero, List.getElem?_cons_succ]; rfl) (by kernel_rfl) ?_ trivial))
      focus
        have garg0 := (s.pull 3 rfl).rdAll (n := 2) l0.symm
        have garg1 := (s.pull 2 rfl).rdAll (n := 2) l1.symm
        have gvar3 := (s.pull 1 rfl).rdAll (n := 2) ld3.symm
        try simp (disch := omega) only [VW, VY, VZ, VA, VB, VC, VE, TY, ↓reduceIte, Nat.reduceEqDiff, Nat.reduceAdd, Nat.reduceMul, Nat.reduceSub, Nat.reduceLeDiff, List.length_cons, List.length_nil, List.length_append, List.append_assoc, List.take_succ_cons, List.take_zero, List.drop_succ_cons, List.drop_zero, List.set_cons_zero, List.set_cons_succ, true_or, or_true, and_self, Bool.false_eq_true, Nat.le_refl, Option.bind_some, Option.map_some, Option.getD_some, Option.isSome_some, List.map_cons, List.map_nil, List.cons_append, List.nil_append, List.append_nil, List.getElem?_cons_zero, List.getElem?_cons_succ, eq_self, Int.reduceLT, Int.reduceLE, Int.reduceNeg, Int.reduceEq, l0, tk0, l1, tk1, c1, c2, e6_3, e7_3, e2_3, e3_3, ld22, td22, garg0, garg1, gvar3]
        refine .inl ⟨by kernel_rfl, ?_⟩; refine toMark_c (b := false) (i1.mono s.ext) n1 fun ds23 h23 s23 => ?_
        have s := s.add s23
        have ld23 : ds23.length = 2 := s23.gpull
        have td23 : ds23.take 2 = ds23 := List.take_of_length_le (Nat.le_of_eq ld23)
        have garg0 := (s.pull 4 rfl).rdAll (n := 2) l0.symm
        have garg1 := (s.pull 3 rfl).rdAll (n := 2) l1.symm
        have gvar3 := (s.pull 2 rfl).rdAll (n := 2) ld3.symm
        try simp (disch := omega) only [VW, VY, VZ, VA, VB, VC, VE, TY, ↓reduceIte, Nat.reduceEqDiff, Nat.reduceAdd, Nat.reduceMul, Nat.reduceSub, Nat.reduceLeDiff, List.length_cons, List.length_nil, List.length_append, List.append_assoc, List.take_succ_cons, List.take_zero, List.drop_succ_cons, List.drop_zero, List.set_cons_zero, List.set_cons_succ, true_or, or_true, and_self, Bool.false_eq_true, Nat.le_refl, Option.bind_some, Option.map_some, Option.getD_some, Option.isSome_some, List.map_cons, List.map_nil, List.cons_append, List.nil_append, List.append_nil, List.getElem?_cons_zero, List.getElem?_cons_succ, eq_self, Int.reduceLT, Int.reduceLE, Int.reduceNeg, Int.reduceEq, l0, tk0, l1, tk1, c1, c2, e6_3, e7_3, e2_3, e3_3, ld22, td22, ld23, td23, garg0, garg1, gvar3]
        refine tail_step [(4, [5, 6, 7], [8, 9, 10]), (8, [], [4, 5, 6, 7, 9, 10])] (by kernel_rfl) (by kernel_rfl) (a_cons (by simp only [List.filterMap_cons, List.filterMap_nil, List.getElem?_cons_zero, List.getElem?_cons_succ]; rfl) (by kernel_rfl) ?_ (a_cons (by simp only [List.filterMap_cons, List.filterMap_nil, List.getElem?_cons_zero, List.getElem?_cons_succ]; rfl) (by kernel_rfl) ?_ trivial))
        focus
          have garg0 := (s.pull 4 rfl).rdAll (n := 2) l0.symm
          have garg1 := (s.pull 3 rfl).rdAll (n := 2) l1.symm
          have gvar3 := (s.pull 2 rfl).rdAll (n := 2) ld3.symm
          try simp (disch := omega) only [VW, VY, VZ, VA, VB, VC, VE, TY, ↓reduceIte, Nat.reduceEqDiff, Nat.reduceAdd, Nat.reduceMul, Nat.reduceSub, Nat.reduceLeDiff, List.length_cons, List.length_nil, List.length_append, List.append_assoc, List.take_succ_cons, List.take_zero, List.drop_succ_cons, List.drop_zero, List.set_cons_zero, List.set_cons_succ, true_or, or_true, and_self, Bool.false_eq_true, Nat.le_refl, Option.bind_some, Option.map_some, Option.getD_some, Option.isSome_some, List.map_cons, List.map_nil, List.cons_append, List.nil_append, List.append_nil, List.getElem?_cons_zero, List.getElem?_cons_succ, eq_self, Int.reduceLT, Int.reduceLE, Int.reduceNeg, Int.reduceEq, l0, tk0, l1, tk1, c1, c2, e6_3, e7_3, e2_3, e3_3, ld22, td22, ld23, td23, garg0, garg1, gvar3]
          refine .inl ⟨by kernel_rfl, ?_⟩; refine AppendMark_i (s.pull 1 rfl).gHere (s.pull 0 rfl).gHere n0 n1 fun h24 E24 => ?_
          have s := s.mono E24
          have garg0 := (s.pull 4 rfl).rdAll (n := 2) l0.symm
          have garg1 := (s.pull 3 rfl).rdAll (n := 2) l1.symm
          have gvar3 := (s.pull 2 rfl).rdAll (n := 2) ld3.symm
          try simp (disch := omega) only [VW, VY, VZ, VA, VB, VC, VE, TY, ↓reduceIte, Nat.reduceEqDiff, Nat.reduceAdd, Nat.reduceMul, Nat.reduceSub, Nat.reduceLeDiff, List.length_cons, List.length_nil, List.length_append, List.append_assoc, List.take_succ_cons, List.take_zero, List.drop_succ_cons, List.drop_zero, List.set_cons_zero, List.set_cons_succ, true_or, or_true, and_self, Bool.false_eq_true, Nat.le_refl, Option.bind_some, Option.map_some, Option.getD_some, Option.isSome_some, List.map_cons, List.map_nil, List.cons_append, List.nil_append, List.append_nil, List.getElem?_cons_zero, List.getElem?_cons_succ, eq_self, Int.reduceLT, Int.reduceLE, Int.reduceNeg, Int.reduceEq, l0, tk0, l1, tk1, c1, c2, e6_3, e7_3, e2_3, e3_3, ld22, td22, ld23, td23, garg0, garg1, gvar3]
          refine tail_step [(8, [], [9, 10])] (by kernel_rfl) (by kernel_rfl) (a_cons (by simp only [List.filterMap_cons, List.filterMap_nil, List.getElem?_cons_zero, List.getElem?_cons_succ]; rfl) (by kernel_rfl) ?_ trivial)
          focus
            have s := s.newBlk [.string ⟨#[]⟩, .string ⟨#[]⟩] 26 true
            have garg0 := (s.pull 5 rfl).rdAll (n := 2) l0.symm
            have garg1 := (s.pull 4 rfl).rdAll (n := 2) l1.symm
            have gvar3 := (s.pull 3 rfl).rdAll (n := 2) ld3.symm
            try simp (disch := omega) only [VW, VY, VZ, VA, VB, VC, VE, TY, ↓reduceIte, Nat.reduceEqDiff, Nat.reduceAdd, Nat.reduceMul, Nat.reduceSub, Nat.reduceLeDiff, List.length_cons, List.length_nil, List.length_append, List.append_assoc, List.take_succ_cons, List.take_zero, List.drop_succ_cons, List.drop_zero, List.set_cons_zero, List.set_cons_succ, true_or, or_true, and_self, Bool.false_eq_true, Nat.le_refl, Option.bind_some, Option.map_some, Option.getD_some, Option.isSome_some, List.map_cons, List.map_nil, List.cons_append, List.nil_append, List.append_nil, List.getElem?_cons_zero, List.getElem?_cons_succ, eq_self, Int.reduceLT, Int.reduceLE, Int.reduceNeg, Int.reduceEq, l0, tk0, l1, tk1, c1, c2, e6_3, e7_3, e2_3, e3_3, ld22, td22, ld23, td23, garg0, garg1, gvar3]
            generalize ((h24 ++ [some ⟨[.string ⟨#[]⟩, .string ⟨#[]⟩], 26, false, true⟩] : Heap)) = h25 at s ⊢
            have garg0 := (s.pull 5 rfl).rdAll (n := 2) l0.symm
            have garg1 := (s.pull 4 rfl).rdAll (n := 2) l1.symm
            have gvar3 := (s.pull 3 rfl).rdAll (n := 2) ld3.symm
            try simp (disch := omega) only [VW, VY, VZ, VA, VB, VC, VE, TY, ↓reduceIte, Nat.reduceEqDiff, Nat.reduceAdd, Nat.reduceMul, Nat.reduceSub, Nat.reduceLeDiff, List.length_cons, List.length_nil, List.length_append, List.append_assoc, List.take_succ_cons, List.take_zero, List.drop_succ_cons, List.drop_zero, List.set_cons_zero, List.set_cons_succ, true_or, or_true, and_self, Bool.false_eq_true, Nat.le_refl, Option.bind_some, Option.map_some, Option.getD_some, Option.isSome_some, List.map_cons, List.map_nil, List.cons_append, List.nil_append, List.append_nil, List.getElem?_cons_zero, List.getElem?_cons_succ, eq_self, Int.reduceLT, Int.reduceLE, Int.reduceNeg, Int.reduceEq, l0, tk0, l1, tk1, c1, c2, e6_3, e7_3, e2_3, e3_3, ld22, td22, ld23, td23, garg0, garg1, gvar3]
            refine tail_step [(9, [10], [])] (by kernel_rfl) (by kernel_rfl) (a_cons (by simp only [List.filterMap_cons, List.filterMap_nil, List.getElem?_cons_zero, List.getElem?_cons_succ]; rfl) (by kernel_rfl) ?_ trivial)
            focus
              have garg0 := (s.pull 5 rfl).rdAll (n := 2) l0.symm
              have garg1 := (s.pull 4 rfl).rdAll (n := 2) l1.symm
              have gvar3 := (s.pull 3 rfl).rdAll (n := 2) ld3.symm
              try simp (disch := omega) only [VW, VY, VZ, VA, VB, VC, VE, TY, ↓reduceIte, Nat.reduceEqDiff, Nat.reduceAdd, Nat.reduceMul, Nat.reduceSub, Nat.reduceLeDiff, List.length_cons, List.length_nil, List.length_append, List.append_assoc, List.take_succ_cons, List.take_zero, List.drop_succ_cons, List.drop_zero, List.set_cons_zero, List.set_cons_succ, true_or, or_true, and_self, Bool.false_eq_true, Nat.le_refl, Option.bind_some, Option.map_some, Option.getD_some, Option.isSome_some, List.map_cons, List.map_nil, List.cons_append, List.nil_append, List.append_nil, List.getElem?_cons_zero, List.getElem?_cons_succ, eq_self, Int.reduceLT, Int.reduceLE, Int.reduceNeg, Int.reduceEq, l0, tk0, l1, tk1, c1, c2, e6_3, e7_3, e2_3, e3_3, ld22, td22, ld23, td23, garg0, garg1, gvar3]
              refine sep_store (s.pull 0 rfl) (by simp) fun h26 s => ?_
              have s := s.as (ds := [.string (appendM x0 x1).1.safe, .string (appendM x0 x1).1.pending]) (by simp [t_put])
              have garg0 := (s.pull 5 rfl).rdAll (n := 2) l0.symm
              have garg1 := (s.pull 4 rfl).rdAll (n := 2) l1.symm
              have gvar3 := (s.pull 3 rfl).rdAll (n := 2) ld3.symm
              try simp (disch := omega) only [VW, VY, VZ, VA, VB, VC, VE, TY, ↓reduceIte, Nat.reduceEqDiff, Nat.reduceAdd, Nat.reduceMul, Nat.reduceSub, Nat.reduceLeDiff, List.length_cons, List.length_nil, List.length_append, List.append_assoc, List.take_succ_cons, List.take_zero, List.drop_succ_cons, List.drop_zero, List.set_cons_zero, List.set_cons_succ, true_or, or_true, and_self, Bool.false_eq_true, Nat.le_refl, Option.bind_some, Option.map_some, Option.getD_some, Option.isSome_some, List.map_cons, List.map_nil, List.cons_append, List.nil_append, List.append_nil, List.getElem?_cons_zero, List.getElem?_cons_succ, eq_self, Int.reduceLT, Int.reduceLE, Int.reduceNeg, Int.reduceEq, l0, tk0, l1, tk1, c1, c2, e6_3, e7_3, e2_3, e3_3, ld22, td22, ld23, td23, garg0, garg1, gvar3]
              have s := s.pull 5 rfl
              have s := s.pull 5 rfl
              have s := s.pull 5 rfl
              have s := s.pull 3 rfl
              unfold Post
              exact ⟨_, rfl, rfl, e2_3, e3_3, e6_3, e7_3, Sep.keep (L := [_, _, _, _]) s⟩
        focus
          have s := s.newBlk [.string ⟨#[]⟩, .string ⟨#[]⟩] 26 true
          have garg0 := (s.pull 5 rfl).rdAll (n := 2) l0.symm
          have garg1 := (s.pull 4 rfl).rdAll (n := 2) l1.symm
          have gvar3 := (s.pull 3 rfl).rdAll (n := 2) ld3.symm
          try simp (disch := omega) only [VW, VY, VZ, VA, VB, VC, VE, TY, ↓reduceIte, Nat.reduceEqDiff, Nat.reduceAdd, Nat.reduceMul, Nat.reduceSub, Nat.reduceLeDiff, List.length_cons, List.length_nil, List.length_append, List.append_assoc, List.take_succ_cons, List.take_zero, List.drop_succ_cons, List.drop_zero, List.set_cons_zero, List.set_cons_succ, true_or, or_true, and_self, Bool.false_eq_true, Nat.le_refl, Option.bind_some, Option.map_some, Option.getD_some, Option.isSome_some, List.map_cons, List.map_nil, List.cons_append, List.nil_append, List.append_nil, List.getElem?_cons_zero, List.getElem?_cons_succ, eq_self, Int.reduceLT, Int.reduceLE, Int.reduceNeg, Int.reduceEq, l0, tk0, l1, tk1, c1, c2, e6_3, e7_3, e2_3, e3_3, ld22, td22, ld23, td23, garg0, garg1, gvar3]
          generalize ((h23 ++ [some ⟨[.string ⟨#[]⟩, .string ⟨#[]⟩], 26, false, true⟩] : Heap)) = h27 at s ⊢
          have garg0 := (s.pull 5 rfl).rdAll (n := 2) l0.symm
          have garg1 := (s.pull 4 rfl).rdAll (n := 2) l1.symm
          have gvar3 := (s.pull 3 rfl).rdAll (n := 2) ld3.symm
          try simp (disch := omega) only [VW, VY, VZ, VA, VB, VC, VE, TY, ↓reduceIte, Nat.reduceEqDiff, Nat.reduceAdd, Nat.reduceMul, Nat.reduceSub, Nat.reduceLeDiff, List.length_cons, List.length_nil, List.length_append, List.append_assoc, List.take_succ_cons, List.take_zero, List.drop_succ_cons, List.drop_zero, List.set_cons_zero, List.set_cons_succ, true_or, or_true, and_self, Bool.false_eq_true, Nat.le_refl, Option.bind_some, Option.map_some, Option.getD_some, Option.isSome_some, List.map_cons, List.map_nil, List.cons_append, List.nil_append, List.append_nil, List.getElem?_cons_zero, List.getElem?_cons_succ, eq_self, Int.reduceLT, Int.reduceLE, Int.reduceNeg, Int.reduceEq, l0, tk0, l1, tk1, c1, c2, e6_3, e7_3, e2_3, e3_3, ld22, td22, ld23, td23, garg0, garg1, gvar3]
          refine tail_step [(4, [5, 6, 7], [9, 10])] (by kernel_rfl) (by kernel_rfl) (a_cons (by simp only [List.filterMap_cons, List.filterMap_nil, List.getElem?_cons_zero, List.getElem?_cons_succ]; rfl) (by kernel_rfl) ?_ trivial)
          focus
            have garg0 := (s.pull 5 rfl).rdAll (n := 2) l0.symm
            have garg1 := (s.pull 4 rfl).rdAll (n := 2) l1.symm
            have gvar3 := (s.pull 3 rfl).rdAll (n := 2) ld3.symm
            try simp (disch := omega) only [VW, VY, VZ, VA, VB, VC, VE, TY, ↓reduceIte, Nat.reduceEqDiff, Nat.reduceAdd, Nat.reduceMul, Nat.reduceSub, Nat.reduceLeDiff, List.length_cons, List.length_nil, List.length_append, List.append_assoc, List.take_succ_cons, List.take_zero, List.drop_succ_cons, List.drop_zero, List.set_cons_zero, List.set_cons_succ, true_or, or_true, and_self, Bool.false_eq_true, Nat.le_refl, Option.bind_some, Option.map_some, Option.getD_some, Option.isSome_some, List.map_cons, List.map_nil, List.cons_append, List.nil_append, List.append_nil, List.getElem?_cons_zero, List.getElem?_cons_succ, eq_self, Int.reduceLT, Int.reduceLE, Int.reduceNeg, Int.reduceEq, l0, tk0, l1, tk1, c1, c2, e6_3, e7_3, e2_3, e3_3, ld22, td22, ld23, td23, garg0, garg1, gvar3]
            refine .inl ⟨by kernel_rfl, ?_⟩; refine AppendMark_i (s.pull 2 rfl).gHere (s.pull 1 rfl).gHere n0 n1 fun h28 E28 => ?_
            have s := s.mono E28
            have garg0 := (s.pull 5 rfl).rdAll (n := 2) l0.symm
            have garg1 := (s.pull 4 rfl).rdAll (n := 2) l1.symm
            have gvar3 := (s.pull 3 rfl).rdAll (n := 2) ld3.symm
            try simp (disch := omega) only [VW, VY, VZ, VA, VB, VC, VE, TY, ↓reduceIte, Nat.reduceEqDiff, Nat.reduceAdd, Nat.reduceMul, Nat.reduceSub, Nat.reduceLeDiff, List.length_cons, List.length_nil, List.length_append, List.append_assoc, List.take_succ_cons, List.take_zero, List.drop_succ_cons, List.drop_zero, List.set_cons_zero, List.set_cons_succ, true_or, or_true, and_self, Bool.false_eq_true, Nat.le_refl, Option.bind_some, Option.map_some, Option.getD_some, Option.isSome_some, List.map_cons, List.map_nil, List.cons_append, List.nil_append, List.append_nil, List.getElem?_cons_zero, List.getElem?_cons_succ, eq_self, Int.reduceLT, Int.reduceLE, Int.reduceNeg, Int.reduceEq, l0, tk0, l1, tk1, c1, c2, e6_3, e7_3, e2_3, e3_3, ld22, td22, ld23, td23, garg0, garg1, gvar3]
            refine tail_step [(9, [10], [])] (by kernel_rfl) (by kernel_rfl) (a_cons (by simp only [List.filterMap_cons, List.filterMap_nil, List.getElem?_cons_zero, List.getElem?_cons_succ]; rfl) (by kernel_rfl) ?_ trivial)
            focus
              have garg0 := (s.pull 5 rfl).rdAll (n := 2) l0.symm
              have garg1 := (s.pull 4 rfl).rdAll (n := 2) l1.symm
              have gvar3 := (s.pull 3 rfl).rdAll (n := 2) ld3.symm
              try simp (disch := omega) only [VW, VY, VZ, VA, VB, VC, VE, TY, ↓reduceIte, Nat.reduceEqDiff, Nat.reduceAdd, Nat.reduceMul, Nat.reduceSub, Nat.reduceLeDiff, List.length_cons, List.length_nil, List.length_append, List.append_assoc, List.take_succ_cons, List.take_zero, List.drop_succ_cons, List.drop_zero, List.set_cons_zero, List.set_cons_succ, true_or, or_true, and_self, Bool.false_eq_true, Nat.le_refl, Option.bind_some, Option.map_some, Option.getD_some, Option.isSome_some, List.map_cons, List.map_nil, List.cons_append, List.nil_append, List.append_nil, List.getElem?_cons_zero, List.getElem?_cons_succ, eq_self, Int.reduceLT, Int.reduceLE, Int.reduceNeg, Int.reduceEq, l0, tk0, l1, tk1, c1, c2, e6_3, e7_3, e2_3, e3_3, ld22, td22, ld23, td23, garg0, garg1, gvar3]
              refine sep_store (s.pull 0 rfl) (by simp) fun h29 s => ?_
              have s := s.as (ds := [.string (appendM x0 x1).1.safe, .string (appendM x0 x1).1.pending]) (by simp [t_put])
              have garg0 := (s.pull 5 rfl).rdAll (n := 2) l0.symm
              have garg1 := (s.pull 4 rfl).rdAll (n := 2) l1.symm
              have gvar3 := (s.pull 3 rfl).rdAll (n := 2) ld3.symm
              try simp (disch := omega) only [VW, VY, VZ, VA, VB, VC, VE, TY, ↓reduceIte, Nat.reduceEqDiff, Nat.reduceAdd, Nat.reduceMul, Nat.reduceSub, Nat.reduceLeDiff, List.length_cons, List.length_nil, List.length_append, List.append_assoc, List.take_succ_cons, List.take_zero, List.drop_succ_cons, List.drop_zero, List.set_cons_zero, List.set_cons_succ, true_or, or_true, and_self, Bool.false_eq_true, Nat.le_refl, Option.bind_some, Option.map_some, Option.getD_some, Option.isSome_some, List.map_cons, List.map_nil, List.cons_append, List.nil_append, List.append_nil, List.getElem?_cons_zero, List.getElem?_cons_succ, eq_self, Int.reduceLT, Int.reduceLE, Int.reduceNeg, Int.reduceEq, l0, tk0, l1, tk1, c1, c2, e6_3, e7_3, e2_3, e3_3, ld22, td22, ld23, td23, garg0, garg1, gvar3]
              have s := s.pull 5 rfl
              have s := s.pull 5 rfl
              have s := s.pull 5 rfl
              have s := s.pull 3 rfl
              unfold Post
              exact ⟨_, rfl, rfl, e2_3, e3_3, e6_3, e7_3, Sep.keep (L := [_, _, _, _]) s⟩
      focus
        have s := s.newBlk [.string ⟨#[]⟩, .string ⟨#[]⟩] 26 true
        have garg0 := (s.pull 4 rfl).rdAll (n := 2) l0.symm
        have garg1 := (s.pull 3 rfl).rdAll (n := 2) l1.symm
        have gvar3 := (s.pull 2 rfl).rdAll (n := 2) ld3.symm
        try simp (disch := omega) only [VW, VY, VZ, VA, VB, VC, VE, TY, ↓reduceIte, Nat.reduceEqDiff, Nat.reduceAdd, Nat.reduceMul, Nat.reduceSub, Nat.reduceLeDiff, List.length_cons, List.length_nil, List.length_append, List.append_assoc, List.take_succ_cons, List.take_zero, List.drop_succ_cons, List.drop_zero, List.set_cons_zero, List.set_cons_succ, true_or, or_true, and_self, Bool.false_eq_true, Nat.le_refl, Option.bind_some, Option.map_some, Option.getD_some, Option.isSome_some, List.map_cons, List.map_nil, List.cons_append, List.nil_append, List.append_nil, List.getElem?_cons_zero, List.getElem?_cons_succ, eq_self, Int.reduceLT, Int.reduceLE, Int.reduceNeg, Int.reduceEq, l0, tk0, l1, tk1, c1, c2, e6_3, e7_3, e2_3, e3_3, ld22, td22, garg0, garg1, gvar3]
        generalize ((h22 ++ [some ⟨[.string ⟨#[]⟩, .string ⟨#[]⟩], 26, false, true⟩] : Heap)) = h30 at s ⊢
        have garg0 := (s.pull 4 rfl).rdAll (n := 2) l0.symm
        have garg1 := (s.pull 3 rfl).rdAll (n := 2) l1.symm
        have gvar3 := (s.pull 2 rfl).rdAll (n := 2) ld3.symm
        try simp (disch := omega) only [VW, VY, VZ, VA, VB, VC, VE, TY, ↓reduceIte, Nat.reduceEqDiff, Nat.reduceAdd, Nat.reduceMul, Nat.reduceSub, Nat.reduceLeDiff, List.length_cons, List.length_nil, List.length_append, List.append_assoc, List.take_succ_cons, List.take_zero, List.drop_succ_cons, List.drop_zero, List.set_cons_zero, List.set_cons_succ, true_or, or_true, and_self, Bool.false_eq_true, Nat.le_refl, Option.bind_some, Option.map_some, Option.getD_some, Option.isSome_some, List.map_cons, List.map_nil, List.cons_append, List.nil_append, List.append_nil, List.getElem?_cons_zero, List.getElem?_cons_succ, eq_self, Int.reduceLT, Int.reduceLE, Int.reduceNeg, Int.reduceEq, l0, tk0, l1, tk1, c1, c2, e6_3, e7_3, e2_3, e3_3, ld22, td22, garg0, garg1, gvar3]
        refine tail_step [(3, [], [4, 5, 6, 7, 9, 10])] (by kernel_rfl) (by kernel_rfl) (a_cons (by simp only [List.filterMap_cons, List.filterMap_nil, List.getElem?_cons_zero, List.getElem?_cons_succ]; rfl) (by kernel_rfl) ?_ trivial)
        focus
          have garg0 := (s.pull 4 rfl).rdAll (n := 2) l0.symm
          have garg1 := (s.pull 3 rfl).rdAll (n := 2) l1.symm
          have gvar3 := (s.pull 2 rfl).rdAll (n := 2) ld3.symm
          try simp (disch := omega) only [VW, VY, VZ, VA, VB, VC, VE, TY, ↓reduceIte, Nat.reduceEqDiff, Nat.reduceAdd, Nat.reduceMul, Nat.reduceSub, Nat.reduceLeDiff, List.length_cons, List.length_nil, List.length_append, List.append_assoc, List.take_succ_cons, List.take_zero, List.drop_succ_cons, List.drop_zero, List.set_cons_zero, List.set_cons_succ, true_or, or_true, and_self, Bool.false_eq_true, Nat.le_refl, Option.bind_some, Option.map_some, Option.getD_some, Option.isSome_some, List.map_cons, List.map_nil, List.cons_append, List.nil_append, List.append_nil, List.getElem?_cons_zero, List.getElem?_cons_succ, eq_self, Int.reduceLT, Int.reduceLE, Int.reduceNeg, Int.reduceEq, l0, tk0, l1, tk1, c1, c2, e6_3, e7_3, e2_3, e3_3, ld22, td22, garg0, garg1, gvar3]
          refine .inl ⟨by kernel_rfl, ?_⟩; refine toMark_c (b := false) (i1.mono s.ext) n1 fun ds31 h31 s31 => ?_
          have s := s.add s31
          have ld31 : ds31.length = 2 := s31.gpull
          have td31 : ds31.take 2 = ds31 := List.take_of_length_le (Nat.le_of_eq ld31)
          have garg0 := (s.pull 5 rfl).rdAll (n := 2) l0.symm
          have garg1 := (s.pull 4 rfl).rdAll (n := 2) l1.symm
          have gvar3 := (s.pull 3 rfl).rdAll (n := 2) ld3.symm
          try simp (disch := omega) only [VW, VY, VZ, VA, VB, VC, VE, TY, ↓reduceIte, Nat.reduceEqDiff, Nat.reduceAdd, Nat.reduceMul, Nat.reduceSub, Nat.reduceLeDiff, List.length_cons, List.length_nil, List.length_append, List.append_assoc, List.take_succ_cons, List.take_zero, List.drop_succ_cons, List.drop_zero, List.set_cons_zero, List.set_cons_succ, true_or, or_true, and_self, Bool.false_eq_true, Nat.le_refl, Option.bind_some, Option.map_some, Option.getD_some, Option.isSome_some, List.map_cons, List.map_nil, List.cons_append, List.nil_append, List.append_nil, List.getElem?_cons_zero, List.getElem?_cons_succ, eq_self, Int.reduceLT, Int.reduceLE, Int.reduceNeg, Int.reduceEq, l0, tk0, l1, tk1, c1, c2, e6_3, e7_3, e2_3, e3_3, ld22, td22, ld31, td31, garg0, garg1, gvar3]
          refine tail_step [(4, [5, 6, 7], [9, 10])] (by kernel_rfl) (by kernel_rfl) (a_cons (by simp only [List.filterMap_cons, List.filterMap_nil, List.getElem?_cons_zero, List.getElem?_cons_succ]; rfl) (by kernel_rfl) ?_ trivial)
          focus
            have garg0 := (s.pull 5 rfl).rdAll (n := 2) l0.symm
            have garg1 := (s.pull 4 rfl).rdAll (n := 2) l1.symm
            have gvar3 := (s.pull 3 rfl).rdAll (n := 2) ld3.symm
            try simp (disch := omega) only [VW, VY, VZ, VA, VB, VC, VE, TY, ↓reduceIte, Nat.reduceEqDiff, Nat.reduceAdd, Nat.reduceMul, Nat.reduceSub, Nat.reduceLeDiff, List.length_cons, List.length_nil, List.length_append, List.append_assoc, List.take_succ_cons, List.take_zero, List.drop_succ_cons, List.drop_zero, List.set_cons_zero, List.set_cons_succ, true_or, or_true, and_self, Bool.false_eq_true, Nat.le_refl, Option.bind_some, Option.map_some, Option.getD_some, Option.isSome_some, List.map_cons, List.map_nil, List.cons_append, List.nil_append, List.append_nil, List.getElem?_cons_zero, List.getElem?_cons_succ, eq_self, Int.reduceLT, Int.reduceLE, Int.reduceNeg, Int.reduceEq, l0, tk0, l1, tk1, c1, c2, e6_3, e7_3, e2_3, e3_3, ld22, td22, ld31, td31, garg0, garg1, gvar3]
            refine .inl ⟨by kernel_rfl, ?_⟩; refine AppendMark_i (s.pull 2 rfl).gHere (s.pull 0 rfl).gHere n0 n1 fun h32 E32 => ?_
            have s := s.mono E32
            have garg0 := (s.pull 5 rfl).rdAll (n := 2) l0.symm
            have garg1 := (s.pull 4 rfl).rdAll (n := 2) l1.symm
            have gvar3 := (s.pull 3 rfl).rdAll (n := 2) ld3.symm
            try simp (disch := omega) only [VW, VY, VZ, VA, VB, VC, VE, TY, ↓reduceIte, Nat.reduceEqDiff, Nat.reduceAdd, Nat.reduceMul, Nat.reduceSub, Nat.reduceLeDiff, List.length_cons, List.length_nil, List.length_append, List.append_assoc, List.take_succ_cons, List.take_zero, List.drop_succ_cons, List.drop_zero, List.set_cons_zero, List.set_cons_succ, true_or, or_true, and_self, Bool.false_eq_true, Nat.le_refl, Option.bind_some, Option.map_some, Option.getD_some, Option.isSome_some, List.map_cons, List.map_nil, List.cons_append, List.nil_append, List.append_nil, List.getElem?_cons_zero, List.getElem?_cons_succ, eq_self, Int.reduceLT, Int.reduceLE, Int.reduceNeg, Int.reduceEq, l0, tk0, l1, tk1, c1, c2, e6_3, e7_3, e2_3, e3_3, ld22, td22, ld31, td31, garg0, garg1, gvar3]
            refine tail_step [(9, [10], [])] (by kernel_rfl) (by kernel_rfl) (a_cons (by simp only [List.filterMap_cons, List.filterMap_nil, List.getElem?_cons_zero, List.getElem?_cons_succ]; rfl) (by kernel_rfl) ?_ trivial)
            focus
              have garg0 := (s.pull 5 rfl).rdAll (n := 2) l0.symm
              have garg1 := (s.pull 4 rfl).rdAll (n := 2) l1.symm
              have gvar3 := (s.pull 3 rfl).rdAll (n := 2) ld3.symm
              try simp (disch := omega) only [VW, VY, VZ, VA, VB, VC, VE, TY, ↓reduceIte, Nat.reduceEqDiff, Nat.reduceAdd, Nat.reduceMul, Nat.reduceSub, Nat.reduceLeDiff, List.length_cons, List.length_nil, List.length_append, List.append_assoc, List.take_succ_cons, List.take_zero, List.drop_succ_cons, List.drop_zero, List.set_cons_zero, List.set_cons_succ, true_or, or_true, and_self, Bool.false_eq_true, Nat.le_refl, Option.bind_some, Option.map_some, Option.getD_some, Option.isSome_some, List.map_cons, List.map_nil, List.cons_append, List.nil_append, List.append_nil, List.getElem?_cons_zero, List.getElem?_cons_succ, eq_self, Int.reduceLT, Int.reduceLE, Int.reduceNeg, Int.reduceEq, l0, tk0, l1, tk1, c1, c2, e6_3, e7_3, e2_3, e3_3, ld22, td22, ld31, td31, garg0, garg1, gvar3]
              refine sep_store (s.pull 1 rfl) (by simp) fun h33 s => ?_
              have s := s.as (ds := [.string (appendM x0 x1).1.safe, .string (appendM x0 x1).1.pending]) (by simp [t_put])
              have garg0 := (s.pull 5 rfl).rdAll (n := 2) l0.symm
              have garg1 := (s.pull 4 rfl).rdAll (n := 2) l1.symm
              have gvar3 := (s.pull 3 rfl).rdAll (n := 2) ld3.symm
              try simp (disch := omega) only [VW, VY, VZ, VA, VB, VC, VE, TY, ↓reduceIte, Nat.reduceEqDiff, Nat.reduceAdd, Nat.reduceMul, Nat.reduceSub, Nat.reduceLeDiff, List.length_cons, List.length_nil, List.length_append, List.append_assoc, List.take_succ_cons, List.take_zero, List.drop_succ_cons, List.drop_zero, List.set_cons_zero, List.set_cons_succ, true_or, or_true, and_self, Bool.false_eq_true, Nat.le_refl, Option.bind_some, Option.map_some, Option.getD_some, Option.isSome_some, List.map_cons, List.map_nil, List.cons_append, List.nil_append, List.append_nil, List.getElem?_cons_zero, List.getElem?_cons_succ, eq_self, Int.reduceLT, Int.reduceLE, Int.reduceNeg, Int.reduceEq, l0, tk0, l1, tk1, c1, c2, e6_3, e7_3, e2_3, e3_3, ld22, td22, ld31, td31, garg0, garg1, gvar3]
              have s := s.pull 5 rfl
              have s := s.pull 5 rfl
              have s := s.pull 5 rfl
              have s := s.pull 3 rfl
              unfold Post
              exact ⟨_, rfl, rfl, e2_3, e3_3, e6_3, e7_3, Sep.keep (L := [_, _, _, _]) s⟩
    focus
      have s := s.newBlk [.string ⟨#[]⟩, .string ⟨#[]⟩] 26 true
      have garg0 := (s.pull 3 rfl).rdAll (n := 2) l0.symm
      have garg1 := (s.pull 2 rfl).rdAll (n := 2) l1.symm
      have gvar3 := (s.pull 1 rfl).rdAll (n := 2) ld3.symm
      try simp (disch := omega) only [VW, VY, VZ, VA, VB, VC, VE, TY, ↓reduceIte, Nat.reduceEqDiff, Nat.reduceAdd, Nat.reduceMul, Nat.reduceSub, Nat.reduceLeDiff, List.length_cons, List.length_nil, List.length_append, List.append_assoc, List.take_succ_cons, List.take_zero, List.drop_succ_cons, List.drop_zero, List.set_cons_zero, List.set_cons_succ, true_or, or_true, and_self, Bool.false_eq_true, Nat.le_refl, Option.bind_some, Option.map_some, Option.getD_some, Option.isSome_some, List.map_cons, List.map_nil, List.cons_append, List.nil_append, List.append_nil, List.getElem?_cons_zero, List.getElem?_cons_succ, eq_self, Int.reduceLT, Int.reduceLE, Int.reduceNeg, Int.reduceEq, l0, tk0, l1, tk1, c1, c2, e6_3, e7_3, e2_3, e3_3, garg0, garg1, gvar3]
      generalize ((h3 ++ [some ⟨[.string ⟨#[]⟩, .string ⟨#[]⟩], 26, false, true⟩] : Heap)) = h34 at s ⊢
      have garg0 := (s.pull 3 rfl).rdAll (n := 2) l0.symm
      have garg1 := (s.pull 2 rfl).rdAll (n := 2) l1.symm
      have gvar3 := (s.pull 1 rfl).rdAll (n := 2) ld3.symm
      try simp (disch := omega) only [VW, VY, VZ, VA, VB, VC, VE, TY, ↓reduceIte, Nat.reduceEqDiff, Nat.reduceAdd, Nat.reduceMul, Nat.reduceSub, Nat.reduceLeDiff, List.length_cons, List.length_nil, List.length_append, List.append_assoc, List.take_succ_cons, List.take_zero, List.drop_succ_cons, List.drop_zero, List.set_cons_zero, List.set_cons_succ, true_or, or_true, and_self, Bool.false_eq_true, Nat.le_refl, Option.bind_some, Option.map_some, Option.getD_some, Option.isSome_some, List.map_cons, List.map_nil, List.cons_append, List.nil_append, List.append_nil, List.getElem?_cons_zero, List.getElem?_cons_succ, eq_self, Int.reduceLT, Int.reduceLE, Int.reduceNeg, Int.reduceEq, l0, tk0, l1, tk1, c1, c2, e6_3, e7_3, e2_3, e3_3, garg0, garg1, gvar3]
      refine tail_step [(1, [], [3, 4, 5, 6, 7, 9, 10])] (by kernel_rfl) (by kernel_rfl) (a_cons (by simp only [List.filterMap_cons, List.filterMap_nil, List.getElem?_cons_zero, List.getElem?_cons_succ]; rfl) (by kernel_rfl) ?_ trivial)
      focus
        have garg0 := (s.pull 3 rfl).rdAll (n := 2) l0.symm
        have garg1 := (s.pull 2 rfl).rdAll (n := 2) l1.symm
        have gvar3 := (s.pull 1 rfl).rdAll (n := 2) ld3.symm
        try simp (disch := omega) only [VW, VY, VZ, VA, VB, VC, VE, TY, ↓reduceIte, Nat.reduceEqDiff, Nat.reduceAdd, Nat.reduceMul, Nat.reduceSub, Nat.reduceLeDiff, List.length_cons, List.length_nil, List.length_append, List.append_assoc, List.take_succ_cons, List.take_zero, List.drop_succ_cons, List.drop_zero, List.set_cons_zero, List.set_cons_succ, true_or, or_true, and_self, Bool.false_eq_true, Nat.le_refl, Option.bind_some, Option.map_some, Option.getD_some, Option.isSome_some, List.map_cons, List.map_nil, List.cons_append, List.nil_append, List.append_nil, List.getElem?_cons_zero, List.getElem?_cons_succ, eq_self, Int.reduceLT, Int.reduceLE, Int.reduceNeg, Int.reduceEq, l0, tk0, l1, tk1, c1, c2, e6_3, e7_3, e2_3, e3_3, garg0, garg1, gvar3]
        refine .inl ⟨by kernel_rfl, ?_⟩; refine toJournal_c (b := false) (i0.mono s.ext) n0 fun ds35 h35 s35 => ?_
        have s := s.add s35
        have ld35 : ds35.length = 2 := s35.gpull
        have td35 : ds35.take 2 = ds35 := List.take_of_length_le (Nat.le_of_eq ld35)
        have garg0 := (s.pull 4 rfl).rdAll (n := 2) l0.symm
        have garg1 := (s.pull 3 rfl).rdAll (n := 2) l1.symm
        have gvar3 := (s.pull 2 rfl).rdAll (n := 2) ld3.symm
        try simp (disch := omega) only [VW, VY, VZ, VA, VB, VC, VE, TY, ↓reduceIte, Nat.reduceEqDiff, Nat.reduceAdd, Nat.reduceMul, Nat.reduceSub, Nat.reduceLeDiff, List.length_cons, List.length_nil, List.length_append, List.append_assoc, List.take_succ_cons, List.take_zero, List.drop_succ_cons, List.drop_zero, List.set_cons_zero, List.set_cons_succ, true_or, or_true, and_self, Bool.false_eq_true, Nat.le_refl, Option.bind_some, Option.map_some, Option.getD_some, Option.isSome_some, List.map_cons, List.map_nil, List.cons_append, List.nil_append, List.append_nil, List.getElem?_cons_zero, List.getElem?_cons_succ, eq_self, Int.reduceLT, Int.reduceLE, Int.reduceNeg, Int.reduceEq, l0, tk0, l1, tk1, c1, c2, e6_3, e7_3, e2_3, e3_3, ld35, td35, garg0, garg1, gvar3]
        refine tail_step [(3, [], [4, 5, 6, 7, 9, 10])] (by kernel_rfl) (by kernel_rfl) (a_cons (by simp only [List.filterMap_cons, List.filterMap_nil, List.getElem?_cons_zero, List.getElem?_cons_succ]; rfl) (by kernel_rfl) ?_ trivial)
        focus
          have garg0 := (s.pull 4 rfl).rdAll (n := 2) l0.symm
          have garg1 := (s.pull 3 rfl).rdAll (n := 2) l1.symm
          have gvar3 := (s.pull 2 rfl).rdAll (n := 2) ld3.symm
          try simp (disch := omega) only [VW, VY, VZ, VA, VB, VC, VE, TY, ↓reduceIte, Nat.reduceEqDiff, Nat.reduceAdd, Nat.reduceMul, Nat.reduceSub, Nat.reduceLeDiff, List.length_cons, List.length_nil, List.length_append, List.append_assoc, List.take_succ_cons, List.take_zero, List.drop_succ_cons, List.drop_zero, List.set_cons_zero, List.set_cons_succ, true_or, or_true, and_self, Bool.false_eq_true, Nat.le_refl, Option.bind_some, Option.map_some, Option.getD_some, Option.isSome_some, List.map_cons, List.map_nil, List.cons_append, List.nil_append, List.append_nil, List.getElem?_cons_zero, List.getElem?_cons_succ, eq_self, Int.reduceLT, Int.reduceLE, Int.reduceNeg, Int.reduceEq, l0, tk0, l1, tk1, c1, c2, e6_3, e7_3, e2_3, e3_3, ld35, td35, garg0, garg1, gvar3]
          refine .inl ⟨by kernel_rfl, ?_⟩; refine toMark_c (b := false) (i1.mono s.ext) n1 fun ds36 h36 s36 => ?_
          have s := s.add s36
          have ld36 : ds36.length = 2 := s36.gpull
          have td36 : ds36.take 2 = ds36 := List.take_of_length_le (Nat.le_of_eq ld36)
          have garg0 := (s.pull 5 rfl).rdAll (n := 2) l0.symm
          have garg1 := (s.pull 4 rfl).rdAll (n := 2) l1.symm
          have gvar3 := (s.pull 3 rfl).rdAll (n := 2) ld3.symm
          try simp (disch := omega) only [VW, VY, VZ, VA, VB, VC, VE, TY, ↓reduceIte, Nat.reduceEqDiff, Nat.reduceAdd, Nat.reduceMul, Nat.reduceSub, Nat.reduceLeDiff, List.length_cons, List.length_nil, List.length_append, List.append_assoc, List.take_succ_cons, List.take_zero, List.drop_succ_cons, List.drop_zero, List.set_cons_zero, List.set_cons_succ, true_or, or_true, and_self, Bool.false_eq_true, Nat.le_refl, Option.bind_some, Option.map_some, Option.getD_some, Option.isSome_some, List.map_cons, List.map_nil, List.cons_append, List.nil_append, List.append_nil, List.getElem?_cons_zero, List.getElem?_cons_succ, eq_self, Int.reduceLT, Int.reduceLE, Int.reduceNeg, Int.reduceEq, l0, tk0, l1, tk1, c1, c2, e6_3, e7_3, e2_3, e3_3, ld35, td35, ld36, td36, garg0, garg1, gvar3]
          refine tail_step [(4, [5, 6, 7], [9, 10])] (by kernel_rfl) (by kernel_rfl) (a_cons (by simp only [List.filterMap_cons, List.filterMap_nil, List.getElem?_cons_zero, List.getElem?_cons_succ]; rfl) (by kernel_rfl) ?_ trivial)
          focus
            have garg0 := (s.pull 5 rfl).rdAll (n := 2) l0.symm
            have garg1 := (s.pull 4 rfl).rdAll (n := 2) l1.symm
            have gvar3 := (s.pull 3 rfl).rdAll (n := 2) ld3.symm
            try simp (disch := omega) only [VW, VY, VZ, VA, VB, VC, VE, TY, ↓reduceIte, Nat.reduceEqDiff, Nat.reduceAdd, Nat.reduceMul, Nat.reduceSub, Nat.reduceLeDiff, List.length_cons, List.length_nil, List.length_append, List.append_assoc, List.take_succ_cons, List.take_zero, List.drop_succ_cons, List.drop_zero, List.set_cons_zero, List.set_cons_succ, true_or, or_true, and_self, Bool.false_eq_true, Nat.le_refl, Option.bind_some, Option.map_some, Option.getD_some, Option.isSome_some, List.map_cons, List.map_nil, List.cons_append, List.nil_append, List.append_nil, List.getElem?_cons_zero, List.getElem?_cons_succ, eq_self, Int.reduceLT, Int.reduceLE, Int.reduceNeg, Int.reduceEq, l0, tk0, l1, tk1, c1, c2, e6_3, e7_3, e2_3, e3_3, ld35, td35, ld36, td36, garg0, garg1, gvar3]
            refine .inl ⟨by kernel_rfl, ?_⟩; refine AppendMark_i (s.pull 1 rfl).gHere (s.pull 0 rfl).gHere n0 n1 fun h37 E37 => ?_
            have s := s.mono E37
            have garg0 := (s.pull 5 rfl).rdAll (n := 2) l0.symm
            have garg1 := (s.pull 4 rfl).rdAll (n := 2) l1.symm
            have gvar3 := (s.pull 3 rfl).rdAll (n := 2) ld3.symm
            try simp (disch := omega) only [VW, VY, VZ, VA, VB, VC, VE, TY, ↓reduceIte, Nat.reduceEqDiff, Nat.reduceAdd, Nat.reduceMul, Nat.reduceSub, Nat.reduceLeDiff, List.length_cons, List.length_nil, List.length_append, List.append_assoc, List.take_succ_cons, List.take_zero, List.drop_succ_cons, List.drop_zero, List.set_cons_zero, List.set_cons_succ, true_or, or_true, and_self, Bool.false_eq_true, Nat.le_refl, Option.bind_some, Option.map_some, Option.getD_some, Option.isSome_some, List.map_cons, List.map_nil, List.cons_append, List.nil_append, List.append_nil, List.getElem?_cons_zero, List.getElem?_cons_succ, eq_self, Int.reduceLT, Int.reduceLE, Int.reduceNeg, Int.reduceEq, l0, tk0, l1, tk1, c1, c2, e6_3, e7_3, e2_3, e3_3, ld35, td35, ld36, td36, garg0, garg1, gvar3]
            refine tail_step [(9, [10], [])] (by kernel_rfl) (by kernel_rfl) (a_cons (by simp only [List.filterMap_cons, List.filterMap_nil, List.getElem?_cons_zero, List.getElem?_cons_succ]; rfl) (by kernel_rfl) ?_ trivial)
            focus
              have garg0 := (s.pull 5 rfl).rdAll (n := 2) l0.symm
              have garg1 := (s.pull 4 rfl).rdAll (n := 2) l1.symm
              have gvar3 := (s.pull 3 rfl).rdAll (n := 2) ld3.symm
              try simp (disch := omega) only [VW, VY, VZ, VA, VB, VC, VE, TY, ↓reduceIte, Nat.reduceEqDiff, Nat.reduceAdd, Nat.reduceMul, Nat.reduceSub, Nat.reduceLeDiff, List.length_cons, List.length_nil, List.length_append, List.append_assoc, List.take_succ_cons, List.take_zero, List.drop_succ_cons, List.drop_zero, List.set_cons_zero, List.set_cons_succ, true_or, or_true, and_self, Bool.false_eq_true, Nat.le_refl, Option.bind_some, Option.map_some, Option.getD_some, Option.isSome_some, List.map_cons, List.map_nil, List.cons_append, List.nil_append, List.append_nil, List.getElem?_cons_zero, List.getElem?_cons_succ, eq_self, Int.reduceLT, Int.reduceLE, Int.reduceNeg, Int.reduceEq, l0, tk0, l1, tk1, c1, c2, e6_3, e7_3, e2_3, e3_3, ld35, td35, ld36, td36, garg0, garg1, gvar3]
              refine sep_store (s.pull 2 rfl) (by simp) fun h38 s => ?_
              have s := s.as (ds := [.string (appendM x0 x1).1.safe, .string (appendM x0 x1).1.pending]) (by simp [t_put])
              have garg0 := (s.pull 5 rfl).rdAll (n := 2) l0.symm
              have garg1 := (s.pull 4 rfl).rdAll (n := 2) l1.symm
              have gvar3 := (s.pull 3 rfl).rdAll (n := 2) ld3.symm
              try simp (disch := omega) only [VW, VY, VZ, VA, VB, VC, VE, TY, ↓reduceIte, Nat.reduceEqDiff, Nat.reduceAdd, Nat.reduceMul, Nat.reduceSub, Nat.reduceLeDiff, List.length_cons, List.length_nil, List.length_append, List.append_assoc, List.take_succ_cons, List.take_zero, List.drop_succ_cons, List.drop_zero, List.set_cons_zero, List.set_cons_succ, true_or, or_true, and_self, Bool.false_eq_true, Nat.le_refl, Option.bind_some, Option.map_some, Option.getD_some, Option.isSome_some, List.map_cons, List.map_nil, List.cons_append, List.nil_append, List.append_nil, List.getElem?_cons_zero, List.getElem?_cons_succ, eq_self, Int.reduceLT, Int.reduceLE, Int.reduceNeg, Int.reduceEq, l0, tk0, l1, tk1, c1, c2, e6_3, e7_3, e2_3, e3_3, ld35, td35, ld36, td36, garg0, garg1, gvar3]
              have s := s.pull 5 rfl
              have s := s.pull 5 rfl
              have s := s.pull 5 rfl
              have s := s.pull 3 rfl
              unfold Post
              exact ⟨_, rfl, rfl, e2_3, e3_3, e6_3, e7_3, Sep.keep (L := [_, _, _, _]) s⟩
  rintro e21 h21 ⟨b21, e8_21, e9_21, e2_21, e3_21, e6_21, e7_21, s⟩
  have ld21 : ([.string (appendM x0 x1).1.safe, .string (appendM x0 x1).1.pending] : List Value).length = 2 := rfl
  have garg0 := (s.pull 3 rfl).rdAll (n := 2) l0.symm
  have garg1 := (s.pull 2 rfl).rdAll (n := 2) l1.symm
  have gvar3 := (s.pull 1 rfl).rdAll (n := 2) ld3.symm
  have gvar21 := (s.pull 0 rfl).rdAll (n := 2) ld21.symm
  try simp (disch := omega) only [VW, VY, VZ, VA, VB, VC, VE, TY, ↓reduceIte, Nat.reduceEqDiff, Nat.reduceAdd, Nat.reduceMul, Nat.reduceSub, Nat.reduceLeDiff, List.length_cons, List.length_nil, List.length_append, List.append_assoc, List.take_succ_cons, List.take_zero, List.drop_succ_cons, List.drop_zero, List.set_cons_zero, List.set_cons_succ, true_or, or_true, and_self, Bool.false_eq_true, Nat.le_refl, Option.bind_some, Option.map_some, Option.getD_some, Option.isSome_some, List.map_cons, List.map_nil, List.cons_append, List.nil_append, List.append_nil, List.getElem?_cons_zero, List.getElem?_cons_succ, eq_self, Int.reduceLT, Int.reduceLE, Int.reduceNeg, Int.reduceEq, l0, tk0, l1, tk1, c1, c2, e8_21, e9_21, e2_21, e3_21, e6_21, e7_21, garg0, garg1, gvar3, gvar21, b_neb, bne_self_eq_false, beq_self_eq_true]
  refine .inl ⟨by kernel_rfl, ?_⟩; refine eqJournal_c (mk_Jn (appendM_sz n0 n1).1 (appendM_sz n0 n1).2) (mk_Jn (appendM_sz n0 n1).1 (appendM_sz n0 n1).2) fun h39 E39 => ?_
  have s := s.mono E39
  have garg0 := (s.pull 3 rfl).rdAll (n := 2) l0.symm
  have garg1 := (s.pull 2 rfl).rdAll (n := 2) l1.symm
  have gvar3 := (s.pull 1 rfl).rdAll (n := 2) ld3.symm
  have gvar21 := (s.pull 0 rfl).rdAll (n := 2) ld21.symm
  try simp (disch := omega) only [VW, VY, VZ, VA, VB, VC, VE, TY, ↓reduceIte, Nat.reduceEqDiff, Nat.reduceAdd, Nat.reduceMul, Nat.reduceSub, Nat.reduceLeDiff, List.length_cons, List.length_nil, List.length_append, List.append_assoc, List.take_succ_cons, List.take_zero, List.drop_succ_cons, List.drop_zero, List.set_cons_zero, List.set_cons_succ, true_or, or_true, and_self, Bool.false_eq_true, Nat.le_refl, Option.bind_some, Option.map_some, Option.getD_some, Option.isSome_some, List.map_cons, List.map_nil, List.cons_append, List.nil_append, List.append_nil, List.getElem?_cons_zero, List.getElem?_cons_succ, eq_self, Int.reduceLT, Int.reduceLE, Int.reduceNeg, Int.reduceEq, l0, tk0, l1, tk1, c1, c2, e8_21, e9_21, e2_21, e3_21, e6_21, e7_21, garg0, garg1, gvar3, gvar21, b_neb, bne_self_eq_false, beq_self_eq_true]
end Go.Proofs
