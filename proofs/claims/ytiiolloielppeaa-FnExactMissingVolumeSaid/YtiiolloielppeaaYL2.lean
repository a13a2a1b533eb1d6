/- Contracts of functions, facts of types, or the plain law behind one statement (own work): YL2. Conditions: those told in each theorem. -/
import Derived.Test.YtiiolloielppeaaYU
set_option linter.all false
set_option linter.unusedSimpArgs false
set_option linter.unusedVariables false
set_option maxRecDepth 4000
namespace Go.Proofs
open Go Go.V
theorem missingVolume_law {h : Heap} {x0 : Bx} {cs0 : List Value} {x1 : Wk} {cs1 : List Value} (i0 : Here h x0 cs0) (i1 : Here h x1 cs1) : CallsV Try.prog 4 [.agg cs0.toArray, .agg cs1.toArray] h fun v _ => v = .bool true := by
  refine CallsV.start Try.func4 rfl (by rw [Try.results4]) (by kernel_rfl) (by rw [Try.ntmps4]; simp) ?_
  have l0 := Here.len i0
  rw [Bx.sz] at l0
  have tk0 : cs0.take 3 = cs0 := List.take_of_length_le (Nat.le_of_eq l0)
  have l1 := Here.len i1
  rw [Wk.sz] at l1
  have tk1 : cs1.take 5 = cs1 := List.take_of_length_le (Nat.le_of_eq l1)
  have s := Sep.blk2 h cs0 cs1 36 24 true true
  have garg0 := (s.pull 1 rfl).rdAll (n := 3) l0.symm
  have garg1 := (s.pull 0 rfl).rdAll (n := 5) l1.symm
  try simp (disch := omega) only [VW, VY, VZ, VA, VB, VC, VE, TY, ↓reduceIte, Nat.reduceEqDiff, Nat.reduceAdd, Nat.reduceMul, Nat.reduceSub, Nat.reduceLeDiff, List.length_cons, List.length_nil, List.length_append, List.append_assoc, List.take_succ_cons, List.take_zero, List.drop_succ_cons, List.drop_zero, List.set_cons_zero, List.set_cons_succ, true_or, or_true, and_self, Bool.false_eq_true, Nat.le_refl, Option.bind_some, Option.map_some, Option.getD_some, Option.isSome_some, List.map_cons, List.map_nil, List.cons_append, List.nil_append, List.append_nil, List.getElem?_cons_zero, List.getElem?_cons_succ, eq_self, Int.reduceLT, Int.reduceLE, Int.reduceNeg, Int.reduceEq, l0, tk0, l1, tk1, garg0, garg1, b_neb, bne_self_eq_false, beq_self_eq_true]
  refine .inl ⟨by kernel_rfl, ?_⟩; refine szBox_c (i0.mono s.ext) (by omega) (by omega) fun h1 E1 => ?_
  have s := s.mono E1
  by_cases z0 : (1000000 : Int) < (Siz.siz x0 : Int)
  · rw [szR_lt z0]
    simp (disch := omega) only [VW, VY, VZ, VA, VB, VC, VE, TY, ↓reduceIte, Nat.reduceEqDiff, Nat.reduceAdd, Nat.reduceMul, Nat.reduceSub, Nat.reduceLeDiff, List.length_cons, List.length_nil, List.length_append, List.append_assoc, List.take_succ_cons, List.take_zero, List.drop_succ_cons, List.drop_zero, List.set_cons_zero, List.set_cons_succ, true_or, or_true, and_self, Bool.false_eq_true, Nat.le_refl, Option.bind_some, Option.map_some, Option.getD_some, Option.isSome_some, List.map_cons, List.map_nil, List.cons_append, List.nil_append, List.append_nil, List.getElem?_cons_zero, List.getElem?_cons_succ, eq_self, Int.reduceLT, Int.reduceLE, Int.reduceNeg, Int.reduceEq]
  rw [szR_ge z0]
  have c1 : ¬ (1000000 - (Siz.siz x0 : Int)) < 0 := by omega
  have n0 : Siz.siz x0 ≤ 1000000 := by omega
  have garg0 := (s.pull 1 rfl).rdAll (n := 3) l0.symm
  have garg1 := (s.pull 0 rfl).rdAll (n := 5) l1.symm
  try simp (disch := omega) only [VW, VY, VZ, VA, VB, VC, VE, TY, ↓reduceIte, Nat.reduceEqDiff, Nat.reduceAdd, Nat.reduceMul, Nat.reduceSub, Nat.reduceLeDiff, List.length_cons, List.length_nil, List.length_append, List.append_assoc, List.take_succ_cons, List.take_zero, List.drop_succ_cons, List.drop_zero, List.set_cons_zero, List.set_cons_succ, true_or, or_true, and_self, Bool.false_eq_true, Nat.le_refl, Option.bind_some, Option.map_some, Option.getD_some, Option.isSome_some, List.map_cons, List.map_nil, List.cons_append, List.nil_append, List.append_nil, List.getElem?_cons_zero, List.getElem?_cons_succ, eq_self, Int.reduceLT, Int.reduceLE, Int.reduceNeg, Int.reduceEq, l0, tk0, l1, tk1, c1, garg0, garg1, b_neb, bne_self_eq_false, beq_self_eq_true]
  refine .inl ⟨by kernel_rfl, ?_⟩; refine szWork_c (i1.mono s.ext) (by omega) (by omega) fun h2 E2 => ?_
  have s := s.mono E2
  by_cases z1 : (1000000 - (Siz.siz x0 : Int) : Int) < (Siz.siz x1 : Int)
  · rw [szR_lt z1]
    simp (disch := omega) only [VW, VY, VZ, VA, VB, VC, VE, TY, ↓reduceIte, Nat.reduceEqDiff, Nat.reduceAdd, Nat.reduceMul, Nat.reduceSub, Nat.reduceLeDiff, List.length_cons, List.length_nil, List.length_append, List.append_assoc, List.take_succ_cons, List.take_zero, List.drop_succ_cons, List.drop_zero, List.set_cons_zero, List.set_cons_succ, true_or, or_true, and_self, Bool.false_eq_true, Nat.le_refl, Option.bind_some, Option.map_some, Option.getD_some, Option.isSome_some, List.map_cons, List.map_nil, List.cons_append, List.nil_append, List.append_nil, List.getElem?_cons_zero, List.getElem?_cons_succ, eq_self, Int.reduceLT, Int.reduceLE, Int.reduceNeg, Int.reduceEq]
  rw [szR_ge z1]
  have c2 : ¬ (1000000 - (Siz.siz x0 : Int) - (Siz.siz x1 : Int)) < 0 := by omega
  have n1 : Siz.siz x1 ≤ 1000000 := by omega
  have garg0 := (s.pull 1 rfl).rdAll (n := 3) l0.symm
  have garg1 := (s.pull 0 rfl).rdAll (n := 5) l1.symm
  try simp (disch := omega) only [VW, VY, VZ, VA, VB, VC, VE, TY, ↓reduceIte, Nat.reduceEqDiff, Nat.reduceAdd, Nat.reduceMul, Nat.reduceSub, Nat.reduceLeDiff, List.length_cons, List.length_nil, List.length_append, List.append_assoc, List.take_succ_cons, List.take_zero, List.drop_succ_cons, List.drop_zero, List.set_cons_zero, List.set_cons_succ, true_or, or_true, and_self, Bool.false_eq_true, Nat.le_refl, Option.bind_some, Option.map_some, Option.getD_some, Option.isSome_some, List.map_cons, List.map_nil, List.cons_append, List.nil_append, List.append_nil, List.getElem?_cons_zero, List.getElem?_cons_succ, eq_self, Int.reduceLT, Int.reduceLE, Int.reduceNeg, Int.reduceEq, l0, tk0, l1, tk1, c1, c2, garg0, garg1, b_neb, bne_self_eq_false, beq_self_eq_true]
  refine draw_post (fun e' h' => ∃ (b : Nat), e' 6 = .pointer (some ⟨b, 0, none⟩) ∧ e' 7 = .bool (missM x0 x1).isSome ∧ e' 2 = .pointer (some ⟨h.length, 0, none⟩) ∧ e' 3 = .pointer (some ⟨h.length + 1, 0, none⟩) ∧ Sep h h' [blkA b [.int .i64 (missV x0 x1).n, .int .i64 (missV x0 x1).k] 39, blkA (h.length + 1) cs1 24, blkA (h.length) cs0 36]) ?_ ?_
  focus
    refine draw_tail [0, 2] [1, 3, 4, 5, 6, 7, 8, 9, 10] (by kernel_rfl) (by simp only [List.filterMap_cons, List.filterMap_nil, List.getElem?_cons_zero, List.getElem?_cons_succ]; rfl) ?_
    try simp (disch := omega) only [VW, VY, VZ, VA, VB, VC, VE, TY, ↓reduceIte, Nat.reduceEqDiff, Nat.reduceAdd, Nat.reduceMul, Nat.reduceSub, Nat.reduceLeDiff, List.length_cons, List.length_nil, List.length_append, List.append_assoc, List.take_succ_cons, List.take_zero, List.drop_succ_cons, List.drop_zero, List.set_cons_zero, List.set_cons_succ, true_or, or_true, and_self, Bool.false_eq_true, Nat.le_refl, Option.bind_some, Option.map_some, Option.getD_some, Option.isSome_some, List.map_cons, List.map_nil, List.cons_append, List.nil_append, List.append_nil, List.getElem?_cons_zero, List.getElem?_cons_succ, eq_self, Int.reduceLT, Int.reduceLE, Int.reduceNeg, Int.reduceEq, l0, tk0, l1, tk1, c1, c2, garg0, garg1, b_neb, bne_self_eq_false, beq_self_eq_true]
    refine tail_step [(1, [], [3, 4, 5, 6, 7, 8, 9, 10], false), (8, [], [1, 3, 4, 5, 6, 7, 9, 10], false)] (by kernel_rfl) (by kernel_rfl) (a_cons (by simp only [List.filterMap_cons, List.filterMap_nil, List.getElem?_cons_zero, List.getElem?_cons_succ]; rfl) (by kernel_rfl) ?_ (a_cons (by simp only [List.filterMap_cons, List.filterMap_nil, List.getElem?_cons_zero, List.getElem?_cons_succ]; rfl) (by kernel_rfl) ?_ trivial))
    focus
      have garg0 := (s.pull 1 rfl).rdAll (n := 3) l0.symm
      have garg1 := (s.pull 0 rfl).rdAll (n := 5) l1.symm
      try simp (disch := omega) only [VW, VY, VZ, VA, VB, VC, VE, TY, ↓reduceIte, Nat.reduceEqDiff, Nat.reduceAdd, Nat.reduceMul, Nat.reduceSub, Nat.reduceLeDiff, List.length_cons, List.length_nil, List.length_append, List.append_assoc, List.take_succ_cons, List.take_zero, List.drop_succ_cons, List.drop_zero, List.set_cons_zero, List.set_cons_succ, true_or, or_true, and_self, Bool.false_eq_true, Nat.le_refl, Option.bind_some, Option.map_some, Option.getD_some, Option.isSome_some, List.map_cons, List.map_nil, List.cons_append, List.nil_append, List.append_nil, List.getElem?_cons_zero, List.getElem?_cons_succ, eq_self, Int.reduceLT, Int.reduceLE, Int.reduceNeg, Int.reduceEq, l0, tk0, l1, tk1, c1, c2, garg0, garg1]
      refine .inl ⟨by kernel_rfl, ?_⟩; refine toBox_c (b := false) (i0.mono s.ext) n0 fun ds4 h4 s4 => ?_
      have s := s.add s4
      have ld4 : ds4.length = 3 := s4.gpull
      have td4 : ds4.take 3 = ds4 := List.take_of_length_le (Nat.le_of_eq ld4)
      have garg0 := (s.pull 2 rfl).rdAll (n := 3) l0.symm
      have garg1 := (s.pull 1 rfl).rdAll (n := 5) l1.symm
      try simp (disch := omega) only [VW, VY, VZ, VA, VB, VC, VE, TY, ↓reduceIte, Nat.reduceEqDiff, Nat.reduceAdd, Nat.reduceMul, Nat.reduceSub, Nat.reduceLeDiff, List.length_cons, List.length_nil, List.length_append, List.append_assoc, List.take_succ_cons, List.take_zero, List.drop_succ_cons, List.drop_zero, List.set_cons_zero, List.set_cons_succ, true_or, or_true, and_self, Bool.false_eq_true, Nat.le_refl, Option.bind_some, Option.map_some, Option.getD_some, Option.isSome_some, List.map_cons, List.map_nil, List.cons_append, List.nil_append, List.append_nil, List.getElem?_cons_zero, List.getElem?_cons_succ, eq_self, Int.reduceLT, Int.reduceLE, Int.reduceNeg, Int.reduceEq, l0, tk0, l1, tk1, c1, c2, ld4, td4, garg0, garg1]
      refine tail_step [(3, [], [4, 5, 6, 7, 8, 9, 10], true), (8, [], [3, 4, 5, 6, 7, 9, 10], false)] (by kernel_rfl) (by kernel_rfl) (a_cut (by simp only [List.filterMap_cons, List.filterMap_nil, List.getElem?_cons_zero, List.getElem?_cons_succ]; rfl) (by kernel_rfl) ?_ (a_cons (by simp only [List.filterMap_cons, List.filterMap_nil, List.getElem?_cons_zero, List.getElem?_cons_succ]; rfl) (by kernel_rfl) ?_ trivial))
      focus
        have garg0 := (s.pull 2 rfl).rdAll (n := 3) l0.symm
        have garg1 := (s.pull 1 rfl).rdAll (n := 5) l1.symm
        try simp (disch := omega) only [VW, VY, VZ, VA, VB, VC, VE, TY, ↓reduceIte, Nat.reduceEqDiff, Nat.reduceAdd, Nat.reduceMul, Nat.reduceSub, Nat.reduceLeDiff, List.length_cons, List.length_nil, List.length_append, List.append_assoc, List.take_succ_cons, List.take_zero, List.drop_succ_cons, List.drop_zero, List.set_cons_zero, List.set_cons_succ, true_or, or_true, and_self, Bool.false_eq_true, Nat.le_refl, Option.bind_some, Option.map_some, Option.getD_some, Option.isSome_some, List.map_cons, List.map_nil, List.cons_append, List.nil_append, List.append_nil, List.getElem?_cons_zero, List.getElem?_cons_succ, eq_self, Int.reduceLT, Int.reduceLE, Int.reduceNeg, Int.reduceEq, l0, tk0, l1, tk1, c1, c2, ld4, td4, garg0, garg1]
        refine .inl ⟨by kernel_rfl, ?_⟩; refine toWork_c (b := false) (i1.mono s.ext) n1 fun ds5 h5 s5 => ?_
        have s := s.add s5
        have ld5 : ds5.length = 5 := s5.gpull
        have td5 : ds5.take 5 = ds5 := List.take_of_length_le (Nat.le_of_eq ld5)
        have garg0 := (s.pull 3 rfl).rdAll (n := 3) l0.symm
        have garg1 := (s.pull 2 rfl).rdAll (n := 5) l1.symm
        try simp (disch := omega) only [VW, VY, VZ, VA, VB, VC, VE, TY, ↓reduceIte, Nat.reduceEqDiff, Nat.reduceAdd, Nat.reduceMul, Nat.reduceSub, Nat.reduceLeDiff, List.length_cons, List.length_nil, List.length_append, List.append_assoc, List.take_succ_cons, List.take_zero, List.drop_succ_cons, List.drop_zero, List.set_cons_zero, List.set_cons_succ, true_or, or_true, and_self, Bool.false_eq_true, Nat.le_refl, Option.bind_some, Option.map_some, Option.getD_some, Option.isSome_some, List.map_cons, List.map_nil, List.cons_append, List.nil_append, List.append_nil, List.getElem?_cons_zero, List.getElem?_cons_succ, eq_self, Int.reduceLT, Int.reduceLE, Int.reduceNeg, Int.reduceEq, l0, tk0, l1, tk1, c1, c2, ld4, td4, ld5, td5, garg0, garg1]
        refine tail_step [(4, [5, 6, 7], [8, 9, 10], true), (8, [], [4, 5, 6, 7, 9, 10], false)] (by kernel_rfl) (by kernel_rfl) (a_cut (by simp only [List.filterMap_cons, List.filterMap_nil, List.getElem?_cons_zero, List.getElem?_cons_succ]; rfl) (by kernel_rfl) ?_ (a_cons (by simp only [List.filterMap_cons, List.filterMap_nil, List.getElem?_cons_zero, List.getElem?_cons_succ]; rfl) (by kernel_rfl) ?_ trivial))
        focus
          have garg0 := (s.pull 3 rfl).rdAll (n := 3) l0.symm
          have garg1 := (s.pull 2 rfl).rdAll (n := 5) l1.symm
          try simp (disch := omega) only [VW, VY, VZ, VA, VB, VC, VE, TY, ↓reduceIte, Nat.reduceEqDiff, Nat.reduceAdd, Nat.reduceMul, Nat.reduceSub, Nat.reduceLeDiff, List.length_cons, List.length_nil, List.length_append, List.append_assoc, List.take_succ_cons, List.take_zero, List.drop_succ_cons, List.drop_zero, List.set_cons_zero, List.set_cons_succ, true_or, or_true, and_self, Bool.false_eq_true, Nat.le_refl, Option.bind_some, Option.map_some, Option.getD_some, Option.isSome_some, List.map_cons, List.map_nil, List.cons_append, List.nil_append, List.append_nil, List.getElem?_cons_zero, List.getElem?_cons_succ, eq_self, Int.reduceLT, Int.reduceLE, Int.reduceNeg, Int.reduceEq, l0, tk0, l1, tk1, c1, c2, ld4, td4, ld5, td5, garg0, garg1]
          refine .inl ⟨by kernel_rfl, ?_⟩; refine MissingVolume_s' (s.pull 1 rfl).gHere (s.pull 0 rfl).gHere fun h6 E6 => ?_
          have s := s.mono E6
          have garg0 := (s.pull 3 rfl).rdAll (n := 3) l0.symm
          have garg1 := (s.pull 2 rfl).rdAll (n := 5) l1.symm
          try simp (disch := omega) only [VW, VY, VZ, VA, VB, VC, VE, TY, ↓reduceIte, Nat.reduceEqDiff, Nat.reduceAdd, Nat.reduceMul, Nat.reduceSub, Nat.reduceLeDiff, List.length_cons, List.length_nil, List.length_append, List.append_assoc, List.take_succ_cons, List.take_zero, List.drop_succ_cons, List.drop_zero, List.set_cons_zero, List.set_cons_succ, true_or, or_true, and_self, Bool.false_eq_true, Nat.le_refl, Option.bind_some, Option.map_some, Option.getD_some, Option.isSome_some, List.map_cons, List.map_nil, List.cons_append, List.nil_append, List.append_nil, List.getElem?_cons_zero, List.getElem?_cons_succ, eq_self, Int.reduceLT, Int.reduceLE, Int.reduceNeg, Int.reduceEq, l0, tk0, l1, tk1, c1, c2, ld4, td4, ld5, td5, garg0, garg1]
          refine tail_step [(8, [], [9, 10], false)] (by kernel_rfl) (by kernel_rfl) (a_cons (by simp only [List.filterMap_cons, List.filterMap_nil, List.getElem?_cons_zero, List.getElem?_cons_succ]; rfl) (by kernel_rfl) ?_ trivial)
          focus
            have s := s.newBlk [.int .i64 0, .int .i64 0] 39 true
            have garg0 := (s.pull 4 rfl).rdAll (n := 3) l0.symm
            have garg1 := (s.pull 3 rfl).rdAll (n := 5) l1.symm
            try simp (disch := omega) only [VW, VY, VZ, VA, VB, VC, VE, TY, ↓reduceIte, Nat.reduceEqDiff, Nat.reduceAdd, Nat.reduceMul, Nat.reduceSub, Nat.reduceLeDiff, List.length_cons, List.length_nil, List.length_append, List.append_assoc, List.take_succ_cons, List.take_zero, List.drop_succ_cons, List.drop_zero, List.set_cons_zero, List.set_cons_succ, true_or, or_true, and_self, Bool.false_eq_true, Nat.le_refl, Option.bind_some, Option.map_some, Option.getD_some, Option.isSome_some, List.map_cons, List.map_nil, List.cons_append, List.nil_append, List.append_nil, List.getElem?_cons_zero, List.getElem?_cons_succ, eq_self, Int.reduceLT, Int.reduceLE, Int.reduceNeg, Int.reduceEq, l0, tk0, l1, tk1, c1, c2, ld4, td4, ld5, td5, garg0, garg1]
            generalize ((h6 ++ [some ⟨[.int .i64 0, .int .i64 0], 39, false, true⟩] : Heap)) = h7 at s ⊢
            have garg0 := (s.pull 4 rfl).rdAll (n := 3) l0.symm
            have garg1 := (s.pull 3 rfl).rdAll (n := 5) l1.symm
            try simp (disch := omega) only [VW, VY, VZ, VA, VB, VC, VE, TY, ↓reduceIte, Nat.reduceEqDiff, Nat.reduceAdd, Nat.reduceMul, Nat.reduceSub, Nat.reduceLeDiff, List.length_cons, List.length_nil, List.length_append, List.append_assoc, List.take_succ_cons, List.take_zero, List.drop_succ_cons, List.drop_zero, List.set_cons_zero, List.set_cons_succ, true_or, or_true, and_self, Bool.false_eq_true, Nat.le_refl, Option.bind_some, Option.map_some, Option.getD_some, Option.isSome_some, List.map_cons, List.map_nil, List.cons_append, List.nil_append, List.append_nil, List.getElem?_cons_zero, List.getElem?_cons_succ, eq_self, Int.reduceLT, Int.reduceLE, Int.reduceNeg, Int.reduceEq, l0, tk0, l1, tk1, c1, c2, ld4, td4, ld5, td5, garg0, garg1]
            refine tail_step [(9, [10], [], false)] (by kernel_rfl) (by kernel_rfl) (a_cons (by simp only [List.filterMap_cons, List.filterMap_nil, List.getElem?_cons_zero, List.getElem?_cons_succ]; rfl) (by kernel_rfl) ?_ trivial)
            focus
              have garg0 := (s.pull 4 rfl).rdAll (n := 3) l0.symm
              have garg1 := (s.pull 3 rfl).rdAll (n := 5) l1.symm
              try simp (disch := omega) only [VW, VY, VZ, VA, VB, VC, VE, TY, ↓reduceIte, Nat.reduceEqDiff, Nat.reduceAdd, Nat.reduceMul, Nat.reduceSub, Nat.reduceLeDiff, List.length_cons, List.length_nil, List.length_append, List.append_assoc, List.take_succ_cons, List.take_zero, List.drop_succ_cons, List.drop_zero, List.set_cons_zero, List.set_cons_succ, true_or, or_true, and_self, Bool.false_eq_true, Nat.le_refl, Option.bind_some, Option.map_some, Option.getD_some, Option.isSome_some, List.map_cons, List.map_nil, List.cons_append, List.nil_append, List.append_nil, List.getElem?_cons_zero, List.getElem?_cons_succ, eq_self, Int.reduceLT, Int.reduceLE, Int.reduceNeg, Int.reduceEq, l0, tk0, l1, tk1, c1, c2, ld4, td4, ld5, td5, garg0, garg1]
              refine sep_store (s.pull 0 rfl) (by simp) fun h8 s => ?_
              have s := s.as (ds := [.int .i64 (missV x0 x1).n, .int .i64 (missV x0 x1).k]) (by simp [t_put])
              have garg0 := (s.pull 4 rfl).rdAll (n := 3) l0.symm
              have garg1 := (s.pull 3 rfl).rdAll (n := 5) l1.symm
              try simp (disch := omega) only [VW, VY, VZ, VA, VB, VC, VE, TY, ↓reduceIte, Nat.reduceEqDiff, Nat.reduceAdd, Nat.reduceMul, Nat.reduceSub, Nat.reduceLeDiff, List.length_cons, List.length_nil, List.length_append, List.append_assoc, List.take_succ_cons, List.take_zero, List.drop_succ_cons, List.drop_zero, List.set_cons_zero, List.set_cons_succ, true_or, or_true, and_self, Bool.false_eq_true, Nat.le_refl, Option.bind_some, Option.map_some, Option.getD_some, Option.isSome_some, List.map_cons, List.map_nil, List.cons_append, List.nil_append, List.append_nil, List.getElem?_cons_zero, List.getElem?_cons_succ, eq_self, Int.reduceLT, Int.reduceLE, Int.reduceNeg, Int.reduceEq, l0, tk0, l1, tk1, c1, c2, ld4, td4, ld5, td5, garg0, garg1]
              have s := s.pull 4 rfl
              have s := s.pull 4 rfl
              have s := s.pull 2 rfl
              unfold Post
              exact ⟨_, rfl, rfl, rfl, rfl, Sep.keep (L := [_, _, _]) s⟩
        focus
          have s := s.newBlk [.int .i64 0, .int .i64 0] 39 true
          have garg0 := (s.pull 4 rfl).rdAll (n := 3) l0.symm
          have garg1 := (s.pull 3 rfl).rdAll (n := 5) l1.symm
          try simp (disch := omega) only [VW, VY, VZ, VA, VB, VC, VE, TY, ↓reduceIte, Nat.reduceEqDiff, Nat.reduceAdd, Nat.reduceMul, Nat.reduceSub, Nat.reduceLeDiff, List.length_cons, List.length_nil, List.length_append, List.append_assoc, List.take_succ_cons, List.take_zero, List.drop_succ_cons, List.drop_zero, List.set_cons_zero, List.set_cons_succ, true_or, or_true, and_self, Bool.false_eq_true, Nat.le_refl, Option.bind_some, Option.map_some, Option.getD_some, Option.isSome_some, List.map_cons, List.map_nil, List.cons_append, List.nil_append, List.append_nil, List.getElem?_cons_zero, List.getElem?_cons_succ, eq_self, Int.reduceLT, Int.reduceLE, Int.reduceNeg, Int.reduceEq, l0, tk0, l1, tk1, c1, c2, ld4, td4, ld5, td5, garg0, garg1]
          generalize ((h5 ++ [some ⟨[.int .i64 0, .int .i64 0], 39, false, true⟩] : Heap)) = h9 at s ⊢
          have garg0 := (s.pull 4 rfl).rdAll (n := 3) l0.symm
          have garg1 := (s.pull 3 rfl).rdAll (n := 5) l1.symm
          try simp (disch := omega) only [VW, VY, VZ, VA, VB, VC, VE, TY, ↓reduceIte, Nat.reduceEqDiff, Nat.reduceAdd, Nat.reduceMul, Nat.reduceSub, Nat.reduceLeDiff, List.length_cons, List.length_nil, List.length_append, List.append_assoc, List.take_succ_cons, List.take_zero, List.drop_succ_cons, List.drop_zero, List.set_cons_zero, List.set_cons_succ, true_or, or_true, and_self, Bool.false_eq_true, Nat.le_refl, Option.bind_some, Option.map_some, Option.getD_some, Option.isSome_some, List.map_cons, List.map_nil, List.cons_append, List.nil_append, List.append_nil, List.getElem?_cons_zero, List.getElem?_cons_succ, eq_self, Int.reduceLT, Int.reduceLE, Int.reduceNeg, Int.reduceEq, l0, tk0, l1, tk1, c1, c2, ld4, td4, ld5, td5, garg0, garg1]
          refine tail_step [(4, [5, 6, 7], [9, 10], false)] (by kernel_rfl) (by kernel_rfl) (a_cons (by simp only [List.filterMap_cons, List.filterMap_nil, List.getElem?_cons_zero, List.getElem?_cons_succ]; rfl) (by kernel_rfl) ?_ trivial)
          focus
            have garg0 := (s.pull 4 rfl).rdAll (n := 3) l0.symm
            have garg1 := (s.pull 3 rfl).rdAll (n := 5) l1.symm
            try simp (disch := omega) only [VW, VY, VZ, VA, VB, VC, VE, TY, ↓reduceIte, Nat.reduceEqDiff, Nat.reduceAdd, Nat.reduceMul, Nat.reduceSub, Nat.reduceLeDiff, List.length_cons, List.length_nil, List.length_append, List.append_assoc, List.take_succ_cons, List.take_zero, List.drop_succ_cons, List.drop_zero, List.set_cons_zero, List.set_cons_succ, true_or, or_true, and_self, Bool.false_eq_true, Nat.le_refl, Option.bind_some, Option.map_some, Option.getD_some, Option.isSome_some, List.map_cons, List.map_nil, List.cons_append, List.nil_append, List.append_nil, List.getElem?_cons_zero, List.getElem?_cons_succ, eq_self, Int.reduceLT, Int.reduceLE, Int.reduceNeg, Int.reduceEq, l0, tk0, l1, tk1, c1, c2, ld4, td4, ld5, td5, garg0, garg1]
            refine .inl ⟨by kernel_rfl, ?_⟩; refine MissingVolume_s' (s.pull 2 rfl).gHere (s.pull 1 rfl).gHere fun h10 E10 => ?_
            have s := s.mono E10
            have garg0 := (s.pull 4 rfl).rdAll (n := 3) l0.symm
            have garg1 := (s.pull 3 rfl).rdAll (n := 5) l1.symm
            try simp (disch := omega) only [VW, VY, VZ, VA, VB, VC, VE, TY, ↓reduceIte, Nat.reduceEqDiff, Nat.reduceAdd, Nat.reduceMul, Nat.reduceSub, Nat.reduceLeDiff, List.length_cons, List.length_nil, List.length_append, List.append_assoc, List.take_succ_cons, List.take_zero, List.drop_succ_cons, List.drop_zero, List.set_cons_zero, List.set_cons_succ, true_or, or_true, and_self, Bool.false_eq_true, Nat.le_refl, Option.bind_some, Option.map_some, Option.getD_some, Option.isSome_some, List.map_cons, List.map_nil, List.cons_append, List.nil_append, List.append_nil, List.getElem?_cons_zero, List.getElem?_cons_succ, eq_self, Int.reduceLT, Int.reduceLE, Int.reduceNeg, Int.reduceEq, l0, tk0, l1, tk1, c1, c2, ld4, td4, ld5, td5, garg0, garg1]
            refine tail_step [(9, [10], [], false)] (by kernel_rfl) (by kernel_rfl) (a_cons (by simp only [List.filterMap_cons, List.filterMap_nil, List.getElem?_cons_zero, List.getElem?_cons_succ]; rfl) (by kernel_rfl) ?_ trivial)
            focus
              have garg0 := (s.pull 4 rfl).rdAll (n := 3) l0.symm
              have garg1 := (s.pull 3 rfl).rdAll (n := 5) l1.symm
              try simp (disch := omega) only [VW, VY, VZ, VA, VB, VC, VE, TY, ↓reduceIte, Nat.reduceEqDiff, Nat.reduceAdd, Nat.reduceMul, Nat.reduceSub, Nat.reduceLeDiff, List.length_cons, List.length_nil, List.length_append, List.append_assoc, List.take_succ_cons, List.take_zero, List.drop_succ_cons, List.drop_zero, List.set_cons_zero, List.set_cons_succ, true_or, or_true, and_self, Bool.false_eq_true, Nat.le_refl, Option.bind_some, Option.map_some, Option.getD_some, Option.isSome_some, List.map_cons, List.map_nil, List.cons_append, List.nil_append, List.append_nil, List.getElem?_cons_zero, List.getElem?_cons_succ, eq_self, Int.reduceLT, Int.reduceLE, Int.reduceNeg, Int.reduceEq, l0, tk0, l1, tk1, c1, c2, ld4, td4, ld5, td5, garg0, garg1]
              refine sep_store (s.pull 0 rfl) (by simp) fun h11 s => ?_
              have s := s.as (ds := [.int .i64 (missV x0 x1).n, .int .i64 (missV x0 x1).k]) (by simp [t_put])
              have garg0 := (s.pull 4 rfl).rdAll (n := 3) l0.symm
              have garg1 := (s.pull 3 rfl).rdAll (n := 5) l1.symm
              try simp (disch := omega) only [VW, VY, VZ, VA, VB, VC, VE, TY, ↓reduceIte, Nat.reduceEqDiff, Nat.reduceAdd, Nat.reduceMul, Nat.reduceSub, Nat.reduceLeDiff, List.length_cons, List.length_nil, List.length_append, List.append_assoc, List.take_succ_cons, List.take_zero, List.drop_succ_cons, List.drop_zero, List.set_cons_zero, List.set_cons_succ, true_or, or_true, and_self, Bool.false_eq_true, Nat.le_refl, Option.bind_some, Option.map_some, Option.getD_some, Option.isSome_some, List.map_cons, List.map_nil, List.cons_append, List.nil_append, List.append_nil, List.getElem?_cons_zero, List.getElem?_cons_succ, eq_self, Int.reduceLT, Int.reduceLE, Int.reduceNeg, Int.reduceEq, l0, tk0, l1, tk1, c1, c2, ld4, td4, ld5, td5, garg0, garg1]
              have s := s.pull 4 rfl
              have s := s.pull 4 rfl
              have s := s.pull 2 rfl
              unfold Post
              exact ⟨_, rfl, rfl, rfl, rfl, Sep.keep (L := [_, _, _]) s⟩
      focus
        have s := s.newBlk [.int .i64 0, .int .i64 0] 39 true
        have garg0 := (s.pull 3 rfl).rdAll (n := 3) l0.symm
        have garg1 := (s.pull 2 rfl).rdAll (n := 5) l1.symm
        try simp (disch := omega) only [VW, VY, VZ, VA, VB, VC, VE, TY, ↓reduceIte, Nat.reduceEqDiff, Nat.reduceAdd, Nat.reduceMul, Nat.reduceSub, Nat.reduceLeDiff, List.length_cons, List.length_nil, List.length_append, List.append_assoc, List.take_succ_cons, List.take_zero, List.drop_succ_cons, List.drop_zero, List.set_cons_zero, List.set_cons_succ, true_or, or_true, and_self, Bool.false_eq_true, Nat.le_refl, Option.bind_some, Option.map_some, Option.getD_some, Option.isSome_some, List.map_cons, List.map_nil, List.cons_append, List.nil_append, List.append_nil, List.getElem?_cons_zero, List.getElem?_cons_succ, eq_self, Int.reduceLT, Int.reduceLE, Int.reduceNeg, Int.reduceEq, l0, tk0, l1, tk1, c1, c2, ld4, td4, garg0, garg1]
        generalize ((h4 ++ [some ⟨[.int .i64 0, .int .i64 0], 39, false, true⟩] : Heap)) = h12 at s ⊢
        have garg0 := (s.pull 3 rfl).rdAll (n := 3) l0.symm
        have garg1 := (s.pull 2 rfl).rdAll (n := 5) l1.symm
        try simp (disch := omega) only [VW, VY, VZ, VA, VB, VC, VE, TY, ↓reduceIte, Nat.reduceEqDiff, Nat.reduceAdd, Nat.reduceMul, Nat.reduceSub, Nat.reduceLeDiff, List.length_cons, List.length_nil, List.length_append, List.append_assoc, List.take_succ_cons, List.take_zero, List.drop_succ_cons, List.drop_zero, List.set_cons_zero, List.set_cons_succ, true_or, or_true, and_self, Bool.false_eq_true, Nat.le_refl, Option.bind_some, Option.map_some, Option.getD_some, Option.isSome_some, List.map_cons, List.map_nil, List.cons_append, List.nil_append, List.append_nil, List.getElem?_cons_zero, List.getElem?_cons_succ, eq_self, Int.reduceLT, Int.reduceLE, Int.reduceNeg, Int.reduceEq, l0, tk0, l1, tk1, c1, c2, ld4, td4, garg0, garg1]
        refine tail_step [(3, [], [4, 5, 6, 7, 9, 10], false)] (by kernel_rfl) (by kernel_rfl) (a_cons (by simp only [List.filterMap_cons, List.filterMap_nil, List.getElem?_cons_zero, List.getElem?_cons_succ]; rfl) (by kernel_rfl) ?_ trivial)
        focus
          have garg0 := (s.pull 3 rfl).rdAll (n := 3) l0.symm
          have garg1 := (s.pull 2 rfl).rdAll (n := 5) l1.symm
          try simp (disch := omega) only [VW, VY, VZ, VA, VB, VC, VE, TY, ↓reduceIte, Nat.reduceEqDiff, Nat.reduceAdd, Nat.reduceMul, Nat.reduceSub, Nat.reduceLeDiff, List.length_cons, List.length_nil, List.length_append, List.append_assoc, List.take_succ_cons, List.take_zero, List.drop_succ_cons, List.drop_zero, List.set_cons_zero, List.set_cons_succ, true_or, or_true, and_self, Bool.false_eq_true, Nat.le_refl, Option.bind_some, Option.map_some, Option.getD_some, Option.isSome_some, List.map_cons, List.map_nil, List.cons_append, List.nil_append, List.append_nil, List.getElem?_cons_zero, List.getElem?_cons_succ, eq_self, Int.reduceLT, Int.reduceLE, Int.reduceNeg, Int.reduceEq, l0, tk0, l1, tk1, c1, c2, ld4, td4, garg0, garg1]
          refine .inl ⟨by kernel_rfl, ?_⟩; refine toWork_c (b := false) (i1.mono s.ext) n1 fun ds13 h13 s13 => ?_
          have s := s.add s13
          have ld13 : ds13.length = 5 := s13.gpull
          have td13 : ds13.take 5 = ds13 := List.take_of_length_le (Nat.le_of_eq ld13)
          have garg0 := (s.pull 4 rfl).rdAll (n := 3) l0.symm
          have garg1 := (s.pull 3 rfl).rdAll (n := 5) l1.symm
          try simp (disch := omega) only [VW, VY, VZ, VA, VB, VC, VE, TY, ↓reduceIte, Nat.reduceEqDiff, Nat.reduceAdd, Nat.reduceMul, Nat.reduceSub, Nat.reduceLeDiff, List.length_cons, List.length_nil, List.length_append, List.append_assoc, List.take_succ_cons, List.take_zero, List.drop_succ_cons, List.drop_zero, List.set_cons_zero, List.set_cons_succ, true_or, or_true, and_self, Bool.false_eq_true, Nat.le_refl, Option.bind_some, Option.map_some, Option.getD_some, Option.isSome_some, List.map_cons, List.map_nil, List.cons_append, List.nil_append, List.append_nil, List.getElem?_cons_zero, List.getElem?_cons_succ, eq_self, Int.reduceLT, Int.reduceLE, Int.reduceNeg, Int.reduceEq, l0, tk0, l1, tk1, c1, c2, ld4, td4, ld13, td13, garg0, garg1]
          refine tail_step [(4, [5, 6, 7], [9, 10], false)] (by kernel_rfl) (by kernel_rfl) (a_cons (by simp only [List.filterMap_cons, List.filterMap_nil, List.getElem?_cons_zero, List.getElem?_cons_succ]; rfl) (by kernel_rfl) ?_ trivial)
          focus
            have garg0 := (s.pull 4 rfl).rdAll (n := 3) l0.symm
            have garg1 := (s.pull 3 rfl).rdAll (n := 5) l1.symm
            try simp (disch := omega) only [VW, VY, VZ, VA, VB, VC, VE, TY, ↓reduceIte, Nat.reduceEqDiff, Nat.reduceAdd, Nat.reduceMul, Nat.reduceSub, Nat.reduceLeDiff, List.length_cons, List.length_nil, List.length_append, List.append_assoc, List.take_succ_cons, List.take_zero, List.drop_succ_cons, List.drop_zero, List.set_cons_zero, List.set_cons_succ, true_or, or_true, and_self, Bool.false_eq_true, Nat.le_refl, Option.bind_some, Option.map_some, Option.getD_some, Option.isSome_some, List.map_cons, List.map_nil, List.cons_append, List.nil_append, List.append_nil, List.getElem?_cons_zero, List.getElem?_cons_succ, eq_self, Int.reduceLT, Int.reduceLE, Int.reduceNeg, Int.reduceEq, l0, tk0, l1, tk1, c1, c2, ld4, td4, ld13, td13, garg0, garg1]
            refine .inl ⟨by kernel_rfl, ?_⟩; refine MissingVolume_s' (s.pull 2 rfl).gHere (s.pull 0 rfl).gHere fun h14 E14 => ?_
            have s := s.mono E14
            have garg0 := (s.pull 4 rfl).rdAll (n := 3) l0.symm
            have garg1 := (s.pull 3 rfl).rdAll (n := 5) l1.symm
            try simp (disch := omega) only [VW, VY, VZ, VA, VB, VC, VE, TY, ↓reduceIte, Nat.reduceEqDiff, Nat.reduceAdd, Nat.reduceMul, Nat.reduceSub, Nat.reduceLeDiff, List.length_cons, List.length_nil, List.length_append, List.append_assoc, List.take_succ_cons, List.take_zero, List.drop_succ_cons, List.drop_zero, List.set_cons_zero, List.set_cons_succ, true_or, or_true, and_self, Bool.false_eq_true, Nat.le_refl, Option.bind_some, Option.map_some, Option.getD_some, Option.isSome_some, List.map_cons, List.map_nil, List.cons_append, List.nil_append, List.append_nil, List.getElem?_cons_zero, List.getElem?_cons_succ, eq_self, Int.reduceLT, Int.reduceLE, Int.reduceNeg, Int.reduceEq, l0, tk0, l1, tk1, c1, c2, ld4, td4, ld13, td13, garg0, garg1]
            refine tail_step [(9, [10], [], false)] (by kernel_rfl) (by kernel_rfl) (a_cons (by simp only [List.filterMap_cons, List.filterMap_nil, List.getElem?_cons_zero, List.getElem?_cons_succ]; rfl) (by kernel_rfl) ?_ trivial)
            focus
              have garg0 := (s.pull 4 rfl).rdAll (n := 3) l0.symm
              have garg1 := (s.pull 3 rfl).rdAll (n := 5) l1.symm
              try simp (disch := omega) only [VW, VY, VZ, VA, VB, VC, VE, TY, ↓reduceIte, Nat.reduceEqDiff, Nat.reduceAdd, Nat.reduceMul, Nat.reduceSub, Nat.reduceLeDiff, List.length_cons, List.length_nil, List.length_append, List.append_assoc, List.take_succ_cons, List.take_zero, List.drop_succ_cons, List.drop_zero, List.set_cons_zero, List.set_cons_succ, true_or, or_true, and_self, Bool.false_eq_true, Nat.le_refl, Option.bind_some, Option.map_some, Option.getD_some, Option.isSome_some, List.map_cons, List.map_nil, List.cons_append, List.nil_append, List.append_nil, List.getElem?_cons_zero, List.getElem?_cons_succ, eq_self, Int.reduceLT, Int.reduceLE, Int.reduceNeg, Int.reduceEq, l0, tk0, l1, tk1, c1, c2, ld4, td4, ld13, td13, garg0, garg1]
              refine sep_store (s.pull 1 rfl) (by simp) fun h15 s => ?_
              have s := s.as (ds := [.int .i64 (missV x0 x1).n, .int .i64 (missV x0 x1).k]) (by simp [t_put])
              have garg0 := (s.pull 4 rfl).rdAll (n := 3) l0.symm
              have garg1 := (s.pull 3 rfl).rdAll (n := 5) l1.symm
              try simp (disch := omega) only [VW, VY, VZ, VA, VB, VC, VE, TY, ↓reduceIte, Nat.reduceEqDiff, Nat.reduceAdd, Nat.reduceMul, Nat.reduceSub, Nat.reduceLeDiff, List.length_cons, List.length_nil, List.length_append, List.append_assoc, List.take_succ_cons, List.take_zero, List.drop_succ_cons, List.drop_zero, List.set_cons_zero, List.set_cons_succ, true_or, or_true, and_self, Bool.false_eq_true, Nat.le_refl, Option.bind_some, Option.map_some, Option.getD_some, Option.isSome_some, List.map_cons, List.map_nil, List.cons_append, List.nil_append, List.append_nil, List.getElem?_cons_zero, List.getElem?_cons_succ, eq_self, Int.reduceLT, Int.reduceLE, Int.reduceNeg, Int.reduceEq, l0, tk0, l1, tk1, c1, c2, ld4, td4, ld13, td13, garg0, garg1]
              have s := s.pull 4 rfl
              have s := s.pull 4 rfl
              have s := s.pull 2 rfl
              unfold Post
              exact ⟨_, rfl, rfl, rfl, rfl, Sep.keep (L := [_, _, _]) s⟩
    focus
      have s := s.newBlk [.int .i64 0, .int .i64 0] 39 true
      have garg0 := (s.pull 2 rfl).rdAll (n := 3) l0.symm
      have garg1 := (s.pull 1 rfl).rdAll (n := 5) l1.symm
      try simp (disch := omega) only [VW, VY, VZ, VA, VB, VC, VE, TY, ↓reduceIte, Nat.reduceEqDiff, Nat.reduceAdd, Nat.reduceMul, Nat.reduceSub, Nat.reduceLeDiff, List.length_cons, List.length_nil, List.length_append, List.append_assoc, List.take_succ_cons, List.take_zero, List.drop_succ_cons, List.drop_zero, List.set_cons_zero, List.set_cons_succ, true_or, or_true, and_self, Bool.false_eq_true, Nat.le_refl, Option.bind_some, Option.map_some, Option.getD_some, Option.isSome_some, List.map_cons, List.map_nil, List.cons_append, List.nil_append, List.append_nil, List.getElem?_cons_zero, List.getElem?_cons_succ, eq_self, Int.reduceLT, Int.reduceLE, Int.reduceNeg, Int.reduceEq, l0, tk0, l1, tk1, c1, c2, garg0, garg1]
      generalize ((h2 ++ [some ⟨[.int .i64 0, .int .i64 0], 39, false, true⟩] : Heap)) = h16 at s ⊢
      have garg0 := (s.pull 2 rfl).rdAll (n := 3) l0.symm
      have garg1 := (s.pull 1 rfl).rdAll (n := 5) l1.symm
      try simp (disch := omega) only [VW, VY, VZ, VA, VB, VC, VE, TY, ↓reduceIte, Nat.reduceEqDiff, Nat.reduceAdd, Nat.reduceMul, Nat.reduceSub, Nat.reduceLeDiff, List.length_cons, List.length_nil, List.length_append, List.append_assoc, List.take_succ_cons, List.take_zero, List.drop_succ_cons, List.drop_zero, List.set_cons_zero, List.set_cons_succ, true_or, or_true, and_self, Bool.false_eq_true, Nat.le_refl, Option.bind_some, Option.map_some, Option.getD_some, Option.isSome_some, List.map_cons, List.map_nil, List.cons_append, List.nil_append, List.append_nil, List.getElem?_cons_zero, List.getElem?_cons_succ, eq_self, Int.reduceLT, Int.reduceLE, Int.reduceNeg, Int.reduceEq, l0, tk0, l1, tk1, c1, c2, garg0, garg1]
      refine tail_step [(1, [], [3, 4, 5, 6, 7, 9, 10], false)] (by kernel_rfl) (by kernel_rfl) (a_cons (by simp only [List.filterMap_cons, List.filterMap_nil, List.getElem?_cons_zero, List.getElem?_cons_succ]; rfl) (by kernel_rfl) ?_ trivial)
      focus
        have garg0 := (s.pull 2 rfl).rdAll (n := 3) l0.symm
        have garg1 := (s.pull 1 rfl).rdAll (n := 5) l1.symm
        try simp (disch := omega) only [VW, VY, VZ, VA, VB, VC, VE, TY, ↓reduceIte, Nat.reduceEqDiff, Nat.reduceAdd, Nat.reduceMul, Nat.reduceSub, Nat.reduceLeDiff, List.length_cons, List.length_nil, List.length_append, List.append_assoc, List.take_succ_cons, List.take_zero, List.drop_succ_cons, List.drop_zero, List.set_cons_zero, List.set_cons_succ, true_or, or_true, and_self, Bool.false_eq_true, Nat.le_refl, Option.bind_some, Option.map_some, Option.getD_some, Option.isSome_some, List.map_cons, List.map_nil, List.cons_append, List.nil_append, List.append_nil, List.getElem?_cons_zero, List.getElem?_cons_succ, eq_self, Int.reduceLT, Int.reduceLE, Int.reduceNeg, Int.reduceEq, l0, tk0, l1, tk1, c1, c2, garg0, garg1]
        refine .inl ⟨by kernel_rfl, ?_⟩; refine toBox_c (b := false) (i0.mono s.ext) n0 fun ds17 h17 s17 => ?_
        have s := s.add s17
        have ld17 : ds17.length = 3 := s17.gpull
        have td17 : ds17.take 3 = ds17 := List.take_of_length_le (Nat.le_of_eq ld17)
        have garg0 := (s.pull 3 rfl).rdAll (n := 3) l0.symm
        have garg1 := (s.pull 2 rfl).rdAll (n := 5) l1.symm
        try simp (disch := omega) only [VW, VY, VZ, VA, VB, VC, VE, TY, ↓reduceIte, Nat.reduceEqDiff, Nat.reduceAdd, Nat.reduceMul, Nat.reduceSub, Nat.reduceLeDiff, List.length_cons, List.length_nil, List.length_append, List.append_assoc, List.take_succ_cons, List.take_zero, List.drop_succ_cons, List.drop_zero, List.set_cons_zero, List.set_cons_succ, true_or, or_true, and_self, Bool.false_eq_true, Nat.le_refl, Option.bind_some, Option.map_some, Option.getD_some, Option.isSome_some, List.map_cons, List.map_nil, List.cons_append, List.nil_append, List.append_nil, List.getElem?_cons_zero, List.getElem?_cons_succ, eq_self, Int.reduceLT, Int.reduceLE, Int.reduceNeg, Int.reduceEq, l0, tk0, l1, tk1, c1, c2, ld17, td17, garg0, garg1]
        refine tail_step [(3, [], [4, 5, 6, 7, 9, 10], false)] (by kernel_rfl) (by kernel_rfl) (a_cons (by simp only [List.filterMap_cons, List.filterMap_nil, List.getElem?_cons_zero, List.getElem?_cons_succ]; rfl) (by kernel_rfl) ?_ trivial)
        focus
          have garg0 := (s.pull 3 rfl).rdAll (n := 3) l0.symm
          have garg1 := (s.pull 2 rfl).rdAll (n := 5) l1.symm
          try simp (disch := omega) only [VW, VY, VZ, VA, VB, VC, VE, TY, ↓reduceIte, Nat.reduceEqDiff, Nat.reduceAdd, Nat.reduceMul, Nat.reduceSub, Nat.reduceLeDiff, List.length_cons, List.length_nil, List.length_append, List.append_assoc, List.take_succ_cons, List.take_zero, List.drop_succ_cons, List.drop_zero, List.set_cons_zero, List.set_cons_succ, true_or, or_true, and_self, Bool.false_eq_true, Nat.le_refl, Option.bind_some, Option.map_some, Option.getD_some, Option.isSome_some, List.map_cons, List.map_nil, List.cons_append, List.nil_append, List.append_nil, List.getElem?_cons_zero, List.getElem?_cons_succ, eq_self, Int.reduceLT, Int.reduceLE, Int.reduceNeg, Int.reduceEq, l0, tk0, l1, tk1, c1, c2, ld17, td17, garg0, garg1]
          refine .inl ⟨by kernel_rfl, ?_⟩; refine toWork_c (b := false) (i1.mono s.ext) n1 fun ds18 h18 s18 => ?_
          have s := s.add s18
          have ld18 : ds18.length = 5 := s18.gpull
          have td18 : ds18.take 5 = ds18 := List.take_of_length_le (Nat.le_of_eq ld18)
          have garg0 := (s.pull 4 rfl).rdAll (n := 3) l0.symm
          have garg1 := (s.pull 3 rfl).rdAll (n := 5) l1.symm
          try simp (disch := omega) only [VW, VY, VZ, VA, VB, VC, VE, TY, ↓reduceIte, Nat.reduceEqDiff, Nat.reduceAdd, Nat.reduceMul, Nat.reduceSub, Nat.reduceLeDiff, List.length_cons, List.length_nil, List.length_append, List.append_assoc, List.take_succ_cons, List.take_zero, List.drop_succ_cons, List.drop_zero, List.set_cons_zero, List.set_cons_succ, true_or, or_true, and_self, Bool.false_eq_true, Nat.le_refl, Option.bind_some, Option.map_some, Option.getD_some, Option.isSome_some, List.map_cons, List.map_nil, List.cons_append, List.nil_append, List.append_nil, List.getElem?_cons_zero, List.getElem?_cons_succ, eq_self, Int.reduceLT, Int.reduceLE, Int.reduceNeg, Int.reduceEq, l0, tk0, l1, tk1, c1, c2, ld17, td17, ld18, td18, garg0, garg1]
          refine tail_step [(4, [5, 6, 7], [9, 10], false)] (by kernel_rfl) (by kernel_rfl) (a_cons (by simp only [List.filterMap_cons, List.filterMap_nil, List.getElem?_cons_zero, List.getElem?_cons_succ]; rfl) (by kernel_rfl) ?_ trivial)
          focus
            have garg0 := (s.pull 4 rfl).rdAll (n := 3) l0.symm
            have garg1 := (s.pull 3 rfl).rdAll (n := 5) l1.symm
            try simp (disch := omega) only [VW, VY, VZ, VA, VB, VC, VE, TY, ↓reduceIte, Nat.reduceEqDiff, Nat.reduceAdd, Nat.reduceMul, Nat.reduceSub, Nat.reduceLeDiff, List.length_cons, List.length_nil, List.length_append, List.append_assoc, List.take_succ_cons, List.take_zero, List.drop_succ_cons, List.drop_zero, List.set_cons_zero, List.set_cons_succ, true_or, or_true, and_self, Bool.false_eq_true, Nat.le_refl, Option.bind_some, Option.map_some, Option.getD_some, Option.isSome_some, List.map_cons, List.map_nil, List.cons_append, List.nil_append, List.append_nil, List.getElem?_cons_zero, List.getElem?_cons_succ, eq_self, Int.reduceLT, Int.reduceLE, Int.reduceNeg, Int.reduceEq, l0, tk0, l1, tk1, c1, c2, ld17, td17, ld18, td18, garg0, garg1]
            refine .inl ⟨by kernel_rfl, ?_⟩; refine MissingVolume_s' (s.pull 1 rfl).gHere (s.pull 0 rfl).gHere fun h19 E19 => ?_
            have s := s.mono E19
            have garg0 := (s.pull 4 rfl).rdAll (n := 3) l0.symm
            have garg1 := (s.pull 3 rfl).rdAll (n := 5) l1.symm
            try simp (disch := omega) only [VW, VY, VZ, VA, VB, VC, VE, TY, ↓reduceIte, Nat.reduceEqDiff, Nat.reduceAdd, Nat.reduceMul, Nat.reduceSub, Nat.reduceLeDiff, List.length_cons, List.length_nil, List.length_append, List.append_assoc, List.take_succ_cons, List.take_zero, List.drop_succ_cons, List.drop_zero, List.set_cons_zero, List.set_cons_succ, true_or, or_true, and_self, Bool.false_eq_true, Nat.le_refl, Option.bind_some, Option.map_some, Option.getD_some, Option.isSome_some, List.map_cons, List.map_nil, List.cons_append, List.nil_append, List.append_nil, List.getElem?_cons_zero, List.getElem?_cons_succ, eq_self, Int.reduceLT, Int.reduceLE, Int.reduceNeg, Int.reduceEq, l0, tk0, l1, tk1, c1, c2, ld17, td17, ld18, td18, garg0, garg1]
            refine tail_step [(9, [10], [], false)] (by kernel_rfl) (by kernel_rfl) (a_cons (by simp only [List.filterMap_cons, List.filterMap_nil, List.getElem?_cons_zero, List.getElem?_cons_succ]; rfl) (by kernel_rfl) ?_ trivial)
            focus
              have garg0 := (s.pull 4 rfl).rdAll (n := 3) l0.symm
              have garg1 := (s.pull 3 rfl).rdAll (n := 5) l1.symm
              try simp (disch := omega) only [VW, VY, VZ, VA, VB, VC, VE, TY, ↓reduceIte, Nat.reduceEqDiff, Nat.reduceAdd, Nat.reduceMul, Nat.reduceSub, Nat.reduceLeDiff, List.length_cons, List.length_nil, List.length_append, List.append_assoc, List.take_succ_cons, List.take_zero, List.drop_succ_cons, List.drop_zero, List.set_cons_zero, List.set_cons_succ, true_or, or_true, and_self, Bool.false_eq_true, Nat.le_refl, Option.bind_some, Option.map_some, Option.getD_some, Option.isSome_some, List.map_cons, List.map_nil, List.cons_append, List.nil_append, List.append_nil, List.getElem?_cons_zero, List.getElem?_cons_succ, eq_self, Int.reduceLT, Int.reduceLE, Int.reduceNeg, Int.reduceEq, l0, tk0, l1, tk1, c1, c2, ld17, td17, ld18, td18, garg0, garg1]
              refine sep_store (s.pull 2 rfl) (by simp) fun h20 s => ?_
              have s := s.as (ds := [.int .i64 (missV x0 x1).n, .int .i64 (missV x0 x1).k]) (by simp [t_put])
              have garg0 := (s.pull 4 rfl).rdAll (n := 3) l0.symm
              have garg1 := (s.pull 3 rfl).rdAll (n := 5) l1.symm
              try simp (disch := omega) only [VW, VY, VZ, VA, VB, VC, VE, TY, ↓reduceIte, Nat.reduceEqDiff, Nat.reduceAdd, Nat.reduceMul, Nat.reduceSub, Nat.reduceLeDiff, List.length_cons, List.length_nil, List.length_append, List.append_assoc, List.take_succ_cons, List.take_zero, List.drop_succ_cons, List.drop_zero, List.set_cons_zero, List.set_cons_succ, true_or, or_true, and_self, Bool.false_eq_true, Nat.le_refl, Option.bind_some, Option.map_some, Option.getD_some, Option.isSome_some, List.map_cons, List.map_nil, List.cons_append, List.nil_append, List.append_nil, List.getElem?_cons_zero, List.getElem?_cons_succ, eq_self, Int.reduceLT, Int.reduceLE, Int.reduceNeg, Int.reduceEq, l0, tk0, l1, tk1, c1, c2, ld17, td17, ld18, td18, garg0, garg1]
              have s := s.pull 4 rfl
              have s := s.pull 4 rfl
              have s := s.pull 2 rfl
              unfold Post
              exact ⟨_, rfl, rfl, rfl, rfl, Sep.keep (L := [_, _, _]) s⟩
  rintro e3 h3 ⟨b3, e6_3, e7_3, e2_3, e3_3, s⟩
  have ld3 : ([.int .i64 (missV x0 x1).n, .int .i64 (missV x0 x1).k] : List Value).length = 2 := rfl
  have garg0 := (s.pull 2 rfl).rdAll (n := 3) l0.symm
  have garg1 := (s.pull 1 rfl).rdAll (n := 5) l1.symm
  have gvar3 := (s.pull 0 rfl).rdAll (n := 2) ld3.symm
  try simp (disch := omega) only [VW, VY, VZ, VA, VB, VC, VE, TY, ↓reduceIte, Nat.reduceEqDiff, Nat.reduceAdd, Nat.reduceMul, Nat.reduceSub, Nat.reduceLeDiff, List.length_cons, List.length_nil, List.length_append, List.append_assoc, List.take_succ_cons, List.take_zero, List.drop_succ_cons, List.drop_zero, List.set_cons_zero, List.set_cons_succ, true_or, or_true, and_self, Bool.false_eq_true, Nat.le_refl, Option.bind_some, Option.map_some, Option.getD_some, Option.isSome_some, List.map_cons, List.map_nil, List.cons_append, List.nil_append, List.append_nil, List.getElem?_cons_zero, List.getElem?_cons_succ, eq_self, Int.reduceLT, Int.reduceLE, Int.reduceNeg, Int.reduceEq, l0, tk0, l1, tk1, c1, c2, e6_3, e7_3, e2_3, e3_3, garg0, garg1, gvar3, b_neb, bne_self_eq_false, beq_self_eq_true]
  refine .inl ⟨by kernel_rfl, ?_⟩; refine toBox_c (b := false) (i0.mono s.ext) n0 fun ds21 h21 s21 => ?_
  have s := s.add s21
  have ld21 : ds21.length = 3 := s21.gpull
  have td21 : ds21.take 3 = ds21 := List.take_of_length_le (Nat.le_of_eq ld21)
  have garg0 := (s.pull 3 rfl).rdAll (n := 3) l0.symm
  have garg1 := (s.pull 2 rfl).rdAll (n := 5) l1.symm
  have gvar3 := (s.pull 1 rfl).rdAll (n := 2) ld3.symm
  try simp (disch := omega) only [VW, VY, VZ, VA, VB, VC, VE, TY, ↓reduceIte, Nat.reduceEqDiff, Nat.reduceAdd, Nat.reduceMul, Nat.reduceSub, Nat.reduceLeDiff, List.length_cons, List.length_nil, List.length_append, List.append_assoc, List.take_succ_cons, List.take_zero, List.drop_succ_cons, List.drop_zero, List.set_cons_zero, List.set_cons_succ, true_or, or_true, and_self, Bool.false_eq_true, Nat.le_refl, Option.bind_some, Option.map_some, Option.getD_some, Option.isSome_some, List.map_cons, List.map_nil, List.cons_append, List.nil_append, List.append_nil, List.getElem?_cons_zero, List.getElem?_cons_succ, eq_self, Int.reduceLT, Int.reduceLE, Int.reduceNeg, Int.reduceEq, l0, tk0, l1, tk1, c1, c2, e6_3, e7_3, e2_3, e3_3, ld21, td21, garg0, garg1, gvar3]
  have s := s.newBlk ds21 42 true
  have garg0 := (s.pull 4 rfl).rdAll (n := 3) l0.symm
  have garg1 := (s.pull 3 rfl).rdAll (n := 5) l1.symm
  have gvar3 := (s.pull 2 rfl).rdAll (n := 2) ld3.symm
  have gx21 := (s.pull 0 rfl).rdAll (n := 3) ld21.symm
  try simp (disch := omega) only [VW, VY, VZ, VA, VB, VC, VE, TY, ↓reduceIte, Nat.reduceEqDiff, Nat.reduceAdd, Nat.reduceMul, Nat.reduceSub, Nat.reduceLeDiff, List.length_cons, List.length_nil, List.length_append, List.append_assoc, List.take_succ_cons, List.take_zero, List.drop_succ_cons, List.drop_zero, List.set_cons_zero, List.set_cons_succ, true_or, or_true, and_self, Bool.false_eq_true, Nat.le_refl, Option.bind_some, Option.map_some, Option.getD_some, Option.isSome_some, List.map_cons, List.map_nil, List.cons_append, List.nil_append, List.append_nil, List.getElem?_cons_zero, List.getElem?_cons_succ, eq_self, Int.reduceLT, Int.reduceLE, Int.reduceNeg, Int.reduceEq, l0, tk0, l1, tk1, c1, c2, e6_3, e7_3, e2_3, e3_3, ld21, td21, garg0, garg1, gvar3, gx21, b_neb, bne_self_eq_false, beq_self_eq_true]
  refine .inl ⟨by kernel_rfl, ?_⟩; refine toWork_c (b := false) (i1.mono s.ext) n1 fun ds22 h22 s22 => ?_
  have s := s.add s22
  have ld22 : ds22.length = 5 := s22.gpull
  have td22 : ds22.take 5 = ds22 := List.take_of_length_le (Nat.le_of_eq ld22)
  have garg0 := (s.pull 5 rfl).rdAll (n := 3) l0.symm
  have garg1 := (s.pull 4 rfl).rdAll (n := 5) l1.symm
  have gvar3 := (s.pull 3 rfl).rdAll (n := 2) ld3.symm
  have gx21 := (s.pull 1 rfl).rdAll (n := 3) ld21.symm
  try simp (disch := omega) only [VW, VY, VZ, VA, VB, VC, VE, TY, ↓reduceIte, Nat.reduceEqDiff, Nat.reduceAdd, Nat.reduceMul, Nat.reduceSub, Nat.reduceLeDiff, List.length_cons, List.length_nil, List.length_append, List.append_assoc, List.take_succ_cons, List.take_zero, List.drop_succ_cons, List.drop_zero, List.set_cons_zero, List.set_cons_succ, true_or, or_true, and_self, Bool.false_eq_true, Nat.le_refl, Option.bind_some, Option.map_some, Option.getD_some, Option.isSome_some, List.map_cons, List.map_nil, List.cons_append, List.nil_append, List.append_nil, List.getElem?_cons_zero, List.getElem?_cons_succ, eq_self, Int.reduceLT, Int.reduceLE, Int.reduceNeg, Int.reduceEq, l0, tk0, l1, tk1, c1, c2, e6_3, e7_3, e2_3, e3_3, ld21, td21, ld22, td22, garg0, garg1, gvar3, gx21]
  have s := s.newBlk ds22 30 true
  have garg0 := (s.pull 6 rfl).rdAll (n := 3) l0.symm
  have garg1 := (s.pull 5 rfl).rdAll (n := 5) l1.symm
  have gvar3 := (s.pull 4 rfl).rdAll (n := 2) ld3.symm
  have gx21 := (s.pull 2 rfl).rdAll (n := 3) ld21.symm
  have gx22 := (s.pull 0 rfl).rdAll (n := 5) ld22.symm
  try simp (disch := omega) only [VW, VY, VZ, VA, VB, VC, VE, TY, ↓reduceIte, Nat.reduceEqDiff, Nat.reduceAdd, Nat.reduceMul, Nat.reduceSub, Nat.reduceLeDiff, List.length_cons, List.length_nil, List.length_append, List.append_assoc, List.take_succ_cons, List.take_zero, List.drop_succ_cons, List.drop_zero, List.set_cons_zero, List.set_cons_succ, true_or, or_true, and_self, Bool.false_eq_true, Nat.le_refl, Option.bind_some, Option.map_some, Option.getD_some, Option.isSome_some, List.map_cons, List.map_nil, List.cons_append, List.nil_append, List.append_nil, List.getElem?_cons_zero, List.getElem?_cons_succ, eq_self, Int.reduceLT, Int.reduceLE, Int.reduceNeg, Int.reduceEq, l0, tk0, l1, tk1, c1, c2, e6_3, e7_3, e2_3, e3_3, ld21, td21, ld22, td22, garg0, garg1, gvar3, gx21, gx22, b_neb, bne_self_eq_false, beq_self_eq_true]
  refine .inl ⟨by kernel_rfl, ?_⟩; refine MissingVolume_i' (s.pull 3 rfl).gHere (s.pull 1 rfl).gHere fun h23 E23 => ?_
  have s := s.mono E23
  have garg0 := (s.pull 6 rfl).rdAll (n := 3) l0.symm
  have garg1 := (s.pull 5 rfl).rdAll (n := 5) l1.symm
  have gvar3 := (s.pull 4 rfl).rdAll (n := 2) ld3.symm
  have gx21 := (s.pull 2 rfl).rdAll (n := 3) ld21.symm
  have gx22 := (s.pull 0 rfl).rdAll (n := 5) ld22.symm
  have sz23 := s.newBlk [.int .i64 0, .int .i64 0] 39 true
  have gzarg0 := (sz23.pull 7 rfl).rdAll (n := 3) l0.symm
  have gzarg1 := (sz23.pull 6 rfl).rdAll (n := 5) l1.symm
  have gzvar3 := (sz23.pull 5 rfl).rdAll (n := 2) ld3.symm
  have gzx21 := (sz23.pull 3 rfl).rdAll (n := 3) ld21.symm
  have gzx22 := (sz23.pull 1 rfl).rdAll (n := 5) ld22.symm
  have sn23 := s.newBlk [.int .i64 (missV x0 x1).n, .int .i64 (missV x0 x1).k] 39 true
  have gnarg0 := (sn23.pull 7 rfl).rdAll (n := 3) l0.symm
  have gnarg1 := (sn23.pull 6 rfl).rdAll (n := 5) l1.symm
  have gnvar3 := (sn23.pull 5 rfl).rdAll (n := 2) ld3.symm
  have gnx21 := (sn23.pull 3 rfl).rdAll (n := 3) ld21.symm
  have gnx22 := (sn23.pull 1 rfl).rdAll (n := 5) ld22.symm
  try simp (disch := omega) only [VW, VY, VZ, VA, VB, VC, VE, TY, ↓reduceIte, Nat.reduceEqDiff, Nat.reduceAdd, Nat.reduceMul, Nat.reduceSub, Nat.reduceLeDiff, List.length_cons, List.length_nil, List.length_append, List.append_assoc, List.take_succ_cons, List.take_zero, List.drop_succ_cons, List.drop_zero, List.set_cons_zero, List.set_cons_succ, true_or, or_true, and_self, Bool.false_eq_true, Nat.le_refl, Option.bind_some, Option.map_some, Option.getD_some, Option.isSome_some, List.map_cons, List.map_nil, List.cons_append, List.nil_append, List.append_nil, List.getElem?_cons_zero, List.getElem?_cons_succ, eq_self, Int.reduceLT, Int.reduceLE, Int.reduceNeg, Int.reduceEq, l0, tk0, l1, tk1, c1, c2, e6_3, e7_3, e2_3, e3_3, ld21, td21, ld22, td22, garg0, garg1, gvar3, gx21, gx22, gzarg0, gzarg1, gzvar3, gzx21, gzx22, gnarg0, gnarg1, gnvar3, gnx21, gnx22]
  have s := sn23
  have ld23 : ([.int .i64 (missV x0 x1).n, .int .i64 (missV x0 x1).k] : List Value).length = 2 := rfl
  have garg0 := (s.pull 7 rfl).rdAll (n := 3) l0.symm
  have garg1 := (s.pull 6 rfl).rdAll (n := 5) l1.symm
  have gvar3 := (s.pull 5 rfl).rdAll (n := 2) ld3.symm
  have gx21 := (s.pull 3 rfl).rdAll (n := 3) ld21.symm
  have gx22 := (s.pull 1 rfl).rdAll (n := 5) ld22.symm
  have gvar23 := (s.pull 0 rfl).rdAll (n := 2) ld23.symm
  try simp (disch := omega) only [VW, VY, VZ, VA, VB, VC, VE, TY, ↓reduceIte, Nat.reduceEqDiff, Nat.reduceAdd, Nat.reduceMul, Nat.reduceSub, Nat.reduceLeDiff, List.length_cons, List.length_nil, List.length_append, List.append_assoc, List.take_succ_cons, List.take_zero, List.drop_succ_cons, List.drop_zero, List.set_cons_zero, List.set_cons_succ, true_or, or_true, and_self, Bool.false_eq_true, Nat.le_refl, Option.bind_some, Option.map_some, Option.getD_some, Option.isSome_some, List.map_cons, List.map_nil, List.cons_append, List.nil_append, List.append_nil, List.getElem?_cons_zero, List.getElem?_cons_succ, eq_self, Int.reduceLT, Int.reduceLE, Int.reduceNeg, Int.reduceEq, l0, tk0, l1, tk1, c1, c2, e6_3, e7_3, e2_3, e3_3, ld21, td21, ld22, td22, garg0, garg1, gvar3, gx21, gx22, gvar23, b_neb, bne_self_eq_false, beq_self_eq_true]
  refine .inl ⟨by kernel_rfl, ?_⟩; refine eqDyadic_c (mk_Dy (missV_sz x0 x1).1 (missV_sz x0 x1).2) (mk_Dy (missV_sz x0 x1).1 (missV_sz x0 x1).2) fun h24 E24 => ?_
  have s := s.mono E24
  have garg0 := (s.pull 7 rfl).rdAll (n := 3) l0.symm
  have garg1 := (s.pull 6 rfl).rdAll (n := 5) l1.symm
  have gvar3 := (s.pull 5 rfl).rdAll (n := 2) ld3.symm
  have gx21 := (s.pull 3 rfl).rdAll (n := 3) ld21.symm
  have gx22 := (s.pull 1 rfl).rdAll (n := 5) ld22.symm
  have gvar23 := (s.pull 0 rfl).rdAll (n := 2) ld23.symm
  try simp (disch := omega) only [VW, VY, VZ, VA, VB, VC, VE, TY, ↓reduceIte, Nat.reduceEqDiff, Nat.reduceAdd, Nat.reduceMul, Nat.reduceSub, Nat.reduceLeDiff, List.length_cons, List.length_nil, List.length_append, List.append_assoc, List.take_succ_cons, List.take_zero, List.drop_succ_cons, List.drop_zero, List.set_cons_zero, List.set_cons_succ, true_or, or_true, and_self, Bool.false_eq_true, Nat.le_refl, Option.bind_some, Option.map_some, Option.getD_some, Option.isSome_some, List.map_cons, List.map_nil, List.cons_append, List.nil_append, List.append_nil, List.getElem?_cons_zero, List.getElem?_cons_succ, eq_self, Int.reduceLT, Int.reduceLE, Int.reduceNeg, Int.reduceEq, l0, tk0, l1, tk1, c1, c2, e6_3, e7_3, e2_3, e3_3, ld21, td21, ld22, td22, garg0, garg1, gvar3, gx21, gx22, gvar23, b_neb, bne_self_eq_false, beq_self_eq_true]
  refine draw_ord [0, 1, 2, 3, 4] (by kernel_rfl) (by simp only [List.filterMap_cons, List.filterMap_nil, List.getElem?_cons_zero, List.getElem?_cons_succ]; rfl) ?_
  try simp (disch := omega) only [VW, VY, VZ, VA, VB, VC, VE, TY, ↓reduceIte, Nat.reduceEqDiff, Nat.reduceAdd, Nat.reduceMul, Nat.reduceSub, Nat.reduceLeDiff, List.length_cons, List.length_nil, List.length_append, List.append_assoc, List.take_succ_cons, List.take_zero, List.drop_succ_cons, List.drop_zero, List.set_cons_zero, List.set_cons_succ, true_or, or_true, and_self, Bool.false_eq_true, Nat.le_refl, Option.bind_some, Option.map_some, Option.getD_some, Option.isSome_some, List.map_cons, List.map_nil, List.cons_append, List.nil_append, List.append_nil, List.getElem?_cons_zero, List.getElem?_cons_succ, eq_self, Int.reduceLT, Int.reduceLE, Int.reduceNeg, Int.reduceEq, l0, tk0, l1, tk1, c1, c2, e6_3, e7_3, e2_3, e3_3, ld21, td21, ld22, td22, garg0, garg1, gvar3, gx21, gx22, gvar23, b_neb, bne_self_eq_false, beq_self_eq_true]
  refine .inl ⟨by kernel_rfl, ?_⟩; refine toBox_c (b := false) (i0.mono s.ext) n0 fun ds25 h25 s25 => ?_
  have s := s.add s25
  have ld25 : ds25.length = 3 := s25.gpull
  have td25 : ds25.take 3 = ds25 := List.take_of_length_le (Nat.le_of_eq ld25)
  have garg0 := (s.pull 8 rfl).rdAll (n := 3) l0.symm
  have garg1 := (s.pull 7 rfl).rdAll (n := 5) l1.symm
  have gvar3 := (s.pull 6 rfl).rdAll (n := 2) ld3.symm
  have gx21 := (s.pull 4 rfl).rdAll (n := 3) ld21.symm
  have gx22 := (s.pull 2 rfl).rdAll (n := 5) ld22.symm
  have gvar23 := (s.pull 1 rfl).rdAll (n := 2) ld23.symm
  try simp (disch := omega) only [VW, VY, VZ, VA, VB, VC, VE, TY, ↓reduceIte, Nat.reduceEqDiff, Nat.reduceAdd, Nat.reduceMul, Nat.reduceSub, Nat.reduceLeDiff, List.length_cons, List.length_nil, List.length_append, List.append_assoc, List.take_succ_cons, List.take_zero, List.drop_succ_cons, List.drop_zero, List.set_cons_zero, List.set_cons_succ, true_or, or_true, and_self, Bool.false_eq_true, Nat.le_refl, Option.bind_some, Option.map_some, Option.getD_some, Option.isSome_some, List.map_cons, List.map_nil, List.cons_append, List.nil_append, List.append_nil, List.getElem?_cons_zero, List.getElem?_cons_succ, eq_self, Int.reduceLT, Int.reduceLE, Int.reduceNeg, Int.reduceEq, l0, tk0, l1, tk1, c1, c2, e6_3, e7_3, e2_3, e3_3, ld21, td21, ld22, td22, ld25, td25, garg0, garg1, gvar3, gx21, gx22, gvar23, b_neb, bne_self_eq_false, beq_self_eq_true]
  refine .inl ⟨by kernel_rfl, ?_⟩; refine intactBox_c (s.pull 5 rfl).gGiv (s.pull 0 rfl).gGiv n0 fun h26 E26 => ?_
  have s := s.mono E26
  have garg0 := (s.pull 8 rfl).rdAll (n := 3) l0.symm
  have garg1 := (s.pull 7 rfl).rdAll (n := 5) l1.symm
  have gvar3 := (s.pull 6 rfl).rdAll (n := 2) ld3.symm
  have gx21 := (s.pull 4 rfl).rdAll (n := 3) ld21.symm
  have gx22 := (s.pull 2 rfl).rdAll (n := 5) ld22.symm
  have gvar23 := (s.pull 1 rfl).rdAll (n := 2) ld23.symm
  try simp (disch := omega) only [VW, VY, VZ, VA, VB, VC, VE, TY, ↓reduceIte, Nat.reduceEqDiff, Nat.reduceAdd, Nat.reduceMul, Nat.reduceSub, Nat.reduceLeDiff, List.length_cons, List.length_nil, List.length_append, List.append_assoc, List.take_succ_cons, List.take_zero, List.drop_succ_cons, List.drop_zero, List.set_cons_zero, List.set_cons_succ, true_or, or_true, and_self, Bool.false_eq_true, Nat.le_refl, Option.bind_some, Option.map_some, Option.getD_some, Option.isSome_some, List.map_cons, List.map_nil, List.cons_append, List.nil_append, List.append_nil, List.getElem?_cons_zero, List.getElem?_cons_succ, eq_self, Int.reduceLT, Int.reduceLE, Int.reduceNeg, Int.reduceEq, l0, tk0, l1, tk1, c1, c2, e6_3, e7_3, e2_3, e3_3, ld21, td21, ld22, td22, ld25, td25, garg0, garg1, gvar3, gx21, gx22, gvar23, b_neb, bne_self_eq_false, beq_self_eq_true]
  refine draw_ord [0, 1, 2, 3, 4] (by kernel_rfl) (by simp only [List.filterMap_cons, List.filterMap_nil, List.getElem?_cons_zero, List.getElem?_cons_succ]; rfl) ?_
  try simp (disch := omega) only [VW, VY, VZ, VA, VB, VC, VE, TY, ↓reduceIte, Nat.reduceEqDiff, Nat.reduceAdd, Nat.reduceMul, Nat.reduceSub, Nat.reduceLeDiff, List.length_cons, List.length_nil, List.length_append, List.append_assoc, List.take_succ_cons, List.take_zero, List.drop_succ_cons, List.drop_zero, List.set_cons_zero, List.set_cons_succ, true_or, or_true, and_self, Bool.false_eq_true, Nat.le_refl, Option.bind_some, Option.map_some, Option.getD_some, Option.isSome_some, List.map_cons, List.map_nil, List.cons_append, List.nil_append, List.append_nil, List.getElem?_cons_zero, List.getElem?_cons_succ, eq_self, Int.reduceLT, Int.reduceLE, Int.reduceNeg, Int.reduceEq, l0, tk0, l1, tk1, c1, c2, e6_3, e7_3, e2_3, e3_3, ld21, td21, ld22, td22, ld25, td25, garg0, garg1, gvar3, gx21, gx22, gvar23, b_neb, bne_self_eq_false, beq_self_eq_true]
  refine .inl ⟨by kernel_rfl, ?_⟩; refine toWork_c (b := false) (i1.mono s.ext) n1 fun ds27 h27 s27 => ?_
  have s := s.add s27
  have ld27 : ds27.length = 5 := s27.gpull
  have td27 : ds27.take 5 = ds27 := List.take_of_length_le (Nat.le_of_eq ld27)
  have garg0 := (s.pull 9 rfl).rdAll (n := 3) l0.symm
  have garg1 := (s.pull 8 rfl).rdAll (n := 5) l1.symm
  have gvar3 := (s.pull 7 rfl).rdAll (n := 2) ld3.symm
  have gx21 := (s.pull 5 rfl).rdAll (n := 3) ld21.symm
  have gx22 := (s.pull 3 rfl).rdAll (n := 5) ld22.symm
  have gvar23 := (s.pull 2 rfl).rdAll (n := 2) ld23.symm
  try simp (disch := omega) only [VW, VY, VZ, VA, VB, VC, VE, TY, ↓reduceIte, Nat.reduceEqDiff, Nat.reduceAdd, Nat.reduceMul, Nat.reduceSub, Nat.reduceLeDiff, List.length_cons, List.length_nil, List.length_append, List.append_assoc, List.take_succ_cons, List.take_zero, List.drop_succ_cons, List.drop_zero, List.set_cons_zero, List.set_cons_succ, true_or, or_true, and_self, Bool.false_eq_true, Nat.le_refl, Option.bind_some, Option.map_some, Option.getD_some, Option.isSome_some, List.map_cons, List.map_nil, List.cons_append, List.nil_append, List.append_nil, List.getElem?_cons_zero, List.getElem?_cons_succ, eq_self, Int.reduceLT, Int.reduceLE, Int.reduceNeg, Int.reduceEq, l0, tk0, l1, tk1, c1, c2, e6_3, e7_3, e2_3, e3_3, ld21, td21, ld22, td22, ld25, td25, ld27, td27, garg0, garg1, gvar3, gx21, gx22, gvar23, b_neb, bne_self_eq_false, beq_self_eq_true]
  refine .inl ⟨by kernel_rfl, ?_⟩; refine intactWork_c (s.pull 4 rfl).gGiv (s.pull 0 rfl).gGiv n1 fun h28 E28 => ?_
  have s := s.mono E28
  have garg0 := (s.pull 9 rfl).rdAll (n := 3) l0.symm
  have garg1 := (s.pull 8 rfl).rdAll (n := 5) l1.symm
  have gvar3 := (s.pull 7 rfl).rdAll (n := 2) ld3.symm
  have gx21 := (s.pull 5 rfl).rdAll (n := 3) ld21.symm
  have gx22 := (s.pull 3 rfl).rdAll (n := 5) ld22.symm
  have gvar23 := (s.pull 2 rfl).rdAll (n := 2) ld23.symm
  try simp (disch := omega) only [VW, VY, VZ, VA, VB, VC, VE, TY, ↓reduceIte, Nat.reduceEqDiff, Nat.reduceAdd, Nat.reduceMul, Nat.reduceSub, Nat.reduceLeDiff, List.length_cons, List.length_nil, List.length_append, List.append_assoc, List.take_succ_cons, List.take_zero, List.drop_succ_cons, List.drop_zero, List.set_cons_zero, List.set_cons_succ, true_or, or_true, and_self, Bool.false_eq_true, Nat.le_refl, Option.bind_some, Option.map_some, Option.getD_some, Option.isSome_some, List.map_cons, List.map_nil, List.cons_append, List.nil_append, List.append_nil, List.getElem?_cons_zero, List.getElem?_cons_succ, eq_self, Int.reduceLT, Int.reduceLE, Int.reduceNeg, Int.reduceEq, l0, tk0, l1, tk1, c1, c2, e6_3, e7_3, e2_3, e3_3, ld21, td21, ld22, td22, ld25, td25, ld27, td27, garg0, garg1, gvar3, gx21, gx22, gvar23, b_neb, bne_self_eq_false, beq_self_eq_true]
  refine draw_post (fun e' h' => ∃ (b : Nat), e' 12 = .pointer (some ⟨b, 0, none⟩) ∧ e' 13 = .bool (missM x0 x1).isSome ∧ e' 2 = .pointer (some ⟨h.length, 0, none⟩) ∧ e' 3 = .pointer (some ⟨h.length + 1, 0, none⟩) ∧ e' 6 = .pointer (some ⟨b3, 0, none⟩) ∧ e' 7 = .bool (missM x0 x1).isSome ∧ Sep h h' [blkA b [.int .i64 (missV x0 x1).n, .int .i64 (missV x0 x1).k] 39, blkA b3 [.int .i64 (missV x0 x1).n, .int .i64 (missV x0 x1).k] 39, blkA (h.length + 1) cs1 24, blkA (h.length) cs0 36]) ?_ ?_
  focus
    refine draw_tail [0, 2] [1, 3, 4, 5, 6, 7, 8, 9, 10] (by kernel_rfl) (by simp only [List.filterMap_cons, List.filterMap_nil, List.getElem?_cons_zero, List.getElem?_cons_succ]; rfl) ?_
    try simp (disch := omega) only [VW, VY, VZ, VA, VB, VC, VE, TY, ↓reduceIte, Nat.reduceEqDiff, Nat.reduceAdd, Nat.reduceMul, Nat.reduceSub, Nat.reduceLeDiff, List.length_cons, List.length_nil, List.length_append, List.append_assoc, List.take_succ_cons, List.take_zero, List.drop_succ_cons, List.drop_zero, List.set_cons_zero, List.set_cons_succ, true_or, or_true, and_self, Bool.false_eq_true, Nat.le_refl, Option.bind_some, Option.map_some, Option.getD_some, Option.isSome_some, List.map_cons, List.map_nil, List.cons_append, List.nil_append, List.append_nil, List.getElem?_cons_zero, List.getElem?_cons_succ, eq_self, Int.reduceLT, Int.reduceLE, Int.reduceNeg, Int.reduceEq, l0, tk0, l1, tk1, c1, c2, e6_3, e7_3, e2_3, e3_3, ld21, td21, ld22, td22, ld25, td25, ld27, td27, garg0, garg1, gvar3, gx21, gx22, gvar23, b_neb, bne_self_eq_false, beq_self_eq_true]
    refine tail_step [(1, [], [3, 4, 5, 6, 7, 8, 9, 10], false), (8, [], [1, 3, 4, 5, 6, 7, 9, 10], false)] (by kernel_rfl) (by kernel_rfl) (a_cons (by simp only [List.filterMap_cons, List.filterMap_nil, List.getElem?_cons_zero, List.getElem?_cons_succ]; rfl) (by kernel_rfl) ?_ (a_cons (by simp only [List.filterMap_cons, List.filterMap_nil, List.getElem?_cons_zero, List.getElem?_cons_succ]; rfl) (by kernel_rfl) ?_ trivial))
    focus
      have garg0 := (s.pull 9 rfl).rdAll (n := 3) l0.symm
      have garg1 := (s.pull 8 rfl).rdAll (n := 5) l1.symm
      have gvar3 := (s.pull 7 rfl).rdAll (n := 2) ld3.symm
      have gx21 := (s.pull 5 rfl).rdAll (n := 3) ld21.symm
      have gx22 := (s.pull 3 rfl).rdAll (n := 5) ld22.symm
      have gvar23 := (s.pull 2 rfl).rdAll (n := 2) ld23.symm
      try simp (disch := omega) only [VW, VY, VZ, VA, VB, VC, VE, TY, ↓reduceIte, Nat.reduceEqDiff, Nat.reduceAdd, Nat.reduceMul, Nat.reduceSub, Nat.reduceLeDiff, List.length_cons, List.length_nil, List.length_append, List.append_assoc, List.take_succ_cons, List.take_zero, List.drop_succ_cons, List.drop_zero, List.set_cons_zero, List.set_cons_succ, true_or, or_true, and_self, Bool.false_eq_true, Nat.le_refl, Option.bind_some, Option.map_some, Option.getD_some, Option.isSome_some, List.map_cons, List.map_nil, List.cons_append, List.nil_append, List.append_nil, List.getElem?_cons_zero, List.getElem?_cons_succ, eq_self, Int.reduceLT, Int.reduceLE, Int.reduceNeg, Int.reduceEq, l0, tk0, l1, tk1, c1, c2, e6_3, e7_3, e2_3, e3_3, ld21, td21, ld22, td22, ld25, td25, ld27, td27, garg0, garg1, gvar3, gx21, gx22, gvar23]
      refine .inl ⟨by kernel_rfl, ?_⟩; refine toBox_c (b := true) (i0.mono s.ext) n0 fun ds30 h30 s30 => ?_
      have s := s.add s30
      have ld30 : ds30.length = 3 := s30.gpull
      have td30 : ds30.take 3 = ds30 := List.take_of_length_le (Nat.le_of_eq ld30)
      have garg0 := (s.pull 10 rfl).rdAll (n := 3) l0.symm
      have garg1 := (s.pull 9 rfl).rdAll (n := 5) l1.symm
      have gvar3 := (s.pull 8 rfl).rdAll (n := 2) ld3.symm
      have gx21 := (s.pull 6 rfl).rdAll (n := 3) ld21.symm
      have gx22 := (s.pull 4 rfl).rdAll (n := 5) ld22.symm
      have gvar23 := (s.pull 3 rfl).rdAll (n := 2) ld23.symm
      try simp (disch := omega) only [VW, VY, VZ, VA, VB, VC, VE, TY, ↓reduceIte, Nat.reduceEqDiff, Nat.reduceAdd, Nat.reduceMul, Nat.reduceSub, Nat.reduceLeDiff, List.length_cons, List.length_nil, List.length_append, List.append_assoc, List.take_succ_cons, List.take_zero, List.drop_succ_cons, List.drop_zero, List.set_cons_zero, List.set_cons_succ, true_or, or_true, and_self, Bool.false_eq_true, Nat.le_refl, Option.bind_some, Option.map_some, Option.getD_some, Option.isSome_some, List.map_cons, List.map_nil, List.cons_append, List.nil_append, List.append_nil, List.getElem?_cons_zero, List.getElem?_cons_succ, eq_self, Int.reduceLT, Int.reduceLE, Int.reduceNeg, Int.reduceEq, l0, tk0, l1, tk1, c1, c2, e6_3, e7_3, e2_3, e3_3, ld21, td21, ld22, td22, ld25, td25, ld27, td27, ld30, td30, garg0, garg1, gvar3, gx21, gx22, gvar23]
      refine tail_step [(3, [], [4, 5, 6, 7, 8, 9, 10], true), (8, [], [3, 4, 5, 6, 7, 9, 10], false)] (by kernel_rfl) (by kernel_rfl) (a_cut (by simp only [List.filterMap_cons, List.filterMap_nil, List.getElem?_cons_zero, List.getElem?_cons_succ]; rfl) (by kernel_rfl) ?_ (a_cons (by simp only [List.filterMap_cons, List.filterMap_nil, List.getElem?_cons_zero, List.getElem?_cons_succ]; rfl) (by kernel_rfl) ?_ trivial))
      focus
        have garg0 := (s.pull 10 rfl).rdAll (n := 3) l0.symm
        have garg1 := (s.pull 9 rfl).rdAll (n := 5) l1.symm
        have gvar3 := (s.pull 8 rfl).rdAll (n := 2) ld3.symm
        have gx21 := (s.pull 6 rfl).rdAll (n := 3) ld21.symm
        have gx22 := (s.pull 4 rfl).rdAll (n := 5) ld22.symm
        have gvar23 := (s.pull 3 rfl).rdAll (n := 2) ld23.symm
        try simp (disch := omega) only [VW, VY, VZ, VA, VB, VC, VE, TY, ↓reduceIte, Nat.reduceEqDiff, Nat.reduceAdd, Nat.reduceMul, Nat.reduceSub, Nat.reduceLeDiff, List.length_cons, List.length_nil, List.length_append, List.append_assoc, List.take_succ_cons, List.take_zero, List.drop_succ_cons, List.drop_zero, List.set_cons_zero, List.set_cons_succ, true_or, or_true, and_self, Bool.false_eq_true, Nat.le_refl, Option.bind_some, Option.map_some, Option.getD_some, Option.isSome_some, List.map_cons, List.map_nil, List.cons_append, List.nil_append, List.append_nil, List.getElem?_cons_zero, List.getElem?_cons_succ, eq_self, Int.reduceLT, Int.reduceLE, Int.reduceNeg, Int.reduceEq, l0, tk0, l1, tk1, c1, c2, e6_3, e7_3, e2_3, e3_3, ld21, td21, ld22, td22, ld25, td25, ld27, td27, ld30, td30, garg0, garg1, gvar3, gx21, gx22, gvar23]
        refine .inl ⟨by kernel_rfl, ?_⟩; refine toWork_c (b := true) (i1.mono s.ext) n1 fun ds31 h31 s31 => ?_
        have s := s.add s31
        have ld31 : ds31.length = 5 := s31.gpull
        have td31 : ds31.take 5 = ds31 := List.take_of_length_le (Nat.le_of_eq ld31)
        have garg0 := (s.pull 11 rfl).rdAll (n := 3) l0.symm
        have garg1 := (s.pull 10 rfl).rdAll (n := 5) l1.symm
        have gvar3 := (s.pull 9 rfl).rdAll (n := 2) ld3.symm
        have gx21 := (s.pull 7 rfl).rdAll (n := 3) ld21.symm
        have gx22 := (s.pull 5 rfl).rdAll (n := 5) ld22.symm
        have gvar23 := (s.pull 4 rfl).rdAll (n := 2) ld23.symm
        try simp (disch := omega) only [VW, VY, VZ, VA, VB, VC, VE, TY, ↓reduceIte, Nat.reduceEqDiff, Nat.reduceAdd, Nat.reduceMul, Nat.reduceSub, Nat.reduceLeDiff, List.length_cons, List.length_nil, List.length_append, List.append_assoc, List.take_succ_cons, List.take_zero, List.drop_succ_cons, List.drop_zero, List.set_cons_zero, List.set_cons_succ, true_or, or_true, and_self, Bool.false_eq_true, Nat.le_refl, Option.bind_some, Option.map_some, Option.getD_some, Option.isSome_some, List.map_cons, List.map_nil, List.cons_append, List.nil_append, List.append_nil, List.getElem?_cons_zero, List.getElem?_cons_succ, eq_self, Int.reduceLT, Int.reduceLE, Int.reduceNeg, Int.reduceEq, l0, tk0, l1, tk1, c1, c2, e6_3, e7_3, e2_3, e3_3, ld21, td21, ld22, td22, ld25, td25, ld27, td27, ld30, td30, ld31, td31, garg0, garg1, gvar3, gx21, gx22, gvar23]
        refine tail_step [(4, [5, 6, 7], [8, 9, 10], true), (8, [], [4, 5, 6, 7, 9, 10], false)] (by kernel_rfl) (by kernel_rfl) (a_cut (by simp only [List.filterMap_cons, List.filterMap_nil, List.getElem?_cons_zero, List.getElem?_cons_succ]; rfl) (by kernel_rfl) ?_ (a_cons (by simp only [List.filterMap_cons, List.filterMap_nil, List.getElem?_cons_zero, List.getElem?_cons_succ]; rfl) (by kernel_rfl) ?_ trivial))
        focus
          have garg0 := (s.pull 11 rfl).rdAll (n := 3) l0.symm
          have garg1 := (s.pull 10 rfl).rdAll (n := 5) l1.symm
          have gvar3 := (s.pull 9 rfl).rdAll (n := 2) ld3.symm
          have gx21 := (s.pull 7 rfl).rdAll (n := 3) ld21.symm
          have gx22 := (s.pull 5 rfl).rdAll (n := 5) ld22.symm
          have gvar23 := (s.pull 4 rfl).rdAll (n := 2) ld23.symm
          try simp (disch := omega) only [VW, VY, VZ, VA, VB, VC, VE, TY, ↓reduceIte, Nat.reduceEqDiff, Nat.reduceAdd, Nat.reduceMul, Nat.reduceSub, Nat.reduceLeDiff, List.length_cons, List.length_nil, List.length_append, List.append_assoc, List.take_succ_cons, List.take_zero, List.drop_succ_cons, List.drop_zero, List.set_cons_zero, List.set_cons_succ, true_or, or_true, and_self, Bool.false_eq_true, Nat.le_refl, Option.bind_some, Option.map_some, Option.getD_some, Option.isSome_some, List.map_cons, List.map_nil, List.cons_append, List.nil_append, List.append_nil, List.getElem?_cons_zero, List.getElem?_cons_succ, eq_self, Int.reduceLT, Int.reduceLE, Int.reduceNeg, Int.reduceEq, l0, tk0, l1, tk1, c1, c2, e6_3, e7_3, e2_3, e3_3, ld21, td21, ld22, td22, ld25, td25, ld27, td27, ld30, td30, ld31, td31, garg0, garg1, gvar3, gx21, gx22, gvar23]
          refine .inl ⟨by kernel_rfl, ?_⟩; refine MissingVolume_i' (s.pull 1 rfl).gHere (s.pull 0 rfl).gHere fun h32 E32 => ?_
          have s := s.mono E32
          have garg0 := (s.pull 11 rfl).rdAll (n := 3) l0.symm
          have garg1 := (s.pull 10 rfl).rdAll (n := 5) l1.symm
          have gvar3 := (s.pull 9 rfl).rdAll (n := 2) ld3.symm
          have gx21 := (s.pull 7 rfl).rdAll (n := 3) ld21.symm
          have gx22 := (s.pull 5 rfl).rdAll (n := 5) ld22.symm
          have gvar23 := (s.pull 4 rfl).rdAll (n := 2) ld23.symm
          try simp (disch := omega) only [VW, VY, VZ, VA, VB, VC, VE, TY, ↓reduceIte, Nat.reduceEqDiff, Nat.reduceAdd, Nat.reduceMul, Nat.reduceSub, Nat.reduceLeDiff, List.length_cons, List.length_nil, List.length_append, List.append_assoc, List.take_succ_cons, List.take_zero, List.drop_succ_cons, List.drop_zero, List.set_cons_zero, List.set_cons_succ, true_or, or_true, and_self, Bool.false_eq_true, Nat.le_refl, Option.bind_some, Option.map_some, Option.getD_some, Option.isSome_some, List.map_cons, List.map_nil, List.cons_append, List.nil_append, List.append_nil, List.getElem?_cons_zero, List.getElem?_cons_succ, eq_self, Int.reduceLT, Int.reduceLE, Int.reduceNeg, Int.reduceEq, l0, tk0, l1, tk1, c1, c2, e6_3, e7_3, e2_3, e3_3, ld21, td21, ld22, td22, ld25, td25, ld27, td27, ld30, td30, ld31, td31, garg0, garg1, gvar3, gx21, gx22, gvar23]
          refine tail_step [(8, [], [9, 10], false)] (by kernel_rfl) (by kernel_rfl) (a_cons (by simp only [List.filterMap_cons, List.filterMap_nil, List.getElem?_cons_zero, List.getElem?_cons_succ]; rfl) (by kernel_rfl) ?_ trivial)
          focus
            have s := s.newBlk [.int .i64 0, .int .i64 0] 39 true
            have garg0 := (s.pull 12 rfl).rdAll (n := 3) l0.symm
            have garg1 := (s.pull 11 rfl).rdAll (n := 5) l1.symm
            have gvar3 := (s.pull 10 rfl).rdAll (n := 2) ld3.symm
            have gx21 := (s.pull 8 rfl).rdAll (n := 3) ld21.symm
            have gx22 := (s.pull 6 rfl).rdAll (n := 5) ld22.symm
            have gvar23 := (s.pull 5 rfl).rdAll (n := 2) ld23.symm
            try simp (disch := omega) only [VW, VY, VZ, VA, VB, VC, VE, TY, ↓reduceIte, Nat.reduceEqDiff, Nat.reduceAdd, Nat.reduceMul, Nat.reduceSub, Nat.reduceLeDiff, List.length_cons, List.length_nil, List.length_append, List.append_assoc, List.take_succ_cons, List.take_zero, List.drop_succ_cons, List.drop_zero, List.set_cons_zero, List.set_cons_succ, true_or, or_true, and_self, Bool.false_eq_true, Nat.le_refl, Option.bind_some, Option.map_some, Option.getD_some, Option.isSome_some, List.map_cons, List.map_nil, List.cons_append, List.nil_append, List.append_nil, List.getElem?_cons_zero, List.getElem?_cons_succ, eq_self, Int.reduceLT, Int.reduceLE, Int.reduceNeg, Int.reduceEq, l0, tk0, l1, tk1, c1, c2, e6_3, e7_3, e2_3, e3_3, ld21, td21, ld22, td22, ld25, td25, ld27, td27, ld30, td30, ld31, td31, garg0, garg1, gvar3, gx21, gx22, gvar23]
            generalize ((h32 ++ [some ⟨[.int .i64 0, .int .i64 0], 39, false, true⟩] : Heap)) = h33 at s ⊢
            have garg0 := (s.pull 12 rfl).rdAll (n := 3) l0.symm
            have garg1 := (s.pull 11 rfl).rdAll (n := 5) l1.symm
            have gvar3 := (s.pull 10 rfl).rdAll (n := 2) ld3.symm
            have gx21 := (s.pull 8 rfl).rdAll (n := 3) ld21.symm
            have gx22 := (s.pull 6 rfl).rdAll (n := 5) ld22.symm
            have gvar23 := (s.pull 5 rfl).rdAll (n := 2) ld23.symm
            try simp (disch := omega) only [VW, VY, VZ, VA, VB, VC, VE, TY, ↓reduceIte, Nat.reduceEqDiff, Nat.reduceAdd, Nat.reduceMul, Nat.reduceSub, Nat.reduceLeDiff, List.length_cons, List.length_nil, List.length_append, List.append_assoc, List.take_succ_cons, List.take_zero, List.drop_succ_cons, List.drop_zero, List.set_cons_zero, List.set_cons_succ, true_or, or_true, and_self, Bool.false_eq_true, Nat.le_refl, Option.bind_some, Option.map_some, Option.getD_some, Option.isSome_some, List.map_cons, List.map_nil, List.cons_append, List.nil_append, List.append_nil, List.getElem?_cons_zero, List.getElem?_cons_succ, eq_self, Int.reduceLT, Int.reduceLE, Int.reduceNeg, Int.reduceEq, l0, tk0, l1, tk1, c1, c2, e6_3, e7_3, e2_3, e3_3, ld21, td21, ld22, td22, ld25, td25, ld27, td27, ld30, td30, ld31, td31, garg0, garg1, gvar3, gx21, gx22, gvar23]
            refine tail_step [(9, [10], [], false)] (by kernel_rfl) (by kernel_rfl) (a_cons (by simp only [List.filterMap_cons, List.filterMap_nil, List.getElem?_cons_zero, List.getElem?_cons_succ]; rfl) (by kernel_rfl) ?_ trivial)
            focus
              have garg0 := (s.pull 12 rfl).rdAll (n := 3) l0.symm
              have garg1 := (s.pull 11 rfl).rdAll (n := 5) l1.symm
              have gvar3 := (s.pull 10 rfl).rdAll (n := 2) ld3.symm
              have gx21 := (s.pull 8 rfl).rdAll (n := 3) ld21.symm
              have gx22 := (s.pull 6 rfl).rdAll (n := 5) ld22.symm
              have gvar23 := (s.pull 5 rfl).rdAll (n := 2) ld23.symm
              try simp (disch := omega) only [VW, VY, VZ, VA, VB, VC, VE, TY, ↓reduceIte, Nat.reduceEqDiff, Nat.reduceAdd, Nat.reduceMul, Nat.reduceSub, Nat.reduceLeDiff, List.length_cons, List.length_nil, List.length_append, List.append_assoc, List.take_succ_cons, List.take_zero, List.drop_succ_cons, List.drop_zero, List.set_cons_zero, List.set_cons_succ, true_or, or_true, and_self, Bool.false_eq_true, Nat.le_refl, Option.bind_some, Option.map_some, Option.getD_some, Option.isSome_some, List.map_cons, List.map_nil, List.cons_append, List.nil_append, List.append_nil, List.getElem?_cons_zero, List.getElem?_cons_succ, eq_self, Int.reduceLT, Int.reduceLE, Int.reduceNeg, Int.reduceEq, l0, tk0, l1, tk1, c1, c2, e6_3, e7_3, e2_3, e3_3, ld21, td21, ld22, td22, ld25, td25, ld27, td27, ld30, td30, ld31, td31, garg0, garg1, gvar3, gx21, gx22, gvar23]
              refine sep_store (s.pull 0 rfl) (by simp) fun h34 s => ?_
              have s := s.as (ds := [.int .i64 (missV x0 x1).n, .int .i64 (missV x0 x1).k]) (by simp [t_put])
              have garg0 := (s.pull 12 rfl).rdAll (n := 3) l0.symm
              have garg1 := (s.pull 11 rfl).rdAll (n := 5) l1.symm
              have gvar3 := (s.pull 10 rfl).rdAll (n := 2) ld3.symm
              have gx21 := (s.pull 8 rfl).rdAll (n := 3) ld21.symm
              have gx22 := (s.pull 6 rfl).rdAll (n := 5) ld22.symm
              have gvar23 := (s.pull 5 rfl).rdAll (n := 2) ld23.symm
              try simp (disch := omega) only [VW, VY, VZ, VA, VB, VC, VE, TY, ↓reduceIte, Nat.reduceEqDiff, Nat.reduceAdd, Nat.reduceMul, Nat.reduceSub, Nat.reduceLeDiff, List.length_cons, List.length_nil, List.length_append, List.append_assoc, List.take_succ_cons, List.take_zero, List.drop_succ_cons, List.drop_zero, List.set_cons_zero, List.set_cons_succ, true_or, or_true, and_self, Bool.false_eq_true, Nat.le_refl, Option.bind_some, Option.map_some, Option.getD_some, Option.isSome_some, List.map_cons, List.map_nil, List.cons_append, List.nil_append, List.append_nil, List.getElem?_cons_zero, List.getElem?_cons_succ, eq_self, Int.reduceLT, Int.reduceLE, Int.reduceNeg, Int.reduceEq, l0, tk0, l1, tk1, c1, c2, e6_3, e7_3, e2_3, e3_3, ld21, td21, ld22, td22, ld25, td25, ld27, td27, ld30, td30, ld31, td31, garg0, garg1, gvar3, gx21, gx22, gvar23]
              have s := s.pull 12 rfl
              have s := s.pull 12 rfl
              have s := s.pull 12 rfl
              have s := s.pull 3 rfl
              unfold Post
              exact ⟨_, rfl, rfl, e2_3, e3_3, e6_3, e7_3, Sep.keep (L := [_, _, _, _]) s⟩
        focus
          have s := s.newBlk [.int .i64 0, .int .i64 0] 39 true
          have garg0 := (s.pull 12 rfl).rdAll (n := 3) l0.symm
          have garg1 := (s.pull 11 rfl).rdAll (n := 5) l1.symm
          have gvar3 := (s.pull 10 rfl).rdAll (n := 2) ld3.symm
          have gx21 := (s.pull 8 rfl).rdAll (n := 3) ld21.symm
          have gx22 := (s.pull 6 rfl).rdAll (n := 5) ld22.symm
          have gvar23 := (s.pull 5 rfl).rdAll (n := 2) ld23.symm
          try simp (disch := omega) only [VW, VY, VZ, VA, VB, VC, VE, TY, ↓reduceIte, Nat.reduceEqDiff, Nat.reduceAdd, Nat.reduceMul, Nat.reduceSub, Nat.reduceLeDiff, List.length_cons, List.length_nil, List.length_append, List.append_assoc, List.take_succ_cons, List.take_zero, List.drop_succ_cons, List.drop_zero, List.set_cons_zero, List.set_cons_succ, true_or, or_true, and_self, Bool.false_eq_true, Nat.le_refl, Option.bind_some, Option.map_some, Option.getD_some, Option.isSome_some, List.map_cons, List.map_nil, List.cons_append, List.nil_append, List.append_nil, List.getElem?_cons_zero, List.getElem?_cons_succ, eq_self, Int.reduceLT, Int.reduceLE, Int.reduceNeg, Int.reduceEq, l0, tk0, l1, tk1, c1, c2, e6_3, e7_3, e2_3, e3_3, ld21, td21, ld22, td22, ld25, td25, ld27, td27, ld30, td30, ld31, td31, garg0, garg1, gvar3, gx21, gx22, gvar23]
          generalize ((h31 ++ [some ⟨[.int .i64 0, .int .i64 0], 39, false, true⟩] : Heap)) = h35 at s ⊢
          have garg0 := (s.pull 12 rfl).rdAll (n := 3) l0.symm
          have garg1 := (s.pull 11 rfl).rdAll (n := 5) l1.symm
          have gvar3 := (s.pull 10 rfl).rdAll (n := 2) ld3.symm
          have gx21 := (s.pull 8 rfl).rdAll (n := 3) ld21.symm
          have gx22 := (s.pull 6 rfl).rdAll (n := 5) ld22.symm
          have gvar23 := (s.pull 5 rfl).rdAll (n := 2) ld23.symm
          try simp (disch := omega) only [VW, VY, VZ, VA, VB, VC, VE, TY, ↓reduceIte, Nat.reduceEqDiff, Nat.reduceAdd, Nat.reduceMul, Nat.reduceSub, Nat.reduceLeDiff, List.length_cons, List.length_nil, List.length_append, List.append_assoc, List.take_succ_cons, List.take_zero, List.drop_succ_cons, List.drop_zero, List.set_cons_zero, List.set_cons_succ, true_or, or_true, and_self, Bool.false_eq_true, Nat.le_refl, Option.bind_some, Option.map_some, Option.getD_some, Option.isSome_some, List.map_cons, List.map_nil, List.cons_append, List.nil_append, List.append_nil, List.getElem?_cons_zero, List.getElem?_cons_succ, eq_self, Int.reduceLT, Int.reduceLE, Int.reduceNeg, Int.reduceEq, l0, tk0, l1, tk1, c1, c2, e6_3, e7_3, e2_3, e3_3, ld21, td21, ld22, td22, ld25, td25, ld27, td27, ld30, td30, ld31, td31, garg0, garg1, gvar3, gx21, gx22, gvar23]
          refine tail_step [(4, [5, 6, 7], [9, 10], false)] (by kernel_rfl) (by kernel_rfl) (a_cons (by simp only [List.filterMap_cons, List.filterMap_nil, List.getElem?_cons_zero, List.getElem?_cons_succ]; rfl) (by kernel_rfl) ?_ trivial)
          focus
            have garg0 := (s.pull 12 rfl).rdAll (n := 3) l0.symm
            have garg1 := (s.pull 11 rfl).rdAll (n := 5) l1.symm
            have gvar3 := (s.pull 10 rfl).rdAll (n := 2) ld3.symm
            have gx21 := (s.pull 8 rfl).rdAll (n := 3) ld21.symm
            have gx22 := (s.pull 6 rfl).rdAll (n := 5) ld22.symm
            have gvar23 := (s.pull 5 rfl).rdAll (n := 2) ld23.symm
            try simp (disch := omega) only [VW, VY, VZ, VA, VB, VC, VE, TY, ↓reduceIte, Nat.reduceEqDiff, Nat.reduceAdd, Nat.reduceMul, Nat.reduceSub, Nat.reduceLeDiff, List.length_cons, List.length_nil, List.length_append, List.append_assoc, List.take_succ_cons, List.take_zero, List.drop_succ_cons, List.drop_zero, List.set_cons_zero, List.set_cons_succ, true_or, or_true, and_self, Bool.false_eq_true, Nat.le_refl, Option.bind_some, Option.map_some, Option.getD_some, Option.isSome_some, List.map_cons, List.map_nil, List.cons_append, List.nil_append, List.append_nil, List.getElem?_cons_zero, List.getElem?_cons_succ, eq_self, Int.reduceLT, Int.reduceLE, Int.reduceNeg, Int.reduceEq, l0, tk0, l1, tk1, c1, c2, e6_3, e7_3, e2_3, e3_3, ld21, td21, ld22, td22, ld25, td25, ld27, td27, ld30, td30, ld31, td31, garg0, garg1, gvar3, gx21, gx22, gvar23]
            refine .inl ⟨by kernel_rfl, ?_⟩; refine MissingVolume_i' (s.pull 2 rfl).gHere (s.pull 1 rfl).gHere fun h36 E36 => ?_
            have s := s.mono E36
            have garg0 := (s.pull 12 rfl).rdAll (n := 3) l0.symm
            have garg1 := (s.pull 11 rfl).rdAll (n := 5) l1.symm
            have gvar3 := (s.pull 10 rfl).rdAll (n := 2) ld3.symm
            have gx21 := (s.pull 8 rfl).rdAll (n := 3) ld21.symm
            have gx22 := (s.pull 6 rfl).rdAll (n := 5) ld22.symm
            have gvar23 := (s.pull 5 rfl).rdAll (n := 2) ld23.symm
            try simp (disch := omega) only [VW, VY, VZ, VA, VB, VC, VE, TY, ↓reduceIte, Nat.reduceEqDiff, Nat.reduceAdd, Nat.reduceMul, Nat.reduceSub, Nat.reduceLeDiff, List.length_cons, List.length_nil, List.length_append, List.append_assoc, List.take_succ_cons, List.take_zero, List.drop_succ_cons, List.drop_zero, List.set_cons_zero, List.set_cons_succ, true_or, or_true, and_self, Bool.false_eq_true, Nat.le_refl, Option.bind_some, Option.map_some, Option.getD_some, Option.isSome_some, List.map_cons, List.map_nil, List.cons_append, List.nil_append, List.append_nil, List.getElem?_cons_zero, List.getElem?_cons_succ, eq_self, Int.reduceLT, Int.reduceLE, Int.reduceNeg, Int.reduceEq, l0, tk0, l1, tk1, c1, c2, e6_3, e7_3, e2_3, e3_3, ld21, td21, ld22, td22, ld25, td25, ld27, td27, ld30, td30, ld31, td31, garg0, garg1, gvar3, gx21, gx22, gvar23]
            refine tail_step [(9, [10], [], false)] (by kernel_rfl) (by kernel_rfl) (a_cons (by simp only [List.filterMap_cons, List.filterMap_nil, List.getElem?_cons_zero, List.getElem?_cons_succ]; rfl) (by kernel_rfl) ?_ trivial)
            focus
              have garg0 := (s.pull 12 rfl).rdAll (n := 3) l0.symm
              have garg1 := (s.pull 11 rfl).rdAll (n := 5) l1.symm
              have gvar3 := (s.pull 10 rfl).rdAll (n := 2) ld3.symm
              have gx21 := (s.pull 8 rfl).rdAll (n := 3) ld21.symm
              have gx22 := (s.pull 6 rfl).rdAll (n := 5) ld22.symm
              have gvar23 := (s.pull 5 rfl).rdAll (n := 2) ld23.symm
              try simp (disch := omega) only [VW, VY, VZ, VA, VB, VC, VE, TY, ↓reduceIte, Nat.reduceEqDiff, Nat.reduceAdd, Nat.reduceMul, Nat.reduceSub, Nat.reduceLeDiff, List.length_cons, List.length_nil, List.length_append, List.append_assoc, List.take_succ_cons, List.take_zero, List.drop_succ_cons, List.drop_zero, List.set_cons_zero, List.set_cons_succ, true_or, or_true, and_self, Bool.false_eq_true, Nat.le_refl, Option.bind_some, Option.map_some, Option.getD_some, Option.isSome_some, List.map_cons, List.map_nil, List.cons_append, List.nil_append, List.append_nil, List.getElem?_cons_zero, List.getElem?_cons_succ, eq_self, Int.reduceLT, Int.reduceLE, Int.reduceNeg, Int.reduceEq, l0, tk0, l1, tk1, c1, c2, e6_3, e7_3, e2_3, e3_3, ld21, td21, ld22, td22, ld25, td25, ld27, td27, ld30, td30, ld31, td31, garg0, garg1, gvar3, gx21, gx22, gvar23]
              refine sep_store (s.pull 0 rfl) (by simp) fun h37 s => ?_
              have s := s.as (ds := [.int .i64 (missV x0 x1).n, .int .i64 (missV x0 x1).k]) (by simp [t_put])
              have garg0 := (s.pull 12 rfl).rdAll (n := 3) l0.symm
              have garg1 := (s.pull 11 rfl).rdAll (n := 5) l1.symm
              have gvar3 := (s.pull 10 rfl).rdAll (n := 2) ld3.symm
              have gx21 := (s.pull 8 rfl).rdAll (n := 3) ld21.symm
              have gx22 := (s.pull 6 rfl).rdAll (n := 5) ld22.symm
              have gvar23 := (s.pull 5 rfl).rdAll (n := 2) ld23.symm
              try simp (disch := omega) only [VW, VY, VZ, VA, VB, VC, VE, TY, ↓reduceIte, Nat.reduceEqDiff, Nat.reduceAdd, Nat.reduceMul, Nat.reduceSub, Nat.reduceLeDiff, List.length_cons, List.length_nil, List.length_append, List.append_assoc, List.take_succ_cons, List.take_zero, List.drop_succ_cons, List.drop_zero, List.set_cons_zero, List.set_cons_succ, true_or, or_true, and_self, Bool.false_eq_true, Nat.le_refl, Option.bind_some, Option.map_some, Option.getD_some, Option.isSome_some, List.map_cons, List.map_nil, List.cons_append, List.nil_append, List.append_nil, List.getElem?_cons_zero, List.getElem?_cons_succ, eq_self, Int.reduceLT, Int.reduceLE, Int.reduceNeg, Int.reduceEq, l0, tk0, l1, tk1, c1, c2, e6_3, e7_3, e2_3, e3_3, ld21, td21, ld22, td22, ld25, td25, ld27, td27, ld30, td30, ld31, td31, garg0, garg1, gvar3, gx21, gx22, gvar23]
              have s := s.pull 12 rfl
              have s := s.pull 12 rfl
              have s := s.pull 12 rfl
              have s := s.pull 3 rfl
              unfold Post
              exact ⟨_, rfl, rfl, e2_3, e3_3, e6_3, e7_3, Sep.keep (L := [_, _, _, _]) s⟩
      focus
        have s := s.newBlk [.int .i64 0, .int .i64 0] 39 true
        have garg0 := (s.pull 11 rfl).rdAll (n := 3) l0.symm
        have garg1 := (s.pull 10 rfl).rdAll (n := 5) l1.symm
        have gvar3 := (s.pull 9 rfl).rdAll (n := 2) ld3.symm
        have gx21 := (s.pull 7 rfl).rdAll (n := 3) ld21.symm
        have gx22 := (s.pull 5 rfl).rdAll (n := 5) ld22.symm
        have gvar23 := (s.pull 4 rfl).rdAll (n := 2) ld23.symm
        try simp (disch := omega) only [VW, VY, VZ, VA, VB, VC, VE, TY, ↓reduceIte, Nat.reduceEqDiff, Nat.reduceAdd, Nat.reduceMul, Nat.reduceSub, Nat.reduceLeDiff, List.length_cons, List.length_nil, List.length_append, List.append_assoc, List.take_succ_cons, List.take_zero, List.drop_succ_cons, List.drop_zero, List.set_cons_zero, List.set_cons_succ, true_or, or_true, and_self, Bool.false_eq_true, Nat.le_refl, Option.bind_some, Option.map_some, Option.getD_some, Option.isSome_some, List.map_cons, List.map_nil, List.cons_append, List.nil_append, List.append_nil, List.getElem?_cons_zero, List.getElem?_cons_succ, eq_self, Int.reduceLT, Int.reduceLE, Int.reduceNeg, Int.reduceEq, l0, tk0, l1, tk1, c1, c2, e6_3, e7_3, e2_3, e3_3, ld21, td21, ld22, td22, ld25, td25, ld27, td27, ld30, td30, garg0, garg1, gvar3, gx21, gx22, gvar23]
        generalize ((h30 ++ [some ⟨[.int .i64 0, .int .i64 0], 39, false, true⟩] : Heap)) = h38 at s ⊢
        have garg0 := (s.pull 11 rfl).rdAll (n := 3) l0.symm
        have garg1 := (s.pull 10 rfl).rdAll (n := 5) l1.symm
        have gvar3 := (s.pull 9 rfl).rdAll (n := 2) ld3.symm
        have gx21 := (s.pull 7 rfl).rdAll (n := 3) ld21.symm
        have gx22 := (s.pull 5 rfl).rdAll (n := 5) ld22.symm
        have gvar23 := (s.pull 4 rfl).rdAll (n := 2) ld23.symm
        try simp (disch := omega) only [VW, VY, VZ, VA, VB, VC, VE, TY, ↓reduceIte, Nat.reduceEqDiff, Nat.reduceAdd, Nat.reduceMul, Nat.reduceSub, Nat.reduceLeDiff, List.length_cons, List.length_nil, List.length_append, List.append_assoc, List.take_succ_cons, List.take_zero, List.drop_succ_cons, List.drop_zero, List.set_cons_zero, List.set_cons_succ, true_or, or_true, and_self, Bool.false_eq_true, Nat.le_refl, Option.bind_some, Option.map_some, Option.getD_some, Option.isSome_some, List.map_cons, List.map_nil, List.cons_append, List.nil_append, List.append_nil, List.getElem?_cons_zero, List.getElem?_cons_succ, eq_self, Int.reduceLT, Int.reduceLE, Int.reduceNeg, Int.reduceEq, l0, tk0, l1, tk1, c1, c2, e6_3, e7_3, e2_3, e3_3, ld21, td21, ld22, td22, ld25, td25, ld27, td27, ld30, td30, garg0, garg1, gvar3, gx21, gx22, gvar23]
        refine tail_step [(3, [], [4, 5, 6, 7, 9, 10], false)] (by kernel_rfl) (by kernel_rfl) (a_cons (by simp only [List.filterMap_cons, List.filterMap_nil, List.getElem?_cons_zero, List.getElem?_cons_succ]; rfl) (by kernel_rfl) ?_ trivial)
        focus
          have garg0 := (s.pull 11 rfl).rdAll (n := 3) l0.symm
          have garg1 := (s.pull 10 rfl).rdAll (n := 5) l1.symm
          have gvar3 := (s.pull 9 rfl).rdAll (n := 2) ld3.symm
          have gx21 := (s.pull 7 rfl).rdAll (n := 3) ld21.symm
          have gx22 := (s.pull 5 rfl).rdAll (n := 5) ld22.symm
          have gvar23 := (s.pull 4 rfl).rdAll (n := 2) ld23.symm
          try simp (disch := omega) only [VW, VY, VZ, VA, VB, VC, VE, TY, ↓reduceIte, Nat.reduceEqDiff, Nat.reduceAdd, Nat.reduceMul, Nat.reduceSub, Nat.reduceLeDiff, List.length_cons, List.length_nil, List.length_append, List.append_assoc, List.take_succ_cons, List.take_zero, List.drop_succ_cons, List.drop_zero, List.set_cons_zero, List.set_cons_succ, true_or, or_true, and_self, Bool.false_eq_true, Nat.le_refl, Option.bind_some, Option.map_some, Option.getD_some, Option.isSome_some, List.map_cons, List.map_nil, List.cons_append, List.nil_append, List.append_nil, List.getElem?_cons_zero, List.getElem?_cons_succ, eq_self, Int.reduceLT, Int.reduceLE, Int.reduceNeg, Int.reduceEq, l0, tk0, l1, tk1, c1, c2, e6_3, e7_3, e2_3, e3_3, ld21, td21, ld22, td22, ld25, td25, ld27, td27, ld30, td30, garg0, garg1, gvar3, gx21, gx22, gvar23]
          refine .inl ⟨by kernel_rfl, ?_⟩; refine toWork_c (b := true) (i1.mono s.ext) n1 fun ds39 h39 s39 => ?_
          have s := s.add s39
          have ld39 : ds39.length = 5 := s39.gpull
          have td39 : ds39.take 5 = ds39 := List.take_of_length_le (Nat.le_of_eq ld39)
          have garg0 := (s.pull 12 rfl).rdAll (n := 3) l0.symm
          have garg1 := (s.pull 11 rfl).rdAll (n := 5) l1.symm
          have gvar3 := (s.pull 10 rfl).rdAll (n := 2) ld3.symm
          have gx21 := (s.pull 8 rfl).rdAll (n := 3) ld21.symm
          have gx22 := (s.pull 6 rfl).rdAll (n := 5) ld22.symm
          have gvar23 := (s.pull 5 rfl).rdAll (n := 2) ld23.symm
          try simp (disch := omega) only [VW, VY, VZ, VA, VB, VC, VE, TY, ↓reduceIte, Nat.reduceEqDiff, Nat.reduceAdd, Nat.reduceMul, Nat.reduceSub, Nat.reduceLeDiff, List.length_cons, List.length_nil, List.length_append, List.append_assoc, List.take_succ_cons, List.take_zero, List.drop_succ_cons, List.drop_zero, List.set_cons_zero, List.set_cons_succ, true_or, or_true, and_self, Bool.false_eq_true, Nat.le_refl, Option.bind_some, Option.map_some, Option.getD_some, Option.isSome_some, List.map_cons, List.map_nil, List.cons_append, List.nil_append, List.append_nil, List.getElem?_cons_zero, List.getElem?_cons_succ, eq_self, Int.reduceLT, Int.reduceLE, Int.reduceNeg, Int.reduceEq, l0, tk0, l1, tk1, c1, c2, e6_3, e7_3, e2_3, e3_3, ld21, td21, ld22, td22, ld25, td25, ld27, td27, ld30, td30, ld39, td39, garg0, garg1, gvar3, gx21, gx22, gvar23]
          refine tail_step [(4, [5, 6, 7], [9, 10], false)] (by kernel_rfl) (by kernel_rfl) (a_cons (by simp only [List.filterMap_cons, List.filterMap_nil, List.getElem?_cons_zero, List.getElem?_cons_succ]; rfl) (by kernel_rfl) ?_ trivial)
          focus
            have garg0 := (s.pull 12 rfl).rdAll (n := 3) l0.symm
            have garg1 := (s.pull 11 rfl).rdAll (n := 5) l1.symm
            have gvar3 := (s.pull 10 rfl).rdAll (n := 2) ld3.symm
            have gx21 := (s.pull 8 rfl).rdAll (n := 3) ld21.symm
            have gx22 := (s.pull 6 rfl).rdAll (n := 5) ld22.symm
            have gvar23 := (s.pull 5 rfl).rdAll (n := 2) ld23.symm
            try simp (disch := omega) only [VW, VY, VZ, VA, VB, VC, VE, TY, ↓reduceIte, Nat.reduceEqDiff, Nat.reduceAdd, Nat.reduceMul, Nat.reduceSub, Nat.reduceLeDiff, List.length_cons, List.length_nil, List.length_append, List.append_assoc, List.take_succ_cons, List.take_zero, List.drop_succ_cons, List.drop_zero, List.set_cons_zero, List.set_cons_succ, true_or, or_true, and_self, Bool.false_eq_true, Nat.le_refl, Option.bind_some, Option.map_some, Option.getD_some, Option.isSome_some, List.map_cons, List.map_nil, List.cons_append, List.nil_append, List.append_nil, List.getElem?_cons_zero, List.getElem?_cons_succ, eq_self, Int.reduceLT, Int.reduceLE, Int.reduceNeg, Int.reduceEq, l0, tk0, l1, tk1, c1, c2, e6_3, e7_3, e2_3, e3_3, ld21, td21, ld22, td22, ld25, td25, ld27, td27, ld30, td30, ld39, td39, garg0, garg1, gvar3, gx21, gx22, gvar23]
            refine .inl ⟨by kernel_rfl, ?_⟩; refine MissingVolume_i' (s.pull 2 rfl).gHere (s.pull 0 rfl).gHere fun h40 E40 => ?_
            have s := s.mono E40
            have garg0 := (s.pull 12 rfl).rdAll (n := 3) l0.symm
            have garg1 := (s.pull 11 rfl).rdAll (n := 5) l1.symm
            have gvar3 := (s.pull 10 rfl).rdAll (n := 2) ld3.symm
            have gx21 := (s.pull 8 rfl).rdAll (n := 3) ld21.symm
            have gx22 := (s.pull 6 rfl).rdAll (n := 5) ld22.symm
            have gvar23 := (s.pull 5 rfl).rdAll (n := 2) ld23.symm
            try simp (disch := omega) only [VW, VY, VZ, VA, VB, VC, VE, TY, ↓reduceIte, Nat.reduceEqDiff, Nat.reduceAdd, Nat.reduceMul, Nat.reduceSub, Nat.reduceLeDiff, List.length_cons, List.length_nil, List.length_append, List.append_assoc, List.take_succ_cons, List.take_zero, List.drop_succ_cons, List.drop_zero, List.set_cons_zero, List.set_cons_succ, true_or, or_true, and_self, Bool.false_eq_true, Nat.le_refl, Option.bind_some, Option.map_some, Option.getD_some, Option.isSome_some, List.map_cons, List.map_nil, List.cons_append, List.nil_append, List.append_nil, List.getElem?_cons_zero, List.getElem?_cons_succ, eq_self, Int.reduceLT, Int.reduceLE, Int.reduceNeg, Int.reduceEq, l0, tk0, l1, tk1, c1, c2, e6_3, e7_3, e2_3, e3_3, ld21, td21, ld22, td22, ld25, td25, ld27, td27, ld30, td30, ld39, td39, garg0, garg1, gvar3, gx21, gx22, gvar23]
            refine tail_step [(9, [10], [], false)] (by kernel_rfl) (by kernel_rfl) (a_cons (by simp only [List.filterMap_cons, List.filterMap_nil, List.getElem?_cons_zero, List.getElem?_cons_succ]; rfl) (by kernel_rfl) ?_ trivial)
            focus
              have garg0 := (s.pull 12 rfl).rdAll (n := 3) l0.symm
              have garg1 := (s.pull 11 rfl).rdAll (n := 5) l1.symm
              have gvar3 := (s.pull 10 rfl).rdAll (n := 2) ld3.symm
              have gx21 := (s.pull 8 rfl).rdAll (n := 3) ld21.symm
              have gx22 := (s.pull 6 rfl).rdAll (n := 5) ld22.symm
              have gvar23 := (s.pull 5 rfl).rdAll (n := 2) ld23.symm
              try simp (disch := omega) only [VW, VY, VZ, VA, VB, VC, VE, TY, ↓reduceIte, Nat.reduceEqDiff, Nat.reduceAdd, Nat.reduceMul, Nat.reduceSub, Nat.reduceLeDiff, List.length_cons, List.length_nil, List.length_append, List.append_assoc, List.take_succ_cons, List.take_zero, List.drop_succ_cons, List.drop_zero, List.set_cons_zero, List.set_cons_succ, true_or, or_true, and_self, Bool.false_eq_true, Nat.le_refl, Option.bind_some, Option.map_some, Option.getD_some, Option.isSome_some, List.map_cons, List.map_nil, List.cons_append, List.nil_append, List.append_nil, List.getElem?_cons_zero, List.getElem?_cons_succ, eq_self, Int.reduceLT, Int.reduceLE, Int.reduceNeg, Int.reduceEq, l0, tk0, l1, tk1, c1, c2, e6_3, e7_3, e2_3, e3_3, ld21, td21, ld22, td22, ld25, td25, ld27, td27, ld30, td30, ld39, td39, garg0, garg1, gvar3, gx21, gx22, gvar23]
              refine sep_store (s.pull 1 rfl) (by simp) fun h41 s => ?_
              have s := s.as (ds := [.int .i64 (missV x0 x1).n, .int .i64 (missV x0 x1).k]) (by simp [t_put])
              have garg0 := (s.pull 12 rfl).rdAll (n := 3) l0.symm
              have garg1 := (s.pull 11 rfl).rdAll (n := 5) l1.symm
              have gvar3 := (s.pull 10 rfl).rdAll (n := 2) ld3.symm
              have gx21 := (s.pull 8 rfl).rdAll (n := 3) ld21.symm
              have gx22 := (s.pull 6 rfl).rdAll (n := 5) ld22.symm
              have gvar23 := (s.pull 5 rfl).rdAll (n := 2) ld23.symm
              try simp (disch := omega) only [VW, VY, VZ, VA, VB, VC, VE, TY, ↓reduceIte, Nat.reduceEqDiff, Nat.reduceAdd, Nat.reduceMul, Nat.reduceSub, Nat.reduceLeDiff, List.length_cons, List.length_nil, List.length_append, List.append_assoc, List.take_succ_cons, List.take_zero, List.drop_succ_cons, List.drop_zero, List.set_cons_zero, List.set_cons_succ, true_or, or_true, and_self, Bool.false_eq_true, Nat.le_refl, Option.bind_some, Option.map_some, Option.getD_some, Option.isSome_some, List.map_cons, List.map_nil, List.cons_append, List.nil_append, List.append_nil, List.getElem?_cons_zero, List.getElem?_cons_succ, eq_self, Int.reduceLT, Int.reduceLE, Int.reduceNeg, Int.reduceEq, l0, tk0, l1, tk1, c1, c2, e6_3, e7_3, e2_3, e3_3, ld21, td21, ld22, td22, ld25, td25, ld27, td27, ld30, td30, ld39, td39, garg0, garg1, gvar3, gx21, gx22, gvar23]
              have s := s.pull 12 rfl
              have s := s.pull 12 rfl
              have s := s.pull 12 rfl
              have s := s.pull 3 rfl
              unfold Post
              exact ⟨_, rfl, rfl, e2_3, e3_3, e6_3, e7_3, Sep.keep (L := [_, _, _, _]) s⟩
    focus
      have s := s.newBlk [.int .i64 0, .int .i64 0] 39 true
      have garg0 := (s.pull 10 rfl).rdAll (n := 3) l0.symm
      have garg1 := (s.pull 9 rfl).rdAll (n := 5) l1.symm
      have gvar3 := (s.pull 8 rfl).rdAll (n := 2) ld3.symm
      have gx21 := (s.pull 6 rfl).rdAll (n := 3) ld21.symm
      have gx22 := (s.pull 4 rfl).rdAll (n := 5) ld22.symm
      have gvar23 := (s.pull 3 rfl).rdAll (n := 2) ld23.symm
      try simp (disch := omega) only [VW, VY, VZ, VA, VB, VC, VE, TY, ↓reduceIte, Nat.reduceEqDiff, Nat.reduceAdd, Nat.reduceMul, Nat.reduceSub, Nat.reduceLeDiff, List.length_cons, List.length_nil, List.length_append, List.append_assoc, List.take_succ_cons, List.take_zero, List.drop_succ_cons, List.drop_zero, List.set_cons_zero, List.set_cons_succ, true_or, or_true, and_self, Bool.false_eq_true, Nat.le_refl, Option.bind_some, Option.map_some, Option.getD_some, Option.isSome_some, List.map_cons, List.map_nil, List.cons_append, List.nil_append, List.append_nil, List.getElem?_cons_zero, List.getElem?_cons_succ, eq_self, Int.reduceLT, Int.reduceLE, Int.reduceNeg, Int.reduceEq, l0, tk0, l1, tk1, c1, c2, e6_3, e7_3, e2_3, e3_3, ld21, td21, ld22, td22, ld25, td25, ld27, td27, garg0, garg1, gvar3, gx21, gx22, gvar23]
      generalize ((h28 ++ [some ⟨[.int .i64 0, .int .i64 0], 39, false, true⟩] : Heap)) = h42 at s ⊢
      have garg0 := (s.pull 10 rfl).rdAll (n := 3) l0.symm
      have garg1 := (s.pull 9 rfl).rdAll (n := 5) l1.symm
      have gvar3 := (s.pull 8 rfl).rdAll (n := 2) ld3.symm
      have gx21 := (s.pull 6 rfl).rdAll (n := 3) ld21.symm
      have gx22 := (s.pull 4 rfl).rdAll (n := 5) ld22.symm
      have gvar23 := (s.pull 3 rfl).rdAll (n := 2) ld23.symm
      try simp (disch := omega) only [VW, VY, VZ, VA, VB, VC, VE, TY, ↓reduceIte, Nat.reduceEqDiff, Nat.reduceAdd, Nat.reduceMul, Nat.reduceSub, Nat.reduceLeDiff, List.length_cons, List.length_nil, List.length_append, List.append_assoc, List.take_succ_cons, List.take_zero, List.drop_succ_cons, List.drop_zero, List.set_cons_zero, List.set_cons_succ, true_or, or_true, and_self, Bool.false_eq_true, Nat.le_refl, Option.bind_some, Option.map_some, Option.getD_some, Option.isSome_some, List.map_cons, List.map_nil, List.cons_append, List.nil_append, List.append_nil, List.getElem?_cons_zero, List.getElem?_cons_succ, eq_self, Int.reduceLT, Int.reduceLE, Int.reduceNeg, Int.reduceEq, l0, tk0, l1, tk1, c1, c2, e6_3, e7_3, e2_3, e3_3, ld21, td21, ld22, td22, ld25, td25, ld27, td27, garg0, garg1, gvar3, gx21, gx22, gvar23]
      refine tail_step [(1, [], [3, 4, 5, 6, 7, 9, 10], false)] (by kernel_rfl) (by kernel_rfl) (a_cons (by simp only [List.filterMap_cons, List.filterMap_nil, List.getElem?_cons_zero, List.getElem?_cons_succ]; rfl) (by kernel_rfl) ?_ trivial)
      focus
        have garg0 := (s.pull 10 rfl).rdAll (n := 3) l0.symm
        have garg1 := (s.pull 9 rfl).rdAll (n := 5) l1.symm
        have gvar3 := (s.pull 8 rfl).rdAll (n := 2) ld3.symm
        have gx21 := (s.pull 6 rfl).rdAll (n := 3) ld21.symm
        have gx22 := (s.pull 4 rfl).rdAll (n := 5) ld22.symm
        have gvar23 := (s.pull 3 rfl).rdAll (n := 2) ld23.symm
        try simp (disch := omega) only [VW, VY, VZ, VA, VB, VC, VE, TY, ↓reduceIte, Nat.reduceEqDiff, Nat.reduceAdd, Nat.reduceMul, Nat.reduceSub, Nat.reduceLeDiff, List.length_cons, List.length_nil, List.length_append, List.append_assoc, List.take_succ_cons, List.take_zero, List.drop_succ_cons, List.drop_zero, List.set_cons_zero, List.set_cons_succ, true_or, or_true, and_self, Bool.false_eq_true, Nat.le_refl, Option.bind_some, Option.map_some, Option.getD_some, Option.isSome_some, List.map_cons, List.map_nil, List.cons_append, List.nil_append, List.append_nil, List.getElem?_cons_zero, List.getElem?_cons_succ, eq_self, Int.reduceLT, Int.reduceLE, Int.reduceNeg, Int.reduceEq, l0, tk0, l1, tk1, c1, c2, e6_3, e7_3, e2_3, e3_3, ld21, td21, ld22, td22, ld25, td25, ld27, td27, garg0, garg1, gvar3, gx21, gx22, gvar23]
        refine .inl ⟨by kernel_rfl, ?_⟩; refine toBox_c (b := true) (i0.mono s.ext) n0 fun ds43 h43 s43 => ?_
        have s := s.add s43
        have ld43 : ds43.length = 3 := s43.gpull
        have td43 : ds43.take 3 = ds43 := List.take_of_length_le (Nat.le_of_eq ld43)
        have garg0 := (s.pull 11 rfl).rdAll (n := 3) l0.symm
        have garg1 := (s.pull 10 rfl).rdAll (n := 5) l1.symm
        have gvar3 := (s.pull 9 rfl).rdAll (n := 2) ld3.symm
        have gx21 := (s.pull 7 rfl).rdAll (n := 3) ld21.symm
        have gx22 := (s.pull 5 rfl).rdAll (n := 5) ld22.symm
        have gvar23 := (s.pull 4 rfl).rdAll (n := 2) ld23.symm
        try simp (disch := omega) only [VW, VY, VZ, VA, VB, VC, VE, TY, ↓reduceIte, Nat.reduceEqDiff, Nat.reduceAdd, Nat.reduceMul, Nat.reduceSub, Nat.reduceLeDiff, List.length_cons, List.length_nil, List.length_append, List.append_assoc, List.take_succ_cons, List.take_zero, List.drop_succ_cons, List.drop_zero, List.set_cons_zero, List.set_cons_succ, true_or, or_true, and_self, Bool.false_eq_true, Nat.le_refl, Option.bind_some, Option.map_some, Option.getD_some, Option.isSome_some, List.map_cons, List.map_nil, List.cons_append, List.nil_append, List.append_nil, List.getElem?_cons_zero, List.getElem?_cons_succ, eq_self, Int.reduceLT, Int.reduceLE, Int.reduceNeg, Int.reduceEq, l0, tk0, l1, tk1, c1, c2, e6_3, e7_3, e2_3, e3_3, ld21, td21, ld22, td22, ld25, td25, ld27, td27, ld43, td43, garg0, garg1, gvar3, gx21, gx22, gvar23]
        refine tail_step [(3, [], [4, 5, 6, 7, 9, 10], false)] (by kernel_rfl) (by kernel_rfl) (a_cons (by simp only [List.filterMap_cons, List.filterMap_nil, List.getElem?_cons_zero, List.getElem?_cons_succ]; rfl) (by kernel_rfl) ?_ trivial)
        focus
          have garg0 := (s.pull 11 rfl).rdAll (n := 3) l0.symm
          have garg1 := (s.pull 10 rfl).rdAll (n := 5) l1.symm
          have gvar3 := (s.pull 9 rfl).rdAll (n := 2) ld3.symm
          have gx21 := (s.pull 7 rfl).rdAll (n := 3) ld21.symm
          have gx22 := (s.pull 5 rfl).rdAll (n := 5) ld22.symm
          have gvar23 := (s.pull 4 rfl).rdAll (n := 2) ld23.symm
          try simp (disch := omega) only [VW, VY, VZ, VA, VB, VC, VE, TY, ↓reduceIte, Nat.reduceEqDiff, Nat.reduceAdd, Nat.reduceMul, Nat.reduceSub, Nat.reduceLeDiff, List.length_cons, List.length_nil, List.length_append, List.append_assoc, List.take_succ_cons, List.take_zero, List.drop_succ_cons, List.drop_zero, List.set_cons_zero, List.set_cons_succ, true_or, or_true, and_self, Bool.false_eq_true, Nat.le_refl, Option.bind_some, Option.map_some, Option.getD_some, Option.isSome_some, List.map_cons, List.map_nil, List.cons_append, List.nil_append, List.append_nil, List.getElem?_cons_zero, List.getElem?_cons_succ, eq_self, Int.reduceLT, Int.reduceLE, Int.reduceNeg, Int.reduceEq, l0, tk0, l1, tk1, c1, c2, e6_3, e7_3, e2_3, e3_3, ld21, td21, ld22, td22, ld25, td25, ld27, td27, ld43, td43, garg0, garg1, gvar3, gx21, gx22, gvar23]
          refine .inl ⟨by kernel_rfl, ?_⟩; refine toWork_c (b := true) (i1.mono s.ext) n1 fun ds44 h44 s44 => ?_
          have s := s.add s44
          have ld44 : ds44.length = 5 := s44.gpull
          have td44 : ds44.take 5 = ds44 := List.take_of_length_le (Nat.le_of_eq ld44)
          have garg0 := (s.pull 12 rfl).rdAll (n := 3) l0.symm
          have garg1 := (s.pull 11 rfl).rdAll (n := 5) l1.symm
          have gvar3 := (s.pull 10 rfl).rdAll (n := 2) ld3.symm
          have gx21 := (s.pull 8 rfl).rdAll (n := 3) ld21.symm
          have gx22 := (s.pull 6 rfl).rdAll (n := 5) ld22.symm
          have gvar23 := (s.pull 5 rfl).rdAll (n := 2) ld23.symm
          try simp (disch := omega) only [VW, VY, VZ, VA, VB, VC, VE, TY, ↓reduceIte, Nat.reduceEqDiff, Nat.reduceAdd, Nat.reduceMul, Nat.reduceSub, Nat.reduceLeDiff, List.length_cons, List.length_nil, List.length_append, List.append_assoc, List.take_succ_cons, List.take_zero, List.drop_succ_cons, List.drop_zero, List.set_cons_zero, List.set_cons_succ, true_or, or_true, and_self, Bool.false_eq_true, Nat.le_refl, Option.bind_some, Option.map_some, Option.getD_some, Option.isSome_some, List.map_cons, List.map_nil, List.cons_append, List.nil_append, List.append_nil, List.getElem?_cons_zero, List.getElem?_cons_succ, eq_self, Int.reduceLT, Int.reduceLE, Int.reduceNeg, Int.reduceEq, l0, tk0, l1, tk1, c1, c2, e6_3, e7_3, e2_3, e3_3, ld21, td21, ld22, td22, ld25, td25, ld27, td27, ld43, td43, ld44, td44, garg0, garg1, gvar3, gx21, gx22, gvar23]
          refine tail_step [(4, [5, 6, 7], [9, 10], false)] (by kernel_rfl) (by kernel_rfl) (a_cons (by simp only [List.filterMap_cons, List.filterMap_nil, List.getElem?_cons_zero, List.getElem?_cons_succ]; rfl) (by kernel_rfl) ?_ trivial)
          focus
            have garg0 := (s.pull 12 rfl).rdAll (n := 3) l0.symm
            have garg1 := (s.pull 11 rfl).rdAll (n := 5) l1.symm
            have gvar3 := (s.pull 10 rfl).rdAll (n := 2) ld3.symm
            have gx21 := (s.pull 8 rfl).rdAll (n := 3) ld21.symm
            have gx22 := (s.pull 6 rfl).rdAll (n := 5) ld22.symm
            have gvar23 := (s.pull 5 rfl).rdAll (n := 2) ld23.symm
            try simp (disch := omega) only [VW, VY, VZ, VA, VB, VC, VE, TY, ↓reduceIte, Nat.reduceEqDiff, Nat.reduceAdd, Nat.reduceMul, Nat.reduceSub, Nat.reduceLeDiff, List.length_cons, List.length_nil, List.length_append, List.append_assoc, List.take_succ_cons, List.take_zero, List.drop_succ_cons, List.drop_zero, List.set_cons_zero, List.set_cons_succ, true_or, or_true, and_self, Bool.false_eq_true, Nat.le_refl, Option.bind_some, Option.map_some, Option.getD_some, Option.isSome_some, List.map_cons, List.map_nil, List.cons_append, List.nil_append, List.append_nil, List.getElem?_cons_zero, List.getElem?_cons_succ, eq_self, Int.reduceLT, Int.reduceLE, Int.reduceNeg, Int.reduceEq, l0, tk0, l1, tk1, c1, c2, e6_3, e7_3, e2_3, e3_3, ld21, td21, ld22, td22, ld25, td25, ld27, td27, ld43, td43, ld44, td44, garg0, garg1, gvar3, gx21, gx22, gvar23]
            refine .inl ⟨by kernel_rfl, ?_⟩; refine MissingVolume_i' (s.pull 1 rfl).gHere (s.pull 0 rfl).gHere fun h45 E45 => ?_
            have s := s.mono E45
            have garg0 := (s.pull 12 rfl).rdAll (n := 3) l0.symm
            have garg1 := (s.pull 11 rfl).rdAll (n := 5) l1.symm
            have gvar3 := (s.pull 10 rfl).rdAll (n := 2) ld3.symm
            have gx21 := (s.pull 8 rfl).rdAll (n := 3) ld21.symm
            have gx22 := (s.pull 6 rfl).rdAll (n := 5) ld22.symm
            have gvar23 := (s.pull 5 rfl).rdAll (n := 2) ld23.symm
            try simp (disch := omega) only [VW, VY, VZ, VA, VB, VC, VE, TY, ↓reduceIte, Nat.reduceEqDiff, Nat.reduceAdd, Nat.reduceMul, Nat.reduceSub, Nat.reduceLeDiff, List.length_cons, List.length_nil, List.length_append, List.append_assoc, List.take_succ_cons, List.take_zero, List.drop_succ_cons, List.drop_zero, List.set_cons_zero, List.set_cons_succ, true_or, or_true, and_self, Bool.false_eq_true, Nat.le_refl, Option.bind_some, Option.map_some, Option.getD_some, Option.isSome_some, List.map_cons, List.map_nil, List.cons_append, List.nil_append, List.append_nil, List.getElem?_cons_zero, List.getElem?_cons_succ, eq_self, Int.reduceLT, Int.reduceLE, Int.reduceNeg, Int.reduceEq, l0, tk0, l1, tk1, c1, c2, e6_3, e7_3, e2_3, e3_3, ld21, td21, ld22, td22, ld25, td25, ld27, td27, ld43, td43, ld44, td44, garg0, garg1, gvar3, gx21, gx22, gvar23]
            refine tail_step [(9, [10], [], false)] (by kernel_rfl) (by kernel_rfl) (a_cons (by simp only [List.filterMap_cons, List.filterMap_nil, List.getElem?_cons_zero, List.getElem?_cons_succ]; rfl) (by kernel_rfl) ?_ trivial)
            focus
              have garg0 := (s.pull 12 rfl).rdAll (n := 3) l0.symm
              have garg1 := (s.pull 11 rfl).rdAll (n := 5) l1.symm
              have gvar3 := (s.pull 10 rfl).rdAll (n := 2) ld3.symm
              have gx21 := (s.pull 8 rfl).rdAll (n := 3) ld21.symm
              have gx22 := (s.pull 6 rfl).rdAll (n := 5) ld22.symm
              have gvar23 := (s.pull 5 rfl).rdAll (n := 2) ld23.symm
              try simp (disch := omega) only [VW, VY, VZ, VA, VB, VC, VE, TY, ↓reduceIte, Nat.reduceEqDiff, Nat.reduceAdd, Nat.reduceMul, Nat.reduceSub, Nat.reduceLeDiff, List.length_cons, List.length_nil, List.length_append, List.append_assoc, List.take_succ_cons, List.take_zero, List.drop_succ_cons, List.drop_zero, List.set_cons_zero, List.set_cons_succ, true_or, or_true, and_self, Bool.false_eq_true, Nat.le_refl, Option.bind_some, Option.map_some, Option.getD_some, Option.isSome_some, List.map_cons, List.map_nil, List.cons_append, List.nil_append, List.append_nil, List.getElem?_cons_zero, List.getElem?_cons_succ, eq_self, Int.reduceLT, Int.reduceLE, Int.reduceNeg, Int.reduceEq, l0, tk0, l1, tk1, c1, c2, e6_3, e7_3, e2_3, e3_3, ld21, td21, ld22, td22, ld25, td25, ld27, td27, ld43, td43, ld44, td44, garg0, garg1, gvar3, gx21, gx22, gvar23]
              refine sep_store (s.pull 2 rfl) (by simp) fun h46 s => ?_
              have s := s.as (ds := [.int .i64 (missV x0 x1).n, .int .i64 (missV x0 x1).k]) (by simp [t_put])
              have garg0 := (s.pull 12 rfl).rdAll (n := 3) l0.symm
              have garg1 := (s.pull 11 rfl).rdAll (n := 5) l1.symm
              have gvar3 := (s.pull 10 rfl).rdAll (n := 2) ld3.symm
              have gx21 := (s.pull 8 rfl).rdAll (n := 3) ld21.symm
              have gx22 := (s.pull 6 rfl).rdAll (n := 5) ld22.symm
              have gvar23 := (s.pull 5 rfl).rdAll (n := 2) ld23.symm
              try simp (disch := omega) only [VW, VY, VZ, VA, VB, VC, VE, TY, ↓reduceIte, Nat.reduceEqDiff, Nat.reduceAdd, Nat.reduceMul, Nat.reduceSub, Nat.reduceLeDiff, List.length_cons, List.length_nil, List.length_append, List.append_assoc, List.take_succ_cons, List.take_zero, List.drop_succ_cons, List.drop_zero, List.set_cons_zero, List.set_cons_succ, true_or, or_true, and_self, Bool.false_eq_true, Nat.le_refl, Option.bind_some, Option.map_some, Option.getD_some, Option.isSome_some, List.map_cons, List.map_nil, List.cons_append, List.nil_append, List.append_nil, List.getElem?_cons_zero, List.getElem?_cons_succ, eq_self, Int.reduceLT, Int.reduceLE, Int.reduceNeg, Int.reduceEq, l0, tk0, l1, tk1, c1, c2, e6_3, e7_3, e2_3, e3_3, ld21, td21, ld22, td22, ld25, td25, ld27, td27, ld43, td43, ld44, td44, garg0, garg1, gvar3, gx21, gx22, gvar23]
              have s := s.pull 12 rfl
              have s := s.pull 12 rfl
              have s := s.pull 12 rfl
              have s := s.pull 3 rfl
              unfold Post
              exact ⟨_, rfl, rfl, e2_3, e3_3, e6_3, e7_3, Sep.keep (L := [_, _, _, _]) s⟩
  rintro e29 h29 ⟨b29, e12_29, e13_29, e2_29, e3_29, e6_29, e7_29, s⟩
  have ld29 : ([.int .i64 (missV x0 x1).n, .int .i64 (missV x0 x1).k] : List Value).length = 2 := rfl
  have garg0 := (s.pull 3 rfl).rdAll (n := 3) l0.symm
  have garg1 := (s.pull 2 rfl).rdAll (n := 5) l1.symm
  have gvar3 := (s.pull 1 rfl).rdAll (n := 2) ld3.symm
  have gvar29 := (s.pull 0 rfl).rdAll (n := 2) ld29.symm
  try simp (disch := omega) only [VW, VY, VZ, VA, VB, VC, VE, TY, ↓reduceIte, Nat.reduceEqDiff, Nat.reduceAdd, Nat.reduceMul, Nat.reduceSub, Nat.reduceLeDiff, List.length_cons, List.length_nil, List.length_append, List.append_assoc, List.take_succ_cons, List.take_zero, List.drop_succ_cons, List.drop_zero, List.set_cons_zero, List.set_cons_succ, true_or, or_true, and_self, Bool.false_eq_true, Nat.le_refl, Option.bind_some, Option.map_some, Option.getD_some, Option.isSome_some, List.map_cons, List.map_nil, List.cons_append, List.nil_append, List.append_nil, List.getElem?_cons_zero, List.getElem?_cons_succ, eq_self, Int.reduceLT, Int.reduceLE, Int.reduceNeg, Int.reduceEq, l0, tk0, l1, tk1, c1, c2, ld21, td21, ld22, td22, ld25, td25, ld27, td27, e12_29, e13_29, e2_29, e3_29, e6_29, e7_29, garg0, garg1, gvar3, gvar29, b_neb, bne_self_eq_false, beq_self_eq_true]
  refine .inl ⟨by kernel_rfl, ?_⟩; refine eqDyadic_c (mk_Dy (missV_sz x0 x1).1 (missV_sz x0 x1).2) (mk_Dy (missV_sz x0 x1).1 (missV_sz x0 x1).2) fun h47 E47 => ?_
  have s := s.mono E47
  have garg0 := (s.pull 3 rfl).rdAll (n := 3) l0.symm
  have garg1 := (s.pull 2 rfl).rdAll (n := 5) l1.symm
  have gvar3 := (s.pull 1 rfl).rdAll (n := 2) ld3.symm
  have gvar29 := (s.pull 0 rfl).rdAll (n := 2) ld29.symm
  try simp (disch := omega) only [VW, VY, VZ, VA, VB, VC, VE, TY, ↓reduceIte, Nat.reduceEqDiff, Nat.reduceAdd, Nat.reduceMul, Nat.reduceSub, Nat.reduceLeDiff, List.length_cons, List.length_nil, List.length_append, List.append_assoc, List.take_succ_cons, List.take_zero, List.drop_succ_cons, List.drop_zero, List.set_cons_zero, List.set_cons_succ, true_or, or_true, and_self, Bool.false_eq_true, Nat.le_refl, Option.bind_some, Option.map_some, Option.getD_some, Option.isSome_some, List.map_cons, List.map_nil, List.cons_append, List.nil_append, List.append_nil, List.getElem?_cons_zero, List.getElem?_cons_succ, eq_self, Int.reduceLT, Int.reduceLE, Int.reduceNeg, Int.reduceEq, l0, tk0, l1, tk1, c1, c2, ld21, td21, ld22, td22, ld25, td25, ld27, td27, e12_29, e13_29, e2_29, e3_29, e6_29, e7_29, garg0, garg1, gvar3, gvar29, b_neb, bne_self_eq_false, beq_self_eq_true]
end Go.Proofs
