/- Contracts of functions, facts of types, or the plain law behind one statement (own work): LU4. Conditions: those told in each theorem. -/
import Derived.Test.YtlnephhhcofilaaGreatMV
import Derived.Test.YtlnephhhcofilaaGreatH3
set_option linter.all false
set_option linter.unusedSimpArgs false
set_option linter.unusedVariables false
set_option maxRecDepth 4000
namespace Go.Proofs
open Go Go.V
open Nat renaming reduceEqDiff → jA, reduceAdd → jB, reduceMul → jD, reduceSub → jE, reduceLeDiff → jF
open Int renaming reduceLT → jG, reduceLE → jH, reduceNeg → jI, reduceEq → jJ
theorem partsWithZeros_law {h : Heap} {x0 : (List (List Tm))} {v0 : Value} {x1 : Bx} {cs1 : List Value} (i0 : Row h x0 v0) (i1 : Here h x1 cs1) : CallsV Tryz.prog 6 [v0, .agg cs1.toArray] h fun v _ => v = .bool true := by
  refine CallsV.start Tryz.func6 rfl (by rw [Tryz.results6]) (by kernel_rfl) (by rw [Tryz.ntmps6]; simp) ?_
  have l1 := Here.len i1
  rw [Bx.sz] at l1
  have tk1 : cs1.take 3 = cs1 := List.take_of_length_le (Nat.le_of_eq l1)
  have s := Sep.blk1 h cs1 25 true
  have garg1 := (s.pull 0 rfl).rdAll (n := 3) l1.symm
  try simp (disch := omega) only [WA, ↓reduceIte, jA, jB, jD, jE, jF, jG, jH, jI, jJ, l1, tk1, garg1, b_neb, bne_self_eq_false, beq_self_eq_true]
  refine .inl ⟨by kernel_rfl, ?_⟩; refine szTermSS_c (i0.mono s.ext) (by omega) (by omega) fun h1 E1 => ?_
  have s := s.mono E1
  by_cases z0 : (1000000 : Int) < (Siz.siz x0 : Int)
  · rw [szR_lt z0]
    simp (disch := omega) only [WA, ↓reduceIte, jA, jB, jD, jE, jF, jG, jH, jI, jJ]
  rw [szR_ge z0]
  have c1 : ¬ (1000000 - (Siz.siz x0 : Int)) < 0 := by omega
  have n0 : Siz.siz x0 ≤ 1000000 := by omega
  have garg1 := (s.pull 0 rfl).rdAll (n := 3) l1.symm
  try simp (disch := omega) only [WA, ↓reduceIte, jA, jB, jD, jE, jF, jG, jH, jI, jJ, l1, tk1, c1, garg1, b_neb, bne_self_eq_false, beq_self_eq_true]
  refine .inl ⟨by kernel_rfl, ?_⟩; refine szBox_c (i1.mono s.ext) (by omega) (by omega) fun h2 E2 => ?_
  have s := s.mono E2
  by_cases z1 : (1000000 - (Siz.siz x0 : Int) : Int) < (Siz.siz x1 : Int)
  · rw [szR_lt z1]
    simp (disch := omega) only [WA, ↓reduceIte, jA, jB, jD, jE, jF, jG, jH, jI, jJ]
  rw [szR_ge z1]
  have c2 : ¬ (1000000 - (Siz.siz x0 : Int) - (Siz.siz x1 : Int)) < 0 := by omega
  have n1 : Siz.siz x1 ≤ 1000000 := by omega
  have garg1 := (s.pull 0 rfl).rdAll (n := 3) l1.symm
  try simp (disch := omega) only [WA, ↓reduceIte, jA, jB, jD, jE, jF, jG, jH, jI, jJ, l1, tk1, c1, c2, garg1, b_neb, bne_self_eq_false, beq_self_eq_true]
  refine draw_ord [0, 2, 1, 3, 4, 5, 6, 7, 8, 9] (by kernel_rfl) (by simp only [WLF]; rfl) ?_
  try simp (disch := omega) only [WA, ↓reduceIte, jA, jB, jD, jE, jF, jG, jH, jI, jJ, l1, tk1, c1, c2, garg1, b_neb, bne_self_eq_false, beq_self_eq_true]
  refine .inl ⟨by kernel_rfl, ?_⟩; refine toTermSS_c (b := false) (i0.mono s.ext) n0 fun w3 h3 s3 => ?_
  have s := s.add s3
  have garg1 := (s.pull 1 rfl).rdAll (n := 3) l1.symm
  try simp (disch := omega) only [WA, ↓reduceIte, jA, jB, jD, jE, jF, jG, jH, jI, jJ, l1, tk1, c1, c2, garg1, b_neb, bne_self_eq_false, beq_self_eq_true]
  refine .inl ⟨by kernel_rfl, ?_⟩; refine toBox_c (b := false) (i1.mono s.ext) n1 fun ds4 h4 s4 => ?_
  have s := s.add s4
  have ld4 : ds4.length = 3 := s4.gpull
  have td4 : ds4.take 3 = ds4 := List.take_of_length_le (Nat.le_of_eq ld4)
  have garg1 := (s.pull 2 rfl).rdAll (n := 3) l1.symm
  try simp (disch := omega) only [WA, ↓reduceIte, jA, jB, jD, jE, jF, jG, jH, jI, jJ, l1, tk1, c1, c2, ld4, td4, garg1, b_neb, bne_self_eq_false, beq_self_eq_true]
  refine .inl ⟨by kernel_rfl, ?_⟩; refine PartsWithZeros_s (s.pull 1 rfl).gRep.rowR (s.pull 0 rfl).gHere fun w5 h5 s5 => ?_
  have s := s.add s5
  have pl5 := s5.rowR.isRow.plain
  have garg1 := (s.pull 3 rfl).rdAll (n := 3) l1.symm
  try simp (disch := omega) only [WA, ↓reduceIte, jA, jB, jD, jE, jF, jG, jH, jI, jJ, l1, tk1, c1, c2, ld4, td4, pl5, garg1, b_neb, bne_self_eq_false, beq_self_eq_true]
  refine .inl ⟨by kernel_rfl, ?_⟩; refine toTermSS_c (b := false) (i0.mono s.ext) n0 fun w6 h6 s6 => ?_
  have s := s.add s6
  have garg1 := (s.pull 4 rfl).rdAll (n := 3) l1.symm
  try simp (disch := omega) only [WA, ↓reduceIte, jA, jB, jD, jE, jF, jG, jH, jI, jJ, l1, tk1, c1, c2, ld4, td4, pl5, garg1, b_neb, bne_self_eq_false, beq_self_eq_true]
  refine .inl ⟨by kernel_rfl, ?_⟩; refine toBox_c (b := false) (i1.mono s.ext) n1 fun ds7 h7 s7 => ?_
  have s := s.add s7
  have ld7 : ds7.length = 3 := s7.gpull
  have td7 : ds7.take 3 = ds7 := List.take_of_length_le (Nat.le_of_eq ld7)
  have garg1 := (s.pull 5 rfl).rdAll (n := 3) l1.symm
  try simp (disch := omega) only [WA, ↓reduceIte, jA, jB, jD, jE, jF, jG, jH, jI, jJ, l1, tk1, c1, c2, ld4, td4, pl5, ld7, td7, garg1]
  have s := s.newBlk ds7 32 true
  have garg1 := (s.pull 6 rfl).rdAll (n := 3) l1.symm
  have gx7 := (s.pull 0 rfl).rdAll (n := 3) ld7.symm
  try simp (disch := omega) only [WA, ↓reduceIte, jA, jB, jD, jE, jF, jG, jH, jI, jJ, l1, tk1, c1, c2, ld4, td4, pl5, ld7, td7, garg1, gx7, b_neb, bne_self_eq_false, beq_self_eq_true]
  refine .inl ⟨by kernel_rfl, ?_⟩; refine PartsWithZeros_i (s.pull 2 rfl).gRep.rowR (s.pull 1 rfl).gHere fun w8 h8 s8 => ?_
  have s := s.add s8
  have pl8 := s8.rowR.isRow.plain
  have garg1 := (s.pull 7 rfl).rdAll (n := 3) l1.symm
  have gx7 := (s.pull 1 rfl).rdAll (n := 3) ld7.symm
  try simp (disch := omega) only [WA, ↓reduceIte, jA, jB, jD, jE, jF, jG, jH, jI, jJ, l1, tk1, c1, c2, ld4, td4, pl5, ld7, td7, pl8, garg1, gx7, b_neb, bne_self_eq_false, beq_self_eq_true]
  refine .inl ⟨by kernel_rfl, ?_⟩; refine eqIntS_c ((s.pull 0 rfl).rowR) ((s.pull 4 rfl).rowR) fun h9 E9 => ?_
  have s := s.mono E9
  have garg1 := (s.pull 7 rfl).rdAll (n := 3) l1.symm
  have gx7 := (s.pull 1 rfl).rdAll (n := 3) ld7.symm
  try simp (disch := omega) only [WA, ↓reduceIte, jA, jB, jD, jE, jF, jG, jH, jI, jJ, l1, tk1, c1, c2, ld4, td4, pl5, ld7, td7, pl8, garg1, gx7, b_neb, bne_self_eq_false, beq_self_eq_true]
  refine .inl ⟨by kernel_rfl, ?_⟩; refine toTermSS_c (b := false) (i0.mono s.ext) n0 fun w10 h10 s10 => ?_
  have s := s.add s10
  have garg1 := (s.pull 8 rfl).rdAll (n := 3) l1.symm
  have gx7 := (s.pull 2 rfl).rdAll (n := 3) ld7.symm
  try simp (disch := omega) only [WA, ↓reduceIte, jA, jB, jD, jE, jF, jG, jH, jI, jJ, l1, tk1, c1, c2, ld4, td4, pl5, ld7, td7, pl8, garg1, gx7, b_neb, bne_self_eq_false, beq_self_eq_true]
  refine .inl ⟨by kernel_rfl, ?_⟩; refine intactTermSS_c (s.pull 4 rfl).gGiv (s.pull 0 rfl).gGiv n0 fun h11 E11 => ?_
  have s := s.mono E11
  have garg1 := (s.pull 8 rfl).rdAll (n := 3) l1.symm
  have gx7 := (s.pull 2 rfl).rdAll (n := 3) ld7.symm
  try simp (disch := omega) only [WA, ↓reduceIte, jA, jB, jD, jE, jF, jG, jH, jI, jJ, l1, tk1, c1, c2, ld4, td4, pl5, ld7, td7, pl8, garg1, gx7, b_neb, bne_self_eq_false, beq_self_eq_true]
  refine draw_ord [0, 1, 2, 3, 4] (by kernel_rfl) (by simp only [WLF]; rfl) ?_
  try simp (disch := omega) only [WA, ↓reduceIte, jA, jB, jD, jE, jF, jG, jH, jI, jJ, l1, tk1, c1, c2, ld4, td4, pl5, ld7, td7, pl8, garg1, gx7, b_neb, bne_self_eq_false, beq_self_eq_true]
  refine .inl ⟨by kernel_rfl, ?_⟩; refine toBox_c (b := false) (i1.mono s.ext) n1 fun ds12 h12 s12 => ?_
  have s := s.add s12
  have ld12 : ds12.length = 3 := s12.gpull
  have td12 : ds12.take 3 = ds12 := List.take_of_length_le (Nat.le_of_eq ld12)
  have garg1 := (s.pull 9 rfl).rdAll (n := 3) l1.symm
  have gx7 := (s.pull 3 rfl).rdAll (n := 3) ld7.symm
  try simp (disch := omega) only [WA, ↓reduceIte, jA, jB, jD, jE, jF, jG, jH, jI, jJ, l1, tk1, c1, c2, ld4, td4, pl5, ld7, td7, pl8, ld12, td12, garg1, gx7, b_neb, bne_self_eq_false, beq_self_eq_true]
  refine .inl ⟨by kernel_rfl, ?_⟩; refine intactBox_c (s.pull 4 rfl).gGiv (s.pull 0 rfl).gGiv n1 fun h13 E13 => ?_
  have s := s.mono E13
  have garg1 := (s.pull 9 rfl).rdAll (n := 3) l1.symm
  have gx7 := (s.pull 3 rfl).rdAll (n := 3) ld7.symm
  try simp (disch := omega) only [WA, ↓reduceIte, jA, jB, jD, jE, jF, jG, jH, jI, jJ, l1, tk1, c1, c2, ld4, td4, pl5, ld7, td7, pl8, ld12, td12, garg1, gx7, b_neb, bne_self_eq_false, beq_self_eq_true]
  refine .inl ⟨by kernel_rfl, ?_⟩; refine markTermSS_c (s.pull 5 rfl).gRep (by decide) (by have := cntL_le x0; omega) fun h14 s => ?_
  have nk14 : ¬ (101 : Int) + (cntL x0 : Nat) < 0 := by omega
  have garg1 := (s.pull 9 rfl).rdAll (n := 3) l1.symm
  have gx7 := (s.pull 4 rfl).rdAll (n := 3) ld7.symm
  try simp (disch := omega) only [WA, ↓reduceIte, jA, jB, jD, jE, jF, jG, jH, jI, jJ, l1, tk1, c1, c2, ld4, td4, pl5, ld7, td7, pl8, ld12, td12, nk14, garg1, gx7, b_neb, bne_self_eq_false, beq_self_eq_true]
  refine .inl ⟨by kernel_rfl, ?_⟩; refine markBox_c (s.pull 5 rfl).gRep (by omega) (by have := CntB.c x1; have := cntL_le x0; omega) fun h15 s => ?_
  have nk15 : ¬ (101 : Int) + (cntL x0 : Nat) + (Mrk.cnt x1 : Nat) < 0 := by omega
  have garg1 := (s.pull 9 rfl).rdAll (n := 3) l1.symm
  have gx7 := (s.pull 5 rfl).rdAll (n := 3) ld7.symm
  try simp (disch := omega) only [WA, ↓reduceIte, jA, jB, jD, jE, jF, jG, jH, jI, jJ, l1, tk1, c1, c2, ld4, td4, pl5, ld7, td7, pl8, ld12, td12, nk14, nk15, garg1, gx7, b_neb, bne_self_eq_false, beq_self_eq_true]
  refine .inl ⟨by kernel_rfl, ?_⟩; refine eqIntS_c ((s.pull 4 rfl).rowR) ((s.pull 6 rfl).rowR) fun h16 E16 => ?_
  have s := s.mono E16
  have garg1 := (s.pull 9 rfl).rdAll (n := 3) l1.symm
  have gx7 := (s.pull 5 rfl).rdAll (n := 3) ld7.symm
  try simp (disch := omega) only [WA, ↓reduceIte, jA, jB, jD, jE, jF, jG, jH, jI, jJ, l1, tk1, c1, c2, ld4, td4, pl5, ld7, td7, pl8, ld12, td12, nk14, nk15, garg1, gx7, b_neb, bne_self_eq_false, beq_self_eq_true]
  refine .inl ⟨by kernel_rfl, ?_⟩; refine markIntS_c (s.pull 4 rfl) (by decide) (by have := pz_cnt x0 x1; omega) fun h17 s => ?_
  have garg1 := (s.pull 9 rfl).rdAll (n := 3) l1.symm
  have gx7 := (s.pull 5 rfl).rdAll (n := 3) ld7.symm
  try simp (disch := omega) only [WA, ↓reduceIte, jA, jB, jD, jE, jF, jG, jH, jI, jJ, l1, tk1, c1, c2, ld4, td4, pl5, ld7, td7, pl8, ld12, td12, nk14, nk15, garg1, gx7, b_neb, bne_self_eq_false, beq_self_eq_true]
  refine .inl ⟨by kernel_rfl, ?_⟩; refine heldIntS_c (l := (pzM x0 x1).1) (s.pull 0 rfl).rowR (by decide) (by have := pz_cnt x0 x1; omega) fun h18 E18 => ?_
  have s := s.mono E18
  have nk18 : ¬ (101 : Int) + (cntL ((pzM x0 x1).1) : Nat) < 0 := by omega
  have garg1 := (s.pull 9 rfl).rdAll (n := 3) l1.symm
  have gx7 := (s.pull 5 rfl).rdAll (n := 3) ld7.symm
  try simp (disch := omega) only [WA, ↓reduceIte, jA, jB, jD, jE, jF, jG, jH, jI, jJ, l1, tk1, c1, c2, ld4, td4, pl5, ld7, td7, pl8, ld12, td12, nk14, nk15, nk18, garg1, gx7, b_neb, bne_self_eq_false, beq_self_eq_true]
  refine draw_ord [0, 2, 1, 3, 4, 5, 6, 7, 8, 9] (by kernel_rfl) (by simp only [WLF]; rfl) ?_
  try simp (disch := omega) only [WA, ↓reduceIte, jA, jB, jD, jE, jF, jG, jH, jI, jJ, l1, tk1, c1, c2, ld4, td4, pl5, ld7, td7, pl8, ld12, td12, nk14, nk15, nk18, garg1, gx7, b_neb, bne_self_eq_false, beq_self_eq_true]
  refine .inl ⟨by kernel_rfl, ?_⟩; refine toTermSS_c (b := true) (i0.mono s.ext) n0 fun w19 h19 s19 => ?_
  have s := s.add s19
  have garg1 := (s.pull 10 rfl).rdAll (n := 3) l1.symm
  have gx7 := (s.pull 6 rfl).rdAll (n := 3) ld7.symm
  try simp (disch := omega) only [WA, ↓reduceIte, jA, jB, jD, jE, jF, jG, jH, jI, jJ, l1, tk1, c1, c2, ld4, td4, pl5, ld7, td7, pl8, ld12, td12, nk14, nk15, nk18, garg1, gx7, b_neb, bne_self_eq_false, beq_self_eq_true]
  refine .inl ⟨by kernel_rfl, ?_⟩; refine toBox_c (b := true) (i1.mono s.ext) n1 fun ds20 h20 s20 => ?_
  have s := s.add s20
  have ld20 : ds20.length = 3 := s20.gpull
  have td20 : ds20.take 3 = ds20 := List.take_of_length_le (Nat.le_of_eq ld20)
  have garg1 := (s.pull 11 rfl).rdAll (n := 3) l1.symm
  have gx7 := (s.pull 7 rfl).rdAll (n := 3) ld7.symm
  try simp (disch := omega) only [WA, ↓reduceIte, jA, jB, jD, jE, jF, jG, jH, jI, jJ, l1, tk1, c1, c2, ld4, td4, pl5, ld7, td7, pl8, ld12, td12, nk14, nk15, nk18, ld20, td20, garg1, gx7, b_neb, bne_self_eq_false, beq_self_eq_true]
  refine .inl ⟨by kernel_rfl, ?_⟩; refine PartsWithZeros_i (s.pull 1 rfl).gRep.rowR (s.pull 0 rfl).gHere fun w21 h21 s21 => ?_
  have s := s.add s21
  have pl21 := s21.rowR.isRow.plain
  have garg1 := (s.pull 12 rfl).rdAll (n := 3) l1.symm
  have gx7 := (s.pull 8 rfl).rdAll (n := 3) ld7.symm
  try simp (disch := omega) only [WA, ↓reduceIte, jA, jB, jD, jE, jF, jG, jH, jI, jJ, l1, tk1, c1, c2, ld4, td4, pl5, ld7, td7, pl8, ld12, td12, nk14, nk15, nk18, ld20, td20, pl21, garg1, gx7, b_neb, bne_self_eq_false, beq_self_eq_true]
  refine .inl ⟨by kernel_rfl, ?_⟩; refine eqIntS_c ((s.pull 0 rfl).rowR) ((s.pull 9 rfl).rowR) fun h22 E22 => ?_
  have s := s.mono E22
  have garg1 := (s.pull 12 rfl).rdAll (n := 3) l1.symm
  have gx7 := (s.pull 8 rfl).rdAll (n := 3) ld7.symm
  try simp (disch := omega) only [WA, ↓reduceIte, jA, jB, jD, jE, jF, jG, jH, jI, jJ, l1, tk1, c1, c2, ld4, td4, pl5, ld7, td7, pl8, ld12, td12, nk14, nk15, nk18, ld20, td20, pl21, garg1, gx7, b_neb, bne_self_eq_false, beq_self_eq_true]
  refine .inl ⟨by kernel_rfl, ?_⟩; refine heldIntS_c (l := (pzM x0 x1).1) (s.pull 3 rfl).rowR (by decide) (by have := pz_cnt x0 x1; omega) fun h23 E23 => ?_
  have s := s.mono E23
  have nk23 : ¬ (101 : Int) + (cntL ((pzM x0 x1).1) : Nat) < 0 := by omega
  have garg1 := (s.pull 12 rfl).rdAll (n := 3) l1.symm
  have gx7 := (s.pull 8 rfl).rdAll (n := 3) ld7.symm
  try simp (disch := omega) only [WA, ↓reduceIte, jA, jB, jD, jE, jF, jG, jH, jI, jJ, l1, tk1, c1, c2, ld4, td4, pl5, ld7, td7, pl8, ld12, td12, nk14, nk15, nk18, ld20, td20, pl21, nk23, garg1, gx7, b_neb, bne_self_eq_false, beq_self_eq_true]
end Go.Proofs
