/- Contracts of functions, facts of types, or the plain law behind one statement (own work): WU. Conditions: those told in each theorem. -/
import Derived.Test.YtiiolloielppeaaGreatDoorWT
set_option linter.all false
set_option linter.unusedSimpArgs false
set_option linter.unusedVariables false
set_option maxRecDepth 4000
namespace Go.Proofs
open Go Go.V
theorem l1NumI_c {n : Int} {h : Heap} {Q : Value → Heap → Prop} (h0 : 0 ≤ n) (h1 : n ≤ 1000000) (hQ : ∀ h', Ext h h' → Q (.string (bL (Lib.itoa n))) h') : CallsV Tryz.prog 44 [.int .i64 n] h Q := by
  obtain ⟨k, rfl⟩ : ∃ k : Nat, n = (k : Int) := ⟨n.toNat, by omega⟩
  exact l1Num_c k h Q (by omega) fun h' E => by rw [decB_L]; exact hQ h' E
theorem bxText_c {x : Bx} {cs : List Value} {h : Heap} {Q : Value → Heap → Prop} (hx : Here h x cs) (hb : boxM x = true) (hQ : ∀ h', Ext h h' → Q (.string (bL (boxL x))) h') :
    CallsV Tryz.prog 48 [.agg cs.toArray] h Q := by
  obtain ⟨v1, v2, rfl, f1, r1, r2⟩ := here_Bx hx
  obtain ⟨hk, hl3, hlh, hsm⟩ := box_small hb
  refine CallsV.start Tryz.func48 rfl (by rw [Tryz.results48]) (by kernel_rfl) (by rw [Tryz.ntmps48]; simp) ?_
  have s := Sep.blk1 h [.int .i64 x.k, v1, v2] 38 true
  have hkl := boxK_len hb
  have a1 := cat (a := bL (Lib.itoa x.k)) (b := ⟨#[58]⟩) (by rw [one_size, bL_size]; omega)
  simp (disch := omega) only [VW, VY, VZ, VA, VB, VC, VE, TY, ↓reduceIte, Nat.reduceEqDiff, Nat.reduceAdd, Nat.reduceMul, Nat.reduceSub, Nat.reduceLeDiff, List.length_cons, List.length_nil, List.length_append, List.append_assoc, List.take_succ_cons, List.take_zero, List.drop_succ_cons, List.drop_zero, List.set_cons_zero, List.set_cons_succ, true_or, or_true, and_self, Bool.false_eq_true, Nat.le_refl, Option.bind_some, Option.map_some, Option.getD_some, Option.isSome_some, List.map_cons, List.map_nil, List.cons_append, List.nil_append, List.append_nil, List.getElem?_cons_zero, List.getElem?_cons_succ, eq_self, Int.reduceLT, Int.reduceLE, Int.reduceNeg, Int.reduceEq]
  refine .inl ⟨by kernel_rfl, ?_⟩; refine l1NumI_c hk.1 (by omega) fun h1 E1 => ?_
  have s := s.mono E1
  have g := s.rd
  have r1' := r1.mono s.ext
  simp (disch := omega) only [VW, VY, VZ, VA, VB, VC, VE, TY, ↓reduceIte, Nat.reduceEqDiff, Nat.reduceAdd, Nat.reduceMul, Nat.reduceSub, Nat.reduceLeDiff, List.length_cons, List.length_nil, List.length_append, List.append_assoc, List.take_succ_cons, List.take_zero, List.drop_succ_cons, List.drop_zero, List.set_cons_zero, List.set_cons_succ, true_or, or_true, and_self, Bool.false_eq_true, Nat.le_refl, Option.bind_some, Option.map_some, Option.getD_some, Option.isSome_some, List.map_cons, List.map_nil, List.cons_append, List.nil_append, List.append_nil, List.getElem?_cons_zero, List.getElem?_cons_succ, eq_self, Int.reduceLT, Int.reduceLE, Int.reduceNeg, Int.reduceEq, a1, g, r1'.isRow.len]
  have hzl : (x.low.zip x.high).length = x.low.length := by rw [List.length_zip]; omega
  refine loop_rule (fun n e h' => ∃ (i : Nat), e 1 = .pointer (some ⟨h.length, 0, none⟩) ∧ e 11 = v1 ∧ e 12 = .int .i64 x.low.length ∧ e 13 = .int .i64 i ∧
    e 3 = .string (bL (Lib.itoa x.k ++ [58] ++ ((x.low.zip x.high).take i).flatMap pairT)) ∧ i ≤ x.low.length ∧ n = x.low.length - i ∧ Sep h h' [blkA h.length [.int .i64 x.k, v1, v2] 38]) ?_ x.low.length _ _
    ⟨0, rfl, rfl, rfl, rfl, by simp [upd, ← bL_app]; rfl, Nat.zero_le _, rfl, s⟩
  rintro n e h' ⟨i, e1, e11, e12, e13, e3, hi, rfl, s⟩
  have g := s.rd
  have r1 := r1.mono s.ext
  have r2 := r2.mono s.ext
  simp (disch := omega) only [VW, VY, VZ, VA, VB, VC, VE, TY, ↓reduceIte, Nat.reduceEqDiff, Nat.reduceAdd, Nat.reduceMul, Nat.reduceSub, Nat.reduceLeDiff, List.length_cons, List.length_nil, List.length_append, List.append_assoc, List.take_succ_cons, List.take_zero, List.drop_succ_cons, List.drop_zero, List.set_cons_zero, List.set_cons_succ, true_or, or_true, and_self, Bool.false_eq_true, Nat.le_refl, Option.bind_some, Option.map_some, Option.getD_some, Option.isSome_some, List.map_cons, List.map_nil, List.cons_append, List.nil_append, List.append_nil, List.getElem?_cons_zero, List.getElem?_cons_succ, eq_self, Int.reduceLT, Int.reduceLE, Int.reduceNeg, Int.reduceEq, e12, e13]
  by_cases hlt : i < x.low.length
  · obtain ⟨y, hy⟩ := get_some hlt
    obtain ⟨z, hz⟩ := get_some (show i < x.high.length by omega)
    have hyz := zip_get hy hz
    obtain ⟨y1, y2⟩ := row_int r1 hy
    obtain ⟨z1, z2⟩ := row_int r2 hz
    have q1 : (i : Int) < (x.low.length : Int) := by omega
    have q2 : (i : Int) < (x.high.length : Int) := by omega
    have hpl := pairs_len hb i
    have sm := hsm _ (List.mem_of_getElem? hyz)
    have hy4 := itoa_len (n := y) 4 (by decide) (by have : (10 : Nat) ^ 4 = 10000 := by decide
                                                    omega)
    have hz4 := itoa_len (n := z) 4 (by decide) (by have : (10 : Nat) ^ 4 = 10000 := by decide
                                                    omega)
    generalize hacc : Lib.itoa x.k ++ [58] ++ ((x.low.zip x.high).take i).flatMap pairT = acc at *
    have hal : acc.length ≤ 38 := by rw [← hacc]; simp only [List.length_append, List.length_cons, List.length_nil]; omega
    have b1 := cat (a := ⟨#[32]⟩) (b := bL (Lib.itoa y)) (by simp only [size_append, one_size, bL_size]; omega)
    have b2 := cat (a := ⟨#[32]⟩ ++ bL (Lib.itoa y)) (b := ⟨#[32]⟩) (by simp only [size_append, one_size, bL_size]; omega)
    have b3 := cat (a := ⟨#[32]⟩ ++ bL (Lib.itoa y) ++ ⟨#[32]⟩) (b := bL (Lib.itoa z)) (by simp only [size_append, one_size, bL_size]; omega)
    have b4 := cat (a := bL acc) (b := ⟨#[32]⟩ ++ bL (Lib.itoa y) ++ ⟨#[32]⟩ ++ bL (Lib.itoa z)) (by simp only [size_append, one_size, bL_size]; omega)
    simp (disch := omega) only [VW, VY, VZ, VA, VB, VC, VE, TY, ↓reduceIte, Nat.reduceEqDiff, Nat.reduceAdd, Nat.reduceMul, Nat.reduceSub, Nat.reduceLeDiff, List.length_cons, List.length_nil, List.length_append, List.append_assoc, List.take_succ_cons, List.take_zero, List.drop_succ_cons, List.drop_zero, List.set_cons_zero, List.set_cons_succ, true_or, or_true, and_self, Bool.false_eq_true, Nat.le_refl, Option.bind_some, Option.map_some, Option.getD_some, Option.isSome_some, List.map_cons, List.map_nil, List.cons_append, List.nil_append, List.append_nil, List.getElem?_cons_zero, List.getElem?_cons_succ, eq_self, Int.reduceLT, Int.reduceLE, Int.reduceNeg, Int.reduceEq, e1, e11, e13, q1, r1.isRow.ix, y1]
    refine draw_ord [0, 1, 5, 6, 7, 8, 9, 2, 3, 4, 10, 11, 12, 13] (by kernel_rfl) (by simp only [List.filterMap_cons, List.filterMap_nil, List.getElem?_cons_zero, List.getElem?_cons_succ]; rfl) ?_
    simp (disch := omega) only [VW, VY, VZ, VA, VB, VC, VE, TY, ↓reduceIte, Nat.reduceEqDiff, Nat.reduceAdd, Nat.reduceMul, Nat.reduceSub, Nat.reduceLeDiff, List.length_cons, List.length_nil, List.length_append, List.append_assoc, List.take_succ_cons, List.take_zero, List.drop_succ_cons, List.drop_zero, List.set_cons_zero, List.set_cons_succ, true_or, or_true, and_self, Bool.false_eq_true, Nat.le_refl, Option.bind_some, Option.map_some, Option.getD_some, Option.isSome_some, List.map_cons, List.map_nil, List.cons_append, List.nil_append, List.append_nil, List.getElem?_cons_zero, List.getElem?_cons_succ, eq_self, Int.reduceLT, Int.reduceLE, Int.reduceNeg, Int.reduceEq, e1, e3, g, r2.isRow.ix, z1, q2]
    refine .inl ⟨by kernel_rfl, ?_⟩; refine l1Int_c (by omega) fun h2 E2 => ?_
    have s := s.mono E2
    have g := s.rd
    have r2 := r2.mono E2
    obtain ⟨z1, _⟩ := row_int r2 hz
    simp (disch := omega) only [VW, VY, VZ, VA, VB, VC, VE, TY, ↓reduceIte, Nat.reduceEqDiff, Nat.reduceAdd, Nat.reduceMul, Nat.reduceSub, Nat.reduceLeDiff, List.length_cons, List.length_nil, List.length_append, List.append_assoc, List.take_succ_cons, List.take_zero, List.drop_succ_cons, List.drop_zero, List.set_cons_zero, List.set_cons_succ, true_or, or_true, and_self, Bool.false_eq_true, Nat.le_refl, Option.bind_some, Option.map_some, Option.getD_some, Option.isSome_some, List.map_cons, List.map_nil, List.cons_append, List.nil_append, List.append_nil, List.getElem?_cons_zero, List.getElem?_cons_succ, eq_self, Int.reduceLT, Int.reduceLE, Int.reduceNeg, Int.reduceEq, b1, b2, z1, g]
    refine .inl ⟨by kernel_rfl, ?_⟩; refine l1Int_c (by omega) fun h3 E3 => ?_
    have s := s.mono E3
    have key : bL acc ++ (⟨#[32]⟩ ++ bL (Lib.itoa y) ++ ⟨#[32]⟩ ++ bL (Lib.itoa z)) = bL (Lib.itoa x.k ++ [58] ++ ((x.low.zip x.high).take (i + 1)).flatMap pairT) := by
      rw [flat_take pairT hyz, ← List.append_assoc, hacc]
      simp only [one_bL, bL_app]; rfl
    have g := s.rd
    have r2 := r2.mono E3
    obtain ⟨z1, _⟩ := row_int r2 hz
    simp (disch := omega) only [VW, VY, VZ, VA, VB, VC, VE, TY, ↓reduceIte, Nat.reduceEqDiff, Nat.reduceAdd, Nat.reduceMul, Nat.reduceSub, Nat.reduceLeDiff, List.length_cons, List.length_nil, List.length_append, List.append_assoc, List.take_succ_cons, List.take_zero, List.drop_succ_cons, List.drop_zero, List.set_cons_zero, List.set_cons_succ, true_or, or_true, and_self, Bool.false_eq_true, Nat.le_refl, Option.bind_some, Option.map_some, Option.getD_some, Option.isSome_some, List.map_cons, List.map_nil, List.cons_append, List.nil_append, List.append_nil, List.getElem?_cons_zero, List.getElem?_cons_succ, eq_self, Int.reduceLT, Int.reduceLE, Int.reduceNeg, Int.reduceEq, b3, b4, e11, e12, e13, e1, wrap_in, z1, g]
    refine ⟨_, by omega, i + 1, by simp, ?_, by omega, rfl, s⟩
    rw [key]; simp
  · obtain rfl : i = x.low.length := by omega
    have q1 : ¬ (x.low.length : Int) < (x.low.length : Int) := by omega
    rw [← hzl, List.take_length] at e3
    have e3 : e 3 = .string (bL (boxL x)) := e3
    simp (disch := omega) only [VW, VY, VZ, VA, VB, VC, VE, TY, ↓reduceIte, Nat.reduceEqDiff, Nat.reduceAdd, Nat.reduceMul, Nat.reduceSub, Nat.reduceLeDiff, List.length_cons, List.length_nil, List.length_append, List.append_assoc, List.take_succ_cons, List.take_zero, List.drop_succ_cons, List.drop_zero, List.set_cons_zero, List.set_cons_succ, true_or, or_true, and_self, Bool.false_eq_true, Nat.le_refl, Option.bind_some, Option.map_some, Option.getD_some, Option.isSome_some, List.map_cons, List.map_nil, List.cons_append, List.nil_append, List.append_nil, List.getElem?_cons_zero, List.getElem?_cons_succ, eq_self, Int.reduceLT, Int.reduceLE, Int.reduceNeg, Int.reduceEq, e3, q1]
    exact hQ _ s.ext
theorem cpText_c {x : Wk} {t : Int} {cs : List Value} {h : Heap} {Q : Value → Heap → Prop} (hx : Here h x cs) (hw : workM x t = true) (hQ : ∀ h', Ext h h' → Q (.string (bL (workL x))) h') :
    CallsV Tryz.prog 29 [.agg cs.toArray] h Q := by
  have hxx := hx
  obtain ⟨v1, v2, v3, v4, rfl, r1, r2, r3, r4, f5⟩ := here_Wk hx
  refine CallsV.start Tryz.func29 rfl (by rw [Tryz.results29]) (by kernel_rfl) (by rw [Tryz.ntmps29]; simp) ?_
  have s := Sep.blk1 h [v1, v2, v3, v4, .int .i64 x.steps] 24 true
  have ws := work_steps hw
  have hsl := steps_len ws
  have z6 : (⟨#[115, 116, 101, 112, 115, 32]⟩ : ByteArray).size = 6 := rfl
  have hil := itoa_len0 (n := x.steps) 5 (by decide) ws.1 (by have : (10 : Nat) ^ 5 = 100000 := by decide
                                                              omega)
  have a1 := cat (a := ⟨#[115, 116, 101, 112, 115, 32]⟩) (b := bL (Lib.itoa x.steps)) (by rw [z6, bL_size]; omega)
  have a2 := cat (a := ⟨#[115, 116, 101, 112, 115, 32]⟩ ++ bL (Lib.itoa x.steps)) (b := ⟨#[10]⟩) (by rw [size_append, z6, one_size, bL_size]; omega)
  have a3 := stepsB x.steps
  simp (disch := omega) only [VW, VY, VZ, VA, VB, VC, VE, TY, ↓reduceIte, Nat.reduceEqDiff, Nat.reduceAdd, Nat.reduceMul, Nat.reduceSub, Nat.reduceLeDiff, List.length_cons, List.length_nil, List.length_append, List.append_assoc, List.take_succ_cons, List.take_zero, List.drop_succ_cons, List.drop_zero, List.set_cons_zero, List.set_cons_succ, true_or, or_true, and_self, Bool.false_eq_true, Nat.le_refl, Option.bind_some, Option.map_some, Option.getD_some, Option.isSome_some, List.map_cons, List.map_nil, List.cons_append, List.nil_append, List.append_nil, List.getElem?_cons_zero, List.getElem?_cons_succ, eq_self, Int.reduceLT, Int.reduceLE, Int.reduceNeg, Int.reduceEq]
  refine .inl ⟨by kernel_rfl, ?_⟩; refine l1NumI_c ws.1 (by omega) fun h1 E1 => ?_
  have s := s.mono E1
  have ga := s.rdAll (n := 5) rfl
  simp (disch := omega) only [VW, VY, VZ, VA, VB, VC, VE, TY, ↓reduceIte, Nat.reduceEqDiff, Nat.reduceAdd, Nat.reduceMul, Nat.reduceSub, Nat.reduceLeDiff, List.length_cons, List.length_nil, List.length_append, List.append_assoc, List.take_succ_cons, List.take_zero, List.drop_succ_cons, List.drop_zero, List.set_cons_zero, List.set_cons_succ, true_or, or_true, and_self, Bool.false_eq_true, Nat.le_refl, Option.bind_some, Option.map_some, Option.getD_some, Option.isSome_some, List.map_cons, List.map_nil, List.cons_append, List.nil_append, List.append_nil, List.getElem?_cons_zero, List.getElem?_cons_succ, eq_self, Int.reduceLT, Int.reduceLE, Int.reduceNeg, Int.reduceEq, a1, a2, a3, ga]
  refine .inl ⟨by kernel_rfl, ?_⟩; refine brLists_c (hxx.mono s.ext) fun vl H E2 rl => ?_
  have E := s.ext.trans E2
  have hl4 : (lists x).length = 4 := rfl
  have hz4 : (namesL.zip (lists x)).length = 4 := rfl
  have len := rl.isRow.len Tryz.prog
  rw [hl4] at len
  have n4 : ((4 : Nat) : Int) = 4 := rfl
  simp (disch := omega) only [VW, VY, VZ, VA, VB, VC, VE, TY, ↓reduceIte, Nat.reduceEqDiff, Nat.reduceAdd, Nat.reduceMul, Nat.reduceSub, Nat.reduceLeDiff, List.length_cons, List.length_nil, List.length_append, List.append_assoc, List.take_succ_cons, List.take_zero, List.drop_succ_cons, List.drop_zero, List.set_cons_zero, List.set_cons_succ, true_or, or_true, and_self, Bool.false_eq_true, Nat.le_refl, Option.bind_some, Option.map_some, Option.getD_some, Option.isSome_some, List.map_cons, List.map_nil, List.cons_append, List.nil_append, List.append_nil, List.getElem?_cons_zero, List.getElem?_cons_succ, eq_self, Int.reduceLT, Int.reduceLE, Int.reduceNeg, Int.reduceEq, len]
  refine loop_rule (fun n e h' => ∃ (j : Nat), e 14 = vl ∧ e 15 = .int .i64 (4 : Nat) ∧ e 16 = .int .i64 j ∧ e 3 = .string (bL (stepsL x.steps) ++ bL (((namesL.zip (lists x)).take j).flatMap listT)) ∧ j ≤ 4 ∧ n = 4 - j ∧ Ext H h') ?_ 4 _ _
    ⟨0, rfl, rfl, rfl, by simp [upd, bL_app], by omega, rfl, .refl _⟩
  rintro n e h' ⟨j, e14, e15, e16, e3, hj, rfl, EH⟩
  have E := E.trans EH
  have rl := rl.mono EH
  simp (disch := omega) only [VW, VY, VZ, VA, VB, VC, VE, TY, ↓reduceIte, Nat.reduceEqDiff, Nat.reduceAdd, Nat.reduceMul, Nat.reduceSub, Nat.reduceLeDiff, List.length_cons, List.length_nil, List.length_append, List.append_assoc, List.take_succ_cons, List.take_zero, List.drop_succ_cons, List.drop_zero, List.set_cons_zero, List.set_cons_succ, true_or, or_true, and_self, Bool.false_eq_true, Nat.le_refl, Option.bind_some, Option.map_some, Option.getD_some, Option.isSome_some, List.map_cons, List.map_nil, List.cons_append, List.nil_append, List.append_nil, List.getElem?_cons_zero, List.getElem?_cons_succ, eq_self, Int.reduceLT, Int.reduceLE, Int.reduceNeg, Int.reduceEq, e14, e15, e16]
  by_cases hlt : j < 4
  · obtain ⟨l, hl⟩ := get_some (show j < (lists x).length by omega)
    obtain ⟨nm, hnm⟩ := get_some (show j < namesL.length from hlt)
    have hzj := zip_get hnm hl
    obtain ⟨v, x3, rv⟩ := row_list rl hl
    have q1 : (j : Int) < ((4 : Nat) : Int) := by omega
    have q1' : (j : Int) < 4 := by omega
    have ix := rl.isRow.ix Tryz.prog
    rw [hl4] at ix
    have hle := rv.le
    have hbx := work_box hw l (List.mem_of_getElem? hl)
    have hn5 := names_len nm (List.mem_of_getElem? hnm)
    have hll := lists_len hw j
    simp (disch := omega) only [VW, VY, VZ, VA, VB, VC, VE, TY, ↓reduceIte, Nat.reduceEqDiff, Nat.reduceAdd, Nat.reduceMul, Nat.reduceSub, Nat.reduceLeDiff, List.length_cons, List.length_nil, List.length_append, List.append_assoc, List.take_succ_cons, List.take_zero, List.drop_succ_cons, List.drop_zero, List.set_cons_zero, List.set_cons_succ, true_or, or_true, and_self, Bool.false_eq_true, Nat.le_refl, Option.bind_some, Option.map_some, Option.getD_some, Option.isSome_some, List.map_cons, List.map_nil, List.cons_append, List.nil_append, List.append_nil, List.getElem?_cons_zero, List.getElem?_cons_succ, eq_self, Int.reduceLT, Int.reduceLE, Int.reduceNeg, Int.reduceEq, e14, e15, e16, q1, q1', ix, x3, rv.isRow.len]
    generalize hacc : stepsL x.steps ++ ((namesL.zip (lists x)).take j).flatMap listT = acc
    rw [bL_app, hacc] at e3
    have hal : acc.length ≤ 7300 := by rw [← hacc, List.length_append]; omega
    refine loop_rule (fun n e h2 => ∃ (i : Nat), e 14 = vl ∧ e 15 = .int .i64 (4 : Nat) ∧ e 16 = .int .i64 j ∧ e 4 = .int .i64 j ∧ e 21 = v ∧ e 22 = .int .i64 l.length ∧ e 23 = .int .i64 i ∧ e 3 = .string (bL acc ++ bL ((l.take i).flatMap (lineT nm))) ∧ i ≤ l.length ∧ n = l.length - i ∧ Ext h' h2) ?_ l.length _ _
      ⟨0, e14, e15, e16, rfl, rfl, rfl, rfl, by simpa [upd, bL_app] using e3, by omega, rfl, .refl _⟩
    rintro n e h2 ⟨i, e14, e15, e16, e4, e21, e22, e23, e3, hi, rfl, E2⟩
    have rv := rv.mono E2
    simp (disch := omega) only [VW, VY, VZ, VA, VB, VC, VE, TY, ↓reduceIte, Nat.reduceEqDiff, Nat.reduceAdd, Nat.reduceMul, Nat.reduceSub, Nat.reduceLeDiff, List.length_cons, List.length_nil, List.length_append, List.append_assoc, List.take_succ_cons, List.take_zero, List.drop_succ_cons, List.drop_zero, List.set_cons_zero, List.set_cons_succ, true_or, or_true, and_self, Bool.false_eq_true, Nat.le_refl, Option.bind_some, Option.map_some, Option.getD_some, Option.isSome_some, List.map_cons, List.map_nil, List.cons_append, List.nil_append, List.append_nil, List.getElem?_cons_zero, List.getElem?_cons_succ, eq_self, Int.reduceLT, Int.reduceLE, Int.reduceNeg, Int.reduceEq, e22, e23]
    by_cases hlt2 : i < l.length
    · obtain ⟨y, hy⟩ := get_some hlt2
      have q2 : (i : Int) < (l.length : Int) := by omega
      have hby := hbx.2 y (List.mem_of_getElem? hy)
      have hyl := boxL_len hby
      have hli := lines_len hn5 hbx.2 hbx.1 i
      have b1 := cat (a := bL nm) (b := ⟨#[32]⟩) (by simp only [size_append, one_size, bL_size]; omega)
      have b2 := cat (a := bL nm ++ ⟨#[32]⟩) (b := bL (boxL y)) (by simp only [size_append, one_size, bL_size]; omega)
      have b3 := cat (a := bL nm ++ ⟨#[32]⟩ ++ bL (boxL y)) (b := ⟨#[10]⟩) (by simp only [size_append, one_size, bL_size]; omega)
      have b4 := cat (a := bL acc ++ bL ((l.take i).flatMap (lineT nm))) (b := bL nm ++ ⟨#[32]⟩ ++ bL (boxL y) ++ ⟨#[10]⟩) (by simp only [size_append, one_size, bL_size]; omega)
      have py := rv.ptr hy
      rw [Bx.sz] at py
      obtain ⟨w1, w2, y0, y1, y2, t1, t2, t3, ya⟩ := at_Bx py
      have hyh : Here h2 y [.int .i64 y.k, w1, w2] := mk_Bx t1 t2 t3
      simp (disch := omega) only [VW, VY, VZ, VA, VB, VC, VE, TY, ↓reduceIte, Nat.reduceEqDiff, Nat.reduceAdd, Nat.reduceMul, Nat.reduceSub, Nat.reduceLeDiff, List.length_cons, List.length_nil, List.length_append, List.append_assoc, List.take_succ_cons, List.take_zero, List.drop_succ_cons, List.drop_zero, List.set_cons_zero, List.set_cons_succ, true_or, or_true, and_self, Bool.false_eq_true, Nat.le_refl, Option.bind_some, Option.map_some, Option.getD_some, Option.isSome_some, List.map_cons, List.map_nil, List.cons_append, List.nil_append, List.append_nil, List.getElem?_cons_zero, List.getElem?_cons_succ, eq_self, Int.reduceLT, Int.reduceLE, Int.reduceNeg, Int.reduceEq, e21, e23, q2, rv.isRow.ix, ya]
      have sp := Sep.blk1 h2 [.int .i64 y.k, w1, w2] 38 true
      refine draw_ord [0, 2, 6, 1, 3, 4, 5, 7, 8, 9, 10, 11] (by kernel_rfl) (by simp only [List.filterMap_cons, List.filterMap_nil, List.getElem?_cons_zero, List.getElem?_cons_succ]; rfl) ?_
      simp (disch := omega) only [VW, VY, VZ, VA, VB, VC, VE, TY, ↓reduceIte, Nat.reduceEqDiff, Nat.reduceAdd, Nat.reduceMul, Nat.reduceSub, Nat.reduceLeDiff, List.length_cons, List.length_nil, List.length_append, List.append_assoc, List.take_succ_cons, List.take_zero, List.drop_succ_cons, List.drop_zero, List.set_cons_zero, List.set_cons_succ, true_or, or_true, and_self, Bool.false_eq_true, Nat.le_refl, Option.bind_some, Option.map_some, Option.getD_some, Option.isSome_some, List.map_cons, List.map_nil, List.cons_append, List.nil_append, List.append_nil, List.getElem?_cons_zero, List.getElem?_cons_succ, eq_self, Int.reduceLT, Int.reduceLE, Int.reduceNeg, Int.reduceEq, e3, e4]
      refine .inl ⟨by kernel_rfl, ?_⟩; refine cpNames_c fun vn h3 E3 rn => ?_
      have sp := sp.mono E3
      have ixn := rn.isRow.ix Tryz.prog
      have hn4 : (namesL.map bL).length = 4 := rfl
      rw [hn4] at ixn
      obtain ⟨x4, _⟩ := row_str rn (show (namesL.map bL)[j]? = some (bL nm) by rw [List.getElem?_map, hnm]; rfl)
      have ga := sp.rdAll (n := 3) rfl
      simp (disch := omega) only [VW, VY, VZ, VA, VB, VC, VE, TY, ↓reduceIte, Nat.reduceEqDiff, Nat.reduceAdd, Nat.reduceMul, Nat.reduceSub, Nat.reduceLeDiff, List.length_cons, List.length_nil, List.length_append, List.append_assoc, List.take_succ_cons, List.take_zero, List.drop_succ_cons, List.drop_zero, List.set_cons_zero, List.set_cons_succ, true_or, or_true, and_self, Bool.false_eq_true, Nat.le_refl, Option.bind_some, Option.map_some, Option.getD_some, Option.isSome_some, List.map_cons, List.map_nil, List.cons_append, List.nil_append, List.append_nil, List.getElem?_cons_zero, List.getElem?_cons_succ, eq_self, Int.reduceLT, Int.reduceLE, Int.reduceNeg, Int.reduceEq, ixn, x4, q1', q1, b1, ga]
      refine .inl ⟨by kernel_rfl, ?_⟩; refine bxText_c (hyh.mono sp.ext) hby fun h4 E4 => ?_
      have x4 := E4.keepC x4
      have sp := sp.mono E4
      have ga := sp.rdAll (n := 3) rfl
      simp (disch := omega) only [VW, VY, VZ, VA, VB, VC, VE, TY, ↓reduceIte, Nat.reduceEqDiff, Nat.reduceAdd, Nat.reduceMul, Nat.reduceSub, Nat.reduceLeDiff, List.length_cons, List.length_nil, List.length_append, List.append_assoc, List.take_succ_cons, List.take_zero, List.drop_succ_cons, List.drop_zero, List.set_cons_zero, List.set_cons_succ, true_or, or_true, and_self, Bool.false_eq_true, Nat.le_refl, Option.bind_some, Option.map_some, Option.getD_some, Option.isSome_some, List.map_cons, List.map_nil, List.cons_append, List.nil_append, List.append_nil, List.getElem?_cons_zero, List.getElem?_cons_succ, eq_self, Int.reduceLT, Int.reduceLE, Int.reduceNeg, Int.reduceEq, x4, ga, b2, b3, b4, e14, e15, e16, e4, e21, e22, e23, wrap_in]
      refine ⟨_, by omega, i + 1, by simp, ?_, by omega, rfl, E2.trans sp.ext⟩
      rw [flat_take (lineT nm) hy, lineB', ← bL_app, ByteArray.append_assoc]
    · obtain rfl : i = l.length := by omega
      have q2 : ¬ (l.length : Int) < (l.length : Int) := by omega
      rw [List.take_length] at e3
      simp (disch := omega) only [VW, VY, VZ, VA, VB, VC, VE, TY, ↓reduceIte, Nat.reduceEqDiff, Nat.reduceAdd, Nat.reduceMul, Nat.reduceSub, Nat.reduceLeDiff, List.length_cons, List.length_nil, List.length_append, List.append_assoc, List.take_succ_cons, List.take_zero, List.drop_succ_cons, List.drop_zero, List.set_cons_zero, List.set_cons_succ, true_or, or_true, and_self, Bool.false_eq_true, Nat.le_refl, Option.bind_some, Option.map_some, Option.getD_some, Option.isSome_some, List.map_cons, List.map_nil, List.cons_append, List.nil_append, List.append_nil, List.getElem?_cons_zero, List.getElem?_cons_succ, eq_self, Int.reduceLT, Int.reduceLE, Int.reduceNeg, Int.reduceEq, e14, e15, e16, q2, wrap_in]
      refine ⟨_, by omega, j + 1, by simp, ?_, by omega, rfl, EH.trans E2⟩
      rw [e3, flat_take listT hzj, bL_app, bL_app, ← List.append_assoc, hacc]; rfl
  · obtain rfl : j = 4 := by omega
    have q4 : ¬ ((4 : Nat) : Int) < ((4 : Nat) : Int) := by decide
    have q5 : ¬ ((4 : Nat) : Int) < 4 := by decide
    rw [← hz4, List.take_length, bL_app] at e3
    have e3 : e 3 = .string (bL (workL x)) := e3
    simp (disch := omega) only [VW, VY, VZ, VA, VB, VC, VE, TY, ↓reduceIte, Nat.reduceEqDiff, Nat.reduceAdd, Nat.reduceMul, Nat.reduceSub, Nat.reduceLeDiff, List.length_cons, List.length_nil, List.length_append, List.append_assoc, List.take_succ_cons, List.take_zero, List.drop_succ_cons, List.drop_zero, List.set_cons_zero, List.set_cons_succ, true_or, or_true, and_self, Bool.false_eq_true, Nat.le_refl, Option.bind_some, Option.map_some, Option.getD_some, Option.isSome_some, List.map_cons, List.map_nil, List.cons_append, List.nil_append, List.append_nil, List.getElem?_cons_zero, List.getElem?_cons_succ, eq_self, Int.reduceLT, Int.reduceLE, Int.reduceNeg, Int.reduceEq, e3, q4, q5]
    exact hQ _ E
end Go.Proofs
