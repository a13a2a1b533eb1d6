/- Contracts of functions, facts of types, or the plain law behind one statement (own work): DM. Conditions: those told in each theorem. -/
import Derived.Test.YtkapgaajomaheaaGreatDoorDO
import Derived.Test.YtkapgaajomaheaaGreatDoorDP
import Derived.Test.YtkapgaajomaheaaGreatDoorDQ
set_option linter.all false
set_option linter.unusedSimpArgs false
set_option linter.unusedVariables false
set_option maxRecDepth 4000
namespace Go.Proofs
open Go Go.V
/- Journals: appended marks are the last ones, compact ones tell the same. -/
theorem journals_law {h : Heap} {x0 x1 : List UInt8} {v0 v1 : Value} (i0 : Row h x0 v0) (b0 : x0.length ≤ 140737488351232) (i1 : Row h x1 v1) (b1 : x1.length ≤ 140737488351232) : CallsV Tryz.prog 3 [v0, v1] h fun v _ => v = .bool true := by
  refine CallsV.start Tryz.func3 rfl (by rw [Tryz.results3]) (by kernel_rfl) (by rw [Tryz.ntmps3]; simp) ?_
  have hw : IntKind.wrap .i64 ((x0.length : Int) + (x1.length : Int)) = (x0.length : Int) + (x1.length : Int) := wrap_in _ (by omega)
  by_cases z : (1048576 : Int) < (x0.length : Int) + (x1.length : Int)
  · simp (disch := omega) only [VW, VY, VZ, VA, VB, VC, VE, TY, ↓reduceIte, Nat.reduceEqDiff, Nat.reduceAdd, Nat.reduceMul, Nat.reduceSub, Nat.reduceLeDiff, List.length_cons, List.length_nil, List.length_append, List.append_assoc, List.take_succ_cons, List.take_zero, List.drop_succ_cons, List.drop_zero, List.set_cons_zero, List.set_cons_succ, true_or, or_true, and_self, Bool.false_eq_true, Nat.le_refl, Option.bind_some, Option.map_some, Option.getD_some, Option.isSome_some, List.map_cons, List.map_nil, List.cons_append, List.nil_append, List.append_nil, List.getElem?_cons_zero, List.getElem?_cons_succ, eq_self, Int.reduceLT, Int.reduceLE, Int.reduceNeg, Int.reduceEq, i0.isRow.len, i1.isRow.len, hw, z]
  simp (disch := omega) only [VW, VY, VZ, VA, VB, VC, VE, TY, ↓reduceIte, Nat.reduceEqDiff, Nat.reduceAdd, Nat.reduceMul, Nat.reduceSub, Nat.reduceLeDiff, List.length_cons, List.length_nil, List.length_append, List.append_assoc, List.take_succ_cons, List.take_zero, List.drop_succ_cons, List.drop_zero, List.set_cons_zero, List.set_cons_succ, true_or, or_true, and_self, Bool.false_eq_true, Nat.le_refl, Option.bind_some, Option.map_some, Option.getD_some, Option.isSome_some, List.map_cons, List.map_nil, List.cons_append, List.nil_append, List.append_nil, List.getElem?_cons_zero, List.getElem?_cons_succ, eq_self, Int.reduceLT, Int.reduceLE, Int.reduceNeg, Int.reduceEq, i0.isRow.len, i1.isRow.len, hw, z]
  refine .inl ⟨by kernel_rfl, ?_⟩; refine drawAppend_c i0 (by omega) fun j m hj hm hmk h1 E1 => ?_
  have s := (Sep.nil E1).newBlk (jC j) 24 true
  have s := s.newBlk (mC m) 26 true
  simp only [List.append_assoc, List.cons_append, List.nil_append, List.length_append, List.length_cons, List.length_nil, Nat.zero_add] at s
  have gj := (s.pull 1 rfl).rdAll (n := 2) rfl
  have gm := s.rdAll (n := 2) rfl
  have hJ := jn_okJ (j := j) (by omega)
  have hM : ∀ h, Here h m (mC m) := fun h => mk_Mk (x := m) (by omega) hmk
  have sJ := siz_le_Jn (j := j) (by omega)
  simp (disch := omega) only [VW, VY, VZ, VA, VB, VC, VE, TY, ↓reduceIte, Nat.reduceEqDiff, Nat.reduceAdd, Nat.reduceMul, Nat.reduceSub, Nat.reduceLeDiff, List.length_cons, List.length_nil, List.length_append, List.append_assoc, List.take_succ_cons, List.take_zero, List.drop_succ_cons, List.drop_zero, List.set_cons_zero, List.set_cons_succ, true_or, or_true, and_self, Bool.false_eq_true, Nat.le_refl, Option.bind_some, Option.map_some, Option.getD_some, Option.isSome_some, List.map_cons, List.map_nil, List.cons_append, List.nil_append, List.append_nil, List.getElem?_cons_zero, List.getElem?_cons_succ, eq_self, Int.reduceLT, Int.reduceLE, Int.reduceNeg, Int.reduceEq, gj, gm]
  refine .inl ⟨by kernel_rfl, ?_⟩; refine AppendMark_i (hJ _) (hM _) sJ (siz_le_Mk (m := m) (by omega)) fun h2 E2 => ?_
  have s := (s.mono E2).newBlk (jC (appendM j m).1) 24 true
  have gj := (s.pull 2 rfl).rdAll (n := 2) rfl
  have gm := (s.pull 1 rfl).rdAll (n := 2) rfl
  simp (disch := omega) only [VW, VY, VZ, VA, VB, VC, VE, TY, ↓reduceIte, Nat.reduceEqDiff, Nat.reduceAdd, Nat.reduceMul, Nat.reduceSub, Nat.reduceLeDiff, List.length_cons, List.length_nil, List.length_append, List.append_assoc, List.take_succ_cons, List.take_zero, List.drop_succ_cons, List.drop_zero, List.set_cons_zero, List.set_cons_succ, true_or, or_true, and_self, Bool.false_eq_true, Nat.le_refl, Option.bind_some, Option.map_some, Option.getD_some, Option.isSome_some, List.map_cons, List.map_nil, List.cons_append, List.nil_append, List.append_nil, List.getElem?_cons_zero, List.getElem?_cons_succ, eq_self, Int.reduceLT, Int.reduceLE, Int.reduceNeg, Int.reduceEq, gj, gm]
  refine .inl ⟨by kernel_rfl, ?_⟩; refine AppendMark_s (hJ _) (hM _) sJ (siz_le_Mk (m := m) (by omega)) fun h3 E3 => ?_
  have s := (s.mono E3).newBlk (jC (appendM j m).1) 24 true
  have gj := (s.pull 3 rfl).rdAll (n := 2) rfl
  simp (disch := omega) only [VW, VY, VZ, VA, VB, VC, VE, TY, ↓reduceIte, Nat.reduceEqDiff, Nat.reduceAdd, Nat.reduceMul, Nat.reduceSub, Nat.reduceLeDiff, List.length_cons, List.length_nil, List.length_append, List.append_assoc, List.take_succ_cons, List.take_zero, List.drop_succ_cons, List.drop_zero, List.set_cons_zero, List.set_cons_succ, true_or, or_true, and_self, Bool.false_eq_true, Nat.le_refl, Option.bind_some, Option.map_some, Option.getD_some, Option.isSome_some, List.map_cons, List.map_nil, List.cons_append, List.nil_append, List.append_nil, List.getElem?_cons_zero, List.getElem?_cons_succ, eq_self, Int.reduceLT, Int.reduceLE, Int.reduceNeg, Int.reduceEq, gj]
  refine .inl ⟨by kernel_rfl, ?_⟩; refine MarksOf_i (hJ _) sJ fun w11 h4 s4 => ?_
  have s := s.add s4
  have gj := (s.pull 4 rfl).rdAll (n := 2) rfl
  simp (disch := omega) only [VW, VY, VZ, VA, VB, VC, VE, TY, ↓reduceIte, Nat.reduceEqDiff, Nat.reduceAdd, Nat.reduceMul, Nat.reduceSub, Nat.reduceLeDiff, List.length_cons, List.length_nil, List.length_append, List.append_assoc, List.take_succ_cons, List.take_zero, List.drop_succ_cons, List.drop_zero, List.set_cons_zero, List.set_cons_succ, true_or, or_true, and_self, Bool.false_eq_true, Nat.le_refl, Option.bind_some, Option.map_some, Option.getD_some, Option.isSome_some, List.map_cons, List.map_nil, List.cons_append, List.nil_append, List.append_nil, List.getElem?_cons_zero, List.getElem?_cons_succ, eq_self, Int.reduceLT, Int.reduceLE, Int.reduceNeg, Int.reduceEq, gj]
  refine .inl ⟨by kernel_rfl, ?_⟩; refine MarksOf_s (hJ _) sJ fun w13 h5 s5 => ?_
  have s := s.add s5
  have gj := (s.pull 5 rfl).rdAll (n := 2) rfl
  simp (disch := omega) only [VW, VY, VZ, VA, VB, VC, VE, TY, ↓reduceIte, Nat.reduceEqDiff, Nat.reduceAdd, Nat.reduceMul, Nat.reduceSub, Nat.reduceLeDiff, List.length_cons, List.length_nil, List.length_append, List.append_assoc, List.take_succ_cons, List.take_zero, List.drop_succ_cons, List.drop_zero, List.set_cons_zero, List.set_cons_succ, true_or, or_true, and_self, Bool.false_eq_true, Nat.le_refl, Option.bind_some, Option.map_some, Option.getD_some, Option.isSome_some, List.map_cons, List.map_nil, List.cons_append, List.nil_append, List.append_nil, List.getElem?_cons_zero, List.getElem?_cons_succ, eq_self, Int.reduceLT, Int.reduceLE, Int.reduceNeg, Int.reduceEq, gj]
  refine .inl ⟨by kernel_rfl, ?_⟩; refine CompactJournal_i (hJ _) sJ fun h6 E6 => ?_
  have s := (s.mono E6).newBlk (jC (compactM j).1) 24 true
  have gj := (s.pull 6 rfl).rdAll (n := 2) rfl
  simp (disch := omega) only [VW, VY, VZ, VA, VB, VC, VE, TY, ↓reduceIte, Nat.reduceEqDiff, Nat.reduceAdd, Nat.reduceMul, Nat.reduceSub, Nat.reduceLeDiff, List.length_cons, List.length_nil, List.length_append, List.append_assoc, List.take_succ_cons, List.take_zero, List.drop_succ_cons, List.drop_zero, List.set_cons_zero, List.set_cons_succ, true_or, or_true, and_self, Bool.false_eq_true, Nat.le_refl, Option.bind_some, Option.map_some, Option.getD_some, Option.isSome_some, List.map_cons, List.map_nil, List.cons_append, List.nil_append, List.append_nil, List.getElem?_cons_zero, List.getElem?_cons_succ, eq_self, Int.reduceLT, Int.reduceLE, Int.reduceNeg, Int.reduceEq, gj]
  refine .inl ⟨by kernel_rfl, ?_⟩; refine CompactJournal_s (hJ _) sJ fun h7 E7 => ?_
  have s := (s.mono E7).newBlk (jC (compactM j).1) 24 true
  have gj := (s.pull 7 rfl).rdAll (n := 2) rfl
  simp (disch := omega) only [VW, VY, VZ, VA, VB, VC, VE, TY, ↓reduceIte, Nat.reduceEqDiff, Nat.reduceAdd, Nat.reduceMul, Nat.reduceSub, Nat.reduceLeDiff, List.length_cons, List.length_nil, List.length_append, List.append_assoc, List.take_succ_cons, List.take_zero, List.drop_succ_cons, List.drop_zero, List.set_cons_zero, List.set_cons_succ, true_or, or_true, and_self, Bool.false_eq_true, Nat.le_refl, Option.bind_some, Option.map_some, Option.getD_some, Option.isSome_some, List.map_cons, List.map_nil, List.cons_append, List.nil_append, List.append_nil, List.getElem?_cons_zero, List.getElem?_cons_succ, eq_self, Int.reduceLT, Int.reduceLE, Int.reduceNeg, Int.reduceEq, gj]
  refine .inl ⟨by kernel_rfl, ?_⟩; refine OpenPaths_i (hJ _) sJ fun w19 h8 s8 => ?_
  have s := s.add s8
  have gj := (s.pull 8 rfl).rdAll (n := 2) rfl
  simp (disch := omega) only [VW, VY, VZ, VA, VB, VC, VE, TY, ↓reduceIte, Nat.reduceEqDiff, Nat.reduceAdd, Nat.reduceMul, Nat.reduceSub, Nat.reduceLeDiff, List.length_cons, List.length_nil, List.length_append, List.append_assoc, List.take_succ_cons, List.take_zero, List.drop_succ_cons, List.drop_zero, List.set_cons_zero, List.set_cons_succ, true_or, or_true, and_self, Bool.false_eq_true, Nat.le_refl, Option.bind_some, Option.map_some, Option.getD_some, Option.isSome_some, List.map_cons, List.map_nil, List.cons_append, List.nil_append, List.append_nil, List.getElem?_cons_zero, List.getElem?_cons_succ, eq_self, Int.reduceLT, Int.reduceLE, Int.reduceNeg, Int.reduceEq, gj]
  refine .inl ⟨by kernel_rfl, ?_⟩; refine OpenPaths_s (hJ _) sJ fun w21 h9 s9 => ?_
  have s := s.add s9
  have gj := (s.pull 9 rfl).rdAll (n := 2) rfl
  simp (disch := omega) only [VW, VY, VZ, VA, VB, VC, VE, TY, ↓reduceIte, Nat.reduceEqDiff, Nat.reduceAdd, Nat.reduceMul, Nat.reduceSub, Nat.reduceLeDiff, List.length_cons, List.length_nil, List.length_append, List.append_assoc, List.take_succ_cons, List.take_zero, List.drop_succ_cons, List.drop_zero, List.set_cons_zero, List.set_cons_succ, true_or, or_true, and_self, Bool.false_eq_true, Nat.le_refl, Option.bind_some, Option.map_some, Option.getD_some, Option.isSome_some, List.map_cons, List.map_nil, List.cons_append, List.nil_append, List.append_nil, List.getElem?_cons_zero, List.getElem?_cons_succ, eq_self, Int.reduceLT, Int.reduceLE, Int.reduceNeg, Int.reduceEq, gj]
  refine .inl ⟨by kernel_rfl, ?_⟩; refine Contradictions_i (hJ _) sJ fun w23 h10 s10 => ?_
  have s := s.add s10
  have gj := (s.pull 10 rfl).rdAll (n := 2) rfl
  simp (disch := omega) only [VW, VY, VZ, VA, VB, VC, VE, TY, ↓reduceIte, Nat.reduceEqDiff, Nat.reduceAdd, Nat.reduceMul, Nat.reduceSub, Nat.reduceLeDiff, List.length_cons, List.length_nil, List.length_append, List.append_assoc, List.take_succ_cons, List.take_zero, List.drop_succ_cons, List.drop_zero, List.set_cons_zero, List.set_cons_succ, true_or, or_true, and_self, Bool.false_eq_true, Nat.le_refl, Option.bind_some, Option.map_some, Option.getD_some, Option.isSome_some, List.map_cons, List.map_nil, List.cons_append, List.nil_append, List.append_nil, List.getElem?_cons_zero, List.getElem?_cons_succ, eq_self, Int.reduceLT, Int.reduceLE, Int.reduceNeg, Int.reduceEq, gj]
  refine .inl ⟨by kernel_rfl, ?_⟩; refine Contradictions_s (hJ _) sJ fun w25 h11 s11 => ?_
  have s := s.add s11
  simp (disch := omega) only [VW, VY, VZ, VA, VB, VC, VE, TY, ↓reduceIte, Nat.reduceEqDiff, Nat.reduceAdd, Nat.reduceMul, Nat.reduceSub, Nat.reduceLeDiff, List.length_cons, List.length_nil, List.length_append, List.append_assoc, List.take_succ_cons, List.take_zero, List.drop_succ_cons, List.drop_zero, List.set_cons_zero, List.set_cons_succ, true_or, or_true, and_self, Bool.false_eq_true, Nat.le_refl, Option.bind_some, Option.map_some, Option.getD_some, Option.isSome_some, List.map_cons, List.map_nil, List.cons_append, List.nil_append, List.append_nil, List.getElem?_cons_zero, List.getElem?_cons_succ, eq_self, Int.reduceLT, Int.reduceLE, Int.reduceNeg, Int.reduceEq]
  refine .inl ⟨by kernel_rfl, ?_⟩; refine drawLast_c (i1.mono s.ext) (by omega) fun k path hk hp h12 E12 => ?_
  have s := (s.mono E12).newBlk (jC k) 24 true
  have gk := s.rdAll (n := 2) rfl
  have hK := jn_okJ (j := k) (by omega)
  have sK := siz_le_Jn (j := k) (by omega)
  simp (disch := omega) only [VW, VY, VZ, VA, VB, VC, VE, TY, ↓reduceIte, Nat.reduceEqDiff, Nat.reduceAdd, Nat.reduceMul, Nat.reduceSub, Nat.reduceLeDiff, List.length_cons, List.length_nil, List.length_append, List.append_assoc, List.take_succ_cons, List.take_zero, List.drop_succ_cons, List.drop_zero, List.set_cons_zero, List.set_cons_succ, true_or, or_true, and_self, Bool.false_eq_true, Nat.le_refl, Option.bind_some, Option.map_some, Option.getD_some, Option.isSome_some, List.map_cons, List.map_nil, List.cons_append, List.nil_append, List.append_nil, List.getElem?_cons_zero, List.getElem?_cons_succ, eq_self, Int.reduceLT, Int.reduceLE, Int.reduceNeg, Int.reduceEq, gk]
  refine .inl ⟨by kernel_rfl, ?_⟩; refine LastMark_i (hK _) sK (by omega) fun h13 E13 => ?_
  have s := s.mono E13
  have gk := s.rdAll (n := 2) rfl
  simp (disch := omega) only [VW, VY, VZ, VA, VB, VC, VE, TY, ↓reduceIte, Nat.reduceEqDiff, Nat.reduceAdd, Nat.reduceMul, Nat.reduceSub, Nat.reduceLeDiff, List.length_cons, List.length_nil, List.length_append, List.append_assoc, List.take_succ_cons, List.take_zero, List.drop_succ_cons, List.drop_zero, List.set_cons_zero, List.set_cons_succ, true_or, or_true, and_self, Bool.false_eq_true, Nat.le_refl, Option.bind_some, Option.map_some, Option.getD_some, Option.isSome_some, List.map_cons, List.map_nil, List.cons_append, List.nil_append, List.append_nil, List.getElem?_cons_zero, List.getElem?_cons_succ, eq_self, Int.reduceLT, Int.reduceLE, Int.reduceNeg, Int.reduceEq, gk]
  refine .inl ⟨by kernel_rfl, ?_⟩; refine LastMark_s (hK _) sK (by omega) fun h14 E14 => ?_
  have s := (s.mono E14).tail
  simp only [List.append_eq, List.nil_append, List.cons_append] at s
  have c16 : (compactM j).2 = (marksJ j).isSome := by unfold compactM; cases marksJ j <;> rfl
  have c20 : (openM j).2 = (marksJ j).isSome := by unfold openM; cases marksJ j <;> rfl
  have c24 : (contrM j).2 = (marksJ j).isSome := by unfold contrM; cases marksJ j <;> rfl
  refine ops_cutJ (JrI h j (appendM j m).1 (compactM j).1 m ((marksJ j).getD []) (openM j).1 (contrM j).1 (lastM k path).1 (appendM j m).2 (marksJ j).isSome (lastM k path).2 h1.length (h1.length + 1) h2.length h3.length h6.length h7.length w11 w13 w19 w21 w23 w25) (fun K key => ?_) ?_
  · simp (disch := omega) only [VW, VY, VZ, VA, VB, VC, VE, TY, ↓reduceIte, Nat.reduceEqDiff, Nat.reduceAdd, Nat.reduceMul, Nat.reduceSub, Nat.reduceLeDiff, List.length_cons, List.length_nil, List.length_append, List.append_assoc, List.take_succ_cons, List.take_zero, List.drop_succ_cons, List.drop_zero, List.set_cons_zero, List.set_cons_succ, true_or, or_true, and_self, Bool.false_eq_true, Nat.le_refl, Option.bind_some, Option.map_some, Option.getD_some, Option.isSome_some, List.map_cons, List.map_nil, List.cons_append, List.nil_append, List.append_nil, List.getElem?_cons_zero, List.getElem?_cons_succ, eq_self, Int.reduceLT, Int.reduceLE, Int.reduceNeg, Int.reduceEq]
    exact key _ _ ⟨rfl, rfl, rfl, rfl, rfl, rfl, rfl, rfl, rfl, rfl, rfl, congrArg Value.bool c16, rfl, congrArg Value.bool c16, rfl, congrArg Value.bool c20, rfl, congrArg Value.bool c20, rfl, congrArg Value.bool c24, rfl, congrArg Value.bool c24, rfl, rfl, rfl, rfl, s⟩
  clear s gj gm gk s4 s5 s8 s9 s10 s11 E1 E2 E3 E6 E7 E12 E13 E14 hw
  generalize h1.length = p5 at *
  generalize h2.length = p7 at *
  generalize h3.length = p9 at *
  generalize h6.length = p15 at *
  generalize h7.length = p17 at *
  generalize p5 + 1 = p6 at *
  have hC : compactM j = ((compactM j).1, (marksJ j).isSome) := by rw [← c16]
  rintro e h' i
  refine seq_cutJ (JrI h j (appendM j m).1 (compactM j).1 m ((marksJ j).getD []) (openM j).1 (contrM j).1 (lastM k path).1 (appendM j m).2 (marksJ j).isSome (lastM k path).2 p5 p6 p7 p9 p15 p17 w11 w13 w19 w21 w23 w25) (fun K key => ?_) ?_
  · refine wp_eq (Y := partC [true, true, true, true, true, true, true, true, true, true, true, true, true, true, true, true, false] (Tryz.f3.body.getD .skip)) (by kernel_rfl) ?_
    exact journals_same hj hm hmk rfl key i
  clear i
  rintro e h' i
  refine seq_cutJ (JrI h j (appendM j m).1 (compactM j).1 m ((marksJ j).getD []) (openM j).1 (contrM j).1 (lastM k path).1 (appendM j m).2 (marksJ j).isSome (lastM k path).2 p5 p6 p7 p9 p15 p17 w11 w13 w19 w21 w23 w25) (fun K key => ?_) ?_
  · refine wp_eq (Y := partC [true, true, true, true, true, true, true, true, true, true, true, true, true, true, true, true, true, false] (Tryz.f3.body.getD .skip)) (by kernel_rfl) ?_
    exact journals_append hj hm hmk rfl rfl key i
  clear i
  rintro e h' i
  refine seq_cutJ (JrI h j (appendM j m).1 (compactM j).1 m ((marksJ j).getD []) (openM j).1 (contrM j).1 (lastM k path).1 (appendM j m).2 (marksJ j).isSome (lastM k path).2 p5 p6 p7 p9 p15 p17 w11 w13 w19 w21 w23 w25) (fun K key => ?_) ?_
  · refine wp_eq (Y := partC [true, true, true, true, true, true, true, true, true, true, true, true, true, true, true, true, true, true, false] (Tryz.f3.body.getD .skip)) (by kernel_rfl) ?_
    exact journals_compact hj hC rfl rfl key i
  clear i
  rintro e h' i
  simp (disch := omega) only [VW, VY, VZ, VA, VB, VC, VE, TY, ↓reduceIte, Nat.reduceEqDiff, Nat.reduceAdd, Nat.reduceMul, Nat.reduceSub, Nat.reduceLeDiff, List.length_cons, List.length_nil, List.length_append, List.append_assoc, List.take_succ_cons, List.take_zero, List.drop_succ_cons, List.drop_zero, List.set_cons_zero, List.set_cons_succ, true_or, or_true, and_self, Bool.false_eq_true, Nat.le_refl, Option.bind_some, Option.map_some, Option.getD_some, Option.isSome_some, List.map_cons, List.map_nil, List.cons_append, List.nil_append, List.append_nil, List.getElem?_cons_zero, List.getElem?_cons_succ, eq_self, Int.reduceLT, Int.reduceLE, Int.reduceNeg, Int.reduceEq]
end Go.Proofs
