/- Contracts of functions, facts of types, or the plain law behind one statement (own work): JV. Conditions: those told in each theorem. -/
import Derived.Test.YtkapgaajomaheaaGreatDoorJU
set_option linter.all false
set_option linter.unusedSimpArgs false
set_option linter.unusedVariables false
set_option maxRecDepth 4000
namespace Go.Proofs
open Go Go.V
theorem siz_Jn {j : Jn} (n : Siz.siz j ≤ 1000000) : j.safe.size ≤ 1000000 ∧ j.pending.size ≤ 1000000 := by
  have e : Siz.siz j = j.safe.size + j.pending.size := rfl
  omega
def jn0 : Jn := ⟨⟨#[]⟩, ⟨#[]⟩⟩
theorem rep_jn0 (h : Heap) : Rep.rep h jn0 [.string ⟨#[]⟩, .string ⟨#[]⟩] [] := rep_Jn (x := jn0) (by decide) (by decide)
def syncM (j : Jn) : Jn × Bool := if (marksJ j).isSome then (⟨j.safe ++ j.pending, ⟨#[]⟩⟩, true) else (jn0, false)
def crashM (j : Jn) (k : Int) : ByteArray × Bool := if (marksJ j).isSome = true ∧ (0 ≤ k ∧ k ≤ (j.pending.size : Int)) then (j.safe ++ j.pending.extract 0 k.toNat, true) else (⟨#[]⟩, false)
def recoverM (s : ByteArray) : Jn × Bool := if s.size ≤ 2000 then (⟨s.extract 0 (readM 0 s.data.toList).2, ⟨#[]⟩⟩, true) else (jn0, false)
def appendM (j : Jn) (m : Mk) : Jn × Bool :=
  match marksJ j with
  | some l => if markM m = true ∧ l.length ≠ 40 then (⟨j.safe, j.pending ++ lineB l.length m⟩, true) else (jn0, false)
  | none => (jn0, false)
theorem IsJournal_i {j : Jn} {cs : List Value} {h : Heap} {Q : Value → Heap → Prop} (hx : Here h j cs) (n : Siz.siz j ≤ 1000000) (hQ : ∀ h', Ext h h' → Q (.bool (marksJ j).isSome) h') : CallsV Tryz.prog 20 [.agg cs.toArray] h Q := by
  obtain ⟨rfl, f1, f2⟩ := here_Jn hx
  obtain ⟨z1, z2⟩ := siz_Jn n
  refine CallsV.start Tryz.func20 rfl (by rw [Tryz.results20]) (by kernel_rfl) (by rw [Tryz.ntmps20]; simp) ?_
  have s := Sep.blk1 h [.string j.safe, .string j.pending] 24 true
  simp (disch := omega) only [VW, VY, VZ, VA, VB, VC, VE, TY, ↓reduceIte, Nat.reduceEqDiff, Nat.reduceAdd, Nat.reduceMul, Nat.reduceSub, Nat.reduceLeDiff, List.length_cons, List.length_nil, List.length_append, List.append_assoc, List.take_succ_cons, List.take_zero, List.drop_succ_cons, List.drop_zero, List.set_cons_zero, List.set_cons_succ, true_or, or_true, and_self, Bool.false_eq_true, Nat.le_refl, Option.bind_some, Option.map_some, Option.getD_some, Option.isSome_some, List.map_cons, List.map_nil, List.cons_append, List.nil_append, List.append_nil, List.getElem?_cons_zero, List.getElem?_cons_succ, eq_self, Int.reduceLT, Int.reduceLE, Int.reduceNeg, Int.reduceEq]
  refine .inl ⟨by kernel_rfl, ?_⟩; refine marksOf_c z1 z2 (fun l v h' e s2 => ?_) (fun e h' E => ?_)
  · rw [e] at hQ
    simp (disch := omega) only [VW, VY, VZ, VA, VB, VC, VE, TY, ↓reduceIte, Nat.reduceEqDiff, Nat.reduceAdd, Nat.reduceMul, Nat.reduceSub, Nat.reduceLeDiff, List.length_cons, List.length_nil, List.length_append, List.append_assoc, List.take_succ_cons, List.take_zero, List.drop_succ_cons, List.drop_zero, List.set_cons_zero, List.set_cons_succ, true_or, or_true, and_self, Bool.false_eq_true, Nat.le_refl, Option.bind_some, Option.map_some, Option.getD_some, Option.isSome_some, List.map_cons, List.map_nil, List.cons_append, List.nil_append, List.append_nil, List.getElem?_cons_zero, List.getElem?_cons_succ, eq_self, Int.reduceLT, Int.reduceLE, Int.reduceNeg, Int.reduceEq]
    exact hQ _ (s.add s2).ext
  · rw [e] at hQ
    simp (disch := omega) only [VW, VY, VZ, VA, VB, VC, VE, TY, ↓reduceIte, Nat.reduceEqDiff, Nat.reduceAdd, Nat.reduceMul, Nat.reduceSub, Nat.reduceLeDiff, List.length_cons, List.length_nil, List.length_append, List.append_assoc, List.take_succ_cons, List.take_zero, List.drop_succ_cons, List.drop_zero, List.set_cons_zero, List.set_cons_succ, true_or, or_true, and_self, Bool.false_eq_true, Nat.le_refl, Option.bind_some, Option.map_some, Option.getD_some, Option.isSome_some, List.map_cons, List.map_nil, List.cons_append, List.nil_append, List.append_nil, List.getElem?_cons_zero, List.getElem?_cons_succ, eq_self, Int.reduceLT, Int.reduceLE, Int.reduceNeg, Int.reduceEq]
    exact hQ _ (s.mono E).ext
theorem MarksOf_i {j : Jn} {cs : List Value} {h : Heap} {Q : Value → Heap → Prop} (hx : Here h j cs) (n : Siz.siz j ≤ 1000000) (hQ : ∀ w h', Sep h h' [repA (α := List Mk) ((marksJ j).getD []) [w]] → Q (.tuple #[w, .bool (marksJ j).isSome]) h') : CallsV Tryz.prog 7 [.agg cs.toArray] h Q := by
  obtain ⟨rfl, f1, f2⟩ := here_Jn hx
  obtain ⟨z1, z2⟩ := siz_Jn n
  refine CallsV.start Tryz.func7 rfl (by rw [Tryz.results7]) (by kernel_rfl) (by rw [Tryz.ntmps7]; simp) ?_
  have s := Sep.blk1 h [.string j.safe, .string j.pending] 24 true
  simp (disch := omega) only [VW, VY, VZ, VA, VB, VC, VE, TY, ↓reduceIte, Nat.reduceEqDiff, Nat.reduceAdd, Nat.reduceMul, Nat.reduceSub, Nat.reduceLeDiff, List.length_cons, List.length_nil, List.length_append, List.append_assoc, List.take_succ_cons, List.take_zero, List.drop_succ_cons, List.drop_zero, List.set_cons_zero, List.set_cons_succ, true_or, or_true, and_self, Bool.false_eq_true, Nat.le_refl, Option.bind_some, Option.map_some, Option.getD_some, Option.isSome_some, List.map_cons, List.map_nil, List.cons_append, List.nil_append, List.append_nil, List.getElem?_cons_zero, List.getElem?_cons_succ, eq_self, Int.reduceLT, Int.reduceLE, Int.reduceNeg, Int.reduceEq]
  refine .inl ⟨by kernel_rfl, ?_⟩; refine marksOf_c z1 z2 (fun l v h' e s2 => ?_) (fun e h' E => ?_)
  · rw [e] at hQ
    have pl := row_plain s2.row.isRow
    simp (disch := omega) only [VW, VY, VZ, VA, VB, VC, VE, TY, ↓reduceIte, Nat.reduceEqDiff, Nat.reduceAdd, Nat.reduceMul, Nat.reduceSub, Nat.reduceLeDiff, List.length_cons, List.length_nil, List.length_append, List.append_assoc, List.take_succ_cons, List.take_zero, List.drop_succ_cons, List.drop_zero, List.set_cons_zero, List.set_cons_succ, true_or, or_true, and_self, Bool.false_eq_true, Nat.le_refl, Option.bind_some, Option.map_some, Option.getD_some, Option.isSome_some, List.map_cons, List.map_nil, List.cons_append, List.nil_append, List.append_nil, List.getElem?_cons_zero, List.getElem?_cons_succ, eq_self, Int.reduceLT, Int.reduceLE, Int.reduceNeg, Int.reduceEq, pl]
    exact hQ _ _ ((s.add s2).toRep.head)
  · rw [e] at hQ
    simp (disch := omega) only [VW, VY, VZ, VA, VB, VC, VE, TY, ↓reduceIte, Nat.reduceEqDiff, Nat.reduceAdd, Nat.reduceMul, Nat.reduceSub, Nat.reduceLeDiff, List.length_cons, List.length_nil, List.length_append, List.append_assoc, List.take_succ_cons, List.take_zero, List.drop_succ_cons, List.drop_zero, List.set_cons_zero, List.set_cons_succ, true_or, or_true, and_self, Bool.false_eq_true, Nat.le_refl, Option.bind_some, Option.map_some, Option.getD_some, Option.isSome_some, List.map_cons, List.map_nil, List.cons_append, List.nil_append, List.append_nil, List.getElem?_cons_zero, List.getElem?_cons_succ, eq_self, Int.reduceLT, Int.reduceLE, Int.reduceNeg, Int.reduceEq]
    exact hQ _ _ (((Sep.nil (s.mono E).ext).nilA 26).toRep)
theorem MarksOf_s {j : Jn} {cs : List Value} {h : Heap} {Q : Value → Heap → Prop} (hx : Here h j cs) (n : Siz.siz j ≤ 1000000) (hQ : ∀ w h', Sep h h' [repA (α := List Mk) ((marksJ j).getD []) [w]] → Q (.tuple #[w, .bool (marksJ j).isSome]) h') : CallsV Tryz.prog 8 [.agg cs.toArray] h Q := by
  obtain ⟨rfl, f1, f2⟩ := here_Jn hx
  obtain ⟨z1, z2⟩ := siz_Jn n
  refine CallsV.start Tryz.func8 rfl (by rw [Tryz.results8]) (by kernel_rfl) (by rw [Tryz.ntmps8]; simp) ?_
  have s := Sep.blk1 h [.string j.safe, .string j.pending] 24 true
  simp (disch := omega) only [VW, VY, VZ, VA, VB, VC, VE, TY, ↓reduceIte, Nat.reduceEqDiff, Nat.reduceAdd, Nat.reduceMul, Nat.reduceSub, Nat.reduceLeDiff, List.length_cons, List.length_nil, List.length_append, List.append_assoc, List.take_succ_cons, List.take_zero, List.drop_succ_cons, List.drop_zero, List.set_cons_zero, List.set_cons_succ, true_or, or_true, and_self, Bool.false_eq_true, Nat.le_refl, Option.bind_some, Option.map_some, Option.getD_some, Option.isSome_some, List.map_cons, List.map_nil, List.cons_append, List.nil_append, List.append_nil, List.getElem?_cons_zero, List.getElem?_cons_succ, eq_self, Int.reduceLT, Int.reduceLE, Int.reduceNeg, Int.reduceEq]
  refine .inl ⟨by kernel_rfl, ?_⟩; refine jrGood_c z1 z2 fun h2 E2 => ?_
  have s := s.mono E2
  have ga := s.rdAll (n := 2) rfl
  cases e : marksJ j with
  | none =>
    rw [e] at hQ
    simp (disch := omega) only [VW, VY, VZ, VA, VB, VC, VE, TY, ↓reduceIte, Nat.reduceEqDiff, Nat.reduceAdd, Nat.reduceMul, Nat.reduceSub, Nat.reduceLeDiff, List.length_cons, List.length_nil, List.length_append, List.append_assoc, List.take_succ_cons, List.take_zero, List.drop_succ_cons, List.drop_zero, List.set_cons_zero, List.set_cons_succ, true_or, or_true, and_self, Bool.false_eq_true, Nat.le_refl, Option.bind_some, Option.map_some, Option.getD_some, Option.isSome_some, List.map_cons, List.map_nil, List.cons_append, List.nil_append, List.append_nil, List.getElem?_cons_zero, List.getElem?_cons_succ, eq_self, Int.reduceLT, Int.reduceLE, Int.reduceNeg, Int.reduceEq, Option.isSome_none]
    exact hQ _ _ (((Sep.nil s.ext).nilA 26).toRep)
  | some l =>
    rw [e] at hQ
    simp (disch := omega) only [VW, VY, VZ, VA, VB, VC, VE, TY, ↓reduceIte, Nat.reduceEqDiff, Nat.reduceAdd, Nat.reduceMul, Nat.reduceSub, Nat.reduceLeDiff, List.length_cons, List.length_nil, List.length_append, List.append_assoc, List.take_succ_cons, List.take_zero, List.drop_succ_cons, List.drop_zero, List.set_cons_zero, List.set_cons_succ, true_or, or_true, and_self, Bool.false_eq_true, Nat.le_refl, Option.bind_some, Option.map_some, Option.getD_some, Option.isSome_some, List.map_cons, List.map_nil, List.cons_append, List.nil_append, List.append_nil, List.getElem?_cons_zero, List.getElem?_cons_succ, eq_self, Int.reduceLT, Int.reduceLE, Int.reduceNeg, Int.reduceEq, Option.isSome_some, ga]
    refine .inl ⟨by kernel_rfl, ?_⟩; refine jrAll_c e fun v h3 s3 => ?_
    have pl := row_plain s3.row.isRow
    simp (disch := omega) only [VW, VY, VZ, VA, VB, VC, VE, TY, ↓reduceIte, Nat.reduceEqDiff, Nat.reduceAdd, Nat.reduceMul, Nat.reduceSub, Nat.reduceLeDiff, List.length_cons, List.length_nil, List.length_append, List.append_assoc, List.take_succ_cons, List.take_zero, List.drop_succ_cons, List.drop_zero, List.set_cons_zero, List.set_cons_succ, true_or, or_true, and_self, Bool.false_eq_true, Nat.le_refl, Option.bind_some, Option.map_some, Option.getD_some, Option.isSome_some, List.map_cons, List.map_nil, List.cons_append, List.nil_append, List.append_nil, List.getElem?_cons_zero, List.getElem?_cons_succ, eq_self, Int.reduceLT, Int.reduceLE, Int.reduceNeg, Int.reduceEq, pl]
    exact hQ _ _ ((s.add s3).toRep.head)
end Go.Proofs
