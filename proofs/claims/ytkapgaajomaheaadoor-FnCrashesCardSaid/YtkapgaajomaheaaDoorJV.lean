/- Contracts of functions, facts of types, or the plain law behind one statement (own work): JV. Conditions: those told in each theorem. -/
import Derived.Test.YtkapgaajomaheaaDoorJU
set_option linter.all false
set_option linter.unusedSimpArgs false
set_option linter.unusedVariables false
set_option maxRecDepth 4000
namespace Go.Proofs
open Go Go.V
theorem siz_Jn {j : Jn} (n : Siz.siz j ≤ 1000000) : j.safe.size ≤ 1000000 ∧ j.pending.size ≤ 1000000 := by
  have e : Siz.siz j = j.safe.size + j.pending.size := rfl
  omega
def jn0 : Jn := ⟨⟨#[]⟩, ⟨#[]⟩⟩
theorem rep_jn0 (h : Heap) : Rep.rep h jn0 [.string ⟨#[]⟩, .string ⟨#[]⟩] [] := rep_Jn (x := jn0) (by decide) (by decide)
def syncM (j : Jn) : Jn × Bool := if (marksJ j).isSome then (⟨j.safe ++ j.pending, ⟨#[]⟩⟩, true) else (jn0, false)
def crashM (j : Jn) (k : Int) : ByteArray × Bool := if (marksJ j).isSome = true ∧ (0 ≤ k ∧ k ≤ (j.pending.size : Int)) then (j.safe ++ j.pending.extract 0 k.toNat, true) else (⟨#[]⟩, false)
def recoverM (s : ByteArray) : Jn × Bool := if s.size ≤ 2000 then (⟨s.extract 0 (readM 0 s.data.toList).2, ⟨#[]⟩⟩, true) else (jn0, false)
def appendM (j : Jn) (m : Mk) : Jn × Bool :=
  match marksJ j with
  | some l => if markM m = true ∧ l.length ≠ 40 then (⟨j.safe, j.pending ++ lineB l.length m⟩, true) else (jn0, false)
  | none => (jn0, false)
theorem IsJournal_i {j : Jn} {cs : List Value} {h : Heap} {Q : Value → Heap → Prop} (hx : Here h j cs) (n : Siz.siz j ≤ 1000000) (hQ : ∀ h', Ext h h' → Q (.bool (marksJ j).isSome) h') : CallsV Tryd.prog 15 [.agg cs.toArray] h Q := by
  obtain ⟨rfl, f1, f2⟩ := here_Jn hx
  obtain ⟨z1, z2⟩ := siz_Jn n
  refine CallsV.start Tryd.func15 rfl (by rw [Tryd.results15]) (by kernel_rfl) (by rw [Tryd.ntmps15]; simp) ?_
  have s := Sep.blk1 h [.string j.safe, .string j.pending] 24 true
  simp (disch := omega) only [VW, VY, VZ, VA, VB, VC, VE, TY, ↓reduceIte, Nat.reduceEqDiff, Nat.reduceAdd, Nat.reduceMul, Nat.reduceSub, Nat.reduceLeDiff, List.length_cons, List.length_nil, List.length_append, List.append_assoc, List.take_succ_cons, List.take_zero, List.drop_succ_cons, List.drop_zero, List.set_cons_zero, List.set_cons_succ, true_or, or_true, and_self, Bool.false_eq_true, Nat.le_refl, Option.bind_some, Option.map_some, Option.getD_some, Option.isSome_some, List.map_cons, List.map_nil, List.cons_append, List.nil_append, List.append_nil, List.getElem?_cons_zero, List.getElem?_cons_succ, eq_self, Int.reduceLT, Int.reduceLE, Int.reduceNeg, Int.reduceEq]
  refine .inl ⟨by kernel_rfl, ?_⟩; refine marksOf_c z1 z2 (fun l v h' e s2 => ?_) (fun e h' E => ?_)
  · rw [e] at hQ
    simp (disch := omega) only [VW, VY, VZ, VA, VB, VC, VE, TY, ↓reduceIte, Nat.reduceEqDiff, Nat.reduceAdd, Nat.reduceMul, Nat.reduceSub, Nat.reduceLeDiff, List.length_cons, List.length_nil, List.length_append, List.append_assoc, List.take_succ_cons, List.take_zero, List.drop_succ_cons, List.drop_zero, List.set_cons_zero, List.set_cons_succ, true_or, or_true, and_self, Bool.false_eq_true, Nat.le_refl, Option.bind_some, Option.map_some, Option.getD_some, Option.isSome_some, List.map_cons, List.map_nil, List.cons_append, List.nil_append, List.append_nil, List.getElem?_cons_zero, List.getElem?_cons_succ, eq_self, Int.reduceLT, Int.reduceLE, Int.reduceNeg, Int.reduceEq]
    exact hQ _ (s.add s2).ext
  · rw [e] at hQ
    simp (disch := omega) only [VW, VY, VZ, VA, VB, VC, VE, TY, ↓reduceIte, Nat.reduceEqDiff, Nat.reduceAdd, Nat.reduceMul, Nat.reduceSub, Nat.reduceLeDiff, List.length_cons, List.length_nil, List.length_append, List.append_assoc, List.take_succ_cons, List.take_zero, List.drop_succ_cons, List.drop_zero, List.set_cons_zero, List.set_cons_succ, true_or, or_true, and_self, Bool.false_eq_true, Nat.le_refl, Option.bind_some, Option.map_some, Option.getD_some, Option.isSome_some, List.map_cons, List.map_nil, List.cons_append, List.nil_append, List.append_nil, List.getElem?_cons_zero, List.getElem?_cons_succ, eq_self, Int.reduceLT, Int.reduceLE, Int.reduceNeg, Int.reduceEq]
    exact hQ _ (s.mono E).ext
theorem MarksOf_i {j : Jn} {cs : List Value} {h : Heap} {Q : Value → Heap → Prop} (hx : Here h j cs) (n : Siz.siz j ≤ 1000000) (hQ : ∀ w h', Sep h h' [repA (α := List Mk) ((marksJ j).getD []) [w]] → Q (.tuple #[w, .bool (marksJ j).isSome]) h') : CallsV Tryd.prog 16 [.agg cs.toArray] h Q := by
  obtain ⟨rfl, f1, f2⟩ := here_Jn hx
  obtain ⟨z1, z2⟩ := siz_Jn n
  refine CallsV.start Tryd.func16 rfl (by rw [Tryd.results16]) (by kernel_rfl) (by rw [Tryd.ntmps16]; simp) ?_
  have s := Sep.blk1 h [.string j.safe, .string j.pending] 24 true
  simp (disch := omega) only [VW, VY, VZ, VA, VB, VC, VE, TY, ↓reduceIte, Nat.reduceEqDiff, Nat.reduceAdd, Nat.reduceMul, Nat.reduceSub, Nat.reduceLeDiff, List.length_cons, List.length_nil, List.length_append, List.append_assoc, List.take_succ_cons, List.take_zero, List.drop_succ_cons, List.drop_zero, List.set_cons_zero, List.set_cons_succ, true_or, or_true, and_self, Bool.false_eq_true, Nat.le_refl, Option.bind_some, Option.map_some, Option.getD_some, Option.isSome_some, List.map_cons, List.map_nil, List.cons_append, List.nil_append, List.append_nil, List.getElem?_cons_zero, List.getElem?_cons_succ, eq_self, Int.reduceLT, Int.reduceLE, Int.reduceNeg, Int.reduceEq]
  refine .inl ⟨by kernel_rfl, ?_⟩; refine marksOf_c z1 z2 (fun l v h' e s2 => ?_) (fun e h' E => ?_)
  · rw [e] at hQ
    have pl := row_plain s2.row.isRow
    simp (disch := omega) only [VW, VY, VZ, VA, VB, VC, VE, TY, ↓reduceIte, Nat.reduceEqDiff, Nat.reduceAdd, Nat.reduceMul, Nat.reduceSub, Nat.reduceLeDiff, List.length_cons, List.length_nil, List.length_append, List.append_assoc, List.take_succ_cons, List.take_zero, List.drop_succ_cons, List.drop_zero, List.set_cons_zero, List.set_cons_succ, true_or, or_true, and_self, Bool.false_eq_true, Nat.le_refl, Option.bind_some, Option.map_some, Option.getD_some, Option.isSome_some, List.map_cons, List.map_nil, List.cons_append, List.nil_append, List.append_nil, List.getElem?_cons_zero, List.getElem?_cons_succ, eq_self, Int.reduceLT, Int.reduceLE, Int.reduceNeg, Int.reduceEq, pl]
    exact hQ _ _ ((s.add s2).toRep.head)
  · rw [e] at hQ
    simp (disch := omega) only [VW, VY, VZ, VA, VB, VC, VE, TY, ↓reduceIte, Nat.reduceEqDiff, Nat.reduceAdd, Nat.reduceMul, Nat.reduceSub, Nat.reduceLeDiff, List.length_cons, List.length_nil, List.length_append, List.append_assoc, List.take_succ_cons, List.take_zero, List.drop_succ_cons, List.drop_zero, List.set_cons_zero, List.set_cons_succ, true_or, or_true, and_self, Bool.false_eq_true, Nat.le_refl, Option.bind_some, Option.map_some, Option.getD_some, Option.isSome_some, List.map_cons, List.map_nil, List.cons_append, List.nil_append, List.append_nil, List.getElem?_cons_zero, List.getElem?_cons_succ, eq_self, Int.reduceLT, Int.reduceLE, Int.reduceNeg, Int.reduceEq]
    exact hQ _ _ (((Sep.nil (s.mono E).ext).nilA 34).toRep)
theorem MarksOf_s {j : Jn} {cs : List Value} {h : Heap} {Q : Value → Heap → Prop} (hx : Here h j cs) (n : Siz.siz j ≤ 1000000) (hQ : ∀ w h', Sep h h' [repA (α := List Mk) ((marksJ j).getD []) [w]] → Q (.tuple #[w, .bool (marksJ j).isSome]) h') : CallsV Tryd.prog 17 [.agg cs.toArray] h Q := by
  obtain ⟨rfl, f1, f2⟩ := here_Jn hx
  obtain ⟨z1, z2⟩ := siz_Jn n
  refine CallsV.start Tryd.func17 rfl (by rw [Tryd.results17]) (by kernel_rfl) (by rw [Tryd.ntmps17]; simp) ?_
  have s := Sep.blk1 h [.string j.safe, .string j.pending] 24 true
  simp (disch := omega) only [VW, VY, VZ, VA, VB, VC, VE, TY, ↓reduceIte, Nat.reduceEqDiff, Nat.reduceAdd, Nat.reduceMul, Nat.reduceSub, Nat.reduceLeDiff, List.length_cons, List.length_nil, List.length_append, List.append_assoc, List.take_succ_cons, List.take_zero, List.drop_succ_cons, List.drop_zero, List.set_cons_zero, List.set_cons_succ, true_or, or_true, and_self, Bool.false_eq_true, Nat.le_refl, Option.bind_some, Option.map_some, Option.getD_some, Option.isSome_some, List.map_cons, List.map_nil, List.cons_append, List.nil_append, List.append_nil, List.getElem?_cons_zero, List.getElem?_cons_succ, eq_self, Int.reduceLT, Int.reduceLE, Int.reduceNeg, Int.reduceEq]
  refine .inl ⟨by kernel_rfl, ?_⟩; refine jrGood_c z1 z2 fun h2 E2 => ?_
  have s := s.mono E2
  have ga := s.rdAll (n := 2) rfl
  cases e : marksJ j with
  | none =>
    rw [e] at hQ
    simp (disch := omega) only [VW, VY, VZ, VA, VB, VC, VE, TY, ↓reduceIte, Nat.reduceEqDiff, Nat.reduceAdd, Nat.reduceMul, Nat.reduceSub, Nat.reduceLeDiff, List.length_cons, List.length_nil, List.length_append, List.append_assoc, List.take_succ_cons, List.take_zero, List.drop_succ_cons, List.drop_zero, List.set_cons_zero, List.set_cons_succ, true_or, or_true, and_self, Bool.false_eq_true, Nat.le_refl, Option.bind_some, Option.map_some, Option.getD_some, Option.isSome_some, List.map_cons, List.map_nil, List.cons_append, List.nil_append, List.append_nil, List.getElem?_cons_zero, List.getElem?_cons_succ, eq_self, Int.reduceLT, Int.reduceLE, Int.reduceNeg, Int.reduceEq, Option.isSome_none]
    exact hQ _ _ (((Sep.nil s.ext).nilA 34).toRep)
  | some l =>
    rw [e] at hQ
    simp (disch := omega) only [VW, VY, VZ, VA, VB, VC, VE, TY, ↓reduceIte, Nat.reduceEqDiff, Nat.reduceAdd, Nat.reduceMul, Nat.reduceSub, Nat.reduceLeDiff, List.length_cons, List.length_nil, List.length_append, List.append_assoc, List.take_succ_cons, List.take_zero, List.drop_succ_cons, List.drop_zero, List.set_cons_zero, List.set_cons_succ, true_or, or_true, and_self, Bool.false_eq_true, Nat.le_refl, Option.bind_some, Option.map_some, Option.getD_some, Option.isSome_some, List.map_cons, List.map_nil, List.cons_append, List.nil_append, List.append_nil, List.getElem?_cons_zero, List.getElem?_cons_succ, eq_self, Int.reduceLT, Int.reduceLE, Int.reduceNeg, Int.reduceEq, Option.isSome_some, ga]
    refine .inl ⟨by kernel_rfl, ?_⟩; refine jrAll_c e fun v h3 s3 => ?_
    have pl := row_plain s3.row.isRow
    simp (disch := omega) only [VW, VY, VZ, VA, VB, VC, VE, TY, ↓reduceIte, Nat.reduceEqDiff, Nat.reduceAdd, Nat.reduceMul, Nat.reduceSub, Nat.reduceLeDiff, List.length_cons, List.length_nil, List.length_append, List.append_assoc, List.take_succ_cons, List.take_zero, List.drop_succ_cons, List.drop_zero, List.set_cons_zero, List.set_cons_succ, true_or, or_true, and_self, Bool.false_eq_true, Nat.le_refl, Option.bind_some, Option.map_some, Option.getD_some, Option.isSome_some, List.map_cons, List.map_nil, List.cons_append, List.nil_append, List.append_nil, List.getElem?_cons_zero, List.getElem?_cons_succ, eq_self, Int.reduceLT, Int.reduceLE, Int.reduceNeg, Int.reduceEq, pl]
    exact hQ _ _ ((s.add s3).toRep.head)
theorem SyncJournal_i {j : Jn} {cs : List Value} {h : Heap} {Q : Value → Heap → Prop} (hx : Here h j cs) (n : Siz.siz j ≤ 1000000) (hQ : ∀ ds h', Sep h h' [repA (syncM j).1 ds] → Q (.tuple #[.agg ds.toArray, .bool (syncM j).2]) h') : CallsV Tryd.prog 7 [.agg cs.toArray] h Q := by
  obtain ⟨rfl, f1, f2⟩ := here_Jn hx
  obtain ⟨z1, z2⟩ := siz_Jn n
  refine CallsV.start Tryd.func7 rfl (by rw [Tryd.results7]) (by kernel_rfl) (by rw [Tryd.ntmps7]; simp) ?_
  have s := Sep.blk2 h [.string j.safe, .string j.pending] [.string ⟨#[]⟩, .string ⟨#[]⟩] 24 24 true true
  unfold syncM at hQ
  simp (disch := omega) only [VW, VY, VZ, VA, VB, VC, VE, TY, ↓reduceIte, Nat.reduceEqDiff, Nat.reduceAdd, Nat.reduceMul, Nat.reduceSub, Nat.reduceLeDiff, List.length_cons, List.length_nil, List.length_append, List.append_assoc, List.take_succ_cons, List.take_zero, List.drop_succ_cons, List.drop_zero, List.set_cons_zero, List.set_cons_succ, true_or, or_true, and_self, Bool.false_eq_true, Nat.le_refl, Option.bind_some, Option.map_some, Option.getD_some, Option.isSome_some, List.map_cons, List.map_nil, List.cons_append, List.nil_append, List.append_nil, List.getElem?_cons_zero, List.getElem?_cons_succ, eq_self, Int.reduceLT, Int.reduceLE, Int.reduceNeg, Int.reduceEq]
  refine .inl ⟨by kernel_rfl, ?_⟩; refine marksOf_c z1 z2 (fun l v h' e s2 => ?_) (fun e h' E => ?_)
  · rw [e] at hQ
    have s := s.add s2
    have g := (s.pull 2 rfl).rd
    have a1 := str_add j.safe j.pending (by omega)
    have sz := size_append j.safe j.pending
    simp (disch := omega) only [VW, VY, VZ, VA, VB, VC, VE, TY, ↓reduceIte, Nat.reduceEqDiff, Nat.reduceAdd, Nat.reduceMul, Nat.reduceSub, Nat.reduceLeDiff, List.length_cons, List.length_nil, List.length_append, List.append_assoc, List.take_succ_cons, List.take_zero, List.drop_succ_cons, List.drop_zero, List.set_cons_zero, List.set_cons_succ, true_or, or_true, and_self, Bool.false_eq_true, Nat.le_refl, Option.bind_some, Option.map_some, Option.getD_some, Option.isSome_some, List.map_cons, List.map_nil, List.cons_append, List.nil_append, List.append_nil, List.getElem?_cons_zero, List.getElem?_cons_succ, eq_self, Int.reduceLT, Int.reduceLE, Int.reduceNeg, Int.reduceEq, g, a1]
    refine sep_store (s.pull 1 rfl) (by simp) fun h3 s => ?_
    have s := s.as (ds := [.string (j.safe ++ j.pending), .string ⟨#[]⟩]) (by simp [t_put])
    have ga := s.rdAll (n := 2) rfl
    simp (disch := omega) only [VW, VY, VZ, VA, VB, VC, VE, TY, ↓reduceIte, Nat.reduceEqDiff, Nat.reduceAdd, Nat.reduceMul, Nat.reduceSub, Nat.reduceLeDiff, List.length_cons, List.length_nil, List.length_append, List.append_assoc, List.take_succ_cons, List.take_zero, List.drop_succ_cons, List.drop_zero, List.set_cons_zero, List.set_cons_succ, true_or, or_true, and_self, Bool.false_eq_true, Nat.le_refl, Option.bind_some, Option.map_some, Option.getD_some, Option.isSome_some, List.map_cons, List.map_nil, List.cons_append, List.nil_append, List.append_nil, List.getElem?_cons_zero, List.getElem?_cons_succ, eq_self, Int.reduceLT, Int.reduceLE, Int.reduceNeg, Int.reduceEq, ga]
    exact hQ _ _ ((Sep.nil s.ext).rep0 (rep_Jn (x := ⟨j.safe ++ j.pending, ⟨#[]⟩⟩) (by simp only []; omega) (show (0 : Nat) ≤ 9223372036854775807 by decide)))
  · rw [e] at hQ
    have s := s.mono E
    simp (disch := omega) only [VW, VY, VZ, VA, VB, VC, VE, TY, ↓reduceIte, Nat.reduceEqDiff, Nat.reduceAdd, Nat.reduceMul, Nat.reduceSub, Nat.reduceLeDiff, List.length_cons, List.length_nil, List.length_append, List.append_assoc, List.take_succ_cons, List.take_zero, List.drop_succ_cons, List.drop_zero, List.set_cons_zero, List.set_cons_succ, true_or, or_true, and_self, Bool.false_eq_true, Nat.le_refl, Option.bind_some, Option.map_some, Option.getD_some, Option.isSome_some, List.map_cons, List.map_nil, List.cons_append, List.nil_append, List.append_nil, List.getElem?_cons_zero, List.getElem?_cons_succ, eq_self, Int.reduceLT, Int.reduceLE, Int.reduceNeg, Int.reduceEq]
    refine sep_store (s.pull 0 rfl) (by simp) fun h3 s => ?_
    have s := s.as (ds := [.string ⟨#[]⟩, .string ⟨#[]⟩]) (by simp [t_put])
    have ga := s.rdAll (n := 2) rfl
    simp (disch := omega) only [VW, VY, VZ, VA, VB, VC, VE, TY, ↓reduceIte, Nat.reduceEqDiff, Nat.reduceAdd, Nat.reduceMul, Nat.reduceSub, Nat.reduceLeDiff, List.length_cons, List.length_nil, List.length_append, List.append_assoc, List.take_succ_cons, List.take_zero, List.drop_succ_cons, List.drop_zero, List.set_cons_zero, List.set_cons_succ, true_or, or_true, and_self, Bool.false_eq_true, Nat.le_refl, Option.bind_some, Option.map_some, Option.getD_some, Option.isSome_some, List.map_cons, List.map_nil, List.cons_append, List.nil_append, List.append_nil, List.getElem?_cons_zero, List.getElem?_cons_succ, eq_self, Int.reduceLT, Int.reduceLE, Int.reduceNeg, Int.reduceEq, ga]
    exact hQ _ _ ((Sep.nil s.ext).rep0 (rep_jn0 _))
theorem SyncJournal_s {j : Jn} {cs : List Value} {h : Heap} {Q : Value → Heap → Prop} (hx : Here h j cs) (n : Siz.siz j ≤ 1000000) (hQ : ∀ ds h', Sep h h' [repA (syncM j).1 ds] → Q (.tuple #[.agg ds.toArray, .bool (syncM j).2]) h') : CallsV Tryd.prog 8 [.agg cs.toArray] h Q := by
  obtain ⟨rfl, f1, f2⟩ := here_Jn hx
  obtain ⟨z1, z2⟩ := siz_Jn n
  refine CallsV.start Tryd.func8 rfl (by rw [Tryd.results8]) (by kernel_rfl) (by rw [Tryd.ntmps8]; simp) ?_
  have s := Sep.blk2 h [.string j.safe, .string j.pending] [.string ⟨#[]⟩, .string ⟨#[]⟩] 24 24 true true
  unfold syncM at hQ
  simp (disch := omega) only [VW, VY, VZ, VA, VB, VC, VE, TY, ↓reduceIte, Nat.reduceEqDiff, Nat.reduceAdd, Nat.reduceMul, Nat.reduceSub, Nat.reduceLeDiff, List.length_cons, List.length_nil, List.length_append, List.append_assoc, List.take_succ_cons, List.take_zero, List.drop_succ_cons, List.drop_zero, List.set_cons_zero, List.set_cons_succ, true_or, or_true, and_self, Bool.false_eq_true, Nat.le_refl, Option.bind_some, Option.map_some, Option.getD_some, Option.isSome_some, List.map_cons, List.map_nil, List.cons_append, List.nil_append, List.append_nil, List.getElem?_cons_zero, List.getElem?_cons_succ, eq_self, Int.reduceLT, Int.reduceLE, Int.reduceNeg, Int.reduceEq]
  refine .inl ⟨by kernel_rfl, ?_⟩; refine jrGood_c z1 z2 fun h2 E2 => ?_
  have s := s.mono E2
  cases e : (marksJ j).isSome with
  | true =>
    rw [e] at hQ
    have g := (s.pull 1 rfl).rd
    have a1 := str_add j.safe j.pending (by omega)
    have sz := size_append j.safe j.pending
    simp (disch := omega) only [VW, VY, VZ, VA, VB, VC, VE, TY, ↓reduceIte, Nat.reduceEqDiff, Nat.reduceAdd, Nat.reduceMul, Nat.reduceSub, Nat.reduceLeDiff, List.length_cons, List.length_nil, List.length_append, List.append_assoc, List.take_succ_cons, List.take_zero, List.drop_succ_cons, List.drop_zero, List.set_cons_zero, List.set_cons_succ, true_or, or_true, and_self, Bool.false_eq_true, Nat.le_refl, Option.bind_some, Option.map_some, Option.getD_some, Option.isSome_some, List.map_cons, List.map_nil, List.cons_append, List.nil_append, List.append_nil, List.getElem?_cons_zero, List.getElem?_cons_succ, eq_self, Int.reduceLT, Int.reduceLE, Int.reduceNeg, Int.reduceEq, g, a1]
    refine sep_store (s.pull 0 rfl) (by simp) fun h3 s => ?_
    have s := s.as (ds := [.string (j.safe ++ j.pending), .string ⟨#[]⟩]) (by simp [t_put])
    have ga := s.rdAll (n := 2) rfl
    simp (disch := omega) only [VW, VY, VZ, VA, VB, VC, VE, TY, ↓reduceIte, Nat.reduceEqDiff, Nat.reduceAdd, Nat.reduceMul, Nat.reduceSub, Nat.reduceLeDiff, List.length_cons, List.length_nil, List.length_append, List.append_assoc, List.take_succ_cons, List.take_zero, List.drop_succ_cons, List.drop_zero, List.set_cons_zero, List.set_cons_succ, true_or, or_true, and_self, Bool.false_eq_true, Nat.le_refl, Option.bind_some, Option.map_some, Option.getD_some, Option.isSome_some, List.map_cons, List.map_nil, List.cons_append, List.nil_append, List.append_nil, List.getElem?_cons_zero, List.getElem?_cons_succ, eq_self, Int.reduceLT, Int.reduceLE, Int.reduceNeg, Int.reduceEq, ga]
    exact hQ _ _ ((Sep.nil s.ext).rep0 (rep_Jn (x := ⟨j.safe ++ j.pending, ⟨#[]⟩⟩) (by simp only []; omega) (show (0 : Nat) ≤ 9223372036854775807 by decide)))
  | false =>
    rw [e] at hQ
    simp (disch := omega) only [VW, VY, VZ, VA, VB, VC, VE, TY, ↓reduceIte, Nat.reduceEqDiff, Nat.reduceAdd, Nat.reduceMul, Nat.reduceSub, Nat.reduceLeDiff, List.length_cons, List.length_nil, List.length_append, List.append_assoc, List.take_succ_cons, List.take_zero, List.drop_succ_cons, List.drop_zero, List.set_cons_zero, List.set_cons_succ, true_or, or_true, and_self, Bool.false_eq_true, Nat.le_refl, Option.bind_some, Option.map_some, Option.getD_some, Option.isSome_some, List.map_cons, List.map_nil, List.cons_append, List.nil_append, List.append_nil, List.getElem?_cons_zero, List.getElem?_cons_succ, eq_self, Int.reduceLT, Int.reduceLE, Int.reduceNeg, Int.reduceEq]
    refine sep_store (s.pull 0 rfl) (by simp) fun h3 s => ?_
    have s := s.as (ds := [.string ⟨#[]⟩, .string ⟨#[]⟩]) (by simp [t_put])
    have ga := s.rdAll (n := 2) rfl
    simp (disch := omega) only [VW, VY, VZ, VA, VB, VC, VE, TY, ↓reduceIte, Nat.reduceEqDiff, Nat.reduceAdd, Nat.reduceMul, Nat.reduceSub, Nat.reduceLeDiff, List.length_cons, List.length_nil, List.length_append, List.append_assoc, List.take_succ_cons, List.take_zero, List.drop_succ_cons, List.drop_zero, List.set_cons_zero, List.set_cons_succ, true_or, or_true, and_self, Bool.false_eq_true, Nat.le_refl, Option.bind_some, Option.map_some, Option.getD_some, Option.isSome_some, List.map_cons, List.map_nil, List.cons_append, List.nil_append, List.append_nil, List.getElem?_cons_zero, List.getElem?_cons_succ, eq_self, Int.reduceLT, Int.reduceLE, Int.reduceNeg, Int.reduceEq, ga]
    exact hQ _ _ ((Sep.nil s.ext).rep0 (rep_jn0 _))
theorem CrashJournal_i {j : Jn} {k : Int} {cs : List Value} {h : Heap} {Q : Value → Heap → Prop} (hx : Here h j cs) (n : Siz.siz j ≤ 1000000) (hk : inI64 k) (hQ : ∀ h', Ext h h' → Q (.tuple #[.string (crashM j k).1, .bool (crashM j k).2]) h') : CallsV Tryd.prog 5 [.agg cs.toArray, .int .i64 k] h Q := by
  obtain ⟨rfl, f1, f2⟩ := here_Jn hx
  obtain ⟨z1, z2⟩ := siz_Jn n
  refine CallsV.start Tryd.func5 rfl (by rw [Tryd.results5]) (by kernel_rfl) (by rw [Tryd.ntmps5]; simp) ?_
  have s := Sep.blk1 h [.string j.safe, .string j.pending] 24 true
  unfold crashM at hQ
  simp (disch := omega) only [VW, VY, VZ, VA, VB, VC, VE, TY, ↓reduceIte, Nat.reduceEqDiff, Nat.reduceAdd, Nat.reduceMul, Nat.reduceSub, Nat.reduceLeDiff, List.length_cons, List.length_nil, List.length_append, List.append_assoc, List.take_succ_cons, List.take_zero, List.drop_succ_cons, List.drop_zero, List.set_cons_zero, List.set_cons_succ, true_or, or_true, and_self, Bool.false_eq_true, Nat.le_refl, Option.bind_some, Option.map_some, Option.getD_some, Option.isSome_some, List.map_cons, List.map_nil, List.cons_append, List.nil_append, List.append_nil, List.getElem?_cons_zero, List.getElem?_cons_succ, eq_self, Int.reduceLT, Int.reduceLE, Int.reduceNeg, Int.reduceEq]
  refine .inl ⟨by kernel_rfl, ?_⟩; refine marksOf_c z1 z2 (fun l v h' e s2 => ?_) (fun e h' E => ?_)
  · rw [e] at hQ
    have s := s.add s2
    have g := (s.pull 1 rfl).rd
    simp (disch := omega) only [VW, VY, VZ, VA, VB, VC, VE, TY, ↓reduceIte, Nat.reduceEqDiff, Nat.reduceAdd, Nat.reduceMul, Nat.reduceSub, Nat.reduceLeDiff, List.length_cons, List.length_nil, List.length_append, List.append_assoc, List.take_succ_cons, List.take_zero, List.drop_succ_cons, List.drop_zero, List.set_cons_zero, List.set_cons_succ, true_or, or_true, and_self, Bool.false_eq_true, Nat.le_refl, Option.bind_some, Option.map_some, Option.getD_some, Option.isSome_some, List.map_cons, List.map_nil, List.cons_append, List.nil_append, List.append_nil, List.getElem?_cons_zero, List.getElem?_cons_succ, eq_self, Int.reduceLT, Int.reduceLE, Int.reduceNeg, Int.reduceEq, g]
    refine .inl ⟨by kernel_rfl, ?_⟩; refine inside_c ?_
    by_cases c : 0 ≤ k ∧ k ≤ (j.pending.size : Int)
    · rw [if_pos ⟨rfl, c⟩] at hQ
      obtain ⟨i, rfl⟩ : ∃ i : Nat, k = (i : Int) := ⟨k.toNat, by omega⟩
      have d := decide_eq_true c
      have q1 := c.2
      have sz : (j.pending.extract 0 i).size ≤ j.pending.size := by rw [ByteArray.size_extract]; omega
      have a1 := str_add j.safe (j.pending.extract 0 i) (by omega)
      simp (disch := omega) only [VW, VY, VZ, VA, VB, VC, VE, TY, ↓reduceIte, Nat.reduceEqDiff, Nat.reduceAdd, Nat.reduceMul, Nat.reduceSub, Nat.reduceLeDiff, List.length_cons, List.length_nil, List.length_append, List.append_assoc, List.take_succ_cons, List.take_zero, List.drop_succ_cons, List.drop_zero, List.set_cons_zero, List.set_cons_succ, true_or, or_true, and_self, Bool.false_eq_true, Nat.le_refl, Option.bind_some, Option.map_some, Option.getD_some, Option.isSome_some, List.map_cons, List.map_nil, List.cons_append, List.nil_append, List.append_nil, List.getElem?_cons_zero, List.getElem?_cons_succ, eq_self, Int.reduceLT, Int.reduceLE, Int.reduceNeg, Int.reduceEq, d]
      refine draw_ord [0, 1, 2, 3, 4, 5, 6, 7, 8] (by kernel_rfl) (by simp only [List.filterMap_cons, List.filterMap_nil, List.getElem?_cons_zero, List.getElem?_cons_succ]; rfl) ?_
      simp (disch := omega) only [VW, VY, VZ, VA, VB, VC, VE, TY, ↓reduceIte, Nat.reduceEqDiff, Nat.reduceAdd, Nat.reduceMul, Nat.reduceSub, Nat.reduceLeDiff, List.length_cons, List.length_nil, List.length_append, List.append_assoc, List.take_succ_cons, List.take_zero, List.drop_succ_cons, List.drop_zero, List.set_cons_zero, List.set_cons_succ, true_or, or_true, and_self, Bool.false_eq_true, Nat.le_refl, Option.bind_some, Option.map_some, Option.getD_some, Option.isSome_some, List.map_cons, List.map_nil, List.cons_append, List.nil_append, List.append_nil, List.getElem?_cons_zero, List.getElem?_cons_succ, eq_self, Int.reduceLT, Int.reduceLE, Int.reduceNeg, Int.reduceEq, g, q1, a1]
      exact hQ _ s.ext
    · rw [if_neg (fun x => c x.2)] at hQ
      have d := decide_eq_false c
      simp (disch := omega) only [VW, VY, VZ, VA, VB, VC, VE, TY, ↓reduceIte, Nat.reduceEqDiff, Nat.reduceAdd, Nat.reduceMul, Nat.reduceSub, Nat.reduceLeDiff, List.length_cons, List.length_nil, List.length_append, List.append_assoc, List.take_succ_cons, List.take_zero, List.drop_succ_cons, List.drop_zero, List.set_cons_zero, List.set_cons_succ, true_or, or_true, and_self, Bool.false_eq_true, Nat.le_refl, Option.bind_some, Option.map_some, Option.getD_some, Option.isSome_some, List.map_cons, List.map_nil, List.cons_append, List.nil_append, List.append_nil, List.getElem?_cons_zero, List.getElem?_cons_succ, eq_self, Int.reduceLT, Int.reduceLE, Int.reduceNeg, Int.reduceEq, d]
      exact hQ _ s.ext
  · rw [e] at hQ
    rw [if_neg (fun x => by cases x.1)] at hQ
    have s := s.mono E
    simp (disch := omega) only [VW, VY, VZ, VA, VB, VC, VE, TY, ↓reduceIte, Nat.reduceEqDiff, Nat.reduceAdd, Nat.reduceMul, Nat.reduceSub, Nat.reduceLeDiff, List.length_cons, List.length_nil, List.length_append, List.append_assoc, List.take_succ_cons, List.take_zero, List.drop_succ_cons, List.drop_zero, List.set_cons_zero, List.set_cons_succ, true_or, or_true, and_self, Bool.false_eq_true, Nat.le_refl, Option.bind_some, Option.map_some, Option.getD_some, Option.isSome_some, List.map_cons, List.map_nil, List.cons_append, List.nil_append, List.append_nil, List.getElem?_cons_zero, List.getElem?_cons_succ, eq_self, Int.reduceLT, Int.reduceLE, Int.reduceNeg, Int.reduceEq]
    exact hQ _ s.ext
theorem CrashJournal_s {j : Jn} {k : Int} {cs : List Value} {h : Heap} {Q : Value → Heap → Prop} (hx : Here h j cs) (n : Siz.siz j ≤ 1000000) (hk : inI64 k) (hQ : ∀ h', Ext h h' → Q (.tuple #[.string (crashM j k).1, .bool (crashM j k).2]) h') : CallsV Tryd.prog 6 [.agg cs.toArray, .int .i64 k] h Q := by
  obtain ⟨rfl, f1, f2⟩ := here_Jn hx
  obtain ⟨z1, z2⟩ := siz_Jn n
  refine CallsV.start Tryd.func6 rfl (by rw [Tryd.results6]) (by kernel_rfl) (by rw [Tryd.ntmps6]; simp) ?_
  have s := Sep.blk1 h [.string j.safe, .string j.pending] 24 true
  unfold crashM at hQ
  simp (disch := omega) only [VW, VY, VZ, VA, VB, VC, VE, TY, ↓reduceIte, Nat.reduceEqDiff, Nat.reduceAdd, Nat.reduceMul, Nat.reduceSub, Nat.reduceLeDiff, List.length_cons, List.length_nil, List.length_append, List.append_assoc, List.take_succ_cons, List.take_zero, List.drop_succ_cons, List.drop_zero, List.set_cons_zero, List.set_cons_succ, true_or, or_true, and_self, Bool.false_eq_true, Nat.le_refl, Option.bind_some, Option.map_some, Option.getD_some, Option.isSome_some, List.map_cons, List.map_nil, List.cons_append, List.nil_append, List.append_nil, List.getElem?_cons_zero, List.getElem?_cons_succ, eq_self, Int.reduceLT, Int.reduceLE, Int.reduceNeg, Int.reduceEq]
  refine .inl ⟨by kernel_rfl, ?_⟩; refine jrGood_c z1 z2 fun h2 E2 => ?_
  have s := s.mono E2
  cases e : (marksJ j).isSome with
  | true =>
    rw [e] at hQ
    have g := s.rd
    simp (disch := omega) only [VW, VY, VZ, VA, VB, VC, VE, TY, ↓reduceIte, Nat.reduceEqDiff, Nat.reduceAdd, Nat.reduceMul, Nat.reduceSub, Nat.reduceLeDiff, List.length_cons, List.length_nil, List.length_append, List.append_assoc, List.take_succ_cons, List.take_zero, List.drop_succ_cons, List.drop_zero, List.set_cons_zero, List.set_cons_succ, true_or, or_true, and_self, Bool.false_eq_true, Nat.le_refl, Option.bind_some, Option.map_some, Option.getD_some, Option.isSome_some, List.map_cons, List.map_nil, List.cons_append, List.nil_append, List.append_nil, List.getElem?_cons_zero, List.getElem?_cons_succ, eq_self, Int.reduceLT, Int.reduceLE, Int.reduceNeg, Int.reduceEq, g]
    refine .inl ⟨by kernel_rfl, ?_⟩; refine l1In_c ?_
    by_cases c : 0 ≤ k ∧ k ≤ (j.pending.size : Int)
    · rw [if_pos ⟨rfl, c⟩] at hQ
      obtain ⟨i, rfl⟩ : ∃ i : Nat, k = (i : Int) := ⟨k.toNat, by omega⟩
      have d := decide_eq_true c
      have q1 := c.2
      have sz : (j.pending.extract 0 i).size ≤ j.pending.size := by rw [ByteArray.size_extract]; omega
      have a1 := str_add j.safe (j.pending.extract 0 i) (by omega)
      simp (disch := omega) only [VW, VY, VZ, VA, VB, VC, VE, TY, ↓reduceIte, Nat.reduceEqDiff, Nat.reduceAdd, Nat.reduceMul, Nat.reduceSub, Nat.reduceLeDiff, List.length_cons, List.length_nil, List.length_append, List.append_assoc, List.take_succ_cons, List.take_zero, List.drop_succ_cons, List.drop_zero, List.set_cons_zero, List.set_cons_succ, true_or, or_true, and_self, Bool.false_eq_true, Nat.le_refl, Option.bind_some, Option.map_some, Option.getD_some, Option.isSome_some, List.map_cons, List.map_nil, List.cons_append, List.nil_append, List.append_nil, List.getElem?_cons_zero, List.getElem?_cons_succ, eq_self, Int.reduceLT, Int.reduceLE, Int.reduceNeg, Int.reduceEq, d]
      refine draw_ord [0, 1, 2, 3, 4, 5, 6, 7, 8] (by kernel_rfl) (by simp only [List.filterMap_cons, List.filterMap_nil, List.getElem?_cons_zero, List.getElem?_cons_succ]; rfl) ?_
      simp (disch := omega) only [VW, VY, VZ, VA, VB, VC, VE, TY, ↓reduceIte, Nat.reduceEqDiff, Nat.reduceAdd, Nat.reduceMul, Nat.reduceSub, Nat.reduceLeDiff, List.length_cons, List.length_nil, List.length_append, List.append_assoc, List.take_succ_cons, List.take_zero, List.drop_succ_cons, List.drop_zero, List.set_cons_zero, List.set_cons_succ, true_or, or_true, and_self, Bool.false_eq_true, Nat.le_refl, Option.bind_some, Option.map_some, Option.getD_some, Option.isSome_some, List.map_cons, List.map_nil, List.cons_append, List.nil_append, List.append_nil, List.getElem?_cons_zero, List.getElem?_cons_succ, eq_self, Int.reduceLT, Int.reduceLE, Int.reduceNeg, Int.reduceEq, g, q1, a1]
      exact hQ _ s.ext
    · rw [if_neg (fun x => c x.2)] at hQ
      have d := decide_eq_false c
      simp (disch := omega) only [VW, VY, VZ, VA, VB, VC, VE, TY, ↓reduceIte, Nat.reduceEqDiff, Nat.reduceAdd, Nat.reduceMul, Nat.reduceSub, Nat.reduceLeDiff, List.length_cons, List.length_nil, List.length_append, List.append_assoc, List.take_succ_cons, List.take_zero, List.drop_succ_cons, List.drop_zero, List.set_cons_zero, List.set_cons_succ, true_or, or_true, and_self, Bool.false_eq_true, Nat.le_refl, Option.bind_some, Option.map_some, Option.getD_some, Option.isSome_some, List.map_cons, List.map_nil, List.cons_append, List.nil_append, List.append_nil, List.getElem?_cons_zero, List.getElem?_cons_succ, eq_self, Int.reduceLT, Int.reduceLE, Int.reduceNeg, Int.reduceEq, d]
      exact hQ _ s.ext
  | false =>
    rw [e] at hQ
    rw [if_neg (fun x => by cases x.1)] at hQ
    simp (disch := omega) only [VW, VY, VZ, VA, VB, VC, VE, TY, ↓reduceIte, Nat.reduceEqDiff, Nat.reduceAdd, Nat.reduceMul, Nat.reduceSub, Nat.reduceLeDiff, List.length_cons, List.length_nil, List.length_append, List.append_assoc, List.take_succ_cons, List.take_zero, List.drop_succ_cons, List.drop_zero, List.set_cons_zero, List.set_cons_succ, true_or, or_true, and_self, Bool.false_eq_true, Nat.le_refl, Option.bind_some, Option.map_some, Option.getD_some, Option.isSome_some, List.map_cons, List.map_nil, List.cons_append, List.nil_append, List.append_nil, List.getElem?_cons_zero, List.getElem?_cons_succ, eq_self, Int.reduceLT, Int.reduceLE, Int.reduceNeg, Int.reduceEq]
    exact hQ _ s.ext
theorem RecoverJournal_i {s : ByteArray} {h : Heap} {Q : Value → Heap → Prop} (n : s.size ≤ 1000000) (hQ : ∀ ds h', Sep h h' [repA (recoverM s).1 ds] → Q (.tuple #[.agg ds.toArray, .bool (recoverM s).2]) h') : CallsV Tryd.prog 10 [.string s] h Q := by
  refine CallsV.start Tryd.func10 rfl (by rw [Tryd.results10]) (by kernel_rfl) (by rw [Tryd.ntmps10]; simp) ?_
  have S := Sep.blk1 h [.string ⟨#[]⟩, .string ⟨#[]⟩] 24 true
  unfold recoverM at hQ
  simp (disch := omega) only [VW, VY, VZ, VA, VB, VC, VE, TY, ↓reduceIte, Nat.reduceEqDiff, Nat.reduceAdd, Nat.reduceMul, Nat.reduceSub, Nat.reduceLeDiff, List.length_cons, List.length_nil, List.length_append, List.append_assoc, List.take_succ_cons, List.take_zero, List.drop_succ_cons, List.drop_zero, List.set_cons_zero, List.set_cons_succ, true_or, or_true, and_self, Bool.false_eq_true, Nat.le_refl, Option.bind_some, Option.map_some, Option.getD_some, Option.isSome_some, List.map_cons, List.map_nil, List.cons_append, List.nil_append, List.append_nil, List.getElem?_cons_zero, List.getElem?_cons_succ, eq_self, Int.reduceLT, Int.reduceLE, Int.reduceNeg, Int.reduceEq]
  by_cases c : s.size ≤ 2000
  · have c' : ¬ (2000 : Int) < (s.size : Int) := by omega
    rw [if_pos c] at hQ
    simp (disch := omega) only [VW, VY, VZ, VA, VB, VC, VE, TY, ↓reduceIte, Nat.reduceEqDiff, Nat.reduceAdd, Nat.reduceMul, Nat.reduceSub, Nat.reduceLeDiff, List.length_cons, List.length_nil, List.length_append, List.append_assoc, List.take_succ_cons, List.take_zero, List.drop_succ_cons, List.drop_zero, List.set_cons_zero, List.set_cons_succ, true_or, or_true, and_self, Bool.false_eq_true, Nat.le_refl, Option.bind_some, Option.map_some, Option.getD_some, Option.isSome_some, List.map_cons, List.map_nil, List.cons_append, List.nil_append, List.append_nil, List.getElem?_cons_zero, List.getElem?_cons_succ, eq_self, Int.reduceLT, Int.reduceLE, Int.reduceNeg, Int.reduceEq, c']
    refine .inl ⟨by kernel_rfl, ?_⟩; refine readMarks_c (k := 0) n (by omega) fun v2 h2 s2 => ?_
    have S := S.add s2
    have hr := (readM_size 40 0 s.data.toList rfl).2
    rw [str_len] at hr
    have q1 : ((readM 0 s.data.toList).2 : Int) ≤ (s.size : Int) := by omega
    have sz : (s.extract 0 (readM 0 s.data.toList).2).size ≤ s.size := by rw [ByteArray.size_extract]; omega
    simp (disch := omega) only [VW, VY, VZ, VA, VB, VC, VE, TY, ↓reduceIte, Nat.reduceEqDiff, Nat.reduceAdd, Nat.reduceMul, Nat.reduceSub, Nat.reduceLeDiff, List.length_cons, List.length_nil, List.length_append, List.append_assoc, List.take_succ_cons, List.take_zero, List.drop_succ_cons, List.drop_zero, List.set_cons_zero, List.set_cons_succ, true_or, or_true, and_self, Bool.false_eq_true, Nat.le_refl, Option.bind_some, Option.map_some, Option.getD_some, Option.isSome_some, List.map_cons, List.map_nil, List.cons_append, List.nil_append, List.append_nil, List.getElem?_cons_zero, List.getElem?_cons_succ, eq_self, Int.reduceLT, Int.reduceLE, Int.reduceNeg, Int.reduceEq, q1]
    refine sep_store (S.pull 1 rfl) (by simp) fun h3 S => ?_
    have S := S.as (ds := [.string (s.extract 0 (readM 0 s.data.toList).2), .string ⟨#[]⟩]) (by simp [t_put])
    have ga := S.rdAll (n := 2) rfl
    simp (disch := omega) only [VW, VY, VZ, VA, VB, VC, VE, TY, ↓reduceIte, Nat.reduceEqDiff, Nat.reduceAdd, Nat.reduceMul, Nat.reduceSub, Nat.reduceLeDiff, List.length_cons, List.length_nil, List.length_append, List.append_assoc, List.take_succ_cons, List.take_zero, List.drop_succ_cons, List.drop_zero, List.set_cons_zero, List.set_cons_succ, true_or, or_true, and_self, Bool.false_eq_true, Nat.le_refl, Option.bind_some, Option.map_some, Option.getD_some, Option.isSome_some, List.map_cons, List.map_nil, List.cons_append, List.nil_append, List.append_nil, List.getElem?_cons_zero, List.getElem?_cons_succ, eq_self, Int.reduceLT, Int.reduceLE, Int.reduceNeg, Int.reduceEq, ga]
    exact hQ _ _ ((Sep.nil S.ext).rep0 (rep_Jn (x := ⟨s.extract 0 (readM 0 s.data.toList).2, ⟨#[]⟩⟩) (show (s.extract 0 (readM 0 s.data.toList).2).size ≤ _ by omega) (show (0 : Nat) ≤ 9223372036854775807 by decide)))
  · have c' : (2000 : Int) < (s.size : Int) := by omega
    rw [if_neg c] at hQ
    simp (disch := omega) only [VW, VY, VZ, VA, VB, VC, VE, TY, ↓reduceIte, Nat.reduceEqDiff, Nat.reduceAdd, Nat.reduceMul, Nat.reduceSub, Nat.reduceLeDiff, List.length_cons, List.length_nil, List.length_append, List.append_assoc, List.take_succ_cons, List.take_zero, List.drop_succ_cons, List.drop_zero, List.set_cons_zero, List.set_cons_succ, true_or, or_true, and_self, Bool.false_eq_true, Nat.le_refl, Option.bind_some, Option.map_some, Option.getD_some, Option.isSome_some, List.map_cons, List.map_nil, List.cons_append, List.nil_append, List.append_nil, List.getElem?_cons_zero, List.getElem?_cons_succ, eq_self, Int.reduceLT, Int.reduceLE, Int.reduceNeg, Int.reduceEq, c']
    exact hQ _ _ ((Sep.nil S.ext).rep0 (rep_jn0 _))
theorem RecoverJournal_s {s : ByteArray} {h : Heap} {Q : Value → Heap → Prop} (n : s.size ≤ 1000000) (hQ : ∀ ds h', Sep h h' [repA (recoverM s).1 ds] → Q (.tuple #[.agg ds.toArray, .bool (recoverM s).2]) h') : CallsV Tryd.prog 11 [.string s] h Q := by
  refine CallsV.start Tryd.func11 rfl (by rw [Tryd.results11]) (by kernel_rfl) (by rw [Tryd.ntmps11]; simp) ?_
  have S := Sep.blk1 h [.string ⟨#[]⟩, .string ⟨#[]⟩] 24 true
  unfold recoverM at hQ
  simp (disch := omega) only [VW, VY, VZ, VA, VB, VC, VE, TY, ↓reduceIte, Nat.reduceEqDiff, Nat.reduceAdd, Nat.reduceMul, Nat.reduceSub, Nat.reduceLeDiff, List.length_cons, List.length_nil, List.length_append, List.append_assoc, List.take_succ_cons, List.take_zero, List.drop_succ_cons, List.drop_zero, List.set_cons_zero, List.set_cons_succ, true_or, or_true, and_self, Bool.false_eq_true, Nat.le_refl, Option.bind_some, Option.map_some, Option.getD_some, Option.isSome_some, List.map_cons, List.map_nil, List.cons_append, List.nil_append, List.append_nil, List.getElem?_cons_zero, List.getElem?_cons_succ, eq_self, Int.reduceLT, Int.reduceLE, Int.reduceNeg, Int.reduceEq]
  by_cases c : s.size ≤ 2000
  · have c' : ¬ (2000 : Int) < (s.size : Int) := by omega
    rw [if_pos c] at hQ
    simp (disch := omega) only [VW, VY, VZ, VA, VB, VC, VE, TY, ↓reduceIte, Nat.reduceEqDiff, Nat.reduceAdd, Nat.reduceMul, Nat.reduceSub, Nat.reduceLeDiff, List.length_cons, List.length_nil, List.length_append, List.append_assoc, List.take_succ_cons, List.take_zero, List.drop_succ_cons, List.drop_zero, List.set_cons_zero, List.set_cons_succ, true_or, or_true, and_self, Bool.false_eq_true, Nat.le_refl, Option.bind_some, Option.map_some, Option.getD_some, Option.isSome_some, List.map_cons, List.map_nil, List.cons_append, List.nil_append, List.append_nil, List.getElem?_cons_zero, List.getElem?_cons_succ, eq_self, Int.reduceLT, Int.reduceLE, Int.reduceNeg, Int.reduceEq, c']
    refine .inl ⟨by kernel_rfl, ?_⟩; refine jrOpen_c n fun v2 h2 s2 => ?_
    have S := S.add s2
    have hr := (readM_size 40 0 s.data.toList rfl).2
    rw [str_len] at hr
    have q1 : ((readM 0 s.data.toList).2 : Int) ≤ (s.size : Int) := by omega
    have sz : (s.extract 0 (readM 0 s.data.toList).2).size ≤ s.size := by rw [ByteArray.size_extract]; omega
    simp (disch := omega) only [VW, VY, VZ, VA, VB, VC, VE, TY, ↓reduceIte, Nat.reduceEqDiff, Nat.reduceAdd, Nat.reduceMul, Nat.reduceSub, Nat.reduceLeDiff, List.length_cons, List.length_nil, List.length_append, List.append_assoc, List.take_succ_cons, List.take_zero, List.drop_succ_cons, List.drop_zero, List.set_cons_zero, List.set_cons_succ, true_or, or_true, and_self, Bool.false_eq_true, Nat.le_refl, Option.bind_some, Option.map_some, Option.getD_some, Option.isSome_some, List.map_cons, List.map_nil, List.cons_append, List.nil_append, List.append_nil, List.getElem?_cons_zero, List.getElem?_cons_succ, eq_self, Int.reduceLT, Int.reduceLE, Int.reduceNeg, Int.reduceEq, q1]
    refine sep_store (S.pull 1 rfl) (by simp) fun h3 S => ?_
    have S := S.as (ds := [.string (s.extract 0 (readM 0 s.data.toList).2), .string ⟨#[]⟩]) (by simp [t_put])
    have ga := S.rdAll (n := 2) rfl
    simp (disch := omega) only [VW, VY, VZ, VA, VB, VC, VE, TY, ↓reduceIte, Nat.reduceEqDiff, Nat.reduceAdd, Nat.reduceMul, Nat.reduceSub, Nat.reduceLeDiff, List.length_cons, List.length_nil, List.length_append, List.append_assoc, List.take_succ_cons, List.take_zero, List.drop_succ_cons, List.drop_zero, List.set_cons_zero, List.set_cons_succ, true_or, or_true, and_self, Bool.false_eq_true, Nat.le_refl, Option.bind_some, Option.map_some, Option.getD_some, Option.isSome_some, List.map_cons, List.map_nil, List.cons_append, List.nil_append, List.append_nil, List.getElem?_cons_zero, List.getElem?_cons_succ, eq_self, Int.reduceLT, Int.reduceLE, Int.reduceNeg, Int.reduceEq, ga]
    exact hQ _ _ ((Sep.nil S.ext).rep0 (rep_Jn (x := ⟨s.extract 0 (readM 0 s.data.toList).2, ⟨#[]⟩⟩) (show (s.extract 0 (readM 0 s.data.toList).2).size ≤ _ by omega) (show (0 : Nat) ≤ 9223372036854775807 by decide)))
  · have c' : (2000 : Int) < (s.size : Int) := by omega
    rw [if_neg c] at hQ
    simp (disch := omega) only [VW, VY, VZ, VA, VB, VC, VE, TY, ↓reduceIte, Nat.reduceEqDiff, Nat.reduceAdd, Nat.reduceMul, Nat.reduceSub, Nat.reduceLeDiff, List.length_cons, List.length_nil, List.length_append, List.append_assoc, List.take_succ_cons, List.take_zero, List.drop_succ_cons, List.drop_zero, List.set_cons_zero, List.set_cons_succ, true_or, or_true, and_self, Bool.false_eq_true, Nat.le_refl, Option.bind_some, Option.map_some, Option.getD_some, Option.isSome_some, List.map_cons, List.map_nil, List.cons_append, List.nil_append, List.append_nil, List.getElem?_cons_zero, List.getElem?_cons_succ, eq_self, Int.reduceLT, Int.reduceLE, Int.reduceNeg, Int.reduceEq, c']
    exact hQ _ _ ((Sep.nil S.ext).rep0 (rep_jn0 _))
end Go.Proofs
