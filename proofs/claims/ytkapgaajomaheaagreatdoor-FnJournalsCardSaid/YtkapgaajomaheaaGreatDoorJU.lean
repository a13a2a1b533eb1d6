/- Contracts of functions, facts of types, or the plain law behind one statement (own work): JU. Conditions: those told in each theorem. -/
import Derived.Test.YtkapgaajomaheaaGreatDoorJT
set_option linter.all false
set_option linter.unusedSimpArgs false
set_option linter.unusedVariables false
set_option maxRecDepth 4000
namespace Go.Proofs
open Go Go.V
instance : FlatT Mk := ⟨fun h => FlatT.flat (α := ByteArray × Int) h⟩
def marksJ (j : Jn) : Option (List Mk) := marksL j.safe.data.toList j.pending.data.toList
theorem marksJ_some {j : Jn} {l : List Mk} (h : marksJ j = some l) : (readM 0 j.safe.data.toList).2 = j.safe.size ∧ (readM (readM 0 j.safe.data.toList).1.length j.pending.data.toList).2 = j.pending.size ∧ l = (readM 0 j.safe.data.toList).1 ++ (readM (readM 0 j.safe.data.toList).1.length j.pending.data.toList).1 := by
  unfold marksJ marksL at h
  split at h
  · rename_i hh; cases h
    exact ⟨hh.1.trans (str_len _), hh.2.trans (str_len _), rfl⟩
  · cases h
theorem marksJ_of {j : Jn} (h1 : (readM 0 j.safe.data.toList).2 = j.safe.size) (h2 : (readM (readM 0 j.safe.data.toList).1.length j.pending.data.toList).2 = j.pending.size) :
    marksJ j = some ((readM 0 j.safe.data.toList).1 ++ (readM (readM 0 j.safe.data.toList).1.length j.pending.data.toList).1) := by
  unfold marksJ marksL
  rw [if_pos ⟨h1.trans (str_len _).symm, h2.trans (str_len _).symm⟩]
theorem marksJ_none {j : Jn} (h : ¬ ((readM 0 j.safe.data.toList).2 = j.safe.size ∧ (readM (readM 0 j.safe.data.toList).1.length j.pending.data.toList).2 = j.pending.size)) : marksJ j = none := by
  unfold marksJ marksL
  rw [if_neg (fun x => h ⟨x.1.trans (str_len _), x.2.trans (str_len _)⟩)]
theorem marksJ_good (j : Jn) : (marksJ j).isSome = decide ((j.safe.size ≤ 2000 ∧ j.pending.size ≤ 2000) ∧ (readM 0 (j.safe ++ j.pending).data.toList).2 = j.safe.size + j.pending.size ∧ (readM 0 j.safe.data.toList).2 = j.safe.size) := by
  have hg := good_iff j.safe.data.toList j.pending.data.toList
  rw [List.length_append, str_len, str_len] at hg
  have e : (j.safe ++ j.pending).data.toList = j.safe.data.toList ++ j.pending.data.toList := by simp
  rw [e, decide_eq_decide.2 hg]
  unfold marksJ marksL
  rw [str_len, str_len]
  split
  · rename_i hh; rw [decide_eq_true hh]; rfl
  · rename_i hh; rw [decide_eq_false hh]; rfl
theorem marksJ_all {j : Jn} {l : List Mk} (h : marksJ j = some l) : (readM 0 (j.safe ++ j.pending).data.toList).1 = l := by
  have e : (j.safe ++ j.pending).data.toList = j.safe.data.toList ++ j.pending.data.toList := by simp
  rw [e]; exact all_marks h
theorem marksJ_len {j : Jn} {l : List Mk} (h : marksJ j = some l) : l.length ≤ 40 ∧ j.safe.size ≤ 2000 ∧ j.pending.size ≤ 2000 := by
  have := marksL_len h
  rw [str_len, str_len] at this
  exact this
theorem marksOf_c {j : Jn} {h : Heap} {Q : Value → Heap → Prop} (hs : j.safe.size ≤ 1000000) (hp : j.pending.size ≤ 1000000)
    (h1 : ∀ l v h', marksJ j = some l → Sep h h' [ownA 26 l v] → Q (.tuple #[v, .bool true]) h') (h0 : marksJ j = none → ∀ h', Ext h h' → Q (.tuple #[.slice none 0 0, .bool false]) h') :
    CallsV Tryz.prog 25 [.agg #[.string j.safe, .string j.pending]] h Q := by
  refine CallsV.start Tryz.func25 rfl (by rw [Tryz.results25]) (by kernel_rfl) (by rw [Tryz.ntmps25]; simp) ?_
  have s := Sep.blk1 h [.string j.safe, .string j.pending] 24 true
  have hr := readM_len 40 0 j.safe.data.toList rfl
  simp (disch := omega) only [VW, VY, VZ, VA, VB, VC, VE, TY, ↓reduceIte, Nat.reduceEqDiff, Nat.reduceAdd, Nat.reduceMul, Nat.reduceSub, Nat.reduceLeDiff, List.length_cons, List.length_nil, List.length_append, List.append_assoc, List.take_succ_cons, List.take_zero, List.drop_succ_cons, List.drop_zero, List.set_cons_zero, List.set_cons_succ, true_or, or_true, and_self, Bool.false_eq_true, Nat.le_refl, Option.bind_some, Option.map_some, Option.getD_some, Option.isSome_some, List.map_cons, List.map_nil, List.cons_append, List.nil_append, List.append_nil, List.getElem?_cons_zero, List.getElem?_cons_succ, eq_self, Int.reduceLT, Int.reduceLE, Int.reduceNeg, Int.reduceEq]
  refine .inl ⟨by kernel_rfl, ?_⟩; refine readMarks_c (k := 0) hs (by omega) fun v2 h2 s2 => ?_
  have s := s.add s2
  have g := (s.pull 1 rfl).rd
  have len := (s.pull 0 rfl).row.isRow.len Tryz.prog
  simp (disch := omega) only [VW, VY, VZ, VA, VB, VC, VE, TY, ↓reduceIte, Nat.reduceEqDiff, Nat.reduceAdd, Nat.reduceMul, Nat.reduceSub, Nat.reduceLeDiff, List.length_cons, List.length_nil, List.length_append, List.append_assoc, List.take_succ_cons, List.take_zero, List.drop_succ_cons, List.drop_zero, List.set_cons_zero, List.set_cons_succ, true_or, or_true, and_self, Bool.false_eq_true, Nat.le_refl, Option.bind_some, Option.map_some, Option.getD_some, Option.isSome_some, List.map_cons, List.map_nil, List.cons_append, List.nil_append, List.append_nil, List.getElem?_cons_zero, List.getElem?_cons_succ, eq_self, Int.reduceLT, Int.reduceLE, Int.reduceNeg, Int.reduceEq, g, len]
  refine .inl ⟨by kernel_rfl, ?_⟩; refine readMarks_c (k := (readM 0 j.safe.data.toList).1.length) hp (by omega) fun v3 h3 s3 => ?_
  have s := s.add s3
  have g := (s.pull 2 rfl).rd
  simp (disch := omega) only [VW, VY, VZ, VA, VB, VC, VE, TY, ↓reduceIte, Nat.reduceEqDiff, Nat.reduceAdd, Nat.reduceMul, Nat.reduceSub, Nat.reduceLeDiff, List.length_cons, List.length_nil, List.length_append, List.append_assoc, List.take_succ_cons, List.take_zero, List.drop_succ_cons, List.drop_zero, List.set_cons_zero, List.set_cons_succ, true_or, or_true, and_self, Bool.false_eq_true, Nat.le_refl, Option.bind_some, Option.map_some, Option.getD_some, Option.isSome_some, List.map_cons, List.map_nil, List.cons_append, List.nil_append, List.append_nil, List.getElem?_cons_zero, List.getElem?_cons_succ, eq_self, Int.reduceLT, Int.reduceLE, Int.reduceNeg, Int.reduceEq, g]
  have hr2 := readM_len (40 - (readM 0 j.safe.data.toList).1.length) (readM 0 j.safe.data.toList).1.length j.pending.data.toList rfl
  by_cases e1 : (readM 0 j.safe.data.toList).2 = j.safe.size
  · have e1' : ((readM 0 j.safe.data.toList).2 : Int) = (j.safe.size : Int) := by omega
    simp (disch := omega) only [VW, VY, VZ, VA, VB, VC, VE, TY, ↓reduceIte, Nat.reduceEqDiff, Nat.reduceAdd, Nat.reduceMul, Nat.reduceSub, Nat.reduceLeDiff, List.length_cons, List.length_nil, List.length_append, List.append_assoc, List.take_succ_cons, List.take_zero, List.drop_succ_cons, List.drop_zero, List.set_cons_zero, List.set_cons_succ, true_or, or_true, and_self, Bool.false_eq_true, Nat.le_refl, Option.bind_some, Option.map_some, Option.getD_some, Option.isSome_some, List.map_cons, List.map_nil, List.cons_append, List.nil_append, List.append_nil, List.getElem?_cons_zero, List.getElem?_cons_succ, eq_self, Int.reduceLT, Int.reduceLE, Int.reduceNeg, Int.reduceEq, e1', g]
    by_cases e2 : (readM (readM 0 j.safe.data.toList).1.length j.pending.data.toList).2 = j.pending.size
    · have e2' : ((readM (readM 0 j.safe.data.toList).1.length j.pending.data.toList).2 : Int) = (j.pending.size : Int) := by omega
      have rb := (s.pull 0 rfl).row
      simp (disch := omega) only [VW, VY, VZ, VA, VB, VC, VE, TY, ↓reduceIte, Nat.reduceEqDiff, Nat.reduceAdd, Nat.reduceMul, Nat.reduceSub, Nat.reduceLeDiff, List.length_cons, List.length_nil, List.length_append, List.append_assoc, List.take_succ_cons, List.take_zero, List.drop_succ_cons, List.drop_zero, List.set_cons_zero, List.set_cons_succ, true_or, or_true, and_self, Bool.false_eq_true, Nat.le_refl, Option.bind_some, Option.map_some, Option.getD_some, Option.isSome_some, List.map_cons, List.map_nil, List.cons_append, List.nil_append, List.append_nil, List.getElem?_cons_zero, List.getElem?_cons_succ, eq_self, Int.reduceLT, Int.reduceLE, Int.reduceNeg, Int.reduceEq, e2']
      refine sep_appendRow (s.pull 1 rfl) rb te31 tk26 rfl (by decide) (by simp only []; omega) fun v4 h4 s => ?_
      have pl := row_plain s.row.isRow
      simp (disch := omega) only [VW, VY, VZ, VA, VB, VC, VE, TY, ↓reduceIte, Nat.reduceEqDiff, Nat.reduceAdd, Nat.reduceMul, Nat.reduceSub, Nat.reduceLeDiff, List.length_cons, List.length_nil, List.length_append, List.append_assoc, List.take_succ_cons, List.take_zero, List.drop_succ_cons, List.drop_zero, List.set_cons_zero, List.set_cons_succ, true_or, or_true, and_self, Bool.false_eq_true, Nat.le_refl, Option.bind_some, Option.map_some, Option.getD_some, Option.isSome_some, List.map_cons, List.map_nil, List.cons_append, List.nil_append, List.append_nil, List.getElem?_cons_zero, List.getElem?_cons_succ, eq_self, Int.reduceLT, Int.reduceLE, Int.reduceNeg, Int.reduceEq, pl]
      exact h1 _ _ _ (marksJ_of e1 e2) s.head
    · have e2' : ¬ ((readM (readM 0 j.safe.data.toList).1.length j.pending.data.toList).2 : Int) = (j.pending.size : Int) := by omega
      simp (disch := omega) only [VW, VY, VZ, VA, VB, VC, VE, TY, ↓reduceIte, Nat.reduceEqDiff, Nat.reduceAdd, Nat.reduceMul, Nat.reduceSub, Nat.reduceLeDiff, List.length_cons, List.length_nil, List.length_append, List.append_assoc, List.take_succ_cons, List.take_zero, List.drop_succ_cons, List.drop_zero, List.set_cons_zero, List.set_cons_succ, true_or, or_true, and_self, Bool.false_eq_true, Nat.le_refl, Option.bind_some, Option.map_some, Option.getD_some, Option.isSome_some, List.map_cons, List.map_nil, List.cons_append, List.nil_append, List.append_nil, List.getElem?_cons_zero, List.getElem?_cons_succ, eq_self, Int.reduceLT, Int.reduceLE, Int.reduceNeg, Int.reduceEq, e2']
      exact h0 (marksJ_none (fun x => e2 x.2)) _ s.ext
  · have e1' : ¬ ((readM 0 j.safe.data.toList).2 : Int) = (j.safe.size : Int) := by omega
    simp (disch := omega) only [VW, VY, VZ, VA, VB, VC, VE, TY, ↓reduceIte, Nat.reduceEqDiff, Nat.reduceAdd, Nat.reduceMul, Nat.reduceSub, Nat.reduceLeDiff, List.length_cons, List.length_nil, List.length_append, List.append_assoc, List.take_succ_cons, List.take_zero, List.drop_succ_cons, List.drop_zero, List.set_cons_zero, List.set_cons_succ, true_or, or_true, and_self, Bool.false_eq_true, Nat.le_refl, Option.bind_some, Option.map_some, Option.getD_some, Option.isSome_some, List.map_cons, List.map_nil, List.cons_append, List.nil_append, List.append_nil, List.getElem?_cons_zero, List.getElem?_cons_succ, eq_self, Int.reduceLT, Int.reduceLE, Int.reduceNeg, Int.reduceEq, e1']
    exact h0 (marksJ_none (fun x => e1 x.1)) _ s.ext
theorem jrGood_c {j : Jn} {h : Heap} {Q : Value → Heap → Prop} (hs : j.safe.size ≤ 1000000) (hp : j.pending.size ≤ 1000000)
    (hQ : ∀ h', Ext h h' → Q (.bool (marksJ j).isSome) h') : CallsV Tryz.prog 28 [.agg #[.string j.safe, .string j.pending]] h Q := by
  refine CallsV.start Tryz.func28 rfl (by rw [Tryz.results28]) (by kernel_rfl) (by rw [Tryz.ntmps28]; simp) ?_
  have s := Sep.blk1 h [.string j.safe, .string j.pending] 24 true
  have g := s.rd
  rw [marksJ_good] at hQ
  simp (disch := omega) only [VW, VY, VZ, VA, VB, VC, VE, TY, ↓reduceIte, Nat.reduceEqDiff, Nat.reduceAdd, Nat.reduceMul, Nat.reduceSub, Nat.reduceLeDiff, List.length_cons, List.length_nil, List.length_append, List.append_assoc, List.take_succ_cons, List.take_zero, List.drop_succ_cons, List.drop_zero, List.set_cons_zero, List.set_cons_succ, true_or, or_true, and_self, Bool.false_eq_true, Nat.le_refl, Option.bind_some, Option.map_some, Option.getD_some, Option.isSome_some, List.map_cons, List.map_nil, List.cons_append, List.nil_append, List.append_nil, List.getElem?_cons_zero, List.getElem?_cons_succ, eq_self, Int.reduceLT, Int.reduceLE, Int.reduceNeg, Int.reduceEq]
  by_cases c1 : 2000 < j.safe.size
  · have c1' : (2000 : Int) < (j.safe.size : Int) := by omega
    rw [decide_eq_false (fun x => by omega)] at hQ
    simp (disch := omega) only [VW, VY, VZ, VA, VB, VC, VE, TY, ↓reduceIte, Nat.reduceEqDiff, Nat.reduceAdd, Nat.reduceMul, Nat.reduceSub, Nat.reduceLeDiff, List.length_cons, List.length_nil, List.length_append, List.append_assoc, List.take_succ_cons, List.take_zero, List.drop_succ_cons, List.drop_zero, List.set_cons_zero, List.set_cons_succ, true_or, or_true, and_self, Bool.false_eq_true, Nat.le_refl, Option.bind_some, Option.map_some, Option.getD_some, Option.isSome_some, List.map_cons, List.map_nil, List.cons_append, List.nil_append, List.append_nil, List.getElem?_cons_zero, List.getElem?_cons_succ, eq_self, Int.reduceLT, Int.reduceLE, Int.reduceNeg, Int.reduceEq, c1']
    exact hQ _ s.ext
  have c1' : ¬ (2000 : Int) < (j.safe.size : Int) := by omega
  simp (disch := omega) only [VW, VY, VZ, VA, VB, VC, VE, TY, ↓reduceIte, Nat.reduceEqDiff, Nat.reduceAdd, Nat.reduceMul, Nat.reduceSub, Nat.reduceLeDiff, List.length_cons, List.length_nil, List.length_append, List.append_assoc, List.take_succ_cons, List.take_zero, List.drop_succ_cons, List.drop_zero, List.set_cons_zero, List.set_cons_succ, true_or, or_true, and_self, Bool.false_eq_true, Nat.le_refl, Option.bind_some, Option.map_some, Option.getD_some, Option.isSome_some, List.map_cons, List.map_nil, List.cons_append, List.nil_append, List.append_nil, List.getElem?_cons_zero, List.getElem?_cons_succ, eq_self, Int.reduceLT, Int.reduceLE, Int.reduceNeg, Int.reduceEq, c1', g]
  by_cases c2 : 2000 < j.pending.size
  · have c2' : (2000 : Int) < (j.pending.size : Int) := by omega
    rw [decide_eq_false (fun x => by omega)] at hQ
    simp (disch := omega) only [VW, VY, VZ, VA, VB, VC, VE, TY, ↓reduceIte, Nat.reduceEqDiff, Nat.reduceAdd, Nat.reduceMul, Nat.reduceSub, Nat.reduceLeDiff, List.length_cons, List.length_nil, List.length_append, List.append_assoc, List.take_succ_cons, List.take_zero, List.drop_succ_cons, List.drop_zero, List.set_cons_zero, List.set_cons_succ, true_or, or_true, and_self, Bool.false_eq_true, Nat.le_refl, Option.bind_some, Option.map_some, Option.getD_some, Option.isSome_some, List.map_cons, List.map_nil, List.cons_append, List.nil_append, List.append_nil, List.getElem?_cons_zero, List.getElem?_cons_succ, eq_self, Int.reduceLT, Int.reduceLE, Int.reduceNeg, Int.reduceEq, c2']
    exact hQ _ s.ext
  have c2' : ¬ (2000 : Int) < (j.pending.size : Int) := by omega
  have a1 := str_add j.safe j.pending (by omega)
  have sz := size_append j.safe j.pending
  simp (disch := omega) only [VW, VY, VZ, VA, VB, VC, VE, TY, ↓reduceIte, Nat.reduceEqDiff, Nat.reduceAdd, Nat.reduceMul, Nat.reduceSub, Nat.reduceLeDiff, List.length_cons, List.length_nil, List.length_append, List.append_assoc, List.take_succ_cons, List.take_zero, List.drop_succ_cons, List.drop_zero, List.set_cons_zero, List.set_cons_succ, true_or, or_true, and_self, Bool.false_eq_true, Nat.le_refl, Option.bind_some, Option.map_some, Option.getD_some, Option.isSome_some, List.map_cons, List.map_nil, List.cons_append, List.nil_append, List.append_nil, List.getElem?_cons_zero, List.getElem?_cons_succ, eq_self, Int.reduceLT, Int.reduceLE, Int.reduceNeg, Int.reduceEq, c2', g, a1]
  refine .inl ⟨by kernel_rfl, ?_⟩; refine jrOpen_c (by omega) fun v2 h2 s2 => ?_
  have s := s.add s2
  have g := (s.pull 1 rfl).rd
  simp (disch := omega) only [VW, VY, VZ, VA, VB, VC, VE, TY, ↓reduceIte, Nat.reduceEqDiff, Nat.reduceAdd, Nat.reduceMul, Nat.reduceSub, Nat.reduceLeDiff, List.length_cons, List.length_nil, List.length_append, List.append_assoc, List.take_succ_cons, List.take_zero, List.drop_succ_cons, List.drop_zero, List.set_cons_zero, List.set_cons_succ, true_or, or_true, and_self, Bool.false_eq_true, Nat.le_refl, Option.bind_some, Option.map_some, Option.getD_some, Option.isSome_some, List.map_cons, List.map_nil, List.cons_append, List.nil_append, List.append_nil, List.getElem?_cons_zero, List.getElem?_cons_succ, eq_self, Int.reduceLT, Int.reduceLE, Int.reduceNeg, Int.reduceEq, g]
  refine .inl ⟨by kernel_rfl, ?_⟩; refine jrOpen_c (by omega) fun v3 h3 s3 => ?_
  have s := s.add s3
  have g := (s.pull 2 rfl).rd
  simp (disch := omega) only [VW, VY, VZ, VA, VB, VC, VE, TY, ↓reduceIte, Nat.reduceEqDiff, Nat.reduceAdd, Nat.reduceMul, Nat.reduceSub, Nat.reduceLeDiff, List.length_cons, List.length_nil, List.length_append, List.append_assoc, List.take_succ_cons, List.take_zero, List.drop_succ_cons, List.drop_zero, List.set_cons_zero, List.set_cons_succ, true_or, or_true, and_self, Bool.false_eq_true, Nat.le_refl, Option.bind_some, Option.map_some, Option.getD_some, Option.isSome_some, List.map_cons, List.map_nil, List.cons_append, List.nil_append, List.append_nil, List.getElem?_cons_zero, List.getElem?_cons_succ, eq_self, Int.reduceLT, Int.reduceLE, Int.reduceNeg, Int.reduceEq, g, a1]
  by_cases e1 : (readM 0 (j.safe ++ j.pending).data.toList).2 = j.safe.size + j.pending.size
  · have e1' : ((readM 0 (j.safe ++ j.pending).data.toList).2 : Int) = ((j.safe ++ j.pending).size : Int) := by omega
    simp (disch := omega) only [VW, VY, VZ, VA, VB, VC, VE, TY, ↓reduceIte, Nat.reduceEqDiff, Nat.reduceAdd, Nat.reduceMul, Nat.reduceSub, Nat.reduceLeDiff, List.length_cons, List.length_nil, List.length_append, List.append_assoc, List.take_succ_cons, List.take_zero, List.drop_succ_cons, List.drop_zero, List.set_cons_zero, List.set_cons_succ, true_or, or_true, and_self, Bool.false_eq_true, Nat.le_refl, Option.bind_some, Option.map_some, Option.getD_some, Option.isSome_some, List.map_cons, List.map_nil, List.cons_append, List.nil_append, List.append_nil, List.getElem?_cons_zero, List.getElem?_cons_succ, eq_self, Int.reduceLT, Int.reduceLE, Int.reduceNeg, Int.reduceEq, e1', g]
    have e : decide (((readM 0 j.safe.data.toList).2 : Int) = (j.safe.size : Int)) = decide ((j.safe.size ≤ 2000 ∧ j.pending.size ≤ 2000) ∧ (readM 0 (j.safe ++ j.pending).data.toList).2 = j.safe.size + j.pending.size ∧ (readM 0 j.safe.data.toList).2 = j.safe.size) := by
      rw [decide_eq_decide]
      constructor
      · intro x; exact ⟨⟨by omega, by omega⟩, e1, by omega⟩
      · intro x; omega
    rw [e]
    exact hQ _ s.ext
  · have e1' : ¬ ((readM 0 (j.safe ++ j.pending).data.toList).2 : Int) = ((j.safe ++ j.pending).size : Int) := by omega
    rw [decide_eq_false (fun x => e1 x.2.1)] at hQ
    simp (disch := omega) only [VW, VY, VZ, VA, VB, VC, VE, TY, ↓reduceIte, Nat.reduceEqDiff, Nat.reduceAdd, Nat.reduceMul, Nat.reduceSub, Nat.reduceLeDiff, List.length_cons, List.length_nil, List.length_append, List.append_assoc, List.take_succ_cons, List.take_zero, List.drop_succ_cons, List.drop_zero, List.set_cons_zero, List.set_cons_succ, true_or, or_true, and_self, Bool.false_eq_true, Nat.le_refl, Option.bind_some, Option.map_some, Option.getD_some, Option.isSome_some, List.map_cons, List.map_nil, List.cons_append, List.nil_append, List.append_nil, List.getElem?_cons_zero, List.getElem?_cons_succ, eq_self, Int.reduceLT, Int.reduceLE, Int.reduceNeg, Int.reduceEq, e1']
    exact hQ _ s.ext
theorem jrAll_c {j : Jn} {l : List Mk} {h : Heap} {Q : Value → Heap → Prop} (hl : marksJ j = some l) (hQ : ∀ v h', Sep h h' [ownA 26 l v] → Q v h') :
    CallsV Tryz.prog 30 [.agg #[.string j.safe, .string j.pending]] h Q := by
  refine CallsV.start Tryz.func30 rfl (by rw [Tryz.results30]) (by kernel_rfl) (by rw [Tryz.ntmps30]; simp) ?_
  have s := Sep.blk1 h [.string j.safe, .string j.pending] 24 true
  have hn := marksJ_len hl
  have a1 := str_add j.safe j.pending (by omega)
  have sz := size_append j.safe j.pending
  simp (disch := omega) only [VW, VY, VZ, VA, VB, VC, VE, TY, ↓reduceIte, Nat.reduceEqDiff, Nat.reduceAdd, Nat.reduceMul, Nat.reduceSub, Nat.reduceLeDiff, List.length_cons, List.length_nil, List.length_append, List.append_assoc, List.take_succ_cons, List.take_zero, List.drop_succ_cons, List.drop_zero, List.set_cons_zero, List.set_cons_succ, true_or, or_true, and_self, Bool.false_eq_true, Nat.le_refl, Option.bind_some, Option.map_some, Option.getD_some, Option.isSome_some, List.map_cons, List.map_nil, List.cons_append, List.nil_append, List.append_nil, List.getElem?_cons_zero, List.getElem?_cons_succ, eq_self, Int.reduceLT, Int.reduceLE, Int.reduceNeg, Int.reduceEq, a1]
  refine .inl ⟨by kernel_rfl, ?_⟩; refine jrOpen_c (by omega) fun v2 h2 s2 => ?_
  have s := s.add s2
  rw [marksJ_all hl] at s
  have pl := row_plain (s.pull 0 rfl).row.isRow
  simp (disch := omega) only [VW, VY, VZ, VA, VB, VC, VE, TY, ↓reduceIte, Nat.reduceEqDiff, Nat.reduceAdd, Nat.reduceMul, Nat.reduceSub, Nat.reduceLeDiff, List.length_cons, List.length_nil, List.length_append, List.append_assoc, List.take_succ_cons, List.take_zero, List.drop_succ_cons, List.drop_zero, List.set_cons_zero, List.set_cons_succ, true_or, or_true, and_self, Bool.false_eq_true, Nat.le_refl, Option.bind_some, Option.map_some, Option.getD_some, Option.isSome_some, List.map_cons, List.map_nil, List.cons_append, List.nil_append, List.append_nil, List.getElem?_cons_zero, List.getElem?_cons_succ, eq_self, Int.reduceLT, Int.reduceLE, Int.reduceNeg, Int.reduceEq, pl]
  exact hQ _ _ (s.pull 0 rfl).head
end Go.Proofs
