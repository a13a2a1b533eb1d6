/- Contracts of functions, facts of types, or the plain law behind one statement (own work): JZ. Conditions: those told in each theorem. -/
import Derived.Test.YtkapgaajomaheaaGreatDoorJY
set_option linter.all false
set_option linter.unusedSimpArgs false
set_option linter.unusedVariables false
set_option maxRecDepth 4000
namespace Go.Proofs
open Go Go.V
/-! LastMark -/
def lastM (j : Jn) (p : ByteArray) : Int × Bool := match marksJ j with
  | some l => if pathM p = true then (lastK l p, decide (0 < lastK l p)) else (0, false)
  | none => (0, false)
theorem marks_in {j : Jn} {l : List Mk} (h : marksJ j = some l) : ∀ m ∈ l, markM m = true := marksL_mark h
theorem LastMark_i {j : Jn} {p : ByteArray} {cs : List Value} {h : Heap} {Q : Value → Heap → Prop} (hx : Here h j cs) (n : Siz.siz j ≤ 1000000) (np : p.size ≤ 1000000)
    (hQ : ∀ h', Ext h h' → Q (.tuple #[.int .i64 (lastM j p).1, .bool (lastM j p).2]) h') : CallsV Tryz.prog 16 [.agg cs.toArray, .string p] h Q := by
  obtain ⟨rfl, f1, f2⟩ := here_Jn hx
  obtain ⟨z1, z2⟩ := siz_Jn n
  refine CallsV.start Tryz.func16 rfl (by rw [Tryz.results16]) (by kernel_rfl) (by rw [Tryz.ntmps16]; simp) ?_
  have s := Sep.blk1 h [.string j.safe, .string j.pending] 24 true
  unfold lastM at hQ
  simp (disch := omega) only [VW, VY, VZ, VA, VB, VC, VE, TY, ↓reduceIte, Nat.reduceEqDiff, Nat.reduceAdd, Nat.reduceMul, Nat.reduceSub, Nat.reduceLeDiff, List.length_cons, List.length_nil, List.length_append, List.append_assoc, List.take_succ_cons, List.take_zero, List.drop_succ_cons, List.drop_zero, List.set_cons_zero, List.set_cons_succ, true_or, or_true, and_self, Bool.false_eq_true, Nat.le_refl, Option.bind_some, Option.map_some, Option.getD_some, Option.isSome_some, List.map_cons, List.map_nil, List.cons_append, List.nil_append, List.append_nil, List.getElem?_cons_zero, List.getElem?_cons_succ, eq_self, Int.reduceLT, Int.reduceLE, Int.reduceNeg, Int.reduceEq]
  refine .inl ⟨by kernel_rfl, ?_⟩; refine marksOf_c z1 z2 (fun l v h' e s2 => ?_) (fun e h' E => ?_)
  · have hn := marksJ_len e
    have hk := lastK_nn p (marks_in e)
    rw [e] at hQ
    dsimp only at hQ
    have hl := s2.row
    have s := s.add s2
    simp (disch := omega) only [VW, VY, VZ, VA, VB, VC, VE, TY, ↓reduceIte, Nat.reduceEqDiff, Nat.reduceAdd, Nat.reduceMul, Nat.reduceSub, Nat.reduceLeDiff, List.length_cons, List.length_nil, List.length_append, List.append_assoc, List.take_succ_cons, List.take_zero, List.drop_succ_cons, List.drop_zero, List.set_cons_zero, List.set_cons_succ, true_or, or_true, and_self, Bool.false_eq_true, Nat.le_refl, Option.bind_some, Option.map_some, Option.getD_some, Option.isSome_some, List.map_cons, List.map_nil, List.cons_append, List.nil_append, List.append_nil, List.getElem?_cons_zero, List.getElem?_cons_succ, eq_self, Int.reduceLT, Int.reduceLE, Int.reduceNeg, Int.reduceEq]
    refine .inl ⟨by kernel_rfl, ?_⟩; refine isPath_c (by omega) fun h3 E3 => ?_
    cases hp : pathM p with
    | false =>
      rw [hp, if_neg (by decide)] at hQ
      simp (disch := omega) only [VW, VY, VZ, VA, VB, VC, VE, TY, ↓reduceIte, Nat.reduceEqDiff, Nat.reduceAdd, Nat.reduceMul, Nat.reduceSub, Nat.reduceLeDiff, List.length_cons, List.length_nil, List.length_append, List.append_assoc, List.take_succ_cons, List.take_zero, List.drop_succ_cons, List.drop_zero, List.set_cons_zero, List.set_cons_succ, true_or, or_true, and_self, Bool.false_eq_true, Nat.le_refl, Option.bind_some, Option.map_some, Option.getD_some, Option.isSome_some, List.map_cons, List.map_nil, List.cons_append, List.nil_append, List.append_nil, List.getElem?_cons_zero, List.getElem?_cons_succ, eq_self, Int.reduceLT, Int.reduceLE, Int.reduceNeg, Int.reduceEq]
      exact hQ _ (s.mono E3).ext
    | true =>
      rw [hp, if_pos rfl] at hQ
      have hl := hl.mono E3
      have s := s.mono E3
      simp (disch := omega) only [VW, VY, VZ, VA, VB, VC, VE, TY, ↓reduceIte, Nat.reduceEqDiff, Nat.reduceAdd, Nat.reduceMul, Nat.reduceSub, Nat.reduceLeDiff, List.length_cons, List.length_nil, List.length_append, List.append_assoc, List.take_succ_cons, List.take_zero, List.drop_succ_cons, List.drop_zero, List.set_cons_zero, List.set_cons_succ, true_or, or_true, and_self, Bool.false_eq_true, Nat.le_refl, Option.bind_some, Option.map_some, Option.getD_some, Option.isSome_some, List.map_cons, List.map_nil, List.cons_append, List.nil_append, List.append_nil, List.getElem?_cons_zero, List.getElem?_cons_succ, eq_self, Int.reduceLT, Int.reduceLE, Int.reduceNeg, Int.reduceEq, hl.isRow.len]
      refine loop_rule (fun n e h' => ∃ (i : Nat), e 1 = .string p ∧ e 23 = v ∧ e 24 = .int .i64 l.length ∧ e 25 = .int .i64 i ∧ e 8 = .int .i64 (lastU 0 (l.take i) p) ∧ i ≤ l.length ∧ n = l.length - i ∧ Ext h3 h') ?_ l.length _ _ ⟨0, rfl, rfl, rfl, rfl, rfl, Nat.zero_le _, rfl, .refl _⟩
      rintro n e h1 ⟨i, e1, e8, e9, e10, e5, hi, rfl, E⟩
      simp (disch := omega) only [VW, VY, VZ, VA, VB, VC, VE, TY, ↓reduceIte, Nat.reduceEqDiff, Nat.reduceAdd, Nat.reduceMul, Nat.reduceSub, Nat.reduceLeDiff, List.length_cons, List.length_nil, List.length_append, List.append_assoc, List.take_succ_cons, List.take_zero, List.drop_succ_cons, List.drop_zero, List.set_cons_zero, List.set_cons_succ, true_or, or_true, and_self, Bool.false_eq_true, Nat.le_refl, Option.bind_some, Option.map_some, Option.getD_some, Option.isSome_some, List.map_cons, List.map_nil, List.cons_append, List.nil_append, List.append_nil, List.getElem?_cons_zero, List.getElem?_cons_succ, eq_self, Int.reduceLT, Int.reduceLE, Int.reduceNeg, Int.reduceEq, e9, e10]
      by_cases hlt : i < l.length
      · obtain ⟨x, hx⟩ := get_some hlt
        have c1 : (i : Int) < (l.length : Int) := by omega
        have hu := lastU_take (k := 0) p hx
        obtain ⟨_, x3, x4⟩ := Row.at (hl.mono E) hx
        obtain ⟨rfl, _, _⟩ := here_Mk x4
        rw [Mk.sz] at x3
        have s := Sep.blk1 h1 [.string x.path, .int .i64 x.kind] 26 true
        have g := s.rd
        simp (disch := omega) only [VW, VY, VZ, VA, VB, VC, VE, TY, ↓reduceIte, Nat.reduceEqDiff, Nat.reduceAdd, Nat.reduceMul, Nat.reduceSub, Nat.reduceLeDiff, List.length_cons, List.length_nil, List.length_append, List.append_assoc, List.take_succ_cons, List.take_zero, List.drop_succ_cons, List.drop_zero, List.set_cons_zero, List.set_cons_succ, true_or, or_true, and_self, Bool.false_eq_true, Nat.le_refl, Option.bind_some, Option.map_some, Option.getD_some, Option.isSome_some, List.map_cons, List.map_nil, List.cons_append, List.nil_append, List.append_nil, List.getElem?_cons_zero, List.getElem?_cons_succ, eq_self, Int.reduceLT, Int.reduceLE, Int.reduceNeg, Int.reduceEq, c1, e1, e8, e10, hl.isRow.ix, x3, g]
        by_cases hp : x.path = p
        · rw [if_pos hp] at hu
          have hp' := decide_eq_true hp
          simp (disch := omega) only [VW, VY, VZ, VA, VB, VC, VE, TY, ↓reduceIte, Nat.reduceEqDiff, Nat.reduceAdd, Nat.reduceMul, Nat.reduceSub, Nat.reduceLeDiff, List.length_cons, List.length_nil, List.length_append, List.append_assoc, List.take_succ_cons, List.take_zero, List.drop_succ_cons, List.drop_zero, List.set_cons_zero, List.set_cons_succ, true_or, or_true, and_self, Bool.false_eq_true, Nat.le_refl, Option.bind_some, Option.map_some, Option.getD_some, Option.isSome_some, List.map_cons, List.map_nil, List.cons_append, List.nil_append, List.append_nil, List.getElem?_cons_zero, List.getElem?_cons_succ, eq_self, Int.reduceLT, Int.reduceLE, Int.reduceNeg, Int.reduceEq, hp', g, e1, e8, e9, e10, wrap_in]
          exact ⟨_, by omega, i + 1, by simp, by rw [hu], by omega, rfl, E.trans s.ext⟩
        · rw [if_neg hp] at hu
          simp (disch := omega) only [VW, VY, VZ, VA, VB, VC, VE, TY, ↓reduceIte, Nat.reduceEqDiff, Nat.reduceAdd, Nat.reduceMul, Nat.reduceSub, Nat.reduceLeDiff, List.length_cons, List.length_nil, List.length_append, List.append_assoc, List.take_succ_cons, List.take_zero, List.drop_succ_cons, List.drop_zero, List.set_cons_zero, List.set_cons_succ, true_or, or_true, and_self, Bool.false_eq_true, Nat.le_refl, Option.bind_some, Option.map_some, Option.getD_some, Option.isSome_some, List.map_cons, List.map_nil, List.cons_append, List.nil_append, List.append_nil, List.getElem?_cons_zero, List.getElem?_cons_succ, eq_self, Int.reduceLT, Int.reduceLE, Int.reduceNeg, Int.reduceEq, hp, g, e1, e8, e9, e10, wrap_in]
          exact ⟨_, by omega, i + 1, by simp, by rw [e5, hu], by omega, rfl, E.trans s.ext⟩
      · obtain rfl : i = l.length := by omega
        have c1 : ¬ (l.length : Int) < (l.length : Int) := by omega
        rw [List.take_length] at e5
        simp (disch := omega) only [VW, VY, VZ, VA, VB, VC, VE, TY, ↓reduceIte, Nat.reduceEqDiff, Nat.reduceAdd, Nat.reduceMul, Nat.reduceSub, Nat.reduceLeDiff, List.length_cons, List.length_nil, List.length_append, List.append_assoc, List.take_succ_cons, List.take_zero, List.drop_succ_cons, List.drop_zero, List.set_cons_zero, List.set_cons_succ, true_or, or_true, and_self, Bool.false_eq_true, Nat.le_refl, Option.bind_some, Option.map_some, Option.getD_some, Option.isSome_some, List.map_cons, List.map_nil, List.cons_append, List.nil_append, List.append_nil, List.getElem?_cons_zero, List.getElem?_cons_succ, eq_self, Int.reduceLT, Int.reduceLE, Int.reduceNeg, Int.reduceEq, c1, e5]
        exact hQ _ (s.ext.trans E)
  · rw [e] at hQ
    simp (disch := omega) only [VW, VY, VZ, VA, VB, VC, VE, TY, ↓reduceIte, Nat.reduceEqDiff, Nat.reduceAdd, Nat.reduceMul, Nat.reduceSub, Nat.reduceLeDiff, List.length_cons, List.length_nil, List.length_append, List.append_assoc, List.take_succ_cons, List.take_zero, List.drop_succ_cons, List.drop_zero, List.set_cons_zero, List.set_cons_succ, true_or, or_true, and_self, Bool.false_eq_true, Nat.le_refl, Option.bind_some, Option.map_some, Option.getD_some, Option.isSome_some, List.map_cons, List.map_nil, List.cons_append, List.nil_append, List.append_nil, List.getElem?_cons_zero, List.getElem?_cons_succ, eq_self, Int.reduceLT, Int.reduceLE, Int.reduceNeg, Int.reduceEq]
    exact hQ _ (s.mono E).ext
theorem LastMark_s {j : Jn} {p : ByteArray} {cs : List Value} {h : Heap} {Q : Value → Heap → Prop} (hx : Here h j cs) (n : Siz.siz j ≤ 1000000) (np : p.size ≤ 1000000)
    (hQ : ∀ h', Ext h h' → Q (.tuple #[.int .i64 (lastM j p).1, .bool (lastM j p).2]) h') : CallsV Tryz.prog 17 [.agg cs.toArray, .string p] h Q := by
  obtain ⟨rfl, f1, f2⟩ := here_Jn hx
  obtain ⟨z1, z2⟩ := siz_Jn n
  refine CallsV.start Tryz.func17 rfl (by rw [Tryz.results17]) (by kernel_rfl) (by rw [Tryz.ntmps17]; simp) ?_
  have s := Sep.blk1 h [.string j.safe, .string j.pending] 24 true
  unfold lastM at hQ
  simp (disch := omega) only [VW, VY, VZ, VA, VB, VC, VE, TY, ↓reduceIte, Nat.reduceEqDiff, Nat.reduceAdd, Nat.reduceMul, Nat.reduceSub, Nat.reduceLeDiff, List.length_cons, List.length_nil, List.length_append, List.append_assoc, List.take_succ_cons, List.take_zero, List.drop_succ_cons, List.drop_zero, List.set_cons_zero, List.set_cons_succ, true_or, or_true, and_self, Bool.false_eq_true, Nat.le_refl, Option.bind_some, Option.map_some, Option.getD_some, Option.isSome_some, List.map_cons, List.map_nil, List.cons_append, List.nil_append, List.append_nil, List.getElem?_cons_zero, List.getElem?_cons_succ, eq_self, Int.reduceLT, Int.reduceLE, Int.reduceNeg, Int.reduceEq]
  refine .inl ⟨by kernel_rfl, ?_⟩; refine jrGood_c z1 z2 fun h2 E2 => ?_
  have s := s.mono E2
  cases e : marksJ j with
  | none =>
    rw [e] at hQ
    simp (disch := omega) only [VW, VY, VZ, VA, VB, VC, VE, TY, ↓reduceIte, Nat.reduceEqDiff, Nat.reduceAdd, Nat.reduceMul, Nat.reduceSub, Nat.reduceLeDiff, List.length_cons, List.length_nil, List.length_append, List.append_assoc, List.take_succ_cons, List.take_zero, List.drop_succ_cons, List.drop_zero, List.set_cons_zero, List.set_cons_succ, true_or, or_true, and_self, Bool.false_eq_true, Nat.le_refl, Option.bind_some, Option.map_some, Option.getD_some, Option.isSome_some, List.map_cons, List.map_nil, List.cons_append, List.nil_append, List.append_nil, List.getElem?_cons_zero, List.getElem?_cons_succ, eq_self, Int.reduceLT, Int.reduceLE, Int.reduceNeg, Int.reduceEq, Option.isSome_none]
    exact hQ _ s.ext
  | some l =>
    have hk := lastK_nn p (marks_in e)
    rw [e] at hQ
    dsimp only at hQ
    simp (disch := omega) only [VW, VY, VZ, VA, VB, VC, VE, TY, ↓reduceIte, Nat.reduceEqDiff, Nat.reduceAdd, Nat.reduceMul, Nat.reduceSub, Nat.reduceLeDiff, List.length_cons, List.length_nil, List.length_append, List.append_assoc, List.take_succ_cons, List.take_zero, List.drop_succ_cons, List.drop_zero, List.set_cons_zero, List.set_cons_succ, true_or, or_true, and_self, Bool.false_eq_true, Nat.le_refl, Option.bind_some, Option.map_some, Option.getD_some, Option.isSome_some, List.map_cons, List.map_nil, List.cons_append, List.nil_append, List.append_nil, List.getElem?_cons_zero, List.getElem?_cons_succ, eq_self, Int.reduceLT, Int.reduceLE, Int.reduceNeg, Int.reduceEq, Option.isSome_some]
    refine .inl ⟨by kernel_rfl, ?_⟩; refine jrPath_c (by omega) ?_
    cases hp : pathM p with
    | false =>
      rw [hp, if_neg (by decide)] at hQ
      simp (disch := omega) only [VW, VY, VZ, VA, VB, VC, VE, TY, ↓reduceIte, Nat.reduceEqDiff, Nat.reduceAdd, Nat.reduceMul, Nat.reduceSub, Nat.reduceLeDiff, List.length_cons, List.length_nil, List.length_append, List.append_assoc, List.take_succ_cons, List.take_zero, List.drop_succ_cons, List.drop_zero, List.set_cons_zero, List.set_cons_succ, true_or, or_true, and_self, Bool.false_eq_true, Nat.le_refl, Option.bind_some, Option.map_some, Option.getD_some, Option.isSome_some, List.map_cons, List.map_nil, List.cons_append, List.nil_append, List.append_nil, List.getElem?_cons_zero, List.getElem?_cons_succ, eq_self, Int.reduceLT, Int.reduceLE, Int.reduceNeg, Int.reduceEq]
      exact hQ _ s.ext
    | true =>
      rw [hp, if_pos rfl] at hQ
      have ga := s.rdAll (n := 2) rfl
      simp (disch := omega) only [VW, VY, VZ, VA, VB, VC, VE, TY, ↓reduceIte, Nat.reduceEqDiff, Nat.reduceAdd, Nat.reduceMul, Nat.reduceSub, Nat.reduceLeDiff, List.length_cons, List.length_nil, List.length_append, List.append_assoc, List.take_succ_cons, List.take_zero, List.drop_succ_cons, List.drop_zero, List.set_cons_zero, List.set_cons_succ, true_or, or_true, and_self, Bool.false_eq_true, Nat.le_refl, Option.bind_some, Option.map_some, Option.getD_some, Option.isSome_some, List.map_cons, List.map_nil, List.cons_append, List.nil_append, List.append_nil, List.getElem?_cons_zero, List.getElem?_cons_succ, eq_self, Int.reduceLT, Int.reduceLE, Int.reduceNeg, Int.reduceEq, ga]
      refine .inl ⟨by kernel_rfl, ?_⟩; refine jrAll_c e fun v h3 s3 => ?_
      have s := s.mono s3.ext
      have pl := row_plain s3.row.isRow
      simp (disch := omega) only [VW, VY, VZ, VA, VB, VC, VE, TY, ↓reduceIte, Nat.reduceEqDiff, Nat.reduceAdd, Nat.reduceMul, Nat.reduceSub, Nat.reduceLeDiff, List.length_cons, List.length_nil, List.length_append, List.append_assoc, List.take_succ_cons, List.take_zero, List.drop_succ_cons, List.drop_zero, List.set_cons_zero, List.set_cons_succ, true_or, or_true, and_self, Bool.false_eq_true, Nat.le_refl, Option.bind_some, Option.map_some, Option.getD_some, Option.isSome_some, List.map_cons, List.map_nil, List.cons_append, List.nil_append, List.append_nil, List.getElem?_cons_zero, List.getElem?_cons_succ, eq_self, Int.reduceLT, Int.reduceLE, Int.reduceNeg, Int.reduceEq, pl]
      refine .inl ⟨by kernel_rfl, ?_⟩; refine jrLast_c s3.row fun h4 E4 => ?_
      have s := s.mono E4
      have ga := s.rdAll (n := 2) rfl
      by_cases c : lastK l p = 0
      · rw [c] at hQ
        simp (disch := omega) only [VW, VY, VZ, VA, VB, VC, VE, TY, ↓reduceIte, Nat.reduceEqDiff, Nat.reduceAdd, Nat.reduceMul, Nat.reduceSub, Nat.reduceLeDiff, List.length_cons, List.length_nil, List.length_append, List.append_assoc, List.take_succ_cons, List.take_zero, List.drop_succ_cons, List.drop_zero, List.set_cons_zero, List.set_cons_succ, true_or, or_true, and_self, Bool.false_eq_true, Nat.le_refl, Option.bind_some, Option.map_some, Option.getD_some, Option.isSome_some, List.map_cons, List.map_nil, List.cons_append, List.nil_append, List.append_nil, List.getElem?_cons_zero, List.getElem?_cons_succ, eq_self, Int.reduceLT, Int.reduceLE, Int.reduceNeg, Int.reduceEq, c]
        exact hQ _ s.ext
      · have q : decide (0 < lastK l p) = true := decide_eq_true (by omega)
        rw [q] at hQ
        simp (disch := omega) only [VW, VY, VZ, VA, VB, VC, VE, TY, ↓reduceIte, Nat.reduceEqDiff, Nat.reduceAdd, Nat.reduceMul, Nat.reduceSub, Nat.reduceLeDiff, List.length_cons, List.length_nil, List.length_append, List.append_assoc, List.take_succ_cons, List.take_zero, List.drop_succ_cons, List.drop_zero, List.set_cons_zero, List.set_cons_succ, true_or, or_true, and_self, Bool.false_eq_true, Nat.le_refl, Option.bind_some, Option.map_some, Option.getD_some, Option.isSome_some, List.map_cons, List.map_nil, List.cons_append, List.nil_append, List.append_nil, List.getElem?_cons_zero, List.getElem?_cons_succ, eq_self, Int.reduceLT, Int.reduceLE, Int.reduceNeg, Int.reduceEq, c, ga]
        refine .inl ⟨by kernel_rfl, ?_⟩; refine jrAll_c e fun v5 h5 s5 => ?_
        have s := s.mono s5.ext
        have pl := row_plain s5.row.isRow
        simp (disch := omega) only [VW, VY, VZ, VA, VB, VC, VE, TY, ↓reduceIte, Nat.reduceEqDiff, Nat.reduceAdd, Nat.reduceMul, Nat.reduceSub, Nat.reduceLeDiff, List.length_cons, List.length_nil, List.length_append, List.append_assoc, List.take_succ_cons, List.take_zero, List.drop_succ_cons, List.drop_zero, List.set_cons_zero, List.set_cons_succ, true_or, or_true, and_self, Bool.false_eq_true, Nat.le_refl, Option.bind_some, Option.map_some, Option.getD_some, Option.isSome_some, List.map_cons, List.map_nil, List.cons_append, List.nil_append, List.append_nil, List.getElem?_cons_zero, List.getElem?_cons_succ, eq_self, Int.reduceLT, Int.reduceLE, Int.reduceNeg, Int.reduceEq, pl]
        refine .inl ⟨by kernel_rfl, ?_⟩; refine jrLast_c s5.row fun h6 E6 => ?_
        have s := s.mono E6
        simp (disch := omega) only [VW, VY, VZ, VA, VB, VC, VE, TY, ↓reduceIte, Nat.reduceEqDiff, Nat.reduceAdd, Nat.reduceMul, Nat.reduceSub, Nat.reduceLeDiff, List.length_cons, List.length_nil, List.length_append, List.append_assoc, List.take_succ_cons, List.take_zero, List.drop_succ_cons, List.drop_zero, List.set_cons_zero, List.set_cons_succ, true_or, or_true, and_self, Bool.false_eq_true, Nat.le_refl, Option.bind_some, Option.map_some, Option.getD_some, Option.isSome_some, List.map_cons, List.map_nil, List.cons_append, List.nil_append, List.append_nil, List.getElem?_cons_zero, List.getElem?_cons_succ, eq_self, Int.reduceLT, Int.reduceLE, Int.reduceNeg, Int.reduceEq]
        exact hQ _ s.ext
/-! CompactJournal -/
theorem indexFuncMk_c {g : Nat} {cap : List Value} {p : Mk → Bool} {l : List Mk} {v : Value} {h : Heap} {Q : Value → Heap → Prop} (hl : Row h l v)
    (hf : ∀ (m : Mk) (cs : List Value) (h' : Heap) (K : Value → Heap → Prop), m ∈ l → Ext h h' → Here h' m cs → (∀ h'', Ext h' h'' → K (.bool (p m)) h'') → CallV Tryz.prog g (.agg cs.toArray :: cap) h' K)
    (hQ : ∀ (i : Int) h', Ext h h' → (0 ≤ i ↔ l.any p = true) → Q (.int .i64 i) h') : CallsV Tryz.prog 59 [v, .func (.func g) #[] cap.toArray] h Q := by
  refine CallsV.start Tryz.func59 rfl (by rw [Tryz.results59]) (by kernel_rfl) (by rw [Tryz.ntmps59]; simp) ?_
  have hle := hl.le
  simp (disch := omega) only [VW, VY, VZ, VA, VB, VC, VE, TY, ↓reduceIte, Nat.reduceEqDiff, Nat.reduceAdd, Nat.reduceMul, Nat.reduceSub, Nat.reduceLeDiff, List.length_cons, List.length_nil, List.length_append, List.append_assoc, List.take_succ_cons, List.take_zero, List.drop_succ_cons, List.drop_zero, List.set_cons_zero, List.set_cons_succ, true_or, or_true, and_self, Bool.false_eq_true, Nat.le_refl, Option.bind_some, Option.map_some, Option.getD_some, Option.isSome_some, List.map_cons, List.map_nil, List.cons_append, List.nil_append, List.append_nil, List.getElem?_cons_zero, List.getElem?_cons_succ, eq_self, Int.reduceLT, Int.reduceLE, Int.reduceNeg, Int.reduceEq, hl.isRow.len]
  refine loop_rule (fun n e h' => ∃ (i : Nat), e 0 = v ∧ e 1 = .func (.func g) #[] cap.toArray ∧ e 7 = .int .i64 l.length ∧ e 8 = .int .i64 i ∧ (l.take i).any p = false ∧ i ≤ l.length ∧ n = l.length - i ∧ Ext h h') ?_ l.length _ _ ⟨0, rfl, rfl, rfl, rfl, rfl, Nat.zero_le _, rfl, .refl _⟩
  rintro n e h1 ⟨i, e0, e1, e7, e8, ha, hi, rfl, E⟩
  simp (disch := omega) only [VW, VY, VZ, VA, VB, VC, VE, TY, ↓reduceIte, Nat.reduceEqDiff, Nat.reduceAdd, Nat.reduceMul, Nat.reduceSub, Nat.reduceLeDiff, List.length_cons, List.length_nil, List.length_append, List.append_assoc, List.take_succ_cons, List.take_zero, List.drop_succ_cons, List.drop_zero, List.set_cons_zero, List.set_cons_succ, true_or, or_true, and_self, Bool.false_eq_true, Nat.le_refl, Option.bind_some, Option.map_some, Option.getD_some, Option.isSome_some, List.map_cons, List.map_nil, List.cons_append, List.nil_append, List.append_nil, List.getElem?_cons_zero, List.getElem?_cons_succ, eq_self, Int.reduceLT, Int.reduceLE, Int.reduceNeg, Int.reduceEq, e7, e8]
  by_cases hlt : i < l.length
  · obtain ⟨x, hx⟩ := get_some hlt
    have c1 : (i : Int) < (l.length : Int) := by omega
    obtain ⟨cs, x3, x4⟩ := Row.at (hl.mono E) hx
    rw [Mk.sz] at x3
    have at1 := any_take p hx
    rw [ha, Bool.false_or] at at1
    simp (disch := omega) only [VW, VY, VZ, VA, VB, VC, VE, TY, ↓reduceIte, Nat.reduceEqDiff, Nat.reduceAdd, Nat.reduceMul, Nat.reduceSub, Nat.reduceLeDiff, List.length_cons, List.length_nil, List.length_append, List.append_assoc, List.take_succ_cons, List.take_zero, List.drop_succ_cons, List.drop_zero, List.set_cons_zero, List.set_cons_succ, true_or, or_true, and_self, Bool.false_eq_true, Nat.le_refl, Option.bind_some, Option.map_some, Option.getD_some, Option.isSome_some, List.map_cons, List.map_nil, List.cons_append, List.nil_append, List.append_nil, List.getElem?_cons_zero, List.getElem?_cons_succ, eq_self, Int.reduceLT, Int.reduceLE, Int.reduceNeg, Int.reduceEq, c1, e0, e1, e8, hl.isRow.ix, x3]
    refine hf x cs _ _ (List.mem_of_getElem? hx) E x4 fun h2 E2 => ?_
    cases hp : p x with
    | true =>
      simp (disch := omega) only [VW, VY, VZ, VA, VB, VC, VE, TY, ↓reduceIte, Nat.reduceEqDiff, Nat.reduceAdd, Nat.reduceMul, Nat.reduceSub, Nat.reduceLeDiff, List.length_cons, List.length_nil, List.length_append, List.append_assoc, List.take_succ_cons, List.take_zero, List.drop_succ_cons, List.drop_zero, List.set_cons_zero, List.set_cons_succ, true_or, or_true, and_self, Bool.false_eq_true, Nat.le_refl, Option.bind_some, Option.map_some, Option.getD_some, Option.isSome_some, List.map_cons, List.map_nil, List.cons_append, List.nil_append, List.append_nil, List.getElem?_cons_zero, List.getElem?_cons_succ, eq_self, Int.reduceLT, Int.reduceLE, Int.reduceNeg, Int.reduceEq]
      exact hQ _ _ (E.trans E2) ⟨fun _ => any_true hx hp, fun _ => by omega⟩
    | false =>
      simp (disch := omega) only [VW, VY, VZ, VA, VB, VC, VE, TY, ↓reduceIte, Nat.reduceEqDiff, Nat.reduceAdd, Nat.reduceMul, Nat.reduceSub, Nat.reduceLeDiff, List.length_cons, List.length_nil, List.length_append, List.append_assoc, List.take_succ_cons, List.take_zero, List.drop_succ_cons, List.drop_zero, List.set_cons_zero, List.set_cons_succ, true_or, or_true, and_self, Bool.false_eq_true, Nat.le_refl, Option.bind_some, Option.map_some, Option.getD_some, Option.isSome_some, List.map_cons, List.map_nil, List.cons_append, List.nil_append, List.append_nil, List.getElem?_cons_zero, List.getElem?_cons_succ, eq_self, Int.reduceLT, Int.reduceLE, Int.reduceNeg, Int.reduceEq, e0, e1, e7, e8, wrap_in]
      exact ⟨_, by omega, i + 1, by simp, by rw [at1, hp], by omega, rfl, E.trans E2⟩
  · obtain rfl : i = l.length := by omega
    have c1 : ¬ (l.length : Int) < (l.length : Int) := by omega
    rw [List.take_length] at ha
    simp (disch := omega) only [VW, VY, VZ, VA, VB, VC, VE, TY, ↓reduceIte, Nat.reduceEqDiff, Nat.reduceAdd, Nat.reduceMul, Nat.reduceSub, Nat.reduceLeDiff, List.length_cons, List.length_nil, List.length_append, List.append_assoc, List.take_succ_cons, List.take_zero, List.drop_succ_cons, List.drop_zero, List.set_cons_zero, List.set_cons_succ, true_or, or_true, and_self, Bool.false_eq_true, Nat.le_refl, Option.bind_some, Option.map_some, Option.getD_some, Option.isSome_some, List.map_cons, List.map_nil, List.cons_append, List.nil_append, List.append_nil, List.getElem?_cons_zero, List.getElem?_cons_succ, eq_self, Int.reduceLT, Int.reduceLE, Int.reduceNeg, Int.reduceEq, c1]
    exact hQ _ _ E ⟨fun h => by omega, fun h => by rw [ha] at h; cases h⟩
theorem containsFuncMk_c {g : Nat} {cap : List Value} {p : Mk → Bool} {l : List Mk} {v : Value} {h : Heap} {Q : Value → Heap → Prop} (hl : Row h l v)
    (hf : ∀ (m : Mk) (cs : List Value) (h' : Heap) (K : Value → Heap → Prop), m ∈ l → Ext h h' → Here h' m cs → (∀ h'', Ext h' h'' → K (.bool (p m)) h'') → CallV Tryz.prog g (.agg cs.toArray :: cap) h' K)
    (hQ : ∀ h', Ext h h' → Q (.bool (l.any p)) h') : CallsV Tryz.prog 34 [v, .func (.func g) #[] cap.toArray] h Q := by
  refine CallsV.start Tryz.func34 rfl (by rw [Tryz.results34]) (by kernel_rfl) (by rw [Tryz.ntmps34]; simp) ?_
  simp (disch := omega) only [VW, VY, VZ, VA, VB, VC, VE, TY, ↓reduceIte, Nat.reduceEqDiff, Nat.reduceAdd, Nat.reduceMul, Nat.reduceSub, Nat.reduceLeDiff, List.length_cons, List.length_nil, List.length_append, List.append_assoc, List.take_succ_cons, List.take_zero, List.drop_succ_cons, List.drop_zero, List.set_cons_zero, List.set_cons_succ, true_or, or_true, and_self, Bool.false_eq_true, Nat.le_refl, Option.bind_some, Option.map_some, Option.getD_some, Option.isSome_some, List.map_cons, List.map_nil, List.cons_append, List.nil_append, List.append_nil, List.getElem?_cons_zero, List.getElem?_cons_succ, eq_self, Int.reduceLT, Int.reduceLE, Int.reduceNeg, Int.reduceEq]
  refine .inl ⟨by kernel_rfl, ?_⟩; refine indexFuncMk_c hl hf fun i h2 E2 hi => ?_
  by_cases c : 0 ≤ i
  · rw [hi.1 c] at hQ
    simp (disch := omega) only [VW, VY, VZ, VA, VB, VC, VE, TY, ↓reduceIte, Nat.reduceEqDiff, Nat.reduceAdd, Nat.reduceMul, Nat.reduceSub, Nat.reduceLeDiff, List.length_cons, List.length_nil, List.length_append, List.append_assoc, List.take_succ_cons, List.take_zero, List.drop_succ_cons, List.drop_zero, List.set_cons_zero, List.set_cons_succ, true_or, or_true, and_self, Bool.false_eq_true, Nat.le_refl, Option.bind_some, Option.map_some, Option.getD_some, Option.isSome_some, List.map_cons, List.map_nil, List.cons_append, List.nil_append, List.append_nil, List.getElem?_cons_zero, List.getElem?_cons_succ, eq_self, Int.reduceLT, Int.reduceLE, Int.reduceNeg, Int.reduceEq, c]
    exact hQ _ E2
  · have : l.any p = false := by
      cases hh : l.any p with
      | true => exact absurd (hi.2 hh) c
      | false => rfl
    rw [this] at hQ
    simp (disch := omega) only [VW, VY, VZ, VA, VB, VC, VE, TY, ↓reduceIte, Nat.reduceEqDiff, Nat.reduceAdd, Nat.reduceMul, Nat.reduceSub, Nat.reduceLeDiff, List.length_cons, List.length_nil, List.length_append, List.append_assoc, List.take_succ_cons, List.take_zero, List.drop_succ_cons, List.drop_zero, List.set_cons_zero, List.set_cons_succ, true_or, or_true, and_self, Bool.false_eq_true, Nat.le_refl, Option.bind_some, Option.map_some, Option.getD_some, Option.isSome_some, List.map_cons, List.map_nil, List.cons_append, List.nil_append, List.append_nil, List.getElem?_cons_zero, List.getElem?_cons_succ, eq_self, Int.reduceLT, Int.reduceLE, Int.reduceNeg, Int.reduceEq, c]
    exact hQ _ E2
/-- The last marks of all paths. -/
def sameP (m : Mk) : Mk → Bool := fun n => decide (n.path = m.path)
def lastsL : List Mk → List Mk
  | [] => []
  | m :: l => if l.any (sameP m) = true then lastsL l else m :: lastsL l
theorem lastsL_mem : ∀ {l : List Mk} {m : Mk}, m ∈ lastsL l → m ∈ l
  | [], _, h => by cases h
  | x :: l, m, h => by
    simp only [lastsL] at h
    split at h
    · exact List.mem_cons_of_mem _ (lastsL_mem h)
    · rcases List.mem_cons.1 h with rfl | h
      · simp
      · exact List.mem_cons_of_mem _ (lastsL_mem h)
theorem lastsL_len : ∀ l : List Mk, (lastsL l).length ≤ l.length
  | [] => Nat.le_refl _
  | x :: l => by
    simp only [lastsL]
    have := lastsL_len l
    split
    · simp; omega
    · simp; omega
def linesB (n : Nat) : List Mk → ByteArray
  | [] => ⟨#[]⟩
  | m :: l => lineB n m ++ linesB (n + 1) l
theorem append_assocB (a b c : ByteArray) : a ++ b ++ c = a ++ (b ++ c) := by apply bytes_inj; simp
theorem append_nilB (a : ByteArray) : a ++ (⟨#[]⟩ : ByteArray) = a := by apply bytes_inj; simp
theorem nil_appendB (a : ByteArray) : (⟨#[]⟩ : ByteArray) ++ a = a := by apply bytes_inj; simp
def compactM (j : Jn) : Jn × Bool := match marksJ j with
  | some l => (⟨linesB 0 (lastsL l), ⟨#[]⟩⟩, true)
  | none => (jn0, false)
theorem linesB_size : ∀ (l : List Mk) (n : Nat), n + l.length ≤ 40 → (∀ m ∈ l, markM m = true) → (linesB n l).size ≤ 20 * l.length
  | [], _, _, _ => by show 0 ≤ _; omega
  | m :: l, n, h, hm => by
    simp only [linesB, List.length_cons] at h ⊢
    have h1 := line_short (k := n) (m := m) (by omega) (hm m (by simp))
    have h2 := linesB_size l (n + 1) (by omega) fun x hx => hm x (by simp [hx])
    rw [size_append]; omega
theorem markM_path {m : Mk} (h : markM m = true) : m.path.size ≤ 8 := by
  unfold markM pathM at h
  simp at h
  omega
theorem lastMarks1_c {m n : Mk} {cs : List Value} {b : Nat} {h : Heap} {Q : Value → Heap → Prop} (hm : Here h m cs) (hn : At h b 0 n) (hQ : ∀ h', Ext h h' → Q (.bool (sameP n m)) h') :
    CallsV Tryz.prog 58 [.agg cs.toArray, .pointer (some ⟨b, 0, none⟩)] h Q := by
  obtain ⟨rfl, f1, f2⟩ := here_Mk hm
  refine CallsV.start Tryz.func58 rfl (by rw [Tryz.results58]) (by kernel_rfl) (by rw [Tryz.ntmps58]; simp) ?_
  have s := Sep.blk1 h [.string m.path, .int .i64 m.kind] 26 true
  have g := s.rd
  obtain ⟨x1, _⟩ := at_Mk (hn.ext s.ext)
  simp (disch := omega) only [VW, VY, VZ, VA, VB, VC, VE, TY, ↓reduceIte, Nat.reduceEqDiff, Nat.reduceAdd, Nat.reduceMul, Nat.reduceSub, Nat.reduceLeDiff, List.length_cons, List.length_nil, List.length_append, List.append_assoc, List.take_succ_cons, List.take_zero, List.drop_succ_cons, List.drop_zero, List.set_cons_zero, List.set_cons_succ, true_or, or_true, and_self, Bool.false_eq_true, Nat.le_refl, Option.bind_some, Option.map_some, Option.getD_some, Option.isSome_some, List.map_cons, List.map_nil, List.cons_append, List.nil_append, List.append_nil, List.getElem?_cons_zero, List.getElem?_cons_succ, eq_self, Int.reduceLT, Int.reduceLE, Int.reduceNeg, Int.reduceEq, g, x1]
  exact hQ _ s.ext
theorem lastMarks_c {l : List Mk} {v : Value} {h : Heap} {Q : Value → Heap → Prop} (hl : Row h l v) (hn : l.length ≤ 1000) (hQ : ∀ w h', Sep h h' [ownA 26 (lastsL l) w] → Q w h') :
    CallsV Tryz.prog 32 [v] h Q := by
  refine CallsV.start Tryz.func32 rfl (by rw [Tryz.results32]) (by kernel_rfl) (by rw [Tryz.ntmps32]; simp) ?_
  have hle := hl.le
  simp (disch := omega) only [VW, VY, VZ, VA, VB, VC, VE, TY, ↓reduceIte, Nat.reduceEqDiff, Nat.reduceAdd, Nat.reduceMul, Nat.reduceSub, Nat.reduceLeDiff, List.length_cons, List.length_nil, List.length_append, List.append_assoc, List.take_succ_cons, List.take_zero, List.drop_succ_cons, List.drop_zero, List.set_cons_zero, List.set_cons_succ, true_or, or_true, and_self, Bool.false_eq_true, Nat.le_refl, Option.bind_some, Option.map_some, Option.getD_some, Option.isSome_some, List.map_cons, List.map_nil, List.cons_append, List.nil_append, List.append_nil, List.getElem?_cons_zero, List.getElem?_cons_succ, eq_self, Int.reduceLT, Int.reduceLE, Int.reduceNeg, Int.reduceEq, hl.isRow.len]
  refine loop_rule (fun n e h' => ∃ (i : Nat) (D : List Mk) (w : Value), e 0 = v ∧ e 6 = v ∧ e 7 = .int .i64 l.length ∧ e 8 = .int .i64 i ∧ e 3 = w ∧ D ++ lastsL (l.drop i) = lastsL l ∧ D.length ≤ i ∧ i ≤ l.length ∧ n = l.length - i ∧ Sep h h' [ownA 26 D w]) ?_ l.length _ _ ⟨0, [], _, rfl, rfl, rfl, rfl, rfl, rfl, Nat.le_refl _, Nat.zero_le _, rfl, (Sep.nil (.refl h)).nilA _⟩
  rintro n e h1 ⟨i, D, w, e0, e6, e7, e8, e3, hD, hDi, hi, rfl, s⟩
  simp (disch := omega) only [VW, VY, VZ, VA, VB, VC, VE, TY, ↓reduceIte, Nat.reduceEqDiff, Nat.reduceAdd, Nat.reduceMul, Nat.reduceSub, Nat.reduceLeDiff, List.length_cons, List.length_nil, List.length_append, List.append_assoc, List.take_succ_cons, List.take_zero, List.drop_succ_cons, List.drop_zero, List.set_cons_zero, List.set_cons_succ, true_or, or_true, and_self, Bool.false_eq_true, Nat.le_refl, Option.bind_some, Option.map_some, Option.getD_some, Option.isSome_some, List.map_cons, List.map_nil, List.cons_append, List.nil_append, List.append_nil, List.getElem?_cons_zero, List.getElem?_cons_succ, eq_self, Int.reduceLT, Int.reduceLE, Int.reduceNeg, Int.reduceEq, e7, e8]
  by_cases hlt : i < l.length
  · obtain ⟨x, hx⟩ := get_some hlt
    have c1 : (i : Int) < (l.length : Int) := by omega
    have hl1 := hl.mono s.ext
    obtain ⟨cs, x3, x4⟩ := Row.at hl1 hx
    obtain ⟨rfl, f1, f2⟩ := here_Mk x4
    rw [Mk.sz] at x3
    rw [drop_cons hx] at hD
    simp only [lastsL] at hD
    have sb := s.newBlk [.string x.path, .int .i64 x.kind] 26 true
    have ga := sb.rdAll (n := 2) rfl
    have k1 : (0 : Int) ≤ (i : Int) + 1 := by omega
    have k2 : (i : Int) + 1 ≤ (l.length : Int) := by omega
    have k3 : ((i : Int) + 1).toNat = i + 1 := by omega
    have hcut := hl1.mono (Ext.one h1 (some ⟨[.string x.path, .int .i64 x.kind], 26, false, true⟩)) |>.cut (lo := i + 1) (m := l.length) (by omega) (Nat.le_refl _)
    rw [List.take_length] at hcut
    have cap := hl.isRow.cap
    simp (disch := omega) only [VW, VY, VZ, VA, VB, VC, VE, TY, ↓reduceIte, Nat.reduceEqDiff, Nat.reduceAdd, Nat.reduceMul, Nat.reduceSub, Nat.reduceLeDiff, List.length_cons, List.length_nil, List.length_append, List.append_assoc, List.take_succ_cons, List.take_zero, List.drop_succ_cons, List.drop_zero, List.set_cons_zero, List.set_cons_succ, true_or, or_true, and_self, Bool.false_eq_true, Nat.le_refl, Option.bind_some, Option.map_some, Option.getD_some, Option.isSome_some, List.map_cons, List.map_nil, List.cons_append, List.nil_append, List.append_nil, List.getElem?_cons_zero, List.getElem?_cons_succ, eq_self, Int.reduceLT, Int.reduceLE, Int.reduceNeg, Int.reduceEq, c1, e0, e3, e6, e7, e8, hl.isRow.ix, hl.isRow.sl, x3, k1, k2, k3, wrap_in]
    refine ⟨rfl, ?_⟩
    refine .inl ⟨by kernel_rfl, ?_⟩; refine containsFuncMk_c (p := sameP x) hcut (fun m cs h' K hm E hm2 hK => ?_) fun h2 E2 => ?_
    · refine .inl ⟨by kernel_rfl, ?_⟩
      have sb' := sb.mono E
      exact lastMarks1_c hm2 (sb'.ptr (hm2 |> fun _ => mk_Mk f1 f2)) hK
    · have sb := sb.mono E2
      have ga := sb.rdAll (n := 2) rfl
      cases hany : (l.drop (i + 1)).any (sameP x) with
      | true =>
        rw [if_pos hany] at hD
        simp (disch := omega) only [VW, VY, VZ, VA, VB, VC, VE, TY, ↓reduceIte, Nat.reduceEqDiff, Nat.reduceAdd, Nat.reduceMul, Nat.reduceSub, Nat.reduceLeDiff, List.length_cons, List.length_nil, List.length_append, List.append_assoc, List.take_succ_cons, List.take_zero, List.drop_succ_cons, List.drop_zero, List.set_cons_zero, List.set_cons_succ, true_or, or_true, and_self, Bool.false_eq_true, Nat.le_refl, Option.bind_some, Option.map_some, Option.getD_some, Option.isSome_some, List.map_cons, List.map_nil, List.cons_append, List.nil_append, List.append_nil, List.getElem?_cons_zero, List.getElem?_cons_succ, eq_self, Int.reduceLT, Int.reduceLE, Int.reduceNeg, Int.reduceEq, e0, e6, e7, e8, e3, wrap_in]
        exact ⟨_, by omega, i + 1, D, w, by simp, rfl, hD, by omega, by omega, rfl, sb.tail⟩
      | false =>
        rw [if_neg (by rw [hany]; decide)] at hD
        have sb := sb.tail.rep0 (rep_Mk (x := x) f1 f2)
        simp (disch := omega) only [VW, VY, VZ, VA, VB, VC, VE, TY, ↓reduceIte, Nat.reduceEqDiff, Nat.reduceAdd, Nat.reduceMul, Nat.reduceSub, Nat.reduceLeDiff, List.length_cons, List.length_nil, List.length_append, List.append_assoc, List.take_succ_cons, List.take_zero, List.drop_succ_cons, List.drop_zero, List.set_cons_zero, List.set_cons_succ, true_or, or_true, and_self, Bool.false_eq_true, Nat.le_refl, Option.bind_some, Option.map_some, Option.getD_some, Option.isSome_some, List.map_cons, List.map_nil, List.cons_append, List.nil_append, List.append_nil, List.getElem?_cons_zero, List.getElem?_cons_succ, eq_self, Int.reduceLT, Int.reduceLE, Int.reduceNeg, Int.reduceEq, e0, e6, e7, e8, e3, ga]
        refine sep_append (Sep.swap sb) rfl rfl te31 tk26 rfl (by decide) (by simp only []; omega) fun v5 h5 sp => ?_
        simp (disch := omega) only [VW, VY, VZ, VA, VB, VC, VE, TY, ↓reduceIte, Nat.reduceEqDiff, Nat.reduceAdd, Nat.reduceMul, Nat.reduceSub, Nat.reduceLeDiff, List.length_cons, List.length_nil, List.length_append, List.append_assoc, List.take_succ_cons, List.take_zero, List.drop_succ_cons, List.drop_zero, List.set_cons_zero, List.set_cons_succ, true_or, or_true, and_self, Bool.false_eq_true, Nat.le_refl, Option.bind_some, Option.map_some, Option.getD_some, Option.isSome_some, List.map_cons, List.map_nil, List.cons_append, List.nil_append, List.append_nil, List.getElem?_cons_zero, List.getElem?_cons_succ, eq_self, Int.reduceLT, Int.reduceLE, Int.reduceNeg, Int.reduceEq, e0, e6, e7, e8, wrap_in]
        exact ⟨_, by omega, i + 1, D ++ [x], v5, by simp, rfl, by rw [List.append_assoc]; exact hD, by simp; omega, by omega, rfl, sp⟩
  · obtain rfl : i = l.length := by omega
    have c1 : ¬ (l.length : Int) < (l.length : Int) := by omega
    rw [List.drop_length] at hD
    simp only [lastsL, List.append_nil] at hD
    subst hD
    simp (disch := omega) only [VW, VY, VZ, VA, VB, VC, VE, TY, ↓reduceIte, Nat.reduceEqDiff, Nat.reduceAdd, Nat.reduceMul, Nat.reduceSub, Nat.reduceLeDiff, List.length_cons, List.length_nil, List.length_append, List.append_assoc, List.take_succ_cons, List.take_zero, List.drop_succ_cons, List.drop_zero, List.set_cons_zero, List.set_cons_succ, true_or, or_true, and_self, Bool.false_eq_true, Nat.le_refl, Option.bind_some, Option.map_some, Option.getD_some, Option.isSome_some, List.map_cons, List.map_nil, List.cons_append, List.nil_append, List.append_nil, List.getElem?_cons_zero, List.getElem?_cons_succ, eq_self, Int.reduceLT, Int.reduceLE, Int.reduceNeg, Int.reduceEq, c1, e3]
    exact hQ _ _ s
theorem compactM_sz {j : Jn} : (compactM j).1.safe.size ≤ 9223372036854775807 ∧ (compactM j).1.pending.size ≤ 9223372036854775807 := by
  unfold compactM
  split
  · rename_i l e
    have hn := marksJ_len e
    have h1 := lastsL_len l
    have := linesB_size (lastsL l) 0 (by omega) fun m hm => marks_in e m (lastsL_mem hm)
    exact ⟨by simp only []; omega, show (0 : Nat) ≤ _ by omega⟩
  · exact ⟨by decide, by decide⟩
theorem CompactJournal_i {j : Jn} {cs : List Value} {h : Heap} {Q : Value → Heap → Prop} (hx : Here h j cs) (n : Siz.siz j ≤ 1000000)
    (hQ : ∀ h', Ext h h' → Q (.tuple #[.agg [.string (compactM j).1.safe, .string (compactM j).1.pending].toArray, .bool (compactM j).2]) h') : CallsV Tryz.prog 9 [.agg cs.toArray] h Q := by
  obtain ⟨rfl, f1, f2⟩ := here_Jn hx
  obtain ⟨z1, z2⟩ := siz_Jn n
  refine CallsV.start Tryz.func9 rfl (by rw [Tryz.results9]) (by kernel_rfl) (by rw [Tryz.ntmps9]; simp) ?_
  have s := Sep.blk2 h [.string j.safe, .string j.pending] [.string ⟨#[]⟩, .string ⟨#[]⟩] 24 24 true true
  unfold compactM at hQ
  simp (disch := omega) only [VW, VY, VZ, VA, VB, VC, VE, TY, ↓reduceIte, Nat.reduceEqDiff, Nat.reduceAdd, Nat.reduceMul, Nat.reduceSub, Nat.reduceLeDiff, List.length_cons, List.length_nil, List.length_append, List.append_assoc, List.take_succ_cons, List.take_zero, List.drop_succ_cons, List.drop_zero, List.set_cons_zero, List.set_cons_succ, true_or, or_true, and_self, Bool.false_eq_true, Nat.le_refl, Option.bind_some, Option.map_some, Option.getD_some, Option.isSome_some, List.map_cons, List.map_nil, List.cons_append, List.nil_append, List.append_nil, List.getElem?_cons_zero, List.getElem?_cons_succ, eq_self, Int.reduceLT, Int.reduceLE, Int.reduceNeg, Int.reduceEq]
  refine .inl ⟨by kernel_rfl, ?_⟩; refine marksOf_c z1 z2 (fun l v h' e s2 => ?_) (fun e h' E => ?_)
  · have hn := marksJ_len e
    have hmk := marks_in e
    rw [e] at hQ
    dsimp only at hQ
    have s := s.add s2
    have so := s.newBlk [.string ⟨#[]⟩, .string ⟨#[]⟩] 24 true
    have ro := (so.pull 1 rfl).row
    have go := so.rdAll (n := 2) rfl
    simp (disch := omega) only [VW, VY, VZ, VA, VB, VC, VE, TY, ↓reduceIte, Nat.reduceEqDiff, Nat.reduceAdd, Nat.reduceMul, Nat.reduceSub, Nat.reduceLeDiff, List.length_cons, List.length_nil, List.length_append, List.append_assoc, List.take_succ_cons, List.take_zero, List.drop_succ_cons, List.drop_zero, List.set_cons_zero, List.set_cons_succ, true_or, or_true, and_self, Bool.false_eq_true, Nat.le_refl, Option.bind_some, Option.map_some, Option.getD_some, Option.isSome_some, List.map_cons, List.map_nil, List.cons_append, List.nil_append, List.append_nil, List.getElem?_cons_zero, List.getElem?_cons_succ, eq_self, Int.reduceLT, Int.reduceLE, Int.reduceNeg, Int.reduceEq, go]
    refine .inl ⟨by kernel_rfl, ?_⟩; refine lastMarks_c ro (by omega) fun w h3 s3 => ?_
    have s := so.add s3
    have hll := lastsL_len l
    have hlm : ∀ m ∈ lastsL l, markM m = true := fun m hm => hmk m (lastsL_mem hm)
    generalize hL : lastsL l = L at *
    have hz := linesB_size L 0 (by omega) hlm
    have rl := s3.row
    simp (disch := omega) only [VW, VY, VZ, VA, VB, VC, VE, TY, ↓reduceIte, Nat.reduceEqDiff, Nat.reduceAdd, Nat.reduceMul, Nat.reduceSub, Nat.reduceLeDiff, List.length_cons, List.length_nil, List.length_append, List.append_assoc, List.take_succ_cons, List.take_zero, List.drop_succ_cons, List.drop_zero, List.set_cons_zero, List.set_cons_succ, true_or, or_true, and_self, Bool.false_eq_true, Nat.le_refl, Option.bind_some, Option.map_some, Option.getD_some, Option.isSome_some, List.map_cons, List.map_nil, List.cons_append, List.nil_append, List.append_nil, List.getElem?_cons_zero, List.getElem?_cons_succ, eq_self, Int.reduceLT, Int.reduceLE, Int.reduceNeg, Int.reduceEq, rl.isRow.len]
    refine loop_rule (fun n e h4 => ∃ (i : Nat) (S : ByteArray), e 2 = .pointer (some ⟨h.length + 1, 0, none⟩) ∧ e 6 = .pointer (some ⟨h'.length, 0, none⟩) ∧ e 19 = w ∧ e 20 = .int .i64 L.length ∧ e 21 = .int .i64 i ∧ S ++ linesB i (L.drop i) = linesB 0 L ∧ i ≤ L.length ∧ n = L.length - i ∧ Sep h h4 [blkA h'.length [.string S, .string ⟨#[]⟩] 24, ownA 26 L w, blkA (h.length + 1) [.string ⟨#[]⟩, .string ⟨#[]⟩] 24]) ?_ L.length _ _ ⟨0, ⟨#[]⟩, rfl, rfl, rfl, rfl, rfl, by rw [List.drop_zero, nil_appendB], Nat.zero_le _, rfl, Sep.keep (L := [_, _, _]) (((s.pull 3 rfl).pull 1 rfl).pull 2 rfl)⟩
    rintro n e h4 ⟨i, S, e2, e6, e19, e20, e21, hS, hi, rfl, s⟩
    simp (disch := omega) only [VW, VY, VZ, VA, VB, VC, VE, TY, ↓reduceIte, Nat.reduceEqDiff, Nat.reduceAdd, Nat.reduceMul, Nat.reduceSub, Nat.reduceLeDiff, List.length_cons, List.length_nil, List.length_append, List.append_assoc, List.take_succ_cons, List.take_zero, List.drop_succ_cons, List.drop_zero, List.set_cons_zero, List.set_cons_succ, true_or, or_true, and_self, Bool.false_eq_true, Nat.le_refl, Option.bind_some, Option.map_some, Option.getD_some, Option.isSome_some, List.map_cons, List.map_nil, List.cons_append, List.nil_append, List.append_nil, List.getElem?_cons_zero, List.getElem?_cons_succ, eq_self, Int.reduceLT, Int.reduceLE, Int.reduceNeg, Int.reduceEq, e20, e21]
    by_cases hlt : i < L.length
    · obtain ⟨x, hx⟩ := get_some hlt
      have c1 : (i : Int) < (L.length : Int) := by omega
      have hxm := hlm x (List.mem_of_getElem? hx)
      have rl := (s.pull 1 rfl).row
      obtain ⟨cs, x3, x4⟩ := Row.at rl hx
      obtain ⟨rfl, f1, f2⟩ := here_Mk x4
      rw [Mk.sz] at x3
      rw [drop_cons hx] at hS
      simp only [linesB] at hS
      have sb := s.newBlk [.string x.path, .int .i64 x.kind] 26 true
      have ga := sb.rdAll (n := 2) rfl
      have g := (sb.pull 1 rfl).rd
      have hsz : S.size ≤ 20 * 40 := by
        have := congrArg ByteArray.size hS
        rw [size_append] at this
        omega
      have hlz := line_short (k := i) (m := x) (by omega) hxm
      have a1 := str_add S (lineB i x) (by omega)
      simp (disch := omega) only [VW, VY, VZ, VA, VB, VC, VE, TY, ↓reduceIte, Nat.reduceEqDiff, Nat.reduceAdd, Nat.reduceMul, Nat.reduceSub, Nat.reduceLeDiff, List.length_cons, List.length_nil, List.length_append, List.append_assoc, List.take_succ_cons, List.take_zero, List.drop_succ_cons, List.drop_zero, List.set_cons_zero, List.set_cons_succ, true_or, or_true, and_self, Bool.false_eq_true, Nat.le_refl, Option.bind_some, Option.map_some, Option.getD_some, Option.isSome_some, List.map_cons, List.map_nil, List.cons_append, List.nil_append, List.append_nil, List.getElem?_cons_zero, List.getElem?_cons_succ, eq_self, Int.reduceLT, Int.reduceLE, Int.reduceNeg, Int.reduceEq, c1, e2, e6, e19, e21, rl.isRow.ix, x3]
      refine draw_tail [0, 1, 2, 3] [4, 5, 6, 7] (by kernel_rfl) (by simp only [List.filterMap_cons, List.filterMap_nil, List.getElem?_cons_zero, List.getElem?_cons_succ]; rfl) ?_
      simp (disch := omega) only [VW, VY, VZ, VA, VB, VC, VE, TY, ↓reduceIte, Nat.reduceEqDiff, Nat.reduceAdd, Nat.reduceMul, Nat.reduceSub, Nat.reduceLeDiff, List.length_cons, List.length_nil, List.length_append, List.append_assoc, List.take_succ_cons, List.take_zero, List.drop_succ_cons, List.drop_zero, List.set_cons_zero, List.set_cons_succ, true_or, or_true, and_self, Bool.false_eq_true, Nat.le_refl, Option.bind_some, Option.map_some, Option.getD_some, Option.isSome_some, List.map_cons, List.map_nil, List.cons_append, List.nil_append, List.append_nil, List.getElem?_cons_zero, List.getElem?_cons_succ, eq_self, Int.reduceLT, Int.reduceLE, Int.reduceNeg, Int.reduceEq, e6, ga, g]
      refine tail_step [(4, [5, 6], [7], false)] (by kernel_rfl) (by kernel_rfl) (a_cons (by simp only [List.filterMap_cons, List.filterMap_nil, List.getElem?_cons_zero, List.getElem?_cons_succ]; rfl) (by kernel_rfl) ?_ trivial)
      simp (disch := omega) only [VW, VY, VZ, VA, VB, VC, VE, TY, ↓reduceIte, Nat.reduceEqDiff, Nat.reduceAdd, Nat.reduceMul, Nat.reduceSub, Nat.reduceLeDiff, List.length_cons, List.length_nil, List.length_append, List.append_assoc, List.take_succ_cons, List.take_zero, List.drop_succ_cons, List.drop_zero, List.set_cons_zero, List.set_cons_succ, true_or, or_true, and_self, Bool.false_eq_true, Nat.le_refl, Option.bind_some, Option.map_some, Option.getD_some, Option.isSome_some, List.map_cons, List.map_nil, List.cons_append, List.nil_append, List.append_nil, List.getElem?_cons_zero, List.getElem?_cons_succ, eq_self, Int.reduceLT, Int.reduceLE, Int.reduceNeg, Int.reduceEq]
      refine .inl ⟨by kernel_rfl, ?_⟩; refine lineOfMark_c (n := i) (by omega) (markM_kd hxm) (by have := markM_path hxm; omega) fun h5 E5 => ?_
      have sb := sb.mono E5
      have ga := sb.rdAll (n := 2) rfl
      have g := (sb.pull 1 rfl).rd
      simp (disch := omega) only [VW, VY, VZ, VA, VB, VC, VE, TY, ↓reduceIte, Nat.reduceEqDiff, Nat.reduceAdd, Nat.reduceMul, Nat.reduceSub, Nat.reduceLeDiff, List.length_cons, List.length_nil, List.length_append, List.append_assoc, List.take_succ_cons, List.take_zero, List.drop_succ_cons, List.drop_zero, List.set_cons_zero, List.set_cons_succ, true_or, or_true, and_self, Bool.false_eq_true, Nat.le_refl, Option.bind_some, Option.map_some, Option.getD_some, Option.isSome_some, List.map_cons, List.map_nil, List.cons_append, List.nil_append, List.append_nil, List.getElem?_cons_zero, List.getElem?_cons_succ, eq_self, Int.reduceLT, Int.reduceLE, Int.reduceNeg, Int.reduceEq, e6, ga, g, a1]
      refine tail_step [(7, [], [], true)] (by kernel_rfl) (by kernel_rfl) (a_cut (by simp only [List.filterMap_cons, List.filterMap_nil, List.getElem?_cons_zero, List.getElem?_cons_succ]; rfl) (by kernel_rfl) ?_ trivial)
      simp (disch := omega) only [VW, VY, VZ, VA, VB, VC, VE, TY, ↓reduceIte, Nat.reduceEqDiff, Nat.reduceAdd, Nat.reduceMul, Nat.reduceSub, Nat.reduceLeDiff, List.length_cons, List.length_nil, List.length_append, List.append_assoc, List.take_succ_cons, List.take_zero, List.drop_succ_cons, List.drop_zero, List.set_cons_zero, List.set_cons_succ, true_or, or_true, and_self, Bool.false_eq_true, Nat.le_refl, Option.bind_some, Option.map_some, Option.getD_some, Option.isSome_some, List.map_cons, List.map_nil, List.cons_append, List.nil_append, List.append_nil, List.getElem?_cons_zero, List.getElem?_cons_succ, eq_self, Int.reduceLT, Int.reduceLE, Int.reduceNeg, Int.reduceEq, e6]
      refine sep_store (sb.pull 1 rfl) (by simp) fun h6 s => ?_
      have s := s.as (ds := [.string (S ++ lineB i x), .string ⟨#[]⟩]) (by simp [t_put])
      have g := s.rd
      have ga := (s.pull 1 rfl).rdAll (n := 2) rfl
      simp (disch := omega) only [VW, VY, VZ, VA, VB, VC, VE, TY, ↓reduceIte, Nat.reduceEqDiff, Nat.reduceAdd, Nat.reduceMul, Nat.reduceSub, Nat.reduceLeDiff, List.length_cons, List.length_nil, List.length_append, List.append_assoc, List.take_succ_cons, List.take_zero, List.drop_succ_cons, List.drop_zero, List.set_cons_zero, List.set_cons_succ, true_or, or_true, and_self, Bool.false_eq_true, Nat.le_refl, Option.bind_some, Option.map_some, Option.getD_some, Option.isSome_some, List.map_cons, List.map_nil, List.cons_append, List.nil_append, List.append_nil, List.getElem?_cons_zero, List.getElem?_cons_succ, eq_self, Int.reduceLT, Int.reduceLE, Int.reduceNeg, Int.reduceEq, e2, e6, e19, e20, e21, ga, g, wrap_in]
      exact ⟨_, by omega, i + 1, S ++ lineB i x, by simp, by rw [append_assocB]; exact hS, by omega, rfl, s.swap.tail⟩
    · obtain rfl : i = L.length := by omega
      have c1 : ¬ (L.length : Int) < (L.length : Int) := by omega
      rw [List.drop_length] at hS
      simp only [linesB] at hS
      rw [append_nilB] at hS
      subst hS
      have ga := s.rdAll (n := 2) rfl
      simp (disch := omega) only [VW, VY, VZ, VA, VB, VC, VE, TY, ↓reduceIte, Nat.reduceEqDiff, Nat.reduceAdd, Nat.reduceMul, Nat.reduceSub, Nat.reduceLeDiff, List.length_cons, List.length_nil, List.length_append, List.append_assoc, List.take_succ_cons, List.take_zero, List.drop_succ_cons, List.drop_zero, List.set_cons_zero, List.set_cons_succ, true_or, or_true, and_self, Bool.false_eq_true, Nat.le_refl, Option.bind_some, Option.map_some, Option.getD_some, Option.isSome_some, List.map_cons, List.map_nil, List.cons_append, List.nil_append, List.append_nil, List.getElem?_cons_zero, List.getElem?_cons_succ, eq_self, Int.reduceLT, Int.reduceLE, Int.reduceNeg, Int.reduceEq, c1, e2, e6, ga]
      refine sep_store (s.pull 2 rfl) (by simp) fun h6 s => ?_
      have s := s.as (ds := [.string (linesB 0 L), .string ⟨#[]⟩]) (by simp [t_put])
      have ga := s.rdAll (n := 2) rfl
      simp (disch := omega) only [VW, VY, VZ, VA, VB, VC, VE, TY, ↓reduceIte, Nat.reduceEqDiff, Nat.reduceAdd, Nat.reduceMul, Nat.reduceSub, Nat.reduceLeDiff, List.length_cons, List.length_nil, List.length_append, List.append_assoc, List.take_succ_cons, List.take_zero, List.drop_succ_cons, List.drop_zero, List.set_cons_zero, List.set_cons_succ, true_or, or_true, and_self, Bool.false_eq_true, Nat.le_refl, Option.bind_some, Option.map_some, Option.getD_some, Option.isSome_some, List.map_cons, List.map_nil, List.cons_append, List.nil_append, List.append_nil, List.getElem?_cons_zero, List.getElem?_cons_succ, eq_self, Int.reduceLT, Int.reduceLE, Int.reduceNeg, Int.reduceEq, e2, ga]
      exact hQ _ s.ext
  · rw [e] at hQ
    have s := s.mono E
    simp (disch := omega) only [VW, VY, VZ, VA, VB, VC, VE, TY, ↓reduceIte, Nat.reduceEqDiff, Nat.reduceAdd, Nat.reduceMul, Nat.reduceSub, Nat.reduceLeDiff, List.length_cons, List.length_nil, List.length_append, List.append_assoc, List.take_succ_cons, List.take_zero, List.drop_succ_cons, List.drop_zero, List.set_cons_zero, List.set_cons_succ, true_or, or_true, and_self, Bool.false_eq_true, Nat.le_refl, Option.bind_some, Option.map_some, Option.getD_some, Option.isSome_some, List.map_cons, List.map_nil, List.cons_append, List.nil_append, List.append_nil, List.getElem?_cons_zero, List.getElem?_cons_succ, eq_self, Int.reduceLT, Int.reduceLE, Int.reduceNeg, Int.reduceEq]
    refine sep_store (s.pull 0 rfl) (by simp) fun h4 s => ?_
    have s := s.as (ds := [.string ⟨#[]⟩, .string ⟨#[]⟩]) (by simp [t_put])
    have ga := s.rdAll (n := 2) rfl
    simp (disch := omega) only [VW, VY, VZ, VA, VB, VC, VE, TY, ↓reduceIte, Nat.reduceEqDiff, Nat.reduceAdd, Nat.reduceMul, Nat.reduceSub, Nat.reduceLeDiff, List.length_cons, List.length_nil, List.length_append, List.append_assoc, List.take_succ_cons, List.take_zero, List.drop_succ_cons, List.drop_zero, List.set_cons_zero, List.set_cons_succ, true_or, or_true, and_self, Bool.false_eq_true, Nat.le_refl, Option.bind_some, Option.map_some, Option.getD_some, Option.isSome_some, List.map_cons, List.map_nil, List.cons_append, List.nil_append, List.append_nil, List.getElem?_cons_zero, List.getElem?_cons_succ, eq_self, Int.reduceLT, Int.reduceLE, Int.reduceNeg, Int.reduceEq, ga]
    exact hQ _ s.ext
theorem lastK_zero {l : List Mk} {m : Mk} (h : ∀ x ∈ l, markM x = true) : lastK l m.path = 0 ↔ l.any (sameP m) = false := by
  have key : ∀ (l : List Mk) (k : Int), (∀ x ∈ l, markM x = true) → (lastU k l m.path = k ∧ l.any (sameP m) = false) ∨ (1 ≤ lastU k l m.path ∧ l.any (sameP m) = true) ∨ (1 ≤ k ∧ 1 ≤ lastU k l m.path) := by
    intro l
    induction l with
    | nil => intro k _; exact .inl ⟨rfl, rfl⟩
    | cons x l ih =>
      intro k h
      have hx := markM_kd (h x (by simp))
      unfold lastU
      rw [List.foldl_cons, List.any_cons]
      by_cases c : x.path = m.path
      · have e : sameP m x = true := decide_eq_true c
        rw [if_pos c, e, Bool.true_or]
        have := ih x.kind fun y hy => h y (by simp [hy])
        unfold lastU at this
        rcases this with h1 | h1 | h1
        · exact .inr (.inl ⟨by omega, rfl⟩)
        · exact .inr (.inl ⟨h1.1, rfl⟩)
        · exact .inr (.inl ⟨h1.2, rfl⟩)
      · have e : sameP m x = false := decide_eq_false c
        rw [if_neg c, e, Bool.false_or]
        exact ih k fun y hy => h y (by simp [hy])
  have := key l 0 h
  unfold lastK
  constructor
  · intro h0
    rcases this with h1 | h1 | h1
    · exact h1.2
    · omega
    · omega
  · intro h0
    rcases this with h1 | h1 | h1
    · exact h1.1
    · rw [h0] at h1; cases h1.2
    · omega
theorem CompactJournal_s {j : Jn} {cs : List Value} {h : Heap} {Q : Value → Heap → Prop} (hx : Here h j cs) (n : Siz.siz j ≤ 1000000)
    (hQ : ∀ h', Ext h h' → Q (.tuple #[.agg [.string (compactM j).1.safe, .string (compactM j).1.pending].toArray, .bool (compactM j).2]) h') : CallsV Tryz.prog 10 [.agg cs.toArray] h Q := by
  obtain ⟨rfl, f1, f2⟩ := here_Jn hx
  obtain ⟨z1, z2⟩ := siz_Jn n
  refine CallsV.start Tryz.func10 rfl (by rw [Tryz.results10]) (by kernel_rfl) (by rw [Tryz.ntmps10]; simp) ?_
  have s := Sep.blk2 h [.string j.safe, .string j.pending] [.string ⟨#[]⟩, .string ⟨#[]⟩] 24 24 true true
  unfold compactM at hQ
  simp (disch := omega) only [VW, VY, VZ, VA, VB, VC, VE, TY, ↓reduceIte, Nat.reduceEqDiff, Nat.reduceAdd, Nat.reduceMul, Nat.reduceSub, Nat.reduceLeDiff, List.length_cons, List.length_nil, List.length_append, List.append_assoc, List.take_succ_cons, List.take_zero, List.drop_succ_cons, List.drop_zero, List.set_cons_zero, List.set_cons_succ, true_or, or_true, and_self, Bool.false_eq_true, Nat.le_refl, Option.bind_some, Option.map_some, Option.getD_some, Option.isSome_some, List.map_cons, List.map_nil, List.cons_append, List.nil_append, List.append_nil, List.getElem?_cons_zero, List.getElem?_cons_succ, eq_self, Int.reduceLT, Int.reduceLE, Int.reduceNeg, Int.reduceEq]
  refine .inl ⟨by kernel_rfl, ?_⟩; refine jrGood_c z1 z2 fun h2 E2 => ?_
  have s := s.mono E2
  cases e : marksJ j with
  | none =>
    rw [e] at hQ
    simp (disch := omega) only [VW, VY, VZ, VA, VB, VC, VE, TY, ↓reduceIte, Nat.reduceEqDiff, Nat.reduceAdd, Nat.reduceMul, Nat.reduceSub, Nat.reduceLeDiff, List.length_cons, List.length_nil, List.length_append, List.append_assoc, List.take_succ_cons, List.take_zero, List.drop_succ_cons, List.drop_zero, List.set_cons_zero, List.set_cons_succ, true_or, or_true, and_self, Bool.false_eq_true, Nat.le_refl, Option.bind_some, Option.map_some, Option.getD_some, Option.isSome_some, List.map_cons, List.map_nil, List.cons_append, List.nil_append, List.append_nil, List.getElem?_cons_zero, List.getElem?_cons_succ, eq_self, Int.reduceLT, Int.reduceLE, Int.reduceNeg, Int.reduceEq, Option.isSome_none]
    refine sep_store (s.pull 0 rfl) (by simp) fun h4 s => ?_
    have s := s.as (ds := [.string ⟨#[]⟩, .string ⟨#[]⟩]) (by simp [t_put])
    have ga := s.rdAll (n := 2) rfl
    simp (disch := omega) only [VW, VY, VZ, VA, VB, VC, VE, TY, ↓reduceIte, Nat.reduceEqDiff, Nat.reduceAdd, Nat.reduceMul, Nat.reduceSub, Nat.reduceLeDiff, List.length_cons, List.length_nil, List.length_append, List.append_assoc, List.take_succ_cons, List.take_zero, List.drop_succ_cons, List.drop_zero, List.set_cons_zero, List.set_cons_succ, true_or, or_true, and_self, Bool.false_eq_true, Nat.le_refl, Option.bind_some, Option.map_some, Option.getD_some, Option.isSome_some, List.map_cons, List.map_nil, List.cons_append, List.nil_append, List.append_nil, List.getElem?_cons_zero, List.getElem?_cons_succ, eq_self, Int.reduceLT, Int.reduceLE, Int.reduceNeg, Int.reduceEq, ga]
    exact hQ _ s.ext
  | some l =>
    have hn := marksJ_len e
    have hmk := marks_in e
    rw [e] at hQ
    dsimp only at hQ
    have ga := (s.pull 1 rfl).rdAll (n := 2) rfl
    simp (disch := omega) only [VW, VY, VZ, VA, VB, VC, VE, TY, ↓reduceIte, Nat.reduceEqDiff, Nat.reduceAdd, Nat.reduceMul, Nat.reduceSub, Nat.reduceLeDiff, List.length_cons, List.length_nil, List.length_append, List.append_assoc, List.take_succ_cons, List.take_zero, List.drop_succ_cons, List.drop_zero, List.set_cons_zero, List.set_cons_succ, true_or, or_true, and_self, Bool.false_eq_true, Nat.le_refl, Option.bind_some, Option.map_some, Option.getD_some, Option.isSome_some, List.map_cons, List.map_nil, List.cons_append, List.nil_append, List.append_nil, List.getElem?_cons_zero, List.getElem?_cons_succ, eq_self, Int.reduceLT, Int.reduceLE, Int.reduceNeg, Int.reduceEq, Option.isSome_some, ga]
    refine .inl ⟨by kernel_rfl, ?_⟩; refine jrAll_c e fun v h3 s3 => ?_
    have s := s.add s3
    have pl := row_plain s3.row.isRow
    have rl := s3.row
    have hz := linesB_size (lastsL l) 0 (by have := lastsL_len l; omega) fun m hm => hmk m (lastsL_mem hm)
    have hll := lastsL_len l
    simp (disch := omega) only [VW, VY, VZ, VA, VB, VC, VE, TY, ↓reduceIte, Nat.reduceEqDiff, Nat.reduceAdd, Nat.reduceMul, Nat.reduceSub, Nat.reduceLeDiff, List.length_cons, List.length_nil, List.length_append, List.append_assoc, List.take_succ_cons, List.take_zero, List.drop_succ_cons, List.drop_zero, List.set_cons_zero, List.set_cons_succ, true_or, or_true, and_self, Bool.false_eq_true, Nat.le_refl, Option.bind_some, Option.map_some, Option.getD_some, Option.isSome_some, List.map_cons, List.map_nil, List.cons_append, List.nil_append, List.append_nil, List.getElem?_cons_zero, List.getElem?_cons_succ, eq_self, Int.reduceLT, Int.reduceLE, Int.reduceNeg, Int.reduceEq, pl, rl.isRow.len]
    refine loop_rule (fun n e h4 => ∃ (i k : Nat) (S : ByteArray), e 2 = .pointer (some ⟨h.length + 1, 0, none⟩) ∧ e 4 = v ∧ e 5 = .string S ∧ e 6 = .int .i64 k ∧ e 15 = v ∧ e 16 = .int .i64 l.length ∧ e 17 = .int .i64 i ∧ S ++ linesB k (lastsL (l.drop i)) = linesB 0 (lastsL l) ∧ k ≤ i ∧ i ≤ l.length ∧ n = l.length - i ∧ Sep h h4 [ownA 26 l v, blkA (h.length + 1) [.string ⟨#[]⟩, .string ⟨#[]⟩] 24]) ?_ l.length _ _ ⟨0, 0, ⟨#[]⟩, rfl, rfl, rfl, rfl, rfl, rfl, rfl, by rw [List.drop_zero, nil_appendB], Nat.zero_le _, Nat.zero_le _, rfl, Sep.keep (L := [_, _]) s⟩
    rintro n e h4 ⟨i, k, S, e2, e4, e5, e6, e15, e16, e17, hS, hki, hi, rfl, s⟩
    simp (disch := omega) only [VW, VY, VZ, VA, VB, VC, VE, TY, ↓reduceIte, Nat.reduceEqDiff, Nat.reduceAdd, Nat.reduceMul, Nat.reduceSub, Nat.reduceLeDiff, List.length_cons, List.length_nil, List.length_append, List.append_assoc, List.take_succ_cons, List.take_zero, List.drop_succ_cons, List.drop_zero, List.set_cons_zero, List.set_cons_succ, true_or, or_true, and_self, Bool.false_eq_true, Nat.le_refl, Option.bind_some, Option.map_some, Option.getD_some, Option.isSome_some, List.map_cons, List.map_nil, List.cons_append, List.nil_append, List.append_nil, List.getElem?_cons_zero, List.getElem?_cons_succ, eq_self, Int.reduceLT, Int.reduceLE, Int.reduceNeg, Int.reduceEq, e16, e17]
    have rl := s.row
    by_cases hlt : i < l.length
    · obtain ⟨x, hx⟩ := get_some hlt
      have c1 : (i : Int) < (l.length : Int) := by omega
      have hxm := hmk x (List.mem_of_getElem? hx)
      obtain ⟨cs, x3, x4⟩ := Row.at rl hx
      obtain ⟨rfl, f1, f2⟩ := here_Mk x4
      rw [Mk.sz] at x3
      rw [drop_cons hx] at hS
      simp only [lastsL] at hS
      have hsz : S.size ≤ 20 * 40 := by
        have := congrArg ByteArray.size hS
        rw [size_append] at this
        omega
      have hlz := line_short (k := k) (m := x) (by omega) hxm
      have a1 := str_add S (lineB k x) (by omega)
      have sb := s.newBlk [.string x.path, .int .i64 x.kind] 26 true
      have ga := sb.rdAll (n := 2) rfl
      have g := sb.rd
      have k1 : (0 : Int) ≤ (i : Int) + 1 := by omega
      have k2 : (i : Int) + 1 ≤ (l.length : Int) := by omega
      have k3 : ((i : Int) + 1).toNat = i + 1 := by omega
      have hcut := (sb.pull 1 rfl).row.cut (lo := i + 1) (m := l.length) (by omega) (Nat.le_refl _)
      rw [List.take_length] at hcut
      have cap := rl.isRow.cap
      have lk := lastK_zero (l := l.drop (i + 1)) (m := x) (fun y hy => hmk y (List.mem_of_mem_drop hy))
      simp (disch := omega) only [VW, VY, VZ, VA, VB, VC, VE, TY, ↓reduceIte, Nat.reduceEqDiff, Nat.reduceAdd, Nat.reduceMul, Nat.reduceSub, Nat.reduceLeDiff, List.length_cons, List.length_nil, List.length_append, List.append_assoc, List.take_succ_cons, List.take_zero, List.drop_succ_cons, List.drop_zero, List.set_cons_zero, List.set_cons_succ, true_or, or_true, and_self, Bool.false_eq_true, Nat.le_refl, Option.bind_some, Option.map_some, Option.getD_some, Option.isSome_some, List.map_cons, List.map_nil, List.cons_append, List.nil_append, List.append_nil, List.getElem?_cons_zero, List.getElem?_cons_succ, eq_self, Int.reduceLT, Int.reduceLE, Int.reduceNeg, Int.reduceEq, c1, e2, e4, e15, e17, rl.isRow.ix, x3]
      refine draw_ord [0, 1, 2, 3, 4, 5, 6, 7] (by kernel_rfl) (by simp only [List.filterMap_cons, List.filterMap_nil, List.getElem?_cons_zero, List.getElem?_cons_succ]; rfl) ?_
      simp (disch := omega) only [VW, VY, VZ, VA, VB, VC, VE, TY, ↓reduceIte, Nat.reduceEqDiff, Nat.reduceAdd, Nat.reduceMul, Nat.reduceSub, Nat.reduceLeDiff, List.length_cons, List.length_nil, List.length_append, List.append_assoc, List.take_succ_cons, List.take_zero, List.drop_succ_cons, List.drop_zero, List.set_cons_zero, List.set_cons_succ, true_or, or_true, and_self, Bool.false_eq_true, Nat.le_refl, Option.bind_some, Option.map_some, Option.getD_some, Option.isSome_some, List.map_cons, List.map_nil, List.cons_append, List.nil_append, List.append_nil, List.getElem?_cons_zero, List.getElem?_cons_succ, eq_self, Int.reduceLT, Int.reduceLE, Int.reduceNeg, Int.reduceEq, e4, ga, g, rl.isRow.sl, k1, k2, k3, wrap_in]
      refine .inl ⟨by kernel_rfl, ?_⟩; refine jrLast_c hcut fun h5 E5 => ?_
      have sb := sb.mono E5
      have ga := sb.rdAll (n := 2) rfl
      have g := sb.rd
      by_cases c : lastK (l.drop (i + 1)) x.path = 0
      · have hany := lk.1 c
        rw [if_neg (by rw [hany]; decide)] at hS
        simp only [linesB] at hS
        simp (disch := omega) only [VW, VY, VZ, VA, VB, VC, VE, TY, ↓reduceIte, Nat.reduceEqDiff, Nat.reduceAdd, Nat.reduceMul, Nat.reduceSub, Nat.reduceLeDiff, List.length_cons, List.length_nil, List.length_append, List.append_assoc, List.take_succ_cons, List.take_zero, List.drop_succ_cons, List.drop_zero, List.set_cons_zero, List.set_cons_succ, true_or, or_true, and_self, Bool.false_eq_true, Nat.le_refl, Option.bind_some, Option.map_some, Option.getD_some, Option.isSome_some, List.map_cons, List.map_nil, List.cons_append, List.nil_append, List.append_nil, List.getElem?_cons_zero, List.getElem?_cons_succ, eq_self, Int.reduceLT, Int.reduceLE, Int.reduceNeg, Int.reduceEq, g, c, e5, e6, ga]
        refine .inl ⟨by kernel_rfl, ?_⟩; refine jrLine_c (n := k) (by omega) (markM_kd hxm) (by have := markM_path hxm; omega) fun h6 E6 => ?_
        have sb := sb.mono E6
        simp (disch := omega) only [VW, VY, VZ, VA, VB, VC, VE, TY, ↓reduceIte, Nat.reduceEqDiff, Nat.reduceAdd, Nat.reduceMul, Nat.reduceSub, Nat.reduceLeDiff, List.length_cons, List.length_nil, List.length_append, List.append_assoc, List.take_succ_cons, List.take_zero, List.drop_succ_cons, List.drop_zero, List.set_cons_zero, List.set_cons_succ, true_or, or_true, and_self, Bool.false_eq_true, Nat.le_refl, Option.bind_some, Option.map_some, Option.getD_some, Option.isSome_some, List.map_cons, List.map_nil, List.cons_append, List.nil_append, List.append_nil, List.getElem?_cons_zero, List.getElem?_cons_succ, eq_self, Int.reduceLT, Int.reduceLE, Int.reduceNeg, Int.reduceEq, a1, e2, e4, e6, e15, e16, e17, wrap_in]
        exact ⟨_, by omega, i + 1, k + 1, S ++ lineB k x, rfl, by simp, by simp, by rw [append_assocB]; exact hS, by omega, by omega, rfl, sb.tail⟩
      · have hany : (l.drop (i + 1)).any (sameP x) = true := by
          cases hh : (l.drop (i + 1)).any (sameP x) with
          | true => rfl
          | false => exact absurd (lk.2 hh) c
        rw [if_pos hany] at hS
        simp (disch := omega) only [VW, VY, VZ, VA, VB, VC, VE, TY, ↓reduceIte, Nat.reduceEqDiff, Nat.reduceAdd, Nat.reduceMul, Nat.reduceSub, Nat.reduceLeDiff, List.length_cons, List.length_nil, List.length_append, List.append_assoc, List.take_succ_cons, List.take_zero, List.drop_succ_cons, List.drop_zero, List.set_cons_zero, List.set_cons_succ, true_or, or_true, and_self, Bool.false_eq_true, Nat.le_refl, Option.bind_some, Option.map_some, Option.getD_some, Option.isSome_some, List.map_cons, List.map_nil, List.cons_append, List.nil_append, List.append_nil, List.getElem?_cons_zero, List.getElem?_cons_succ, eq_self, Int.reduceLT, Int.reduceLE, Int.reduceNeg, Int.reduceEq, g, c, e2, e4, e5, e6, e15, e16, e17, wrap_in]
        exact ⟨_, by omega, i + 1, k, S, rfl, rfl, by simp, hS, by omega, by omega, rfl, sb.tail⟩
    · obtain rfl : i = l.length := by omega
      have c1 : ¬ (l.length : Int) < (l.length : Int) := by omega
      rw [List.drop_length] at hS
      simp only [lastsL, linesB] at hS
      rw [append_nilB] at hS
      subst hS
      simp (disch := omega) only [VW, VY, VZ, VA, VB, VC, VE, TY, ↓reduceIte, Nat.reduceEqDiff, Nat.reduceAdd, Nat.reduceMul, Nat.reduceSub, Nat.reduceLeDiff, List.length_cons, List.length_nil, List.length_append, List.append_assoc, List.take_succ_cons, List.take_zero, List.drop_succ_cons, List.drop_zero, List.set_cons_zero, List.set_cons_succ, true_or, or_true, and_self, Bool.false_eq_true, Nat.le_refl, Option.bind_some, Option.map_some, Option.getD_some, Option.isSome_some, List.map_cons, List.map_nil, List.cons_append, List.nil_append, List.append_nil, List.getElem?_cons_zero, List.getElem?_cons_succ, eq_self, Int.reduceLT, Int.reduceLE, Int.reduceNeg, Int.reduceEq, c1, e2, e5]
      refine sep_store (s.pull 1 rfl) (by simp) fun h6 s => ?_
      have s := s.as (ds := [.string (linesB 0 (lastsL l)), .string ⟨#[]⟩]) (by simp [t_put])
      have ga := s.rdAll (n := 2) rfl
      simp (disch := omega) only [VW, VY, VZ, VA, VB, VC, VE, TY, ↓reduceIte, Nat.reduceEqDiff, Nat.reduceAdd, Nat.reduceMul, Nat.reduceSub, Nat.reduceLeDiff, List.length_cons, List.length_nil, List.length_append, List.append_assoc, List.take_succ_cons, List.take_zero, List.drop_succ_cons, List.drop_zero, List.set_cons_zero, List.set_cons_succ, true_or, or_true, and_self, Bool.false_eq_true, Nat.le_refl, Option.bind_some, Option.map_some, Option.getD_some, Option.isSome_some, List.map_cons, List.map_nil, List.cons_append, List.nil_append, List.append_nil, List.getElem?_cons_zero, List.getElem?_cons_succ, eq_self, Int.reduceLT, Int.reduceLE, Int.reduceNeg, Int.reduceEq, e2, ga]
      exact hQ _ s.ext
end Go.Proofs
