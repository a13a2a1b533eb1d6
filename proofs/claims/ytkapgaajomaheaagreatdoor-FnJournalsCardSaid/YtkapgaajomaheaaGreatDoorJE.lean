/- Contracts of functions, facts of types, or the plain law behind one statement (own work): JE. Conditions: those told in each theorem. -/
import Derived.Test.YtkapgaajomaheaaGreatDoorJD
set_option linter.all false
set_option linter.unusedSimpArgs false
set_option linter.unusedVariables false
set_option maxRecDepth 4000
namespace Go.Proofs
open Go Go.V
theorem putS_len (s : ByteArray) : ∀ l : List ByteArray, (putS s l).length ≤ l.length + 1
  | [] => by simp [putS]
  | x :: l => by
    simp only [putS]
    have := putS_len s l
    split
    · simp only [List.length_cons]; omega
    · split
      · simp
      · simp
theorem Contradictions_s {j : Jn} {cs : List Value} {h : Heap} {Q : Value → Heap → Prop} (hx : Here h j cs) (n : Siz.siz j ≤ 1000000)
    (hQ : ∀ w h', Sep h h' [repA (α := List ByteArray) (contrM j).1 [w]] → Q (.tuple #[w, .bool (contrM j).2]) h') : CallsV Tryz.prog 14 [.agg cs.toArray] h Q := by
  obtain ⟨rfl, f1, f2⟩ := here_Jn hx
  obtain ⟨z1, z2⟩ := siz_Jn n
  refine CallsV.start Tryz.func14 rfl (by rw [Tryz.results14]) (by kernel_rfl) (by rw [Tryz.ntmps14]; simp) ?_
  have s := Sep.blk1 h [.string j.safe, .string j.pending] 24 true
  unfold contrM at hQ
  simp (disch := omega) only [VW, VY, VZ, VA, VB, VC, VE, TY, ↓reduceIte, Nat.reduceEqDiff, Nat.reduceAdd, Nat.reduceMul, Nat.reduceSub, Nat.reduceLeDiff, List.length_cons, List.length_nil, List.length_append, List.append_assoc, List.take_succ_cons, List.take_zero, List.drop_succ_cons, List.drop_zero, List.set_cons_zero, List.set_cons_succ, true_or, or_true, and_self, Bool.false_eq_true, Nat.le_refl, Option.bind_some, Option.map_some, Option.getD_some, Option.isSome_some, List.map_cons, List.map_nil, List.cons_append, List.nil_append, List.append_nil, List.getElem?_cons_zero, List.getElem?_cons_succ, eq_self, Int.reduceLT, Int.reduceLE, Int.reduceNeg, Int.reduceEq]
  refine .inl ⟨by kernel_rfl, ?_⟩; refine jrGood_c z1 z2 fun h2 E2 => ?_
  have s := s.mono E2
  cases e : marksJ j with
  | none =>
    rw [e] at hQ
    simp (disch := omega) only [VW, VY, VZ, VA, VB, VC, VE, TY, ↓reduceIte, Nat.reduceEqDiff, Nat.reduceAdd, Nat.reduceMul, Nat.reduceSub, Nat.reduceLeDiff, List.length_cons, List.length_nil, List.length_append, List.append_assoc, List.take_succ_cons, List.take_zero, List.drop_succ_cons, List.drop_zero, List.set_cons_zero, List.set_cons_succ, true_or, or_true, and_self, Bool.false_eq_true, Nat.le_refl, Option.bind_some, Option.map_some, Option.getD_some, Option.isSome_some, List.map_cons, List.map_nil, List.cons_append, List.nil_append, List.append_nil, List.getElem?_cons_zero, List.getElem?_cons_succ, eq_self, Int.reduceLT, Int.reduceLE, Int.reduceNeg, Int.reduceEq, Option.isSome_none]
    exact hQ _ _ (((Sep.nil s.ext).nilA 9).toRep)
  | some l =>
    have hn := marksJ_len e
    have hmk := marks_in e
    rw [e] at hQ
    dsimp only at hQ
    rw [← contr_eq] at hQ
    have ga := s.rdAll (n := 2) rfl
    simp (disch := omega) only [VW, VY, VZ, VA, VB, VC, VE, TY, ↓reduceIte, Nat.reduceEqDiff, Nat.reduceAdd, Nat.reduceMul, Nat.reduceSub, Nat.reduceLeDiff, List.length_cons, List.length_nil, List.length_append, List.append_assoc, List.take_succ_cons, List.take_zero, List.drop_succ_cons, List.drop_zero, List.set_cons_zero, List.set_cons_succ, true_or, or_true, and_self, Bool.false_eq_true, Nat.le_refl, Option.bind_some, Option.map_some, Option.getD_some, Option.isSome_some, List.map_cons, List.map_nil, List.cons_append, List.nil_append, List.append_nil, List.getElem?_cons_zero, List.getElem?_cons_succ, eq_self, Int.reduceLT, Int.reduceLE, Int.reduceNeg, Int.reduceEq, Option.isSome_some, ga]
    refine .inl ⟨by kernel_rfl, ?_⟩; refine jrAll_c e fun v h3 s3 => ?_
    have s := s.add s3
    have rl := s3.row
    have pl := row_plain s3.row.isRow
    simp (disch := omega) only [VW, VY, VZ, VA, VB, VC, VE, TY, ↓reduceIte, Nat.reduceEqDiff, Nat.reduceAdd, Nat.reduceMul, Nat.reduceSub, Nat.reduceLeDiff, List.length_cons, List.length_nil, List.length_append, List.append_assoc, List.take_succ_cons, List.take_zero, List.drop_succ_cons, List.drop_zero, List.set_cons_zero, List.set_cons_succ, true_or, or_true, and_self, Bool.false_eq_true, Nat.le_refl, Option.bind_some, Option.map_some, Option.getD_some, Option.isSome_some, List.map_cons, List.map_nil, List.cons_append, List.nil_append, List.append_nil, List.getElem?_cons_zero, List.getElem?_cons_succ, eq_self, Int.reduceLT, Int.reduceLE, Int.reduceNeg, Int.reduceEq, pl, rl.isRow.len]
    refine loop_rule (fun n e h4 => ∃ (i : Nat) (D : List ByteArray) (w : Value), e 4 = v ∧ e 15 = v ∧ e 16 = .int .i64 l.length ∧ e 17 = .int .i64 i ∧ e 5 = w ∧ contrP l D (l.drop i) = contrP l [] l ∧ D.length ≤ i * 40 ∧ i ≤ l.length ∧ n = l.length - i ∧ Sep h h4 [ownA 9 D w, ownA 26 l v]) ?_ l.length _ _ ⟨0, [], _, rfl, rfl, rfl, rfl, rfl, by rw [List.drop_zero], by simp, Nat.zero_le _, rfl, (Sep.keep (L := [_]) s).nilA _⟩
    rintro n e h4 ⟨i, D, w, e4, e15, e16, e17, e5, hD, hDl, hi, rfl, s⟩
    simp (disch := omega) only [VW, VY, VZ, VA, VB, VC, VE, TY, ↓reduceIte, Nat.reduceEqDiff, Nat.reduceAdd, Nat.reduceMul, Nat.reduceSub, Nat.reduceLeDiff, List.length_cons, List.length_nil, List.length_append, List.append_assoc, List.take_succ_cons, List.take_zero, List.drop_succ_cons, List.drop_zero, List.set_cons_zero, List.set_cons_succ, true_or, or_true, and_self, Bool.false_eq_true, Nat.le_refl, Option.bind_some, Option.map_some, Option.getD_some, Option.isSome_some, List.map_cons, List.map_nil, List.cons_append, List.nil_append, List.append_nil, List.getElem?_cons_zero, List.getElem?_cons_succ, eq_self, Int.reduceLT, Int.reduceLE, Int.reduceNeg, Int.reduceEq, e16, e17]
    have rl := (s.pull 1 rfl).row
    by_cases hlt : i < l.length
    · obtain ⟨x, hx⟩ := get_some hlt
      have c1 : (i : Int) < (l.length : Int) := by omega
      have hxm := hmk x (List.mem_of_getElem? hx)
      have hxp := markM_path hxm
      obtain ⟨cs, x3, x4⟩ := Row.at rl hx
      obtain ⟨rfl, f1, f2⟩ := here_Mk x4
      rw [Mk.sz] at x3
      rw [drop_cons hx] at hD
      simp only [contrP] at hD
      have sb := s.newBlk [.string x.path, .int .i64 x.kind] 26 true
      simp (disch := omega) only [VW, VY, VZ, VA, VB, VC, VE, TY, ↓reduceIte, Nat.reduceEqDiff, Nat.reduceAdd, Nat.reduceMul, Nat.reduceSub, Nat.reduceLeDiff, List.length_cons, List.length_nil, List.length_append, List.append_assoc, List.take_succ_cons, List.take_zero, List.drop_succ_cons, List.drop_zero, List.set_cons_zero, List.set_cons_succ, true_or, or_true, and_self, Bool.false_eq_true, Nat.le_refl, Option.bind_some, Option.map_some, Option.getD_some, Option.isSome_some, List.map_cons, List.map_nil, List.cons_append, List.nil_append, List.append_nil, List.getElem?_cons_zero, List.getElem?_cons_succ, eq_self, Int.reduceLT, Int.reduceLE, Int.reduceNeg, Int.reduceEq, c1, e4, e15, e17, rl.isRow.ix, x3, rl.isRow.len]
      refine loop_rule (fun n e h5 => ∃ (k : Nat) (F : List ByteArray) (w : Value), e 4 = v ∧ e 15 = v ∧ e 16 = .int .i64 l.length ∧ e 17 = .int .i64 i ∧ e 21 = v ∧ e 22 = .int .i64 l.length ∧ e 23 = .int .i64 k ∧ e 7 = .pointer (some ⟨h4.length, 0, none⟩) ∧ e 5 = w ∧ contrR l x F (l.drop k) = contrR l x D l ∧ F.length ≤ i * 40 + k ∧ k ≤ l.length ∧ n = l.length - k ∧ Sep h h5 [ownA 9 F w, ownA 26 l v, blkA h4.length [.string x.path, .int .i64 x.kind] 26]) ?_ l.length _ _ ⟨0, D, _, e4, e15, e16, e17, rfl, rfl, rfl, rfl, e5, by rw [List.drop_zero], by omega, Nat.zero_le _, rfl, (sb.pull 1 rfl).pull 2 rfl |> fun t => Sep.keep (L := [_, _, _]) ((t.pull 1 rfl))⟩
      rintro n e h5 ⟨k, F, w5, e4, e15, e16, e17, e21, e22, e23, e7, e5, hF, hFl, hk, rfl, s⟩
      have rl := (s.pull 1 rfl).row
      simp (disch := omega) only [VW, VY, VZ, VA, VB, VC, VE, TY, ↓reduceIte, Nat.reduceEqDiff, Nat.reduceAdd, Nat.reduceMul, Nat.reduceSub, Nat.reduceLeDiff, List.length_cons, List.length_nil, List.length_append, List.append_assoc, List.take_succ_cons, List.take_zero, List.drop_succ_cons, List.drop_zero, List.set_cons_zero, List.set_cons_succ, true_or, or_true, and_self, Bool.false_eq_true, Nat.le_refl, Option.bind_some, Option.map_some, Option.getD_some, Option.isSome_some, List.map_cons, List.map_nil, List.cons_append, List.nil_append, List.append_nil, List.getElem?_cons_zero, List.getElem?_cons_succ, eq_self, Int.reduceLT, Int.reduceLE, Int.reduceNeg, Int.reduceEq, e22, e23]
      by_cases hlt2 : k < l.length
      · obtain ⟨y, hy⟩ := get_some hlt2
        have c2 : (k : Int) < (l.length : Int) := by omega
        have hym := hmk y (List.mem_of_getElem? hy)
        have hyp := markM_path hym
        obtain ⟨cs, y3, y4⟩ := Row.at rl hy
        obtain ⟨rfl, g1, g2⟩ := here_Mk y4
        rw [Mk.sz] at y3
        rw [drop_cons hy] at hF
        simp only [contrR] at hF
        have sb := s.newBlk [.string y.path, .int .i64 y.kind] 26 true
        have g := sb.rd
        have gx := (sb.pull 3 rfl).rd
        have next : hitC x y = false → ∃ m, m < l.length - k ∧ ∃ (k' : Nat) (F' : List ByteArray) (w' : Value), Value.int .i64 ((k : Int) + 1) = Value.int .i64 (k' : Int) ∧ w5 = w' ∧ contrR l x F' (l.drop k') = contrR l x D l ∧ F'.length ≤ i * 40 + k' ∧ k' ≤ l.length ∧ m = l.length - k' ∧ Sep h (h5 ++ [some ⟨[.string y.path, .int .i64 y.kind], 26, false, true⟩]) [ownA 9 F' w', ownA 26 l v, blkA h4.length [.string x.path, .int .i64 x.kind] 26] := by
          intro hh
          rw [hh, if_neg (by decide)] at hF
          exact ⟨_, by omega, k + 1, F, w5, by simp, rfl, hF, by omega, by omega, rfl, sb.tail⟩
        unfold hitC at hF next
        simp (disch := omega) only [VW, VY, VZ, VA, VB, VC, VE, TY, ↓reduceIte, Nat.reduceEqDiff, Nat.reduceAdd, Nat.reduceMul, Nat.reduceSub, Nat.reduceLeDiff, List.length_cons, List.length_nil, List.length_append, List.append_assoc, List.take_succ_cons, List.take_zero, List.drop_succ_cons, List.drop_zero, List.set_cons_zero, List.set_cons_succ, true_or, or_true, and_self, Bool.false_eq_true, Nat.le_refl, Option.bind_some, Option.map_some, Option.getD_some, Option.isSome_some, List.map_cons, List.map_nil, List.cons_append, List.nil_append, List.append_nil, List.getElem?_cons_zero, List.getElem?_cons_succ, eq_self, Int.reduceLT, Int.reduceLE, Int.reduceNeg, Int.reduceEq, c2, e21, e23, e7, rl.isRow.ix, y3, g, gx]
        by_cases ck : x.kind = 2
        · have ck' := decide_eq_true ck
          rw [ck', Bool.true_and] at hF next
          simp (disch := omega) only [VW, VY, VZ, VA, VB, VC, VE, TY, ↓reduceIte, Nat.reduceEqDiff, Nat.reduceAdd, Nat.reduceMul, Nat.reduceSub, Nat.reduceLeDiff, List.length_cons, List.length_nil, List.length_append, List.append_assoc, List.take_succ_cons, List.take_zero, List.drop_succ_cons, List.drop_zero, List.set_cons_zero, List.set_cons_succ, true_or, or_true, and_self, Bool.false_eq_true, Nat.le_refl, Option.bind_some, Option.map_some, Option.getD_some, Option.isSome_some, List.map_cons, List.map_nil, List.cons_append, List.nil_append, List.append_nil, List.getElem?_cons_zero, List.getElem?_cons_succ, eq_self, Int.reduceLT, Int.reduceLE, Int.reduceNeg, Int.reduceEq, ck', e7, g, gx]
          by_cases cy : y.kind = 1
          · have cy' := decide_eq_true cy
            rw [cy', Bool.true_and] at hF next
            simp (disch := omega) only [VW, VY, VZ, VA, VB, VC, VE, TY, ↓reduceIte, Nat.reduceEqDiff, Nat.reduceAdd, Nat.reduceMul, Nat.reduceSub, Nat.reduceLeDiff, List.length_cons, List.length_nil, List.length_append, List.append_assoc, List.take_succ_cons, List.take_zero, List.drop_succ_cons, List.drop_zero, List.set_cons_zero, List.set_cons_succ, true_or, or_true, and_self, Bool.false_eq_true, Nat.le_refl, Option.bind_some, Option.map_some, Option.getD_some, Option.isSome_some, List.map_cons, List.map_nil, List.cons_append, List.nil_append, List.append_nil, List.getElem?_cons_zero, List.getElem?_cons_succ, eq_self, Int.reduceLT, Int.reduceLE, Int.reduceNeg, Int.reduceEq, cy', e7, g, gx]
            refine .inl ⟨by kernel_rfl, ?_⟩; refine jrIn_c (by omega) (by omega) ?_
            cases hin : inS x.path y.path with
            | false =>
              have nx := next hin
              simp (disch := omega) only [VW, VY, VZ, VA, VB, VC, VE, TY, ↓reduceIte, Nat.reduceEqDiff, Nat.reduceAdd, Nat.reduceMul, Nat.reduceSub, Nat.reduceLeDiff, List.length_cons, List.length_nil, List.length_append, List.append_assoc, List.take_succ_cons, List.take_zero, List.drop_succ_cons, List.drop_zero, List.set_cons_zero, List.set_cons_succ, true_or, or_true, and_self, Bool.false_eq_true, Nat.le_refl, Option.bind_some, Option.map_some, Option.getD_some, Option.isSome_some, List.map_cons, List.map_nil, List.cons_append, List.nil_append, List.append_nil, List.getElem?_cons_zero, List.getElem?_cons_succ, eq_self, Int.reduceLT, Int.reduceLE, Int.reduceNeg, Int.reduceEq, e4, e5, e7, e15, e16, e17, e21, e22, e23, wrap_in]
              exact nx
            | true =>
              rw [hin, if_pos rfl] at hF
              have hpl := putS_len x.path F
              simp (disch := omega) only [VW, VY, VZ, VA, VB, VC, VE, TY, ↓reduceIte, Nat.reduceEqDiff, Nat.reduceAdd, Nat.reduceMul, Nat.reduceSub, Nat.reduceLeDiff, List.length_cons, List.length_nil, List.length_append, List.append_assoc, List.take_succ_cons, List.take_zero, List.drop_succ_cons, List.drop_zero, List.set_cons_zero, List.set_cons_succ, true_or, or_true, and_self, Bool.false_eq_true, Nat.le_refl, Option.bind_some, Option.map_some, Option.getD_some, Option.isSome_some, List.map_cons, List.map_nil, List.cons_append, List.nil_append, List.append_nil, List.getElem?_cons_zero, List.getElem?_cons_succ, eq_self, Int.reduceLT, Int.reduceLE, Int.reduceNeg, Int.reduceEq, e5, e7, gx]
              refine .inl ⟨by kernel_rfl, ?_⟩; refine jrPut_c sb.tail.row (by omega) (by omega) (fun heq => ?_) (fun w6 h6 s6 => ?_)
              · rw [heq] at hF
                simp (disch := omega) only [VW, VY, VZ, VA, VB, VC, VE, TY, ↓reduceIte, Nat.reduceEqDiff, Nat.reduceAdd, Nat.reduceMul, Nat.reduceSub, Nat.reduceLeDiff, List.length_cons, List.length_nil, List.length_append, List.append_assoc, List.take_succ_cons, List.take_zero, List.drop_succ_cons, List.drop_zero, List.set_cons_zero, List.set_cons_succ, true_or, or_true, and_self, Bool.false_eq_true, Nat.le_refl, Option.bind_some, Option.map_some, Option.getD_some, Option.isSome_some, List.map_cons, List.map_nil, List.cons_append, List.nil_append, List.append_nil, List.getElem?_cons_zero, List.getElem?_cons_succ, eq_self, Int.reduceLT, Int.reduceLE, Int.reduceNeg, Int.reduceEq, e4, e7, e15, e16, e17, e21, e22, e23, wrap_in]
                exact ⟨_, by omega, k + 1, F, _, by simp, rfl, hF, by omega, by omega, rfl, sb.tail⟩
              · have s := sb.tail.tail.add s6
                simp (disch := omega) only [VW, VY, VZ, VA, VB, VC, VE, TY, ↓reduceIte, Nat.reduceEqDiff, Nat.reduceAdd, Nat.reduceMul, Nat.reduceSub, Nat.reduceLeDiff, List.length_cons, List.length_nil, List.length_append, List.append_assoc, List.take_succ_cons, List.take_zero, List.drop_succ_cons, List.drop_zero, List.set_cons_zero, List.set_cons_succ, true_or, or_true, and_self, Bool.false_eq_true, Nat.le_refl, Option.bind_some, Option.map_some, Option.getD_some, Option.isSome_some, List.map_cons, List.map_nil, List.cons_append, List.nil_append, List.append_nil, List.getElem?_cons_zero, List.getElem?_cons_succ, eq_self, Int.reduceLT, Int.reduceLE, Int.reduceNeg, Int.reduceEq, e4, e7, e15, e16, e17, e21, e22, e23, wrap_in]
                exact ⟨_, by omega, k + 1, _, _, by simp, rfl, hF, by omega, by omega, rfl, s⟩
          · have cy' := decide_eq_false cy
            have nx := next (by rw [cy', Bool.false_and])
            simp (disch := omega) only [VW, VY, VZ, VA, VB, VC, VE, TY, ↓reduceIte, Nat.reduceEqDiff, Nat.reduceAdd, Nat.reduceMul, Nat.reduceSub, Nat.reduceLeDiff, List.length_cons, List.length_nil, List.length_append, List.append_assoc, List.take_succ_cons, List.take_zero, List.drop_succ_cons, List.drop_zero, List.set_cons_zero, List.set_cons_succ, true_or, or_true, and_self, Bool.false_eq_true, Nat.le_refl, Option.bind_some, Option.map_some, Option.getD_some, Option.isSome_some, List.map_cons, List.map_nil, List.cons_append, List.nil_append, List.append_nil, List.getElem?_cons_zero, List.getElem?_cons_succ, eq_self, Int.reduceLT, Int.reduceLE, Int.reduceNeg, Int.reduceEq, cy', e4, e5, e7, e15, e16, e17, e21, e22, e23, wrap_in]
            exact nx
        · have ck' := decide_eq_false ck
          have nx := next (by rw [ck', Bool.false_and, Bool.false_and])
          simp (disch := omega) only [VW, VY, VZ, VA, VB, VC, VE, TY, ↓reduceIte, Nat.reduceEqDiff, Nat.reduceAdd, Nat.reduceMul, Nat.reduceSub, Nat.reduceLeDiff, List.length_cons, List.length_nil, List.length_append, List.append_assoc, List.take_succ_cons, List.take_zero, List.drop_succ_cons, List.drop_zero, List.set_cons_zero, List.set_cons_succ, true_or, or_true, and_self, Bool.false_eq_true, Nat.le_refl, Option.bind_some, Option.map_some, Option.getD_some, Option.isSome_some, List.map_cons, List.map_nil, List.cons_append, List.nil_append, List.append_nil, List.getElem?_cons_zero, List.getElem?_cons_succ, eq_self, Int.reduceLT, Int.reduceLE, Int.reduceNeg, Int.reduceEq, ck', e4, e5, e7, e15, e16, e17, e21, e22, e23, wrap_in]
          exact nx
      · obtain rfl : k = l.length := by omega
        have c2 : ¬ (l.length : Int) < (l.length : Int) := by omega
        rw [List.drop_length] at hF
        simp only [contrR] at hF
        rw [← hF] at hD
        simp (disch := omega) only [VW, VY, VZ, VA, VB, VC, VE, TY, ↓reduceIte, Nat.reduceEqDiff, Nat.reduceAdd, Nat.reduceMul, Nat.reduceSub, Nat.reduceLeDiff, List.length_cons, List.length_nil, List.length_append, List.append_assoc, List.take_succ_cons, List.take_zero, List.drop_succ_cons, List.drop_zero, List.set_cons_zero, List.set_cons_succ, true_or, or_true, and_self, Bool.false_eq_true, Nat.le_refl, Option.bind_some, Option.map_some, Option.getD_some, Option.isSome_some, List.map_cons, List.map_nil, List.cons_append, List.nil_append, List.append_nil, List.getElem?_cons_zero, List.getElem?_cons_succ, eq_self, Int.reduceLT, Int.reduceLE, Int.reduceNeg, Int.reduceEq, c2, e4, e5, e15, e16, e17, wrap_in]
        exact ⟨_, by omega, i + 1, F, w5, by simp, rfl, hD, by omega, by omega, rfl, Sep.keep (L := [_, _]) s⟩
    · obtain rfl : i = l.length := by omega
      have c1 : ¬ (l.length : Int) < (l.length : Int) := by omega
      rw [List.drop_length] at hD
      simp only [contrP] at hD
      subst hD
      have pl := row_plain s.row.isRow
      simp (disch := omega) only [VW, VY, VZ, VA, VB, VC, VE, TY, ↓reduceIte, Nat.reduceEqDiff, Nat.reduceAdd, Nat.reduceMul, Nat.reduceSub, Nat.reduceLeDiff, List.length_cons, List.length_nil, List.length_append, List.append_assoc, List.take_succ_cons, List.take_zero, List.drop_succ_cons, List.drop_zero, List.set_cons_zero, List.set_cons_succ, true_or, or_true, and_self, Bool.false_eq_true, Nat.le_refl, Option.bind_some, Option.map_some, Option.getD_some, Option.isSome_some, List.map_cons, List.map_nil, List.cons_append, List.nil_append, List.append_nil, List.getElem?_cons_zero, List.getElem?_cons_succ, eq_self, Int.reduceLT, Int.reduceLE, Int.reduceNeg, Int.reduceEq, c1, e5, pl]
      exact hQ _ _ s.toRep.head
theorem contr_cnt (j : Jn) : cntL (contrM j).1 ≤ 1000000000 := by
  have hc : ∀ l : List ByteArray, cntL l = l.length := by
    intro l
    unfold cntL
    induction l with
    | nil => rfl
    | cons x l ih =>
      have : Mrk.ecnt x = 1 := rfl
      simp only [List.map_cons, List.sum_cons, List.length_cons, ih, this]; omega
  rw [hc]
  unfold contrM
  cases h : marksJ j with
  | none => simp
  | some l =>
    have := marksJ_len h
    simp only []
    unfold sortC
    rw [List.length_map]
    refine Nat.le_trans (compact_le _) ?_
    rw [(List.mergeSort_perm _ _).length_eq, List.length_map]
    have h2 := contrF_len l l
    have h3 : contrF l l = contrL l := rfl
    rw [h3] at h2
    omega
end Go.Proofs
