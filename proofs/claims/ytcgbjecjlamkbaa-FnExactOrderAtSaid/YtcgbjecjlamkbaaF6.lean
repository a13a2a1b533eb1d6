/- Contracts of functions, facts of types, or the plain law behind one statement (own work): F6. Conditions: those told in each theorem. -/
import Derived.Test.YtcgbjecjlamkbaaF5
set_option linter.all false
set_option linter.unusedSimpArgs false
set_option linter.unusedVariables false
set_option maxRecDepth 4000
namespace Go.Proofs
open Go Go.V
/- The sign of the value of a list of coefficients at a mark. -/
theorem lvI_nil (b : Bool) : lvI b (valD []) = 0 := by cases b <;> rfl
theorem signAt_c {p : List Int} {v : Value} {N : Int} {k : Nat} {h : Heap} {Q : Value → Heap → Prop} (r : Row h p v) (hp : p.length ≤ 9) (hb : ∀ x ∈ p, -9000000000000000000 ≤ x ∧ x ≤ 9000000000000000000) (hN : -16777216 ≤ N ∧ N ≤ 16777216) (hk : k ≤ 12)
    (hQ : ∀ h', Ext h h' → Q (.int .i64 (hor N (2 ^ k) p).sign) h') : CallsV Try.prog 21 [v, .agg #[.int .i64 N, .int .i64 k]] h Q := by
  refine CallsV.start Try.func21 rfl (by rw [Try.results21]) (by kernel_rfl) (by rw [Try.ntmps21]; simp) ?_
  have s := Sep.blk2 h [.int .i64 N, .int .i64 k] [.bool false, .slice none 0 0] 28 46 true true
  have lenP := r.isRow.len Try.prog
  simp (disch := omega) only [VW, VY, VZ, VA, VB, VC, VE, TY, ↓reduceIte, Nat.reduceEqDiff, Nat.reduceAdd, Nat.reduceMul, Nat.reduceSub, Nat.reduceLeDiff, List.length_cons, List.length_nil, List.length_append, List.append_assoc, List.take_succ_cons, List.take_zero, List.drop_succ_cons, List.drop_zero, List.set_cons_zero, List.set_cons_succ, true_or, or_true, and_self, Bool.false_eq_true, Nat.le_refl, Option.bind_some, Option.map_some, Option.getD_some, Option.isSome_some, List.map_cons, List.map_nil, List.cons_append, List.nil_append, List.append_nil, List.getElem?_cons_zero, List.getElem?_cons_succ, eq_self, Int.reduceLT, Int.reduceLE, Int.reduceNeg, Int.reduceEq, lenP, wrap_in]
  refine loop_rule (fun n e h' => ∃ (b : Bool) (l : List UInt32) (w : Value), e 0 = v ∧ e 3 = .pointer (some ⟨h.length, 0, none⟩) ∧ e 5 = .pointer (some ⟨h.length + 1, 0, none⟩) ∧ e 6 = .int .i64 ((n : Int) - 1) ∧ n ≤ p.length ∧ l.length ≤ 2000 + 2 * (p.length - n) ∧ lvI b (valD l) = hor N (2 ^ k) (p.drop n) ∧
    Sep h h' [blkA (h.length + 1) [.bool b, w] 46, ownA 55 l w, blkA h.length [.int .i64 N, .int .i64 k] 28]) ?_ p.length _ _
    ⟨false, [], _, rfl, rfl, rfl, rfl, Nat.le_refl _, by simp, by rw [List.drop_length, lvI_nil]; rfl, (s.nilA _).pull 1 rfl⟩
  clear s
  rintro n e h1 ⟨b, l, w, e0, e3, e5, e6, hn, hl, hv, s⟩
  cases n with
  | zero =>
    have hz : ¬ (0 : Int) ≤ -1 := by decide
    have e6 : e 6 = .int .i64 (-1) := e6
    have ga := s.rdAll (n := 2) rfl
    rw [List.drop_zero] at hv
    rw [← hv] at hQ
    simp (disch := omega) only [VW, VY, VZ, VA, VB, VC, VE, TY, ↓reduceIte, Nat.reduceEqDiff, Nat.reduceAdd, Nat.reduceMul, Nat.reduceSub, Nat.reduceLeDiff, List.length_cons, List.length_nil, List.length_append, List.append_assoc, List.take_succ_cons, List.take_zero, List.drop_succ_cons, List.drop_zero, List.set_cons_zero, List.set_cons_succ, true_or, or_true, and_self, Bool.false_eq_true, Nat.le_refl, Option.bind_some, Option.map_some, Option.getD_some, Option.isSome_some, List.map_cons, List.map_nil, List.cons_append, List.nil_append, List.append_nil, List.getElem?_cons_zero, List.getElem?_cons_succ, eq_self, Int.reduceLT, Int.reduceLE, Int.reduceNeg, Int.reduceEq, e5, e6, hz, ga]
    refine .inl ⟨by kernel_rfl, ?_⟩; refine sign_c (s.pull 1 rfl).row fun h2 E2 => ?_
    simp (disch := omega) only [VW, VY, VZ, VA, VB, VC, VE, TY, ↓reduceIte, Nat.reduceEqDiff, Nat.reduceAdd, Nat.reduceMul, Nat.reduceSub, Nat.reduceLeDiff, List.length_cons, List.length_nil, List.length_append, List.append_assoc, List.take_succ_cons, List.take_zero, List.drop_succ_cons, List.drop_zero, List.set_cons_zero, List.set_cons_succ, true_or, or_true, and_self, Bool.false_eq_true, Nat.le_refl, Option.bind_some, Option.map_some, Option.getD_some, Option.isSome_some, List.map_cons, List.map_nil, List.cons_append, List.nil_append, List.append_nil, List.getElem?_cons_zero, List.getElem?_cons_succ, eq_self, Int.reduceLT, Int.reduceLE, Int.reduceNeg, Int.reduceEq]
    exact hQ _ (s.ext.trans E2)
  | succ n =>
    have e6 : e 6 = .int .i64 (n : Int) := by rw [e6]; congr 1; omega
    have k0 : (0 : Int) ≤ (n : Int) := by omega
    obtain ⟨x, hx⟩ := get_some (show n < p.length by omega)
    obtain ⟨x3, x4⟩ := row_int (r.mono s.ext) hx
    have hxb := hb x (List.mem_of_getElem? hx)
    simp (disch := omega) only [VW, VY, VZ, VA, VB, VC, VE, TY, ↓reduceIte, Nat.reduceEqDiff, Nat.reduceAdd, Nat.reduceMul, Nat.reduceSub, Nat.reduceLeDiff, List.length_cons, List.length_nil, List.length_append, List.append_assoc, List.take_succ_cons, List.take_zero, List.drop_succ_cons, List.drop_zero, List.set_cons_zero, List.set_cons_succ, true_or, or_true, and_self, Bool.false_eq_true, Nat.le_refl, Option.bind_some, Option.map_some, Option.getD_some, Option.isSome_some, List.map_cons, List.map_nil, List.cons_append, List.nil_append, List.append_nil, List.getElem?_cons_zero, List.getElem?_cons_succ, eq_self, Int.reduceLT, Int.reduceLE, Int.reduceNeg, Int.reduceEq, e6, k0]
    refine draw_tail [0, 1, 2, 4, 5, 6, 7, 8, 9, 10, 11, 12, 13, 14, 15] [3, 16, 17, 18] (by kernel_rfl) (by simp only [List.filterMap_cons, List.filterMap_nil, List.getElem?_cons_zero, List.getElem?_cons_succ]; rfl) ?_
    have ga := s.rdAll (n := 2) rfl
    have gx := (s.pull 2 rfl).rd
    have kk : (p.length : Int) - 1 - (n : Int) = ((p.length - (n + 1) : Nat) : Int) := by omega
    have km : (k : Int) * ((p.length - (n + 1) : Nat) : Int) = ((k * (p.length - (n + 1)) : Nat) : Int) := by simp
    have kb : k * (p.length - (n + 1)) ≤ 12 * 9 := Nat.mul_le_mul hk (by omega)
    simp (disch := omega) only [VW, VY, VZ, VA, VB, VC, VE, TY, ↓reduceIte, Nat.reduceEqDiff, Nat.reduceAdd, Nat.reduceMul, Nat.reduceSub, Nat.reduceLeDiff, List.length_cons, List.length_nil, List.length_append, List.append_assoc, List.take_succ_cons, List.take_zero, List.drop_succ_cons, List.drop_zero, List.set_cons_zero, List.set_cons_succ, true_or, or_true, and_self, Bool.false_eq_true, Nat.le_refl, Option.bind_some, Option.map_some, Option.getD_some, Option.isSome_some, List.map_cons, List.map_nil, List.cons_append, List.nil_append, List.append_nil, List.getElem?_cons_zero, List.getElem?_cons_succ, eq_self, Int.reduceLT, Int.reduceLE, Int.reduceNeg, Int.reduceEq, ga, gx, e0, e3, e5, e6, x3, r.isRow.ix, lenP, wrap_in, kk, km]
    refine tail_step [(3, [], [16, 17, 18], false)] (by kernel_rfl) (by kernel_rfl) (a_cons (by simp only [List.filterMap_cons, List.filterMap_nil, List.getElem?_cons_zero, List.getElem?_cons_succ]; rfl) (by kernel_rfl) ?_ trivial)
    simp (disch := omega) only [VW, VY, VZ, VA, VB, VC, VE, TY, ↓reduceIte, Nat.reduceEqDiff, Nat.reduceAdd, Nat.reduceMul, Nat.reduceSub, Nat.reduceLeDiff, List.length_cons, List.length_nil, List.length_append, List.append_assoc, List.take_succ_cons, List.take_zero, List.drop_succ_cons, List.drop_zero, List.set_cons_zero, List.set_cons_succ, true_or, or_true, and_self, Bool.false_eq_true, Nat.le_refl, Option.bind_some, Option.map_some, Option.getD_some, Option.isSome_some, List.map_cons, List.map_nil, List.cons_append, List.nil_append, List.append_nil, List.getElem?_cons_zero, List.getElem?_cons_succ, eq_self, Int.reduceLT, Int.reduceLE, Int.reduceNeg, Int.reduceEq, ga, gx, x3]
    refine .inl ⟨by kernel_rfl, ?_⟩; refine times_c (s.pull 1 rfl).row (by omega) (by omega) fun l1 w1 h2 s2 hv1 hl1 => ?_
    have s := s.add s2
    have ga := (s.pull 1 rfl).rdAll (n := 2) rfl
    have gx := (s.pull 3 rfl).rd
    obtain ⟨x3, _⟩ := row_int (r.mono s.ext) hx
    simp (disch := omega) only [VW, VY, VZ, VA, VB, VC, VE, TY, ↓reduceIte, Nat.reduceEqDiff, Nat.reduceAdd, Nat.reduceMul, Nat.reduceSub, Nat.reduceLeDiff, List.length_cons, List.length_nil, List.length_append, List.append_assoc, List.take_succ_cons, List.take_zero, List.drop_succ_cons, List.drop_zero, List.set_cons_zero, List.set_cons_succ, true_or, or_true, and_self, Bool.false_eq_true, Nat.le_refl, Option.bind_some, Option.map_some, Option.getD_some, Option.isSome_some, List.map_cons, List.map_nil, List.cons_append, List.nil_append, List.append_nil, List.getElem?_cons_zero, List.getElem?_cons_succ, eq_self, Int.reduceLT, Int.reduceLE, Int.reduceNeg, Int.reduceEq, ga, gx, x3]
    refine tail_step [(16, [], [17, 18], true)] (by kernel_rfl) (by kernel_rfl) (a_cut (by simp only [List.filterMap_cons, List.filterMap_nil, List.getElem?_cons_zero, List.getElem?_cons_succ]; rfl) (by kernel_rfl) ?_ trivial)
    simp (disch := omega) only [VW, VY, VZ, VA, VB, VC, VE, TY, ↓reduceIte, Nat.reduceEqDiff, Nat.reduceAdd, Nat.reduceMul, Nat.reduceSub, Nat.reduceLeDiff, List.length_cons, List.length_nil, List.length_append, List.append_assoc, List.take_succ_cons, List.take_zero, List.drop_succ_cons, List.drop_zero, List.set_cons_zero, List.set_cons_succ, true_or, or_true, and_self, Bool.false_eq_true, Nat.le_refl, Option.bind_some, Option.map_some, Option.getD_some, Option.isSome_some, List.map_cons, List.map_nil, List.cons_append, List.nil_append, List.append_nil, List.getElem?_cons_zero, List.getElem?_cons_succ, eq_self, Int.reduceLT, Int.reduceLE, Int.reduceNeg, Int.reduceEq, ga, gx, x3]
    refine .inl ⟨by kernel_rfl, ?_⟩; refine longOf_c hxb (by omega) fun b2 l2 w2 h3 s3 hv2 hl2 => ?_
    have s := s.add s3
    have ga := (s.pull 2 rfl).rdAll (n := 2) rfl
    have gx := (s.pull 4 rfl).rd
    obtain ⟨x3, _⟩ := row_int (r.mono s.ext) hx
    simp (disch := omega) only [VW, VY, VZ, VA, VB, VC, VE, TY, ↓reduceIte, Nat.reduceEqDiff, Nat.reduceAdd, Nat.reduceMul, Nat.reduceSub, Nat.reduceLeDiff, List.length_cons, List.length_nil, List.length_append, List.append_assoc, List.take_succ_cons, List.take_zero, List.drop_succ_cons, List.drop_zero, List.set_cons_zero, List.set_cons_succ, true_or, or_true, and_self, Bool.false_eq_true, Nat.le_refl, Option.bind_some, Option.map_some, Option.getD_some, Option.isSome_some, List.map_cons, List.map_nil, List.cons_append, List.nil_append, List.append_nil, List.getElem?_cons_zero, List.getElem?_cons_succ, eq_self, Int.reduceLT, Int.reduceLE, Int.reduceNeg, Int.reduceEq, ga, gx, x3]
    refine tail_step [(17, [], [18], true)] (by kernel_rfl) (by kernel_rfl) (a_cut (by simp only [List.filterMap_cons, List.filterMap_nil, List.getElem?_cons_zero, List.getElem?_cons_succ]; rfl) (by kernel_rfl) ?_ trivial)
    simp (disch := omega) only [VW, VY, VZ, VA, VB, VC, VE, TY, ↓reduceIte, Nat.reduceEqDiff, Nat.reduceAdd, Nat.reduceMul, Nat.reduceSub, Nat.reduceLeDiff, List.length_cons, List.length_nil, List.length_append, List.append_assoc, List.take_succ_cons, List.take_zero, List.drop_succ_cons, List.drop_zero, List.set_cons_zero, List.set_cons_succ, true_or, or_true, and_self, Bool.false_eq_true, Nat.le_refl, Option.bind_some, Option.map_some, Option.getD_some, Option.isSome_some, List.map_cons, List.map_nil, List.cons_append, List.nil_append, List.append_nil, List.getElem?_cons_zero, List.getElem?_cons_succ, eq_self, Int.reduceLT, Int.reduceLE, Int.reduceNeg, Int.reduceEq, ga, gx, x3]
    refine .inl ⟨by kernel_rfl, ?_⟩; refine plus_c (N := 2000 + 2 * (p.length - (n + 1)) + 1) (s.pull 1 rfl).row s.row (by omega) (by omega) (by omega) fun b3 l3 w3 h4 s4 hv3 hl3 => ?_
    have s := s.add s4
    have ga := (s.pull 3 rfl).rdAll (n := 2) rfl
    have gx := (s.pull 5 rfl).rd
    obtain ⟨x3, _⟩ := row_int (r.mono s.ext) hx
    have cv := s.row.isRow.cells
    simp (disch := omega) only [VW, VY, VZ, VA, VB, VC, VE, TY, ↓reduceIte, Nat.reduceEqDiff, Nat.reduceAdd, Nat.reduceMul, Nat.reduceSub, Nat.reduceLeDiff, List.length_cons, List.length_nil, List.length_append, List.append_assoc, List.take_succ_cons, List.take_zero, List.drop_succ_cons, List.drop_zero, List.set_cons_zero, List.set_cons_succ, true_or, or_true, and_self, Bool.false_eq_true, Nat.le_refl, Option.bind_some, Option.map_some, Option.getD_some, Option.isSome_some, List.map_cons, List.map_nil, List.cons_append, List.nil_append, List.append_nil, List.getElem?_cons_zero, List.getElem?_cons_succ, eq_self, Int.reduceLT, Int.reduceLE, Int.reduceNeg, Int.reduceEq, ga, gx, x3]
    refine tail_step [(18, [], [], true)] (by kernel_rfl) (by kernel_rfl) (a_cut (by simp only [List.filterMap_cons, List.filterMap_nil, List.getElem?_cons_zero, List.getElem?_cons_succ]; rfl) (by kernel_rfl) ?_ trivial)
    simp (disch := omega) only [VW, VY, VZ, VA, VB, VC, VE, TY, ↓reduceIte, Nat.reduceEqDiff, Nat.reduceAdd, Nat.reduceMul, Nat.reduceSub, Nat.reduceLeDiff, List.length_cons, List.length_nil, List.length_append, List.append_assoc, List.take_succ_cons, List.take_zero, List.drop_succ_cons, List.drop_zero, List.set_cons_zero, List.set_cons_succ, true_or, or_true, and_self, Bool.false_eq_true, Nat.le_refl, Option.bind_some, Option.map_some, Option.getD_some, Option.isSome_some, List.map_cons, List.map_nil, List.cons_append, List.nil_append, List.append_nil, List.getElem?_cons_zero, List.getElem?_cons_succ, eq_self, Int.reduceLT, Int.reduceLE, Int.reduceNeg, Int.reduceEq, cv, e5]
    refine sep_store (s.pull 3 rfl) (by simp) fun h5 s => ?_
    have s := s.as (ds := [.bool b3, w3]) (by simp [t_put])
    simp (disch := omega) only [VW, VY, VZ, VA, VB, VC, VE, TY, ↓reduceIte, Nat.reduceEqDiff, Nat.reduceAdd, Nat.reduceMul, Nat.reduceSub, Nat.reduceLeDiff, List.length_cons, List.length_nil, List.length_append, List.append_assoc, List.take_succ_cons, List.take_zero, List.drop_succ_cons, List.drop_zero, List.set_cons_zero, List.set_cons_succ, true_or, or_true, and_self, Bool.false_eq_true, Nat.le_refl, Option.bind_some, Option.map_some, Option.getD_some, Option.isSome_some, List.map_cons, List.map_nil, List.cons_append, List.nil_append, List.append_nil, List.getElem?_cons_zero, List.getElem?_cons_succ, eq_self, Int.reduceLT, Int.reduceLE, Int.reduceNeg, Int.reduceEq, e0, e3, e5, e6, wrap_in]
    refine ⟨n, by omega, b3, l3, w3, rfl, by omega, by omega, ?_, ?_⟩
    · have e : hor N (2 ^ k) (p.drop (n + 1)) * N + x * 2 ^ (k * (p.length - (n + 1))) = hor N (2 ^ k) (p.drop n) := by
        rw [hor_drop hx, Int.pow_mul]
      rw [hv3, hv2, hv1, lvI_mul, hv]
      exact e
    · exact (((s.pull 2 rfl).tail.pull 2 rfl).tail.pull 2 rfl).tail
end Go.Proofs
