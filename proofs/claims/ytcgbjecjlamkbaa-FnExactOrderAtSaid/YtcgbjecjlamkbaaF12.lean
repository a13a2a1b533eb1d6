/- Contracts of functions, facts of types, or the plain law behind one statement (own work): F12. Conditions: those told in each theorem. -/
import Derived.Test.YtcgbjecjlamkbaaF11
set_option linter.all false
set_option linter.unusedSimpArgs false
set_option linter.unusedVariables false
set_option maxRecDepth 4000
namespace Go.Proofs
open Go Go.V
/- The sign at a mark and the derivatives, as the reference tells them. -/
theorem shl_i (k : Nat) (h : k ≤ 62) : IntKind.wrap .i64 ((1 : Int) * 2 ^ min k 64) = 2 ^ k := by
  have e : min k 64 = k := by omega
  rw [e, Int.one_mul]
  have h1 : (2 : Nat) ^ k ≤ 2 ^ 62 := Nat.pow_le_pow_right (by decide) h
  have e2 : (2 : Nat) ^ 62 = 4611686018427387904 := by decide
  have e3 : ((2 ^ k : Nat) : Int) = (2 : Int) ^ k := by simp
  rw [← e3]
  generalize (2 : Nat) ^ k = p at h1
  exact wrap_in _ (by omega)
theorem dyPow_c {k : Nat} {h : Heap} {Q : Value → Heap → Prop} (hk : k ≤ 62) (hQ : Q (.int .i64 (2 ^ k)) h) : CallsV Try.prog 29 [.int .i64 k] h Q := by
  refine CallsV.start Try.func29 rfl (by rw [Try.results29]) (by kernel_rfl) (by rw [Try.ntmps29]; simp) ?_
  have e := shl_i k hk
  have n1 : ¬ (k : Int) < 0 := by omega
  simp (disch := omega) only [VW, VY, VZ, VA, VB, VC, VE, TY, ↓reduceIte, Nat.reduceEqDiff, Nat.reduceAdd, Nat.reduceMul, Nat.reduceSub, Nat.reduceLeDiff, List.length_cons, List.length_nil, List.length_append, List.append_assoc, List.take_succ_cons, List.take_zero, List.drop_succ_cons, List.drop_zero, List.set_cons_zero, List.set_cons_succ, true_or, or_true, and_self, Bool.false_eq_true, Nat.le_refl, Option.bind_some, Option.map_some, Option.getD_some, Option.isSome_some, List.map_cons, List.map_nil, List.cons_append, List.nil_append, List.append_nil, List.getElem?_cons_zero, List.getElem?_cons_succ, eq_self, Int.reduceLT, Int.reduceLE, Int.reduceNeg, Int.reduceEq, wrapu_in, n1, ibits, e]
  exact hQ
theorem l1Sign_c {n : Int} {h : Heap} {Q : Value → Heap → Prop} (hQ : Q (.int .i64 n.sign) h) : CallsV Try.prog 30 [.int .i64 n] h Q := by
  refine CallsV.start Try.func30 rfl (by rw [Try.results30]) (by kernel_rfl) (by rw [Try.ntmps30]; simp) ?_
  by_cases c1 : 0 < n
  · rw [Int.sign_eq_one_of_pos c1] at hQ
    simp (disch := omega) only [VW, VY, VZ, VA, VB, VC, VE, TY, ↓reduceIte, Nat.reduceEqDiff, Nat.reduceAdd, Nat.reduceMul, Nat.reduceSub, Nat.reduceLeDiff, List.length_cons, List.length_nil, List.length_append, List.append_assoc, List.take_succ_cons, List.take_zero, List.drop_succ_cons, List.drop_zero, List.set_cons_zero, List.set_cons_succ, true_or, or_true, and_self, Bool.false_eq_true, Nat.le_refl, Option.bind_some, Option.map_some, Option.getD_some, Option.isSome_some, List.map_cons, List.map_nil, List.cons_append, List.nil_append, List.append_nil, List.getElem?_cons_zero, List.getElem?_cons_succ, eq_self, Int.reduceLT, Int.reduceLE, Int.reduceNeg, Int.reduceEq, c1]
    exact hQ
  · by_cases c2 : n < 0
    · rw [Int.sign_eq_neg_one_of_neg c2] at hQ
      simp (disch := omega) only [VW, VY, VZ, VA, VB, VC, VE, TY, ↓reduceIte, Nat.reduceEqDiff, Nat.reduceAdd, Nat.reduceMul, Nat.reduceSub, Nat.reduceLeDiff, List.length_cons, List.length_nil, List.length_append, List.append_assoc, List.take_succ_cons, List.take_zero, List.drop_succ_cons, List.drop_zero, List.set_cons_zero, List.set_cons_succ, true_or, or_true, and_self, Bool.false_eq_true, Nat.le_refl, Option.bind_some, Option.map_some, Option.getD_some, Option.isSome_some, List.map_cons, List.map_nil, List.cons_append, List.nil_append, List.append_nil, List.getElem?_cons_zero, List.getElem?_cons_succ, eq_self, Int.reduceLT, Int.reduceLE, Int.reduceNeg, Int.reduceEq, c1, c2]
      exact hQ
    · obtain rfl : n = 0 := by omega
      simp (disch := omega) only [VW, VY, VZ, VA, VB, VC, VE, TY, ↓reduceIte, Nat.reduceEqDiff, Nat.reduceAdd, Nat.reduceMul, Nat.reduceSub, Nat.reduceLeDiff, List.length_cons, List.length_nil, List.length_append, List.append_assoc, List.take_succ_cons, List.take_zero, List.drop_succ_cons, List.drop_zero, List.set_cons_zero, List.set_cons_succ, true_or, or_true, and_self, Bool.false_eq_true, Nat.le_refl, Option.bind_some, Option.map_some, Option.getD_some, Option.isSome_some, List.map_cons, List.map_nil, List.cons_append, List.nil_append, List.append_nil, List.getElem?_cons_zero, List.getElem?_cons_succ, eq_self, Int.reduceLT, Int.reduceLE, Int.reduceNeg, Int.reduceEq, c1, c2]
      exact hQ
theorem Can.one : Can [1] := ⟨[1], by intro x hx; simp at hx; subst hx; decide, .inl rfl⟩
theorem pow2_le {k : Nat} (h : k ≤ 12) : (0 : Int) ≤ 2 ^ k ∧ (2 : Int) ^ k ≤ 4096 := by
  have e3 : ((2 ^ k : Nat) : Int) = (2 : Int) ^ k := by simp
  have h1 : (2 : Nat) ^ k ≤ 2 ^ 12 := Nat.pow_le_pow_right (by decide) h
  have e2 : (2 : Nat) ^ 12 = 4096 := by decide
  rw [e2] at h1
  exact ⟨by rw [← e3]; exact Int.natCast_nonneg _, by rw [← e3]; exact Int.ofNat_le.2 h1⟩
theorem stSign_c {p : List Int} {v : Value} {N : Int} {k : Nat} {h : Heap} {Q : Value → Heap → Prop} (r : Row h p v) (hp : p.length ≤ 9) (hb : ∀ x ∈ p, -68719476736 ≤ x ∧ x ≤ 68719476736) (hN : -16777216 ≤ N ∧ N ≤ 16777216) (hk : k ≤ 12)
    (hQ : ∀ h', Ext h h' → Q (.int .i64 (hor N (2 ^ k) p).sign) h') : CallsV Try.prog 14 [v, .int .i64 N, .int .i64 k] h Q := by
  refine CallsV.start Try.func14 rfl (by rw [Try.results14]) (by kernel_rfl) (by rw [Try.ntmps14]; simp) ?_
  have lenP := r.isRow.len Try.prog
  have s := Sep.blk1 h [.int .i64 1] 3 true
  have s := s.blkRow (l := [(1 : Int)]) (n := 1) ⟨[[]], ⟨[_], [], _, _, rfl, rfl, rep_int ⟨by decide, by decide⟩, rfl, rfl⟩, rfl⟩ rfl (by decide)
  have s := (s.nilA (α := Int) 3).toRep
  have k2 := pow2_le hk
  simp (disch := omega) only [VW, VY, VZ, VA, VB, VC, VE, TY, ↓reduceIte, Nat.reduceEqDiff, Nat.reduceAdd, Nat.reduceMul, Nat.reduceSub, Nat.reduceLeDiff, List.length_cons, List.length_nil, List.length_append, List.append_assoc, List.take_succ_cons, List.take_zero, List.drop_succ_cons, List.drop_zero, List.set_cons_zero, List.set_cons_succ, true_or, or_true, and_self, Bool.false_eq_true, Nat.le_refl, Option.bind_some, Option.map_some, Option.getD_some, Option.isSome_some, List.map_cons, List.map_nil, List.cons_append, List.nil_append, List.append_nil, List.getElem?_cons_zero, List.getElem?_cons_succ, eq_self, Int.reduceLT, Int.reduceLE, Int.reduceNeg, Int.reduceEq, lenP, wrap_in]
  refine loop_rule (fun n e h' => ∃ (S P : List Int) (vs vp : Value), e 0 = v ∧ e 1 = .int .i64 N ∧ e 2 = .int .i64 k ∧ e 7 = vs ∧ e 8 = vp ∧ e 9 = .int .i64 ((n : Int) - 1) ∧ n ≤ p.length ∧ Can S ∧ Can P ∧ S.length ≤ 1 + 8 * (p.length - n) ∧ P.length ≤ 1 + 4 * (p.length - n) ∧ valS S = hor N (2 ^ k) (p.drop n) ∧ valS P = (2 ^ k) ^ (p.length - n) ∧
    Sep h h' [repA S [vs], repA P [vp]]) ?_ p.length _ _
    ⟨[], [1], _, _, rfl, rfl, rfl, rfl, rfl, rfl, Nat.le_refl _, Can.nil, Can.one, by simp, by simp, by rw [List.drop_length]; rfl, by simp [valS], s⟩
  clear s
  rintro n e h1 ⟨S, P, vs, vp, e0, e1, e2, e7, e8, e9, hn, cS, cP, lS, lP, hS, hP, s⟩
  cases n with
  | zero =>
    have hz : ¬ (0 : Int) ≤ -1 := by decide
    have e9 : e 9 = .int .i64 (-1) := e9
    rw [List.drop_zero] at hS
    rw [← hS] at hQ
    have lenS := s.rowR.isRow.len Try.prog
    have rS := s.rowR
    simp (disch := omega) only [VW, VY, VZ, VA, VB, VC, VE, TY, ↓reduceIte, Nat.reduceEqDiff, Nat.reduceAdd, Nat.reduceMul, Nat.reduceSub, Nat.reduceLeDiff, List.length_cons, List.length_nil, List.length_append, List.append_assoc, List.take_succ_cons, List.take_zero, List.drop_succ_cons, List.drop_zero, List.set_cons_zero, List.set_cons_succ, true_or, or_true, and_self, Bool.false_eq_true, Nat.le_refl, Option.bind_some, Option.map_some, Option.getD_some, Option.isSome_some, List.map_cons, List.map_nil, List.cons_append, List.nil_append, List.append_nil, List.getElem?_cons_zero, List.getElem?_cons_succ, eq_self, Int.reduceLT, Int.reduceLE, Int.reduceNeg, Int.reduceEq, e7, e9, hz, lenS, wrap_in]
    refine loop_rule (fun n e h' => e 7 = vs ∧ e 10 = .int .i64 ((n : Int) - 1) ∧ n ≤ S.length ∧ valS (S.take n) = valS S ∧ h' = h1) ?_ S.length _ _
      ⟨e7, rfl, Nat.le_refl _, by rw [List.take_length], rfl⟩
    clear e0 e1 e2 e7 e8 e9
    rintro n e h' ⟨e7, e10, hn, hv, rfl⟩
    cases n with
    | zero =>
      have e10 : e 10 = .int .i64 (-1) := e10
      have hz0 : valS S = 0 := hv.symm
      rw [hz0] at hQ
      simp (disch := omega) only [VW, VY, VZ, VA, VB, VC, VE, TY, ↓reduceIte, Nat.reduceEqDiff, Nat.reduceAdd, Nat.reduceMul, Nat.reduceSub, Nat.reduceLeDiff, List.length_cons, List.length_nil, List.length_append, List.append_assoc, List.take_succ_cons, List.take_zero, List.drop_succ_cons, List.drop_zero, List.set_cons_zero, List.set_cons_succ, true_or, or_true, and_self, Bool.false_eq_true, Nat.le_refl, Option.bind_some, Option.map_some, Option.getD_some, Option.isSome_some, List.map_cons, List.map_nil, List.cons_append, List.nil_append, List.append_nil, List.getElem?_cons_zero, List.getElem?_cons_succ, eq_self, Int.reduceLT, Int.reduceLE, Int.reduceNeg, Int.reduceEq, e10, hz]
      exact hQ _ s.ext
    | succ n =>
      have e10 : e 10 = .int .i64 (n : Int) := by rw [e10]; congr 1; omega
      have k0 : (0 : Int) ≤ (n : Int) := by omega
      obtain ⟨x, hx⟩ := get_some (show n < S.length by omega)
      obtain ⟨x3, x4⟩ := row_int rS hx
      by_cases c : x = 0
      · subst c
        simp (disch := omega) only [VW, VY, VZ, VA, VB, VC, VE, TY, ↓reduceIte, Nat.reduceEqDiff, Nat.reduceAdd, Nat.reduceMul, Nat.reduceSub, Nat.reduceLeDiff, List.length_cons, List.length_nil, List.length_append, List.append_assoc, List.take_succ_cons, List.take_zero, List.drop_succ_cons, List.drop_zero, List.set_cons_zero, List.set_cons_succ, true_or, or_true, and_self, Bool.false_eq_true, Nat.le_refl, Option.bind_some, Option.map_some, Option.getD_some, Option.isSome_some, List.map_cons, List.map_nil, List.cons_append, List.nil_append, List.append_nil, List.getElem?_cons_zero, List.getElem?_cons_succ, eq_self, Int.reduceLT, Int.reduceLE, Int.reduceNeg, Int.reduceEq, e7, e10, k0, rS.isRow.ix, x3, wrap_in]
        refine ⟨n, by omega, rfl, by omega, ?_⟩
        rw [valS_take hx, Int.mul_zero, Int.add_zero] at hv
        exact hv
      · have c' := decide_eq_false c
        have := cS.sign hx c
        rw [hv] at this
        rw [this] at hQ
        simp (disch := omega) only [VW, VY, VZ, VA, VB, VC, VE, TY, ↓reduceIte, Nat.reduceEqDiff, Nat.reduceAdd, Nat.reduceMul, Nat.reduceSub, Nat.reduceLeDiff, List.length_cons, List.length_nil, List.length_append, List.append_assoc, List.take_succ_cons, List.take_zero, List.drop_succ_cons, List.drop_zero, List.set_cons_zero, List.set_cons_succ, true_or, or_true, and_self, Bool.false_eq_true, Nat.le_refl, Option.bind_some, Option.map_some, Option.getD_some, Option.isSome_some, List.map_cons, List.map_nil, List.cons_append, List.nil_append, List.append_nil, List.getElem?_cons_zero, List.getElem?_cons_succ, eq_self, Int.reduceLT, Int.reduceLE, Int.reduceNeg, Int.reduceEq, e7, e10, k0, rS.isRow.ix, x3, c, c']
        refine .inl ⟨by kernel_rfl, ?_⟩; refine l1Sign_c ?_
        simp (disch := omega) only [VW, VY, VZ, VA, VB, VC, VE, TY, ↓reduceIte, Nat.reduceEqDiff, Nat.reduceAdd, Nat.reduceMul, Nat.reduceSub, Nat.reduceLeDiff, List.length_cons, List.length_nil, List.length_append, List.append_assoc, List.take_succ_cons, List.take_zero, List.drop_succ_cons, List.drop_zero, List.set_cons_zero, List.set_cons_succ, true_or, or_true, and_self, Bool.false_eq_true, Nat.le_refl, Option.bind_some, Option.map_some, Option.getD_some, Option.isSome_some, List.map_cons, List.map_nil, List.cons_append, List.nil_append, List.append_nil, List.getElem?_cons_zero, List.getElem?_cons_succ, eq_self, Int.reduceLT, Int.reduceLE, Int.reduceNeg, Int.reduceEq]
        exact hQ _ s.ext
  | succ n =>
    have e9 : e 9 = .int .i64 (n : Int) := by rw [e9]; congr 1; omega
    have k0 : (0 : Int) ≤ (n : Int) := by omega
    obtain ⟨x, hx⟩ := get_some (show n < p.length by omega)
    obtain ⟨x3, x4⟩ := row_int (r.mono s.ext) hx
    have hxb := hb x (List.mem_of_getElem? hx)
    simp (disch := omega) only [VW, VY, VZ, VA, VB, VC, VE, TY, ↓reduceIte, Nat.reduceEqDiff, Nat.reduceAdd, Nat.reduceMul, Nat.reduceSub, Nat.reduceLeDiff, List.length_cons, List.length_nil, List.length_append, List.append_assoc, List.take_succ_cons, List.take_zero, List.drop_succ_cons, List.drop_zero, List.set_cons_zero, List.set_cons_succ, true_or, or_true, and_self, Bool.false_eq_true, Nat.le_refl, Option.bind_some, Option.map_some, Option.getD_some, Option.isSome_some, List.map_cons, List.map_nil, List.cons_append, List.nil_append, List.append_nil, List.getElem?_cons_zero, List.getElem?_cons_succ, eq_self, Int.reduceLT, Int.reduceLE, Int.reduceNeg, Int.reduceEq, e9, k0]
    refine draw_ord [0, 1, 3, 4, 5, 6, 7, 2, 8, 9, 10] (by kernel_rfl) (by simp only [List.filterMap_cons, List.filterMap_nil, List.getElem?_cons_zero, List.getElem?_cons_succ]; rfl) ?_
    simp (disch := omega) only [VW, VY, VZ, VA, VB, VC, VE, TY, ↓reduceIte, Nat.reduceEqDiff, Nat.reduceAdd, Nat.reduceMul, Nat.reduceSub, Nat.reduceLeDiff, List.length_cons, List.length_nil, List.length_append, List.append_assoc, List.take_succ_cons, List.take_zero, List.drop_succ_cons, List.drop_zero, List.set_cons_zero, List.set_cons_succ, true_or, or_true, and_self, Bool.false_eq_true, Nat.le_refl, Option.bind_some, Option.map_some, Option.getD_some, Option.isSome_some, List.map_cons, List.map_nil, List.cons_append, List.nil_append, List.append_nil, List.getElem?_cons_zero, List.getElem?_cons_succ, eq_self, Int.reduceLT, Int.reduceLE, Int.reduceNeg, Int.reduceEq, e0, e1, e7, e8, e9, r.isRow.ix, x3]
    refine .inl ⟨by kernel_rfl, ?_⟩; refine stTimes_c s.rowR (by omega) cS (by omega) fun S1 w1 h2 c1 v1 l1 s1 => ?_
    have s := s.add s1
    obtain ⟨x3, _⟩ := row_int (r.mono s.ext) hx
    simp (disch := omega) only [VW, VY, VZ, VA, VB, VC, VE, TY, ↓reduceIte, Nat.reduceEqDiff, Nat.reduceAdd, Nat.reduceMul, Nat.reduceSub, Nat.reduceLeDiff, List.length_cons, List.length_nil, List.length_append, List.append_assoc, List.take_succ_cons, List.take_zero, List.drop_succ_cons, List.drop_zero, List.set_cons_zero, List.set_cons_succ, true_or, or_true, and_self, Bool.false_eq_true, Nat.le_refl, Option.bind_some, Option.map_some, Option.getD_some, Option.isSome_some, List.map_cons, List.map_nil, List.cons_append, List.nil_append, List.append_nil, List.getElem?_cons_zero, List.getElem?_cons_succ, eq_self, Int.reduceLT, Int.reduceLE, Int.reduceNeg, Int.reduceEq, x3]
    refine .inl ⟨by kernel_rfl, ?_⟩; refine stTimes_c (s.pull 2 rfl).rowR (by omega) cP hxb fun S2 w2 h3 c2 v2 l2 s2 => ?_
    have s := s.add s2
    obtain ⟨x3, _⟩ := row_int (r.mono s.ext) hx
    simp (disch := omega) only [VW, VY, VZ, VA, VB, VC, VE, TY, ↓reduceIte, Nat.reduceEqDiff, Nat.reduceAdd, Nat.reduceMul, Nat.reduceSub, Nat.reduceLeDiff, List.length_cons, List.length_nil, List.length_append, List.append_assoc, List.take_succ_cons, List.take_zero, List.drop_succ_cons, List.drop_zero, List.set_cons_zero, List.set_cons_succ, true_or, or_true, and_self, Bool.false_eq_true, Nat.le_refl, Option.bind_some, Option.map_some, Option.getD_some, Option.isSome_some, List.map_cons, List.map_nil, List.cons_append, List.nil_append, List.append_nil, List.getElem?_cons_zero, List.getElem?_cons_succ, eq_self, Int.reduceLT, Int.reduceLE, Int.reduceNeg, Int.reduceEq, x3]
    refine .inl ⟨by kernel_rfl, ?_⟩; refine stJoin_c (N := 1 + 8 * (p.length - (n + 1)) + 4) (s.pull 1 rfl).row s.row (by omega) (by omega) (by omega) c1 c2 fun S3 w3 h4 c3 v3 l3 s3 => ?_
    have s := s.add s3
    obtain ⟨x3, _⟩ := row_int (r.mono s.ext) hx
    simp (disch := omega) only [VW, VY, VZ, VA, VB, VC, VE, TY, ↓reduceIte, Nat.reduceEqDiff, Nat.reduceAdd, Nat.reduceMul, Nat.reduceSub, Nat.reduceLeDiff, List.length_cons, List.length_nil, List.length_append, List.append_assoc, List.take_succ_cons, List.take_zero, List.drop_succ_cons, List.drop_zero, List.set_cons_zero, List.set_cons_succ, true_or, or_true, and_self, Bool.false_eq_true, Nat.le_refl, Option.bind_some, Option.map_some, Option.getD_some, Option.isSome_some, List.map_cons, List.map_nil, List.cons_append, List.nil_append, List.append_nil, List.getElem?_cons_zero, List.getElem?_cons_succ, eq_self, Int.reduceLT, Int.reduceLE, Int.reduceNeg, Int.reduceEq, x3, e2]
    refine .inl ⟨by kernel_rfl, ?_⟩; refine dyPow_c (by omega) ?_
    simp (disch := omega) only [VW, VY, VZ, VA, VB, VC, VE, TY, ↓reduceIte, Nat.reduceEqDiff, Nat.reduceAdd, Nat.reduceMul, Nat.reduceSub, Nat.reduceLeDiff, List.length_cons, List.length_nil, List.length_append, List.append_assoc, List.take_succ_cons, List.take_zero, List.drop_succ_cons, List.drop_zero, List.set_cons_zero, List.set_cons_succ, true_or, or_true, and_self, Bool.false_eq_true, Nat.le_refl, Option.bind_some, Option.map_some, Option.getD_some, Option.isSome_some, List.map_cons, List.map_nil, List.cons_append, List.nil_append, List.append_nil, List.getElem?_cons_zero, List.getElem?_cons_succ, eq_self, Int.reduceLT, Int.reduceLE, Int.reduceNeg, Int.reduceEq, e8]
    refine .inl ⟨by kernel_rfl, ?_⟩; refine stTimes_c (s.pull 4 rfl).rowR (by omega) cP (by omega) fun P1 w4 h5 c4 v4 l4 s4 => ?_
    have s := s.add s4
    simp (disch := omega) only [VW, VY, VZ, VA, VB, VC, VE, TY, ↓reduceIte, Nat.reduceEqDiff, Nat.reduceAdd, Nat.reduceMul, Nat.reduceSub, Nat.reduceLeDiff, List.length_cons, List.length_nil, List.length_append, List.append_assoc, List.take_succ_cons, List.take_zero, List.drop_succ_cons, List.drop_zero, List.set_cons_zero, List.set_cons_succ, true_or, or_true, and_self, Bool.false_eq_true, Nat.le_refl, Option.bind_some, Option.map_some, Option.getD_some, Option.isSome_some, List.map_cons, List.map_nil, List.cons_append, List.nil_append, List.append_nil, List.getElem?_cons_zero, List.getElem?_cons_succ, eq_self, Int.reduceLT, Int.reduceLE, Int.reduceNeg, Int.reduceEq, e0, e1, e2, e9, wrap_in]
    refine ⟨n, by omega, S3, P1, w3, w4, rfl, rfl, rfl, by omega, c3, c4, by omega, by omega, ?_, ?_, ?_⟩
    · rw [v3, v2, v1, hS, hP, hor_drop hx, Int.mul_comm x]
    · rw [v4, hP, show p.length - n = (p.length - (n + 1)) + 1 by omega, Int.pow_succ]
    · exact Sep.keep (L := [_, _]) ((s.swap.toRep.pull 1 rfl).toRep.swap)
/-! ### derivatives -/
def dIt : Nat → List Int → List Int
  | 0, p => p
  | n + 1, p => dM (dIt n p)
theorem map_mul (a b : Int) (q : List Int) : (q.map (b * ·)).map (a * ·) = q.map ((a * b) * ·) := by
  rw [List.map_map]
  exact List.map_congr_left fun x _ => (Int.mul_assoc a b x).symm
theorem map_one (q : List Int) : q = q.map ((1 : Int) * ·) := by
  have : (fun x : Int => 1 * x) = id := by funext x; simp
  rw [this, List.map_id]
theorem Led.of {c : Int} {q : List Int} (h : Led (q.map (c * ·))) : Led q := by
  intro x hx hx0
  subst hx0
  refine h 0 ?_ rfl
  rw [List.length_map, List.getElem?_map, hx]; simp
theorem Okay.it {p : List Int} (h : Okay 0 p) : ∀ n, n ≤ 8 → Okay n (dIt n p)
  | 0, _ => h
  | n + 1, hn => (Okay.it h n (by omega)).d (by omega)
theorem Led.it {p : List Int} (h : Led p) : ∀ n, Led (dIt n p)
  | 0 => h
  | n + 1 => (Led.it h n).d
theorem muDerive_c {p : List Int} {v : Value} {n : Nat} {h : Heap} {Q : Value → Heap → Prop} (r : Row h p v) (hn : n ≤ 8) (hp : Okay 0 p) (hl : Led p)
    (hQ : ∀ c q w h', 0 < c → dIt n p = q.map (c * ·) → Okay n q → Ext h h' → Row h' q w → Q w h') : CallsV Try.prog 15 [v, .int .i64 n] h Q := by
  refine CallsV.start Try.func15 rfl (by rw [Try.results15]) (by kernel_rfl) (by rw [Try.ntmps15]; simp) ?_
  simp (disch := omega) only [VW, VY, VZ, VA, VB, VC, VE, TY, ↓reduceIte, Nat.reduceEqDiff, Nat.reduceAdd, Nat.reduceMul, Nat.reduceSub, Nat.reduceLeDiff, List.length_cons, List.length_nil, List.length_append, List.append_assoc, List.take_succ_cons, List.take_zero, List.drop_succ_cons, List.drop_zero, List.set_cons_zero, List.set_cons_succ, true_or, or_true, and_self, Bool.false_eq_true, Nat.le_refl, Option.bind_some, Option.map_some, Option.getD_some, Option.isSome_some, List.map_cons, List.map_nil, List.cons_append, List.nil_append, List.append_nil, List.getElem?_cons_zero, List.getElem?_cons_succ, eq_self, Int.reduceLT, Int.reduceLE, Int.reduceNeg, Int.reduceEq]
  refine loop_rule (fun k e h' => ∃ (c : Int) (q : List Int) (w : Value), e 0 = w ∧ e 1 = .int .i64 (k : Nat) ∧ k ≤ n ∧ 0 < c ∧ dIt (n - k) p = q.map (c * ·) ∧ Okay (n - k) q ∧ Led q ∧ Ext h h' ∧ Row h' q w) ?_ n _ _
    ⟨1, p, v, rfl, rfl, Nat.le_refl _, by decide, by rw [Nat.sub_self]; exact map_one p, by rw [Nat.sub_self]; exact hp, hl, .refl h, r⟩
  rintro k e h1 ⟨c, q, w, e0, e1, hk, hc, hq, ok, led, E, r⟩
  cases k with
  | zero =>
    have c1 : ¬ (0 : Int) < ((0 : Nat) : Int) := by decide
    have c2 : ¬ (0 : Int) < 0 := by decide
    simp (disch := omega) only [VW, VY, VZ, VA, VB, VC, VE, TY, ↓reduceIte, Nat.reduceEqDiff, Nat.reduceAdd, Nat.reduceMul, Nat.reduceSub, Nat.reduceLeDiff, List.length_cons, List.length_nil, List.length_append, List.append_assoc, List.take_succ_cons, List.take_zero, List.drop_succ_cons, List.drop_zero, List.set_cons_zero, List.set_cons_succ, true_or, or_true, and_self, Bool.false_eq_true, Nat.le_refl, Option.bind_some, Option.map_some, Option.getD_some, Option.isSome_some, List.map_cons, List.map_nil, List.cons_append, List.nil_append, List.append_nil, List.getElem?_cons_zero, List.getElem?_cons_succ, eq_self, Int.reduceLT, Int.reduceLE, Int.reduceNeg, Int.reduceEq, e0, e1, c1, c2]
    exact hQ c q w _ hc hq ok E r
  | succ k =>
    have c1 : (0 : Int) < ((k + 1 : Nat) : Int) := by omega
    have kk : ((k + 1 : Nat) : Int) - 1 = (k : Int) := by omega
    simp (disch := omega) only [VW, VY, VZ, VA, VB, VC, VE, TY, ↓reduceIte, Nat.reduceEqDiff, Nat.reduceAdd, Nat.reduceMul, Nat.reduceSub, Nat.reduceLeDiff, List.length_cons, List.length_nil, List.length_append, List.append_assoc, List.take_succ_cons, List.take_zero, List.drop_succ_cons, List.drop_zero, List.set_cons_zero, List.set_cons_succ, true_or, or_true, and_self, Bool.false_eq_true, Nat.le_refl, Option.bind_some, Option.map_some, Option.getD_some, Option.isSome_some, List.map_cons, List.map_nil, List.cons_append, List.nil_append, List.append_nil, List.getElem?_cons_zero, List.getElem?_cons_succ, eq_self, Int.reduceLT, Int.reduceLE, Int.reduceNeg, Int.reduceEq, e0, e1, c1]
    refine .inl ⟨by kernel_rfl, ?_⟩; refine sgDerive_c r ok (by omega) fun w2 h2 s => ?_
    have en : n - (k + 1) + 1 = n - k := by omega
    have ok2 := ok.d (by omega)
    rw [en] at ok2
    simp (disch := omega) only [VW, VY, VZ, VA, VB, VC, VE, TY, ↓reduceIte, Nat.reduceEqDiff, Nat.reduceAdd, Nat.reduceMul, Nat.reduceSub, Nat.reduceLeDiff, List.length_cons, List.length_nil, List.length_append, List.append_assoc, List.take_succ_cons, List.take_zero, List.drop_succ_cons, List.drop_zero, List.set_cons_zero, List.set_cons_succ, true_or, or_true, and_self, Bool.false_eq_true, Nat.le_refl, Option.bind_some, Option.map_some, Option.getD_some, Option.isSome_some, List.map_cons, List.map_nil, List.cons_append, List.nil_append, List.append_nil, List.getElem?_cons_zero, List.getElem?_cons_succ, eq_self, Int.reduceLT, Int.reduceLE, Int.reduceNeg, Int.reduceEq]
    refine .inl ⟨by kernel_rfl, ?_⟩; refine sgPart_c s.row (by omega) ok2 led.d fun c2 q2 w3 h3 hc2 hq2 ok3 s3 => ?_
    have hd : dIt (n - k) p = (q2.map (c2 * ·)).map (c * ·) := by
      rw [← en]
      show dM (dIt (n - (k + 1)) p) = _
      rw [hq, dM_map, hq2]
    rw [map_mul] at hd
    have led2 : Led q2 := by
      have := led.d
      rw [hq2] at this
      exact this.of
    simp (disch := omega) only [VW, VY, VZ, VA, VB, VC, VE, TY, ↓reduceIte, Nat.reduceEqDiff, Nat.reduceAdd, Nat.reduceMul, Nat.reduceSub, Nat.reduceLeDiff, List.length_cons, List.length_nil, List.length_append, List.append_assoc, List.take_succ_cons, List.take_zero, List.drop_succ_cons, List.drop_zero, List.set_cons_zero, List.set_cons_succ, true_or, or_true, and_self, Bool.false_eq_true, Nat.le_refl, Option.bind_some, Option.map_some, Option.getD_some, Option.isSome_some, List.map_cons, List.map_nil, List.cons_append, List.nil_append, List.append_nil, List.getElem?_cons_zero, List.getElem?_cons_succ, eq_self, Int.reduceLT, Int.reduceLE, Int.reduceNeg, Int.reduceEq, e1, kk, wrap_in]
    exact ⟨k, by omega, c * c2, q2, w3, rfl, rfl, by omega, Int.mul_pos hc hc2, hd, ok3, led2, (E.trans s.ext).trans s3.ext, s3.row⟩
theorem hor_sign {N T c : Int} {p q : List Int} (hc : 0 < c) (h : p = q.map (c * ·)) : (hor N T q).sign = (hor N T p).sign := by
  rw [h, hor_map, Int.sign_mul, Int.sign_eq_one_of_pos hc, Int.one_mul]
end Go.Proofs
