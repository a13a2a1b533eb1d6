/- Contracts of functions, facts of types, or the plain law behind one statement (own work): F10. Conditions: those told in each theorem. -/
import Derived.Test.YtcgbjecjlamkbaaF9
set_option linter.all false
set_option linter.unusedSimpArgs false
set_option linter.unusedVariables false
set_option maxRecDepth 4000
namespace Go.Proofs
open Go Go.V
/- Whole numbers to the base 2^24. -/
theorem down_eq {n d : Int} (hd : 0 < d) : (if Int.tmod n d < 0 then Int.tdiv n d - 1 else Int.tdiv n d) = n / d := by
  rw [Int.tdiv_eq_ediv, Int.tmod_eq_emod]
  have hs : d.sign = 1 := Int.sign_eq_one_of_pos hd
  have h1 := Int.emod_nonneg n (show d ≠ 0 by omega)
  have h2 := Int.emod_lt_of_pos n hd
  rw [hs]
  by_cases c : 0 ≤ n ∨ d ∣ n
  · rw [if_pos c, if_pos c]
    rw [if_neg (by omega)]; omega
  · rw [if_neg c, if_neg c]
    have h3 : n % d ≠ 0 := fun h => c (.inr (Int.dvd_of_emod_eq_zero h))
    have h4 : (d.natAbs : Int) = d := by omega
    rw [h4, if_pos (by omega)]; omega
theorem dyDown_c {n d : Int} {h : Heap} {Q : Value → Heap → Prop} (hn : -9000000000000000000 ≤ n ∧ n ≤ 9000000000000000000) (hd : 0 < d) (hQ : Q (.int .i64 (n / d)) h) : CallsV Try.prog 51 [.int .i64 n, .int .i64 d] h Q := by
  refine CallsV.start Try.func51 rfl (by rw [Try.results51]) (by kernel_rfl) (by rw [Try.ntmps51]; simp) ?_
  have hs : (Int.tdiv n d).natAbs ≤ n.natAbs := by
    rw [Int.natAbs_tdiv]
    exact Nat.div_le_self _ _
  have d0 : ¬ d = 0 := by omega
  have w1 : IntKind.i64.wrap (Int.tdiv n d) = Int.tdiv n d := wrap_in _ (by omega)
  rw [← down_eq hd] at hQ
  by_cases c : Int.tmod n d < 0
  · rw [if_pos c] at hQ
    have w2 : IntKind.i64.wrap (Int.tdiv n d - 1) = Int.tdiv n d - 1 := wrap_in _ (by omega)
    simp (disch := omega) only [VW, VY, VZ, VA, VB, VC, VE, TY, ↓reduceIte, Nat.reduceEqDiff, Nat.reduceAdd, Nat.reduceMul, Nat.reduceSub, Nat.reduceLeDiff, List.length_cons, List.length_nil, List.length_append, List.append_assoc, List.take_succ_cons, List.take_zero, List.drop_succ_cons, List.drop_zero, List.set_cons_zero, List.set_cons_succ, true_or, or_true, and_self, Bool.false_eq_true, Nat.le_refl, Option.bind_some, Option.map_some, Option.getD_some, Option.isSome_some, List.map_cons, List.map_nil, List.cons_append, List.nil_append, List.append_nil, List.getElem?_cons_zero, List.getElem?_cons_succ, eq_self, Int.reduceLT, Int.reduceLE, Int.reduceNeg, Int.reduceEq, d0, w1, c, w2]
    exact hQ
  · rw [if_neg c] at hQ
    simp (disch := omega) only [VW, VY, VZ, VA, VB, VC, VE, TY, ↓reduceIte, Nat.reduceEqDiff, Nat.reduceAdd, Nat.reduceMul, Nat.reduceSub, Nat.reduceLeDiff, List.length_cons, List.length_nil, List.length_append, List.append_assoc, List.take_succ_cons, List.take_zero, List.drop_succ_cons, List.drop_zero, List.set_cons_zero, List.set_cons_succ, true_or, or_true, and_self, Bool.false_eq_true, Nat.le_refl, Option.bind_some, Option.map_some, Option.getD_some, Option.isSome_some, List.map_cons, List.map_nil, List.cons_append, List.nil_append, List.append_nil, List.getElem?_cons_zero, List.getElem?_cons_succ, eq_self, Int.reduceLT, Int.reduceLE, Int.reduceNeg, Int.reduceEq, d0, w1, c]
    exact hQ
theorem carry_step {V P c x : Int} {W : Int} (h : V + P * c = W) : V + P * ((x + c) % 16777216) + P * 16777216 * ((x + c) / 16777216) = W + P * x := by
  have e := Int.emod_add_mul_ediv (x + c) 16777216
  rw [Int.add_assoc, Int.mul_assoc, ← Int.mul_add, e, Int.mul_add, ← h]; omega
theorem carry_step0 {V P c : Int} {W : Int} (h : V + P * c = W) : V + P * (c % 16777216) + P * 16777216 * (c / 16777216) = W := by
  have := carry_step (x := 0) h
  rw [Int.zero_add, Int.mul_zero, Int.add_zero] at this
  exact this
theorem shl24 (c : Int) : c * 2 ^ min (Int.toNat 24) 64 = c * 16777216 := by
  have : (2 : Int) ^ min (Int.toNat 24) 64 = 16777216 := by decide
  rw [this]
def digB24 (l : List Int) : Prop := ∀ x ∈ l, 0 ≤ x ∧ x < 16777216
theorem digB24.snoc {l : List Int} {x : Int} (h : digB24 l) (hx : 0 ≤ x ∧ x < 16777216) : digB24 (l ++ [x]) := by
  intro y hy
  rcases List.mem_append.1 hy with hy | hy
  · exact h y hy
  · obtain rfl : y = x := by simpa using hy
    exact hx
theorem stCarry_c {l : List Int} {v : Value} {h : Heap} {Q : Value → Heap → Prop} (r : Row h l v) (hl : l.length ≤ 1000000) (hb : ∀ x ∈ l, -4000000000000000000 ≤ x ∧ x ≤ 4000000000000000000)
    (hQ : ∀ o w h', Can o → valS o = valS l → o.length ≤ l.length + 4 → Sep h h' [ownA 3 o w] → Q w h') : CallsV Try.prog 41 [v] h Q := by
  refine CallsV.start Try.func41 rfl (by rw [Try.results41]) (by kernel_rfl) (by rw [Try.ntmps41]; simp) ?_
  simp (disch := omega) only [VW, VY, VZ, VA, VB, VC, VE, TY, ↓reduceIte, Nat.reduceEqDiff, Nat.reduceAdd, Nat.reduceMul, Nat.reduceSub, Nat.reduceLeDiff, List.length_cons, List.length_nil, List.length_append, List.append_assoc, List.take_succ_cons, List.take_zero, List.drop_succ_cons, List.drop_zero, List.set_cons_zero, List.set_cons_succ, true_or, or_true, and_self, Bool.false_eq_true, Nat.le_refl, Option.bind_some, Option.map_some, Option.getD_some, Option.isSome_some, List.map_cons, List.map_nil, List.cons_append, List.nil_append, List.append_nil, List.getElem?_cons_zero, List.getElem?_cons_succ, eq_self, Int.reduceLT, Int.reduceLE, Int.reduceNeg, Int.reduceEq, r.isRow.len]
  refine loop_rule (fun n e h' => ∃ (i : Nat) (c : Int) (o : List Int) (vo : Value), e 3 = vo ∧ e 4 = .int .i64 c ∧ e 8 = v ∧ e 9 = .int .i64 l.length ∧ e 10 = .int .i64 i ∧ i ≤ l.length ∧ n = l.length - i ∧ (-549755813888 ≤ c ∧ c ≤ 549755813888) ∧ digB24 o ∧ o.length = i ∧ valS o + 16777216 ^ i * c = valS (l.take i) ∧ Sep h h' [ownA 3 o vo]) ?_ l.length _ _
    ⟨0, 0, [], _, rfl, rfl, rfl, rfl, rfl, Nat.zero_le _, rfl, ⟨by decide, by decide⟩, by intro x hx; simp at hx, rfl, by simp [valS], (Sep.nil (.refl h)).nilA _⟩
  rintro n e h1 ⟨i, c, o, vo, e3, e4, e8, e9, e10, hi, rfl, hc, ho, hol, hv, s⟩
  simp (disch := omega) only [VW, VY, VZ, VA, VB, VC, VE, TY, ↓reduceIte, Nat.reduceEqDiff, Nat.reduceAdd, Nat.reduceMul, Nat.reduceSub, Nat.reduceLeDiff, List.length_cons, List.length_nil, List.length_append, List.append_assoc, List.take_succ_cons, List.take_zero, List.drop_succ_cons, List.drop_zero, List.set_cons_zero, List.set_cons_succ, true_or, or_true, and_self, Bool.false_eq_true, Nat.le_refl, Option.bind_some, Option.map_some, Option.getD_some, Option.isSome_some, List.map_cons, List.map_nil, List.cons_append, List.nil_append, List.append_nil, List.getElem?_cons_zero, List.getElem?_cons_succ, eq_self, Int.reduceLT, Int.reduceLE, Int.reduceNeg, Int.reduceEq, e9, e10]
  by_cases hlt : i < l.length
  · obtain ⟨x, hx⟩ := get_some hlt
    have c1 : (i : Int) < (l.length : Int) := by omega
    obtain ⟨x3, x4⟩ := row_int (r.mono s.ext) hx
    have hxb := hb x (List.mem_of_getElem? hx)
    have w0 : (0 : Int) < 16777216 := by decide
    simp (disch := omega) only [VW, VY, VZ, VA, VB, VC, VE, TY, ↓reduceIte, Nat.reduceEqDiff, Nat.reduceAdd, Nat.reduceMul, Nat.reduceSub, Nat.reduceLeDiff, List.length_cons, List.length_nil, List.length_append, List.append_assoc, List.take_succ_cons, List.take_zero, List.drop_succ_cons, List.drop_zero, List.set_cons_zero, List.set_cons_succ, true_or, or_true, and_self, Bool.false_eq_true, Nat.le_refl, Option.bind_some, Option.map_some, Option.getD_some, Option.isSome_some, List.map_cons, List.map_nil, List.cons_append, List.nil_append, List.append_nil, List.getElem?_cons_zero, List.getElem?_cons_succ, eq_self, Int.reduceLT, Int.reduceLE, Int.reduceNeg, Int.reduceEq, c1, e4, e8, e10, r.isRow.ix, x3, wrap_in]
    refine .inl ⟨by kernel_rfl, ?_⟩; refine dyDown_c (by omega) w0 ?_
    have w1 : x + c - (x + c) / 16777216 * 16777216 = (x + c) % 16777216 := by omega
    have sh := shl24 ((x + c) / 16777216)
    simp (disch := omega) only [VW, VY, VZ, VA, VB, VC, VE, TY, ↓reduceIte, Nat.reduceEqDiff, Nat.reduceAdd, Nat.reduceMul, Nat.reduceSub, Nat.reduceLeDiff, List.length_cons, List.length_nil, List.length_append, List.append_assoc, List.take_succ_cons, List.take_zero, List.drop_succ_cons, List.drop_zero, List.set_cons_zero, List.set_cons_succ, true_or, or_true, and_self, Bool.false_eq_true, Nat.le_refl, Option.bind_some, Option.map_some, Option.getD_some, Option.isSome_some, List.map_cons, List.map_nil, List.cons_append, List.nil_append, List.append_nil, List.getElem?_cons_zero, List.getElem?_cons_succ, eq_self, Int.reduceLT, Int.reduceLE, Int.reduceNeg, Int.reduceEq, e3, sh, ibits, w1, wrap_in]
    have hr : 0 ≤ (x + c) % 16777216 ∧ (x + c) % 16777216 < 16777216 := by omega
    have s := Sep.rep0 (x := (x + c) % 16777216) s (rep_int ⟨by omega, by omega⟩)
    refine sep_append s.swap rfl rfl te22 tk3 rfl (by decide) (by simp; omega) fun v2 h2 s => ?_
    simp (disch := omega) only [VW, VY, VZ, VA, VB, VC, VE, TY, ↓reduceIte, Nat.reduceEqDiff, Nat.reduceAdd, Nat.reduceMul, Nat.reduceSub, Nat.reduceLeDiff, List.length_cons, List.length_nil, List.length_append, List.append_assoc, List.take_succ_cons, List.take_zero, List.drop_succ_cons, List.drop_zero, List.set_cons_zero, List.set_cons_succ, true_or, or_true, and_self, Bool.false_eq_true, Nat.le_refl, Option.bind_some, Option.map_some, Option.getD_some, Option.isSome_some, List.map_cons, List.map_nil, List.cons_append, List.nil_append, List.append_nil, List.getElem?_cons_zero, List.getElem?_cons_succ, eq_self, Int.reduceLT, Int.reduceLE, Int.reduceNeg, Int.reduceEq, e8, e9, e10, wrap_in]
    refine ⟨_, by omega, i + 1, (x + c) / 16777216, o ++ [(x + c) % 16777216], v2, rfl, rfl, by simp, by omega, rfl, by omega, ho.snoc hr, by simp [hol], ?_, s⟩
    rw [valS_snoc, hol, valS_take hx, Int.pow_succ]
    exact carry_step hv
  · obtain rfl : i = l.length := by omega
    have c1 : ¬ (l.length : Int) < (l.length : Int) := by omega
    rw [List.take_length] at hv
    simp (disch := omega) only [VW, VY, VZ, VA, VB, VC, VE, TY, ↓reduceIte, Nat.reduceEqDiff, Nat.reduceAdd, Nat.reduceMul, Nat.reduceSub, Nat.reduceLeDiff, List.length_cons, List.length_nil, List.length_append, List.append_assoc, List.take_succ_cons, List.take_zero, List.drop_succ_cons, List.drop_zero, List.set_cons_zero, List.set_cons_succ, true_or, or_true, and_self, Bool.false_eq_true, Nat.le_refl, Option.bind_some, Option.map_some, Option.getD_some, Option.isSome_some, List.map_cons, List.map_nil, List.cons_append, List.nil_append, List.append_nil, List.getElem?_cons_zero, List.getElem?_cons_succ, eq_self, Int.reduceLT, Int.reduceLE, Int.reduceNeg, Int.reduceEq, c1]
    refine loop_rule (fun n e h' => ∃ (t : Nat) (c : Int) (o : List Int) (vo : Value), e 3 = vo ∧ e 4 = .int .i64 c ∧ n = 4 - t ∧ t ≤ 3 ∧ (t = 0 → -549755813888 ≤ c ∧ c ≤ 549755813888) ∧ (t = 1 → -32770 ≤ c ∧ c ≤ 32770) ∧ (t = 2 → -1 ≤ c ∧ c ≤ 1) ∧ (t = 3 → -1 ≤ c ∧ c ≤ 0) ∧ digB24 o ∧ o.length = l.length + t ∧ valS o + 16777216 ^ o.length * c = valS l ∧ Sep h h' [ownA 3 o vo]) ?_ 4 _ _
      ⟨0, c, o, vo, e3, e4, rfl, by decide, fun _ => hc, by simp, by simp, by simp, ho, hol, by rw [hol]; exact hv, s⟩
    clear hv s hol ho hc e3 e4 e8 e9 e10
    rintro n e h1 ⟨t, c, o, vo, e3, e4, rfl, ht, t0, t1, t2, t3, ho, hol, hv, s⟩
    have hcb : -549755813888 ≤ c ∧ c ≤ 549755813888 := by
      obtain rfl | rfl | rfl | rfl : t = 0 ∨ t = 1 ∨ t = 2 ∨ t = 3 := by omega
      · exact t0 rfl
      · have := t1 rfl; omega
      · have := t2 rfl; omega
      · have := t3 rfl; omega
    by_cases z0 : c = 0
    · subst z0
      have cm : ¬ (0 : Int) = -1 := by decide
      rw [Int.mul_zero, Int.add_zero] at hv
      simp (disch := omega) only [VW, VY, VZ, VA, VB, VC, VE, TY, ↓reduceIte, Nat.reduceEqDiff, Nat.reduceAdd, Nat.reduceMul, Nat.reduceSub, Nat.reduceLeDiff, List.length_cons, List.length_nil, List.length_append, List.append_assoc, List.take_succ_cons, List.take_zero, List.drop_succ_cons, List.drop_zero, List.set_cons_zero, List.set_cons_succ, true_or, or_true, and_self, Bool.false_eq_true, Nat.le_refl, Option.bind_some, Option.map_some, Option.getD_some, Option.isSome_some, List.map_cons, List.map_nil, List.cons_append, List.nil_append, List.append_nil, List.getElem?_cons_zero, List.getElem?_cons_succ, eq_self, Int.reduceLT, Int.reduceLE, Int.reduceNeg, Int.reduceEq, e3, e4, cm]
      exact hQ o _ _ ⟨o, ho, .inl rfl⟩ hv (by omega) s
    · by_cases z1 : c = -1
      · subst z1
        have z0' := decide_eq_false z0
        simp (disch := omega) only [VW, VY, VZ, VA, VB, VC, VE, TY, ↓reduceIte, Nat.reduceEqDiff, Nat.reduceAdd, Nat.reduceMul, Nat.reduceSub, Nat.reduceLeDiff, List.length_cons, List.length_nil, List.length_append, List.append_assoc, List.take_succ_cons, List.take_zero, List.drop_succ_cons, List.drop_zero, List.set_cons_zero, List.set_cons_succ, true_or, or_true, and_self, Bool.false_eq_true, Nat.le_refl, Option.bind_some, Option.map_some, Option.getD_some, Option.isSome_some, List.map_cons, List.map_nil, List.cons_append, List.nil_append, List.append_nil, List.getElem?_cons_zero, List.getElem?_cons_succ, eq_self, Int.reduceLT, Int.reduceLE, Int.reduceNeg, Int.reduceEq, e3, e4, z0, z0']
        have s := Sep.rep0 (x := (-1 : Int)) s (rep_int ⟨by decide, by decide⟩)
        refine sep_append s.swap rfl rfl te22 tk3 rfl (by decide) (by simp; omega) fun v2 h2 s => ?_
        simp (disch := omega) only [VW, VY, VZ, VA, VB, VC, VE, TY, ↓reduceIte, Nat.reduceEqDiff, Nat.reduceAdd, Nat.reduceMul, Nat.reduceSub, Nat.reduceLeDiff, List.length_cons, List.length_nil, List.length_append, List.append_assoc, List.take_succ_cons, List.take_zero, List.drop_succ_cons, List.drop_zero, List.set_cons_zero, List.set_cons_succ, true_or, or_true, and_self, Bool.false_eq_true, Nat.le_refl, Option.bind_some, Option.map_some, Option.getD_some, Option.isSome_some, List.map_cons, List.map_nil, List.cons_append, List.nil_append, List.append_nil, List.getElem?_cons_zero, List.getElem?_cons_succ, eq_self, Int.reduceLT, Int.reduceLE, Int.reduceNeg, Int.reduceEq]
        exact hQ _ _ _ ⟨o, ho, .inr rfl⟩ (by rw [valS_snoc]; exact hv) (by simp; omega) s
      · have z0' := decide_eq_false z0
        have z1' := decide_eq_false z1
        have w0 : (0 : Int) < 16777216 := by decide
        simp (disch := omega) only [VW, VY, VZ, VA, VB, VC, VE, TY, ↓reduceIte, Nat.reduceEqDiff, Nat.reduceAdd, Nat.reduceMul, Nat.reduceSub, Nat.reduceLeDiff, List.length_cons, List.length_nil, List.length_append, List.append_assoc, List.take_succ_cons, List.take_zero, List.drop_succ_cons, List.drop_zero, List.set_cons_zero, List.set_cons_succ, true_or, or_true, and_self, Bool.false_eq_true, Nat.le_refl, Option.bind_some, Option.map_some, Option.getD_some, Option.isSome_some, List.map_cons, List.map_nil, List.cons_append, List.nil_append, List.append_nil, List.getElem?_cons_zero, List.getElem?_cons_succ, eq_self, Int.reduceLT, Int.reduceLE, Int.reduceNeg, Int.reduceEq, e4, z0, z0', z1, z1']
        refine .inl ⟨by kernel_rfl, ?_⟩; refine dyDown_c (by omega) w0 ?_
        have w1 : c - c / 16777216 * 16777216 = c % 16777216 := by omega
        have sh := shl24 (c / 16777216)
        simp (disch := omega) only [VW, VY, VZ, VA, VB, VC, VE, TY, ↓reduceIte, Nat.reduceEqDiff, Nat.reduceAdd, Nat.reduceMul, Nat.reduceSub, Nat.reduceLeDiff, List.length_cons, List.length_nil, List.length_append, List.append_assoc, List.take_succ_cons, List.take_zero, List.drop_succ_cons, List.drop_zero, List.set_cons_zero, List.set_cons_succ, true_or, or_true, and_self, Bool.false_eq_true, Nat.le_refl, Option.bind_some, Option.map_some, Option.getD_some, Option.isSome_some, List.map_cons, List.map_nil, List.cons_append, List.nil_append, List.append_nil, List.getElem?_cons_zero, List.getElem?_cons_succ, eq_self, Int.reduceLT, Int.reduceLE, Int.reduceNeg, Int.reduceEq, e3, sh, ibits, w1, wrap_in]
        have hr : 0 ≤ c % 16777216 ∧ c % 16777216 < 16777216 := by omega
        have s := Sep.rep0 (x := c % 16777216) s (rep_int ⟨by omega, by omega⟩)
        refine sep_append s.swap rfl rfl te22 tk3 rfl (by decide) (by simp; omega) fun v2 h2 s => ?_
        simp (disch := omega) only [VW, VY, VZ, VA, VB, VC, VE, TY, ↓reduceIte, Nat.reduceEqDiff, Nat.reduceAdd, Nat.reduceMul, Nat.reduceSub, Nat.reduceLeDiff, List.length_cons, List.length_nil, List.length_append, List.append_assoc, List.take_succ_cons, List.take_zero, List.drop_succ_cons, List.drop_zero, List.set_cons_zero, List.set_cons_succ, true_or, or_true, and_self, Bool.false_eq_true, Nat.le_refl, Option.bind_some, Option.map_some, Option.getD_some, Option.isSome_some, List.map_cons, List.map_nil, List.cons_append, List.nil_append, List.append_nil, List.getElem?_cons_zero, List.getElem?_cons_succ, eq_self, Int.reduceLT, Int.reduceLE, Int.reduceNeg, Int.reduceEq]
        have ht3 : t ≠ 3 := fun k => by have := t3 k; omega
        refine ⟨4 - (t + 1), by omega, t + 1, c / 16777216, o ++ [c % 16777216], v2, rfl, rfl, rfl, by omega, by omega, fun k => ?_, fun k => ?_, fun k => ?_, ho.snoc hr, by simp; omega, ?_, s⟩
        · have := t0 (by omega); omega
        · have := t1 (by omega); omega
        · have := t2 (by omega); omega
        · rw [valS_snoc, List.length_append, List.length_singleton, Int.pow_succ]
          exact carry_step0 hv
end Go.Proofs
