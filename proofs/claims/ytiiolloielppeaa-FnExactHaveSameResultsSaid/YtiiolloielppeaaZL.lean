/- Contracts of functions, facts of types, or the plain law behind one statement (own work): ZL. Conditions: those told in each theorem. -/
import Derived.Test.YtiiolloielppeaaZK
import Derived.Test.YtiiolloielppeaaYI
set_option linter.all false
set_option linter.unusedSimpArgs false
set_option linter.unusedVariables false
set_option maxRecDepth 4000
namespace Go.Proofs
open Go Go.V
/- Dyadic numbers compared by whole part and rest. -/
theorem strip_val (n : Int) : ∀ k : Nat, (stripM n k).1 * 2 ^ (k - (stripM n k).2) = n := by
  intro k
  induction k generalizing n with
  | zero => simp [stripM_zero]
  | succ k ih =>
    rcases Int.emod_two_eq n with h | h
    · rw [stripM_even k h]
      have hl := stripM_le (n / 2) k
      have := ih (n / 2)
      rw [show k + 1 - (stripM (n / 2) k).2 = (k - (stripM (n / 2) k).2) + 1 by omega, Int.pow_succ, ← Int.mul_assoc, this]
      omega
    · rw [stripM_odd _ h]; simp
theorem makeM_up {n : Int} {k : Nat} {d : Dy} (hk : k ≤ 24) (h : makeM n k = some d) : upM d 24 = n * 2 ^ (24 - k) := by
  unfold makeM at h
  split at h
  · rename_i h0
    cases h
    subst h0
    simp [upM]
  · split at h
    · cases h
      have h1 := strip_val n k
      have h2 := stripM_le n k
      unfold upM
      simp only [Int.toNat_natCast]
      rw [show 24 - (stripM n k).2 = (k - (stripM n k).2) + (24 - k) by omega, Int.pow_add, ← Int.mul_assoc, h1]
    · cases h
theorem strip_small (n : Int) (k : Nat) : (stripM n k).1.natAbs ≤ n.natAbs := by
  induction k generalizing n with
  | zero => exact Nat.le_refl _
  | succ k ih =>
    simp only [stripM]
    split
    · have := ih (n / 2); omega
    · exact Nat.le_refl _
theorem make_small {n : Int} {k : Nat} (hn : n.natAbs ≤ 1099511627776) (hk : k ≤ 24) : ∃ d, makeM n k = some d ∧ DyG d := by
  have h1 := strip_small n k
  have h2 := stripM_le n k
  have hs : (makeM n k).isSome = true := by
    unfold makeM
    split
    · rfl
    · rw [if_pos]
      · rfl
      · unfold fitsB
        simp only [Bool.and_eq_true, decide_eq_true_eq]
        omega
  obtain ⟨d, hd⟩ := Option.isSome_iff_exists.1 hs
  exact ⟨d, hd, makeM_good hd⟩
def flD (a : Dy) : Int := a.n / 2 ^ a.k.toNat
theorem down_eq {n d : Int} (hd : 0 < d) : (if Int.tmod n d < 0 then Int.tdiv n d - 1 else Int.tdiv n d) = n / d := by
  have h1 := Int.mul_tdiv_add_tmod n d
  have h2 := Int.emod_nonneg n (show d ≠ 0 by omega)
  have h3 := Int.emod_lt_of_pos n hd
  have h4 : -d < Int.tmod n d ∧ Int.tmod n d < d := by
    rw [Int.tmod_eq_emod]
    split <;> constructor <;> omega
  split
  · rename_i c
    refine ((Int.ediv_emod_unique (r := Int.tmod n d + d) (q := Int.tdiv n d - 1) hd).2 ⟨?_, by omega, by omega⟩).1.symm
    rw [Int.mul_sub]; omega
  · rename_i c
    exact ((Int.ediv_emod_unique (r := Int.tmod n d) (q := Int.tdiv n d) hd).2 ⟨by omega, by omega, by omega⟩).1.symm
theorem l1Sign_c {n : Int} {h : Heap} {Q : Value → Heap → Prop} (hQ : Q (.int .i64 (sgn n)) h) : CallsV Try.prog 133 [.int .i64 n] h Q := by
  refine CallsV.start Try.func133 rfl (by rw [Try.results133]) (by kernel_rfl) (by rw [Try.ntmps133]; simp) ?_
  unfold sgn at hQ
  by_cases c1 : 0 < n
  · rw [if_pos c1] at hQ
    simp (disch := omega) only [VW, VY, VZ, VA, VB, VC, VE, TY, ↓reduceIte, Nat.reduceEqDiff, Nat.reduceAdd, Nat.reduceMul, Nat.reduceSub, Nat.reduceLeDiff, List.length_cons, List.length_nil, List.length_append, List.append_assoc, List.take_succ_cons, List.take_zero, List.drop_succ_cons, List.drop_zero, List.set_cons_zero, List.set_cons_succ, true_or, or_true, and_self, Bool.false_eq_true, Nat.le_refl, Option.bind_some, Option.map_some, Option.getD_some, Option.isSome_some, List.map_cons, List.map_nil, List.cons_append, List.nil_append, List.append_nil, List.getElem?_cons_zero, List.getElem?_cons_succ, eq_self, Int.reduceLT, Int.reduceLE, Int.reduceNeg, Int.reduceEq, c1]
    exact hQ
  · rw [if_neg c1] at hQ
    by_cases c2 : n < 0
    · rw [if_pos c2] at hQ
      simp (disch := omega) only [VW, VY, VZ, VA, VB, VC, VE, TY, ↓reduceIte, Nat.reduceEqDiff, Nat.reduceAdd, Nat.reduceMul, Nat.reduceSub, Nat.reduceLeDiff, List.length_cons, List.length_nil, List.length_append, List.append_assoc, List.take_succ_cons, List.take_zero, List.drop_succ_cons, List.drop_zero, List.set_cons_zero, List.set_cons_succ, true_or, or_true, and_self, Bool.false_eq_true, Nat.le_refl, Option.bind_some, Option.map_some, Option.getD_some, Option.isSome_some, List.map_cons, List.map_nil, List.cons_append, List.nil_append, List.append_nil, List.getElem?_cons_zero, List.getElem?_cons_succ, eq_self, Int.reduceLT, Int.reduceLE, Int.reduceNeg, Int.reduceEq, c1, c2]
      exact hQ
    · rw [if_neg c2] at hQ
      simp (disch := omega) only [VW, VY, VZ, VA, VB, VC, VE, TY, ↓reduceIte, Nat.reduceEqDiff, Nat.reduceAdd, Nat.reduceMul, Nat.reduceSub, Nat.reduceLeDiff, List.length_cons, List.length_nil, List.length_append, List.append_assoc, List.take_succ_cons, List.take_zero, List.drop_succ_cons, List.drop_zero, List.set_cons_zero, List.set_cons_succ, true_or, or_true, and_self, Bool.false_eq_true, Nat.le_refl, Option.bind_some, Option.map_some, Option.getD_some, Option.isSome_some, List.map_cons, List.map_nil, List.cons_append, List.nil_append, List.append_nil, List.getElem?_cons_zero, List.getElem?_cons_succ, eq_self, Int.reduceLT, Int.reduceLE, Int.reduceNeg, Int.reduceEq, c1, c2]
      exact hQ
theorem dyDown_c {n d : Int} {h : Heap} {Q : Value → Heap → Prop} (hn : -1099511627776 ≤ n ∧ n ≤ 1099511627776) (hd : 0 < d) (hQ : Q (.int .i64 (n / d)) h) : CallsV Try.prog 138 [.int .i64 n, .int .i64 d] h Q := by
  refine CallsV.start Try.func138 rfl (by rw [Try.results138]) (by kernel_rfl) (by rw [Try.ntmps138]; simp) ?_
  have h1 := Int.mul_tdiv_add_tmod n d
  have hs : (Int.tdiv n d).natAbs ≤ n.natAbs := by
    rw [Int.natAbs_tdiv]
    exact Nat.div_le_self _ _
  have d0 : ¬ d = 0 := by omega
  have w1 : IntKind.i64.wrap (Int.tdiv n d) = Int.tdiv n d := wrap_in _ (by omega)
  rw [← down_eq hd] at hQ
  by_cases c : Int.tmod n d < 0
  · rw [if_pos c] at hQ
    have w2 : IntKind.i64.wrap (Int.tdiv n d - 1) = Int.tdiv n d - 1 := wrap_in _ (by omega)
    simp (disch := omega) only [VW, VY, VZ, VA, VB, VC, VE, TY, ↓reduceIte, Nat.reduceEqDiff, Nat.reduceAdd, Nat.reduceMul, Nat.reduceSub, Nat.reduceLeDiff, List.length_cons, List.length_nil, List.length_append, List.append_assoc, List.take_succ_cons, List.take_zero, List.drop_succ_cons, List.drop_zero, List.set_cons_zero, List.set_cons_succ, true_or, or_true, and_self, Bool.false_eq_true, Nat.le_refl, Option.bind_some, Option.map_some, Option.getD_some, Option.isSome_some, List.map_cons, List.map_nil, List.cons_append, List.nil_append, List.append_nil, List.getElem?_cons_zero, List.getElem?_cons_succ, eq_self, Int.reduceLT, Int.reduceLE, Int.reduceNeg, Int.reduceEq, d0, w1, c, w2]
    exact hQ
  · rw [if_neg c] at hQ
    simp (disch := omega) only [VW, VY, VZ, VA, VB, VC, VE, TY, ↓reduceIte, Nat.reduceEqDiff, Nat.reduceAdd, Nat.reduceMul, Nat.reduceSub, Nat.reduceLeDiff, List.length_cons, List.length_nil, List.length_append, List.append_assoc, List.take_succ_cons, List.take_zero, List.drop_succ_cons, List.drop_zero, List.set_cons_zero, List.set_cons_succ, true_or, or_true, and_self, Bool.false_eq_true, Nat.le_refl, Option.bind_some, Option.map_some, Option.getD_some, Option.isSome_some, List.map_cons, List.map_nil, List.cons_append, List.nil_append, List.append_nil, List.getElem?_cons_zero, List.getElem?_cons_succ, eq_self, Int.reduceLT, Int.reduceLE, Int.reduceNeg, Int.reduceEq, d0, w1, c]
    exact hQ
theorem dyFloor_c {a : Dy} {h : Heap} {Q : Value → Heap → Prop} (ha : DyG a) (hQ : ∀ h', Ext h h' → Q (.int .i64 (flD a)) h') : CallsV Try.prog 132 [.agg (dyC a).toArray] h Q := by
  refine CallsV.start Try.func132 rfl (by rw [Try.results132]) (by kernel_rfl) (by rw [Try.ntmps132]; simp) ?_
  have s := Sep.blk1 h (dyC a) 39 true
  have ga := s.rd
  have hk0 := ha.k0
  have hk1 := ha.k1
  obtain ⟨q, hq⟩ : ∃ q : Nat, a.k = (q : Int) := ⟨a.k.toNat, by omega⟩
  have hq' : a.k.toNat = q := by omega
  unfold flD at hQ
  rw [hq'] at hQ
  simp (disch := omega) only [VW, VY, VZ, VA, VB, VC, VE, TY, ↓reduceIte, Nat.reduceEqDiff, Nat.reduceAdd, Nat.reduceMul, Nat.reduceSub, Nat.reduceLeDiff, List.length_cons, List.length_nil, List.length_append, List.append_assoc, List.take_succ_cons, List.take_zero, List.drop_succ_cons, List.drop_zero, List.set_cons_zero, List.set_cons_succ, true_or, or_true, and_self, Bool.false_eq_true, Nat.le_refl, Option.bind_some, Option.map_some, Option.getD_some, Option.isSome_some, List.map_cons, List.map_nil, List.cons_append, List.nil_append, List.append_nil, List.getElem?_cons_zero, List.getElem?_cons_succ, eq_self, Int.reduceLT, Int.reduceLE, Int.reduceNeg, Int.reduceEq]
  refine draw_ord [0, 1, 2, 3, 4, 5, 6] (by kernel_rfl) (by simp only [List.filterMap_cons, List.filterMap_nil, List.getElem?_cons_zero, List.getElem?_cons_succ]; rfl) ?_
  simp (disch := omega) only [VW, VY, VZ, VA, VB, VC, VE, TY, ↓reduceIte, Nat.reduceEqDiff, Nat.reduceAdd, Nat.reduceMul, Nat.reduceSub, Nat.reduceLeDiff, List.length_cons, List.length_nil, List.length_append, List.append_assoc, List.take_succ_cons, List.take_zero, List.drop_succ_cons, List.drop_zero, List.set_cons_zero, List.set_cons_succ, true_or, or_true, and_self, Bool.false_eq_true, Nat.le_refl, Option.bind_some, Option.map_some, Option.getD_some, Option.isSome_some, List.map_cons, List.map_nil, List.cons_append, List.nil_append, List.append_nil, List.getElem?_cons_zero, List.getElem?_cons_succ, eq_self, Int.reduceLT, Int.reduceLE, Int.reduceNeg, Int.reduceEq, ga]
  rw [hq]
  refine .inl ⟨by kernel_rfl, ?_⟩; refine dyPow_c (k := q) (by omega) ?_
  simp (disch := omega) only [VW, VY, VZ, VA, VB, VC, VE, TY, ↓reduceIte, Nat.reduceEqDiff, Nat.reduceAdd, Nat.reduceMul, Nat.reduceSub, Nat.reduceLeDiff, List.length_cons, List.length_nil, List.length_append, List.append_assoc, List.take_succ_cons, List.take_zero, List.drop_succ_cons, List.drop_zero, List.set_cons_zero, List.set_cons_succ, true_or, or_true, and_self, Bool.false_eq_true, Nat.le_refl, Option.bind_some, Option.map_some, Option.getD_some, Option.isSome_some, List.map_cons, List.map_nil, List.cons_append, List.nil_append, List.append_nil, List.getElem?_cons_zero, List.getElem?_cons_succ, eq_self, Int.reduceLT, Int.reduceLE, Int.reduceNeg, Int.reduceEq, ga, hq]
  refine .inl ⟨by kernel_rfl, ?_⟩; refine dyDown_c ⟨ha.n0, ha.n1⟩ (Int.pow_pos (by decide)) ?_
  simp (disch := omega) only [VW, VY, VZ, VA, VB, VC, VE, TY, ↓reduceIte, Nat.reduceEqDiff, Nat.reduceAdd, Nat.reduceMul, Nat.reduceSub, Nat.reduceLeDiff, List.length_cons, List.length_nil, List.length_append, List.append_assoc, List.take_succ_cons, List.take_zero, List.drop_succ_cons, List.drop_zero, List.set_cons_zero, List.set_cons_succ, true_or, or_true, and_self, Bool.false_eq_true, Nat.le_refl, Option.bind_some, Option.map_some, Option.getD_some, Option.isSome_some, List.map_cons, List.map_nil, List.cons_append, List.nil_append, List.append_nil, List.getElem?_cons_zero, List.getElem?_cons_succ, eq_self, Int.reduceLT, Int.reduceLE, Int.reduceNeg, Int.reduceEq, ga, hq]
  exact hQ _ s.ext
end Go.Proofs
