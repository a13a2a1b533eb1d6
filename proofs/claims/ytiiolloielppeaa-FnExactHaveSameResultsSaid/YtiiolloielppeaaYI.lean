/- Contracts of functions, facts of types, or the plain law behind one statement (own work): YI. Conditions: those told in each theorem. -/
import Derived.Test.YtiiolloielppeaaYH
set_option linter.all false
set_option linter.unusedSimpArgs false
set_option linter.unusedVariables false
set_option maxRecDepth 4000
namespace Go.Proofs
open Go Go.V
/- dyAt, dyAdd. -/
def nearB (n : Int) : Prop := -1152921504606846976 ≤ n ∧ n ≤ 1152921504606846976
instance (n : Int) : Decidable (nearB n) := by unfold nearB; exact inferInstance
def atM (a : Dy) (k : Nat) : Option Int :=
  if a.n = 0 then some 0 else if a.k.toNat < k ∧ ¬ nearB (a.n * 2 ^ (k - a.k.toNat - 1)) then none else some (upM a k)
def optI (o : Option Int) : Value := .tuple #[.int .i64 (o.getD 0), .bool o.isSome]
theorem optI_eq (o : Option Int) : optI o = .tuple #[.int .i64 (o.getD 0), .bool o.isSome] := rfl
theorem near_mono {n : Int} {i j : Nat} (hij : i ≤ j) (h : nearB (n * 2 ^ j)) : nearB (n * 2 ^ i) := by
  obtain ⟨d, rfl⟩ : ∃ d, j = i + d := ⟨j - i, by omega⟩
  rw [Int.pow_add, ← Int.mul_assoc] at h
  have hp := pow_pos' d
  generalize n * 2 ^ i = x at *
  generalize (2 : Int) ^ d = p at *
  unfold nearB at *
  constructor
  · by_cases c : x ≤ 0
    · have : x * p ≤ x * 1 := Int.mul_le_mul_of_nonpos_left c (by omega)
      omega
    · omega
  · by_cases c : 0 ≤ x
    · have : x * 1 ≤ x * p := Int.mul_le_mul_of_nonneg_left (by omega) c
      omega
    · omega
theorem dyAt_c {a : Dy} {k : Nat} {h : Heap} {Q : Value → Heap → Prop} (ha : DyG a) (hk : k ≤ 1000) (hQ : ∀ h', Ext h h' → Q (optI (atM a k)) h') :
    CallsV Try.prog 97 [.agg (dyC a).toArray, .int .i64 k] h Q := by
  refine CallsV.start Try.func97 rfl (by rw [Try.results97]) (by kernel_rfl) (by rw [Try.ntmps97]; simp) ?_
  have s := Sep.blk1 h (dyC a) 39 true
  have ga := s.rd
  unfold atM at hQ
  by_cases c0 : a.n = 0
  · rw [if_pos c0] at hQ
    simp (disch := omega) only [VW, VY, VZ, VA, VB, VC, VE, TY, ↓reduceIte, Nat.reduceEqDiff, Nat.reduceAdd, Nat.reduceMul, Nat.reduceSub, Nat.reduceLeDiff, List.length_cons, List.length_nil, List.length_append, List.append_assoc, List.take_succ_cons, List.take_zero, List.drop_succ_cons, List.drop_zero, List.set_cons_zero, List.set_cons_succ, true_or, or_true, and_self, Bool.false_eq_true, Nat.le_refl, Option.bind_some, Option.map_some, Option.getD_some, Option.isSome_some, List.map_cons, List.map_nil, List.cons_append, List.nil_append, List.append_nil, List.getElem?_cons_zero, List.getElem?_cons_succ, eq_self, Int.reduceLT, Int.reduceLE, Int.reduceNeg, Int.reduceEq, ga, c0]
    exact hQ _ s.ext
  rw [if_neg c0] at hQ
  simp (disch := omega) only [VW, VY, VZ, VA, VB, VC, VE, TY, ↓reduceIte, Nat.reduceEqDiff, Nat.reduceAdd, Nat.reduceMul, Nat.reduceSub, Nat.reduceLeDiff, List.length_cons, List.length_nil, List.length_append, List.append_assoc, List.take_succ_cons, List.take_zero, List.drop_succ_cons, List.drop_zero, List.set_cons_zero, List.set_cons_succ, true_or, or_true, and_self, Bool.false_eq_true, Nat.le_refl, Option.bind_some, Option.map_some, Option.getD_some, Option.isSome_some, List.map_cons, List.map_nil, List.cons_append, List.nil_append, List.append_nil, List.getElem?_cons_zero, List.getElem?_cons_succ, eq_self, Int.reduceLT, Int.reduceLE, Int.reduceNeg, Int.reduceEq, ga, c0]
  have hk0 := ha.k0
  have hk1 := ha.k1
  have hn0 := ha.n0
  have hn1 := ha.n1
  obtain ⟨q, hq⟩ : ∃ q : Nat, a.k = (q : Int) := ⟨a.k.toNat, by omega⟩
  have hqt : a.k.toNat = q := by omega
  rw [hqt] at hQ
  have ed : dyC a = [.int .i64 (a.n * 2 ^ (q - q)), .int .i64 a.k] := by rw [Nat.sub_self, Int.pow_zero, Int.mul_one]
  have s := s.as ed
  refine loop_rule (fun m e h' => ∃ (i : Nat), e 1 = .int .i64 k ∧ e 2 = .pointer (some ⟨h.length, 0, none⟩) ∧ e 6 = .int .i64 i ∧ q ≤ i ∧ (i ≤ k ∨ i = q) ∧ (q < i → nearB (a.n * 2 ^ (i - q - 1))) ∧ m = k - i ∧ Sep h h' [blkA h.length [.int .i64 (a.n * 2 ^ (i - q)), .int .i64 a.k] 39]) ?_ (k - q) _ _ ⟨q, rfl, rfl, by simp [upd, hq], Nat.le_refl _, .inr rfl, fun h => absurd h (Nat.lt_irrefl _), rfl, s⟩
  rintro m e h' ⟨i, e1, e2, e6, hqi, hik, hnear, rfl, s⟩
  have ga := s.rd
  simp (disch := omega) only [VW, VY, VZ, VA, VB, VC, VE, TY, ↓reduceIte, Nat.reduceEqDiff, Nat.reduceAdd, Nat.reduceMul, Nat.reduceSub, Nat.reduceLeDiff, List.length_cons, List.length_nil, List.length_append, List.append_assoc, List.take_succ_cons, List.take_zero, List.drop_succ_cons, List.drop_zero, List.set_cons_zero, List.set_cons_succ, true_or, or_true, and_self, Bool.false_eq_true, Nat.le_refl, Option.bind_some, Option.map_some, Option.getD_some, Option.isSome_some, List.map_cons, List.map_nil, List.cons_append, List.nil_append, List.append_nil, List.getElem?_cons_zero, List.getElem?_cons_succ, eq_self, Int.reduceLT, Int.reduceLE, Int.reduceNeg, Int.reduceEq, e1, e6]
  by_cases c1 : (i : Int) < (k : Int)
  · simp (disch := omega) only [VW, VY, VZ, VA, VB, VC, VE, TY, ↓reduceIte, Nat.reduceEqDiff, Nat.reduceAdd, Nat.reduceMul, Nat.reduceSub, Nat.reduceLeDiff, List.length_cons, List.length_nil, List.length_append, List.append_assoc, List.take_succ_cons, List.take_zero, List.drop_succ_cons, List.drop_zero, List.set_cons_zero, List.set_cons_succ, true_or, or_true, and_self, Bool.false_eq_true, Nat.le_refl, Option.bind_some, Option.map_some, Option.getD_some, Option.isSome_some, List.map_cons, List.map_nil, List.cons_append, List.nil_append, List.append_nil, List.getElem?_cons_zero, List.getElem?_cons_succ, eq_self, Int.reduceLT, Int.reduceLE, Int.reduceNeg, Int.reduceEq, c1]
    refine draw_ord [0, 1, 2, 3, 4, 5, 6] (by kernel_rfl) (by simp only [List.filterMap_cons, List.filterMap_nil, List.getElem?_cons_zero, List.getElem?_cons_succ]; rfl) ?_
    simp (disch := omega) only [VW, VY, VZ, VA, VB, VC, VE, TY, ↓reduceIte, Nat.reduceEqDiff, Nat.reduceAdd, Nat.reduceMul, Nat.reduceSub, Nat.reduceLeDiff, List.length_cons, List.length_nil, List.length_append, List.append_assoc, List.take_succ_cons, List.take_zero, List.drop_succ_cons, List.drop_zero, List.set_cons_zero, List.set_cons_succ, true_or, or_true, and_self, Bool.false_eq_true, Nat.le_refl, Option.bind_some, Option.map_some, Option.getD_some, Option.isSome_some, List.map_cons, List.map_nil, List.cons_append, List.nil_append, List.append_nil, List.getElem?_cons_zero, List.getElem?_cons_succ, eq_self, Int.reduceLT, Int.reduceLE, Int.reduceNeg, Int.reduceEq, e2, ga]
    have p60 : (2 : Int) ^ 60 = 1152921504606846976 := by decide
    refine .inl ⟨by kernel_rfl, ?_⟩; refine dyPow_c (k := 60) (by decide) ?_
    simp (disch := omega) only [VW, VY, VZ, VA, VB, VC, VE, TY, ↓reduceIte, Nat.reduceEqDiff, Nat.reduceAdd, Nat.reduceMul, Nat.reduceSub, Nat.reduceLeDiff, List.length_cons, List.length_nil, List.length_append, List.append_assoc, List.take_succ_cons, List.take_zero, List.drop_succ_cons, List.drop_zero, List.set_cons_zero, List.set_cons_succ, true_or, or_true, and_self, Bool.false_eq_true, Nat.le_refl, Option.bind_some, Option.map_some, Option.getD_some, Option.isSome_some, List.map_cons, List.map_nil, List.cons_append, List.nil_append, List.append_nil, List.getElem?_cons_zero, List.getElem?_cons_succ, eq_self, Int.reduceLT, Int.reduceLE, Int.reduceNeg, Int.reduceEq, e2, ga, p60, wrap_in]
    refine .inl ⟨by kernel_rfl, ?_⟩; refine dyPow_c (k := 60) (by decide) ?_
    simp (disch := omega) only [VW, VY, VZ, VA, VB, VC, VE, TY, ↓reduceIte, Nat.reduceEqDiff, Nat.reduceAdd, Nat.reduceMul, Nat.reduceSub, Nat.reduceLeDiff, List.length_cons, List.length_nil, List.length_append, List.append_assoc, List.take_succ_cons, List.take_zero, List.drop_succ_cons, List.drop_zero, List.set_cons_zero, List.set_cons_succ, true_or, or_true, and_self, Bool.false_eq_true, Nat.le_refl, Option.bind_some, Option.map_some, Option.getD_some, Option.isSome_some, List.map_cons, List.map_nil, List.cons_append, List.nil_append, List.append_nil, List.getElem?_cons_zero, List.getElem?_cons_succ, eq_self, Int.reduceLT, Int.reduceLE, Int.reduceNeg, Int.reduceEq, e2, ga, p60, wrap_in]
    refine .inl ⟨by kernel_rfl, ?_⟩; refine l1In_c ?_
    by_cases c2 : nearB (a.n * 2 ^ (i - q))
    · have d2 : decide ((0 : Int) - 1152921504606846976 ≤ a.n * 2 ^ (i - q) ∧ a.n * 2 ^ (i - q) ≤ 1152921504606846976) = true := decide_eq_true (by unfold nearB at c2; omega)
      have e2p : a.n * 2 ^ (i - q) * 2 = a.n * 2 ^ (i + 1 - q) := by
        rw [show i + 1 - q = (i - q) + 1 by omega, Int.pow_succ, Int.mul_assoc]
      have hb : -9223372036854775808 ≤ a.n * 2 ^ (i - q) * 2 ∧ a.n * 2 ^ (i - q) * 2 ≤ 9223372036854775807 := by
        unfold nearB at c2; omega
      rw [d2]
      have w2 := wrap_in _ hb
      simp (disch := omega) only [VW, VY, VZ, VA, VB, VC, VE, TY, ↓reduceIte, Nat.reduceEqDiff, Nat.reduceAdd, Nat.reduceMul, Nat.reduceSub, Nat.reduceLeDiff, List.length_cons, List.length_nil, List.length_append, List.append_assoc, List.take_succ_cons, List.take_zero, List.drop_succ_cons, List.drop_zero, List.set_cons_zero, List.set_cons_succ, true_or, or_true, and_self, Bool.false_eq_true, Nat.le_refl, Option.bind_some, Option.map_some, Option.getD_some, Option.isSome_some, List.map_cons, List.map_nil, List.cons_append, List.nil_append, List.append_nil, List.getElem?_cons_zero, List.getElem?_cons_succ, eq_self, Int.reduceLT, Int.reduceLE, Int.reduceNeg, Int.reduceEq, e2, ga, w2]
      refine sep_store s (by simp) fun h5 s => ?_
      have s := s.as (ds := [.int .i64 (a.n * 2 ^ (i + 1 - q)), .int .i64 a.k]) (by simp [t_put, e2p])
      simp (disch := omega) only [VW, VY, VZ, VA, VB, VC, VE, TY, ↓reduceIte, Nat.reduceEqDiff, Nat.reduceAdd, Nat.reduceMul, Nat.reduceSub, Nat.reduceLeDiff, List.length_cons, List.length_nil, List.length_append, List.append_assoc, List.take_succ_cons, List.take_zero, List.drop_succ_cons, List.drop_zero, List.set_cons_zero, List.set_cons_succ, true_or, or_true, and_self, Bool.false_eq_true, Nat.le_refl, Option.bind_some, Option.map_some, Option.getD_some, Option.isSome_some, List.map_cons, List.map_nil, List.cons_append, List.nil_append, List.append_nil, List.getElem?_cons_zero, List.getElem?_cons_succ, eq_self, Int.reduceLT, Int.reduceLE, Int.reduceNeg, Int.reduceEq, e6, e1, e2, wrap_in]
      refine ⟨_, by omega, i + 1, by simp, by omega, .inl (by omega), fun _ => ?_, rfl, s⟩
      rw [show i + 1 - q - 1 = i - q by omega]
      exact c2
    · have d2 : decide ((0 : Int) - 1152921504606846976 ≤ a.n * 2 ^ (i - q) ∧ a.n * 2 ^ (i - q) ≤ 1152921504606846976) = false := decide_eq_false (by unfold nearB at c2; omega)
      rw [d2]
      have hfar : q < k ∧ ¬ nearB (a.n * 2 ^ (k - q - 1)) := ⟨by omega, fun hn => c2 (near_mono (by omega) hn)⟩
      rw [if_pos hfar] at hQ
      simp (disch := omega) only [VW, VY, VZ, VA, VB, VC, VE, TY, ↓reduceIte, Nat.reduceEqDiff, Nat.reduceAdd, Nat.reduceMul, Nat.reduceSub, Nat.reduceLeDiff, List.length_cons, List.length_nil, List.length_append, List.append_assoc, List.take_succ_cons, List.take_zero, List.drop_succ_cons, List.drop_zero, List.set_cons_zero, List.set_cons_succ, true_or, or_true, and_self, Bool.false_eq_true, Nat.le_refl, Option.bind_some, Option.map_some, Option.getD_some, Option.isSome_some, List.map_cons, List.map_nil, List.cons_append, List.nil_append, List.append_nil, List.getElem?_cons_zero, List.getElem?_cons_succ, eq_self, Int.reduceLT, Int.reduceLE, Int.reduceNeg, Int.reduceEq, e2, ga]
      exact hQ _ s.ext
  · simp (disch := omega) only [VW, VY, VZ, VA, VB, VC, VE, TY, ↓reduceIte, Nat.reduceEqDiff, Nat.reduceAdd, Nat.reduceMul, Nat.reduceSub, Nat.reduceLeDiff, List.length_cons, List.length_nil, List.length_append, List.append_assoc, List.take_succ_cons, List.take_zero, List.drop_succ_cons, List.drop_zero, List.set_cons_zero, List.set_cons_succ, true_or, or_true, and_self, Bool.false_eq_true, Nat.le_refl, Option.bind_some, Option.map_some, Option.getD_some, Option.isSome_some, List.map_cons, List.map_nil, List.cons_append, List.nil_append, List.append_nil, List.getElem?_cons_zero, List.getElem?_cons_succ, eq_self, Int.reduceLT, Int.reduceLE, Int.reduceNeg, Int.reduceEq, c1, e2, ga]
    have hup : upM a k = a.n * 2 ^ (i - q) := by
      unfold upM
      rw [hqt]
      congr 2
      omega
    have hnf : ¬ (q < k ∧ ¬ nearB (a.n * 2 ^ (k - q - 1))) := by
      rintro ⟨h1, h2⟩
      obtain rfl : i = k := by omega
      exact h2 (hnear h1)
    rw [if_neg hnf, hup] at hQ
    exact hQ _ s.ext
end Go.Proofs
