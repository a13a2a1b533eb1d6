/- Contracts of functions, facts of types, or the plain law behind one statement (own work): YH. Conditions: those told in each theorem. -/
import Derived.Test.YtiiolloielppeaaYG
set_option linter.all false
set_option linter.unusedSimpArgs false
set_option linter.unusedVariables false
set_option maxRecDepth 4000
namespace Go.Proofs
open Go Go.V
/- The spec's sums. -/
theorem makeM_strip {n : Int} (hn : n ≠ 0) {k m : Nat} {u : Int} (h : stripM n k = (u, m)) :
    makeM n k = if dyM ⟨u, m⟩ = true then some ⟨u, m⟩ else none := by
  unfold makeM
  rw [if_neg hn, h]
  have ho := stripM_odd' n k
  rw [h] at ho
  simp only [] at ho
  have hf : fitsB (u, m) = true ↔ dyM ⟨u, m⟩ = true := by
    rw [dyM_iff]
    unfold fitsB
    simp only [Bool.and_eq_true, decide_eq_true_eq]
    constructor
    · rintro ⟨h1, h2, h3⟩
      exact ⟨by simp only []; omega, by simp only []; omega, h2, h3, by simp only []; omega⟩
    · rintro ⟨h1, h2, h3, h4, h5⟩
      simp only [] at h1 h2 h3 h4
      exact ⟨by omega, h3, h4⟩
  by_cases c : fitsB (u, m) = true
  · rw [if_pos c, if_pos (hf.1 c)]
  · rw [if_neg c, if_neg (fun e => c (hf.2 e))]
theorem dyMake_c {n : Int} {k : Nat} {h : Heap} {Q : Value → Heap → Prop} (hn : inI64 n) (hk : k ≤ 1000) (hQ : ∀ h', Ext h h' → Q (optV (makeM n k)) h') :
    CallsV Try.prog 98 [.int .i64 n, .int .i64 k] h Q := by
  unfold inI64 at hn
  refine CallsV.start Try.func98 rfl (by rw [Try.results98]) (by kernel_rfl) (by rw [Try.ntmps98]; simp) ?_
  have s := Sep.blk1 h [.int .i64 0, .int .i64 0] 39 true
  by_cases c0 : n = 0
  · subst c0
    have hz : makeM 0 k = some ⟨0, 0⟩ := by unfold makeM; rw [if_pos rfl]
    rw [hz, optV_eq] at hQ
    by_cases c1 : 0 < (k : Int)
    · simp (disch := omega) only [VW, VY, VZ, VA, VB, VC, VE, TY, ↓reduceIte, Nat.reduceEqDiff, Nat.reduceAdd, Nat.reduceMul, Nat.reduceSub, Nat.reduceLeDiff, List.length_cons, List.length_nil, List.length_append, List.append_assoc, List.take_succ_cons, List.take_zero, List.drop_succ_cons, List.drop_zero, List.set_cons_zero, List.set_cons_succ, true_or, or_true, and_self, Bool.false_eq_true, Nat.le_refl, Option.bind_some, Option.map_some, Option.getD_some, Option.isSome_some, List.map_cons, List.map_nil, List.cons_append, List.nil_append, List.append_nil, List.getElem?_cons_zero, List.getElem?_cons_succ, eq_self, Int.reduceLT, Int.reduceLE, Int.reduceNeg, Int.reduceEq, c1]
      refine loop_rule (fun j e h' => e 0 = .int .i64 0 ∧ e 1 = .int .i64 0 ∧ e 4 = .pointer (some ⟨h.length, 0, none⟩) ∧ e 5 = .bool false ∧ Sep h h' [blkA h.length [.int .i64 0, .int .i64 0] 39]) ?_ 0 _ _ ⟨rfl, rfl, rfl, rfl, s⟩
      rintro j e h' ⟨e0, e1, e4, e5, s⟩
      simp (disch := omega) only [VW, VY, VZ, VA, VB, VC, VE, TY, ↓reduceIte, Nat.reduceEqDiff, Nat.reduceAdd, Nat.reduceMul, Nat.reduceSub, Nat.reduceLeDiff, List.length_cons, List.length_nil, List.length_append, List.append_assoc, List.take_succ_cons, List.take_zero, List.drop_succ_cons, List.drop_zero, List.set_cons_zero, List.set_cons_succ, true_or, or_true, and_self, Bool.false_eq_true, Nat.le_refl, Option.bind_some, Option.map_some, Option.getD_some, Option.isSome_some, List.map_cons, List.map_nil, List.cons_append, List.nil_append, List.append_nil, List.getElem?_cons_zero, List.getElem?_cons_succ, eq_self, Int.reduceLT, Int.reduceLE, Int.reduceNeg, Int.reduceEq, e0, e1]
      refine .inl ⟨by kernel_rfl, ?_⟩; refine dyGood_c (d := ⟨0, 0⟩) fun h1 E1 => ?_
      have s := (s.newBlk [.int .i64 0, .int .i64 0] 39 true).mono E1
      have g0 : dyM ⟨0, 0⟩ = true := by decide
      have ga := (s.pull 0 rfl).rdAll (n := 2) rfl
      simp (disch := omega) only [VW, VY, VZ, VA, VB, VC, VE, TY, ↓reduceIte, Nat.reduceEqDiff, Nat.reduceAdd, Nat.reduceMul, Nat.reduceSub, Nat.reduceLeDiff, List.length_cons, List.length_nil, List.length_append, List.append_assoc, List.take_succ_cons, List.take_zero, List.drop_succ_cons, List.drop_zero, List.set_cons_zero, List.set_cons_succ, true_or, or_true, and_self, Bool.false_eq_true, Nat.le_refl, Option.bind_some, Option.map_some, Option.getD_some, Option.isSome_some, List.map_cons, List.map_nil, List.cons_append, List.nil_append, List.append_nil, List.getElem?_cons_zero, List.getElem?_cons_succ, eq_self, Int.reduceLT, Int.reduceLE, Int.reduceNeg, Int.reduceEq, g0, ga, e4]
      refine sep_store (s.pull 1 rfl) (by simp) fun h5 s => ?_
      have s := s.as (ds := [.int .i64 0, .int .i64 0]) (by simp [t_put])
      have gz := (s.pull 0 rfl).rdAll (n := 2) rfl
      simp (disch := omega) only [VW, VY, VZ, VA, VB, VC, VE, TY, ↓reduceIte, Nat.reduceEqDiff, Nat.reduceAdd, Nat.reduceMul, Nat.reduceSub, Nat.reduceLeDiff, List.length_cons, List.length_nil, List.length_append, List.append_assoc, List.take_succ_cons, List.take_zero, List.drop_succ_cons, List.drop_zero, List.set_cons_zero, List.set_cons_succ, true_or, or_true, and_self, Bool.false_eq_true, Nat.le_refl, Option.bind_some, Option.map_some, Option.getD_some, Option.isSome_some, List.map_cons, List.map_nil, List.cons_append, List.nil_append, List.append_nil, List.getElem?_cons_zero, List.getElem?_cons_succ, eq_self, Int.reduceLT, Int.reduceLE, Int.reduceNeg, Int.reduceEq, gz, e4]
      exact hQ _ s.ext
    · obtain rfl : k = 0 := by omega
      simp (disch := omega) only [VW, VY, VZ, VA, VB, VC, VE, TY, ↓reduceIte, Nat.reduceEqDiff, Nat.reduceAdd, Nat.reduceMul, Nat.reduceSub, Nat.reduceLeDiff, List.length_cons, List.length_nil, List.length_append, List.append_assoc, List.take_succ_cons, List.take_zero, List.drop_succ_cons, List.drop_zero, List.set_cons_zero, List.set_cons_succ, true_or, or_true, and_self, Bool.false_eq_true, Nat.le_refl, Option.bind_some, Option.map_some, Option.getD_some, Option.isSome_some, List.map_cons, List.map_nil, List.cons_append, List.nil_append, List.append_nil, List.getElem?_cons_zero, List.getElem?_cons_succ, eq_self, Int.reduceLT, Int.reduceLE, Int.reduceNeg, Int.reduceEq, c1]
      refine loop_rule (fun j e h' => e 0 = .int .i64 0 ∧ e 1 = .int .i64 0 ∧ e 4 = .pointer (some ⟨h.length, 0, none⟩) ∧ e 5 = .bool false ∧ Sep h h' [blkA h.length [.int .i64 0, .int .i64 0] 39]) ?_ 0 _ _ ⟨rfl, rfl, rfl, rfl, s⟩
      rintro j e h' ⟨e0, e1, e4, e5, s⟩
      simp (disch := omega) only [VW, VY, VZ, VA, VB, VC, VE, TY, ↓reduceIte, Nat.reduceEqDiff, Nat.reduceAdd, Nat.reduceMul, Nat.reduceSub, Nat.reduceLeDiff, List.length_cons, List.length_nil, List.length_append, List.append_assoc, List.take_succ_cons, List.take_zero, List.drop_succ_cons, List.drop_zero, List.set_cons_zero, List.set_cons_succ, true_or, or_true, and_self, Bool.false_eq_true, Nat.le_refl, Option.bind_some, Option.map_some, Option.getD_some, Option.isSome_some, List.map_cons, List.map_nil, List.cons_append, List.nil_append, List.append_nil, List.getElem?_cons_zero, List.getElem?_cons_succ, eq_self, Int.reduceLT, Int.reduceLE, Int.reduceNeg, Int.reduceEq, e0, e1]
      refine .inl ⟨by kernel_rfl, ?_⟩; refine dyGood_c (d := ⟨0, 0⟩) fun h1 E1 => ?_
      have s := (s.newBlk [.int .i64 0, .int .i64 0] 39 true).mono E1
      have g0 : dyM ⟨0, 0⟩ = true := by decide
      have ga := (s.pull 0 rfl).rdAll (n := 2) rfl
      simp (disch := omega) only [VW, VY, VZ, VA, VB, VC, VE, TY, ↓reduceIte, Nat.reduceEqDiff, Nat.reduceAdd, Nat.reduceMul, Nat.reduceSub, Nat.reduceLeDiff, List.length_cons, List.length_nil, List.length_append, List.append_assoc, List.take_succ_cons, List.take_zero, List.drop_succ_cons, List.drop_zero, List.set_cons_zero, List.set_cons_succ, true_or, or_true, and_self, Bool.false_eq_true, Nat.le_refl, Option.bind_some, Option.map_some, Option.getD_some, Option.isSome_some, List.map_cons, List.map_nil, List.cons_append, List.nil_append, List.append_nil, List.getElem?_cons_zero, List.getElem?_cons_succ, eq_self, Int.reduceLT, Int.reduceLE, Int.reduceNeg, Int.reduceEq, g0, ga, e4]
      refine sep_store (s.pull 1 rfl) (by simp) fun h5 s => ?_
      have s := s.as (ds := [.int .i64 0, .int .i64 0]) (by simp [t_put])
      have gz := (s.pull 0 rfl).rdAll (n := 2) rfl
      simp (disch := omega) only [VW, VY, VZ, VA, VB, VC, VE, TY, ↓reduceIte, Nat.reduceEqDiff, Nat.reduceAdd, Nat.reduceMul, Nat.reduceSub, Nat.reduceLeDiff, List.length_cons, List.length_nil, List.length_append, List.append_assoc, List.take_succ_cons, List.take_zero, List.drop_succ_cons, List.drop_zero, List.set_cons_zero, List.set_cons_succ, true_or, or_true, and_self, Bool.false_eq_true, Nat.le_refl, Option.bind_some, Option.map_some, Option.getD_some, Option.isSome_some, List.map_cons, List.map_nil, List.cons_append, List.nil_append, List.append_nil, List.getElem?_cons_zero, List.getElem?_cons_succ, eq_self, Int.reduceLT, Int.reduceLE, Int.reduceNeg, Int.reduceEq, gz, e4]
      exact hQ _ s.ext
  have d0 := decide_eq_false c0
  simp (disch := omega) only [VW, VY, VZ, VA, VB, VC, VE, TY, ↓reduceIte, Nat.reduceEqDiff, Nat.reduceAdd, Nat.reduceMul, Nat.reduceSub, Nat.reduceLeDiff, List.length_cons, List.length_nil, List.length_append, List.append_assoc, List.take_succ_cons, List.take_zero, List.drop_succ_cons, List.drop_zero, List.set_cons_zero, List.set_cons_succ, true_or, or_true, and_self, Bool.false_eq_true, Nat.le_refl, Option.bind_some, Option.map_some, Option.getD_some, Option.isSome_some, List.map_cons, List.map_nil, List.cons_append, List.nil_append, List.append_nil, List.getElem?_cons_zero, List.getElem?_cons_succ, eq_self, Int.reduceLT, Int.reduceLE, Int.reduceNeg, Int.reduceEq, c0, d0]
  refine loop_rule (fun j e h' => ∃ (u : Int), e 0 = .int .i64 u ∧ e 1 = .int .i64 j ∧ e 4 = .pointer (some ⟨h.length, 0, none⟩) ∧ e 5 = .bool false ∧ u ≠ 0 ∧ inI64 u ∧ j ≤ k ∧ stripM u j = stripM n k ∧ Sep h h' [blkA h.length [.int .i64 0, .int .i64 0] 39]) ?_ k _ _ ⟨n, rfl, rfl, rfl, rfl, c0, hn, Nat.le_refl _, rfl, s⟩
  rintro j e h' ⟨u, e0, e1, e4, e5, hu, hui, hj, hs, s⟩
  unfold inI64 at hui
  have tm := tmod2 u
  simp (disch := omega) only [VW, VY, VZ, VA, VB, VC, VE, TY, ↓reduceIte, Nat.reduceEqDiff, Nat.reduceAdd, Nat.reduceMul, Nat.reduceSub, Nat.reduceLeDiff, List.length_cons, List.length_nil, List.length_append, List.append_assoc, List.take_succ_cons, List.take_zero, List.drop_succ_cons, List.drop_zero, List.set_cons_zero, List.set_cons_succ, true_or, or_true, and_self, Bool.false_eq_true, Nat.le_refl, Option.bind_some, Option.map_some, Option.getD_some, Option.isSome_some, List.map_cons, List.map_nil, List.cons_append, List.nil_append, List.append_nil, List.getElem?_cons_zero, List.getElem?_cons_succ, eq_self, Int.reduceLT, Int.reduceLE, Int.reduceNeg, Int.reduceEq, e0, e1]
  by_cases c1 : 0 < (j : Int)
  · have d1 := decide_eq_true c1
    by_cases c2 : Int.tmod u 2 = 0
    · have c2' := tm.1 c2
      have eq2 : Int.tdiv u 2 = u / 2 := by
        obtain ⟨v, rfl⟩ : ∃ v, u = 2 * v := ⟨u / 2, by omega⟩
        rw [Int.mul_tdiv_cancel_left _ (by decide), Int.mul_ediv_cancel_left _ (by decide)]
      have hj1 : (j : Int) - 1 = ((j - 1 : Nat) : Int) := by omega
      simp (disch := omega) only [VW, VY, VZ, VA, VB, VC, VE, TY, ↓reduceIte, Nat.reduceEqDiff, Nat.reduceAdd, Nat.reduceMul, Nat.reduceSub, Nat.reduceLeDiff, List.length_cons, List.length_nil, List.length_append, List.append_assoc, List.take_succ_cons, List.take_zero, List.drop_succ_cons, List.drop_zero, List.set_cons_zero, List.set_cons_succ, true_or, or_true, and_self, Bool.false_eq_true, Nat.le_refl, Option.bind_some, Option.map_some, Option.getD_some, Option.isSome_some, List.map_cons, List.map_nil, List.cons_append, List.nil_append, List.append_nil, List.getElem?_cons_zero, List.getElem?_cons_succ, eq_self, Int.reduceLT, Int.reduceLE, Int.reduceNeg, Int.reduceEq, d1, c1, c2, eq2, e0, e1, wrap_in, hj1]
      obtain ⟨m, rfl⟩ : ∃ m, j = m + 1 := ⟨j - 1, by omega⟩
      rw [stripM_even _ c2'] at hs
      refine ⟨m, by omega, u / 2, by simp, by simp, e4, e5, by omega, ⟨by omega, by omega⟩, by omega, hs, s⟩
    · have c2' : u % 2 = 1 := by have := fun e => c2 (tm.2 e); omega
      have hst : stripM u j = (u, j) := stripM_odd _ c2'
      simp (disch := omega) only [VW, VY, VZ, VA, VB, VC, VE, TY, ↓reduceIte, Nat.reduceEqDiff, Nat.reduceAdd, Nat.reduceMul, Nat.reduceSub, Nat.reduceLeDiff, List.length_cons, List.length_nil, List.length_append, List.append_assoc, List.take_succ_cons, List.take_zero, List.drop_succ_cons, List.drop_zero, List.set_cons_zero, List.set_cons_succ, true_or, or_true, and_self, Bool.false_eq_true, Nat.le_refl, Option.bind_some, Option.map_some, Option.getD_some, Option.isSome_some, List.map_cons, List.map_nil, List.cons_append, List.nil_append, List.append_nil, List.getElem?_cons_zero, List.getElem?_cons_succ, eq_self, Int.reduceLT, Int.reduceLE, Int.reduceNeg, Int.reduceEq, d1, c1, c2, e0, e1]
      have hmk := makeM_strip c0 (hs.symm.trans hst)
      refine .inl ⟨by kernel_rfl, ?_⟩; refine dyGood_c (d := ⟨u, j⟩) fun h1 E1 => ?_
      have s := (s.newBlk [.int .i64 u, .int .i64 j] 39 true).mono E1
      have ga := (s.pull 0 rfl).rdAll (n := 2) rfl
      cases hg : dyM ⟨u, j⟩ with
      | true =>
        rw [hmk, hg, if_pos rfl, optV_eq] at hQ
        simp (disch := omega) only [VW, VY, VZ, VA, VB, VC, VE, TY, ↓reduceIte, Nat.reduceEqDiff, Nat.reduceAdd, Nat.reduceMul, Nat.reduceSub, Nat.reduceLeDiff, List.length_cons, List.length_nil, List.length_append, List.append_assoc, List.take_succ_cons, List.take_zero, List.drop_succ_cons, List.drop_zero, List.set_cons_zero, List.set_cons_succ, true_or, or_true, and_self, Bool.false_eq_true, Nat.le_refl, Option.bind_some, Option.map_some, Option.getD_some, Option.isSome_some, List.map_cons, List.map_nil, List.cons_append, List.nil_append, List.append_nil, List.getElem?_cons_zero, List.getElem?_cons_succ, eq_self, Int.reduceLT, Int.reduceLE, Int.reduceNeg, Int.reduceEq, hg, ga, e4]
        refine sep_store (s.pull 1 rfl) (by simp) fun h5 s => ?_
        have s := s.as (ds := [.int .i64 u, .int .i64 j]) (by simp [t_put])
        have gz := (s.pull 0 rfl).rdAll (n := 2) rfl
        simp (disch := omega) only [VW, VY, VZ, VA, VB, VC, VE, TY, ↓reduceIte, Nat.reduceEqDiff, Nat.reduceAdd, Nat.reduceMul, Nat.reduceSub, Nat.reduceLeDiff, List.length_cons, List.length_nil, List.length_append, List.append_assoc, List.take_succ_cons, List.take_zero, List.drop_succ_cons, List.drop_zero, List.set_cons_zero, List.set_cons_succ, true_or, or_true, and_self, Bool.false_eq_true, Nat.le_refl, Option.bind_some, Option.map_some, Option.getD_some, Option.isSome_some, List.map_cons, List.map_nil, List.cons_append, List.nil_append, List.append_nil, List.getElem?_cons_zero, List.getElem?_cons_succ, eq_self, Int.reduceLT, Int.reduceLE, Int.reduceNeg, Int.reduceEq, gz, e4]
        exact hQ _ s.ext
      | false =>
        rw [hmk, hg, if_neg (by decide), optV_eq] at hQ
        simp (disch := omega) only [VW, VY, VZ, VA, VB, VC, VE, TY, ↓reduceIte, Nat.reduceEqDiff, Nat.reduceAdd, Nat.reduceMul, Nat.reduceSub, Nat.reduceLeDiff, List.length_cons, List.length_nil, List.length_append, List.append_assoc, List.take_succ_cons, List.take_zero, List.drop_succ_cons, List.drop_zero, List.set_cons_zero, List.set_cons_succ, true_or, or_true, and_self, Bool.false_eq_true, Nat.le_refl, Option.bind_some, Option.map_some, Option.getD_some, Option.isSome_some, List.map_cons, List.map_nil, List.cons_append, List.nil_append, List.append_nil, List.getElem?_cons_zero, List.getElem?_cons_succ, eq_self, Int.reduceLT, Int.reduceLE, Int.reduceNeg, Int.reduceEq, hg, ga, e4]
        refine sep_store (s.pull 1 rfl) (by simp) fun h5 s => ?_
        have s := s.as (ds := [.int .i64 0, .int .i64 0]) (by simp [t_put])
        have gz := (s.pull 0 rfl).rdAll (n := 2) rfl
        simp (disch := omega) only [VW, VY, VZ, VA, VB, VC, VE, TY, ↓reduceIte, Nat.reduceEqDiff, Nat.reduceAdd, Nat.reduceMul, Nat.reduceSub, Nat.reduceLeDiff, List.length_cons, List.length_nil, List.length_append, List.append_assoc, List.take_succ_cons, List.take_zero, List.drop_succ_cons, List.drop_zero, List.set_cons_zero, List.set_cons_succ, true_or, or_true, and_self, Bool.false_eq_true, Nat.le_refl, Option.bind_some, Option.map_some, Option.getD_some, Option.isSome_some, List.map_cons, List.map_nil, List.cons_append, List.nil_append, List.append_nil, List.getElem?_cons_zero, List.getElem?_cons_succ, eq_self, Int.reduceLT, Int.reduceLE, Int.reduceNeg, Int.reduceEq, gz, e4]
        exact hQ _ s.ext
  · obtain rfl : j = 0 := by omega
    have hst : stripM u 0 = (u, 0) := rfl
    have d1 := decide_eq_false c1
    simp (disch := omega) only [VW, VY, VZ, VA, VB, VC, VE, TY, ↓reduceIte, Nat.reduceEqDiff, Nat.reduceAdd, Nat.reduceMul, Nat.reduceSub, Nat.reduceLeDiff, List.length_cons, List.length_nil, List.length_append, List.append_assoc, List.take_succ_cons, List.take_zero, List.drop_succ_cons, List.drop_zero, List.set_cons_zero, List.set_cons_succ, true_or, or_true, and_self, Bool.false_eq_true, Nat.le_refl, Option.bind_some, Option.map_some, Option.getD_some, Option.isSome_some, List.map_cons, List.map_nil, List.cons_append, List.nil_append, List.append_nil, List.getElem?_cons_zero, List.getElem?_cons_succ, eq_self, Int.reduceLT, Int.reduceLE, Int.reduceNeg, Int.reduceEq, d1, c1, e0, e1]
    have hmk : makeM n k = if dyM ⟨u, 0⟩ = true then some ⟨u, 0⟩ else none := makeM_strip c0 (hs.symm.trans hst)
    refine .inl ⟨by kernel_rfl, ?_⟩; refine dyGood_c (d := ⟨u, 0⟩) fun h1 E1 => ?_
    have s := (s.newBlk [.int .i64 u, .int .i64 0] 39 true).mono E1
    have ga := (s.pull 0 rfl).rdAll (n := 2) rfl
    cases hg : dyM ⟨u, 0⟩ with
    | true =>
      rw [hmk, hg, if_pos rfl, optV_eq] at hQ
      simp (disch := omega) only [VW, VY, VZ, VA, VB, VC, VE, TY, ↓reduceIte, Nat.reduceEqDiff, Nat.reduceAdd, Nat.reduceMul, Nat.reduceSub, Nat.reduceLeDiff, List.length_cons, List.length_nil, List.length_append, List.append_assoc, List.take_succ_cons, List.take_zero, List.drop_succ_cons, List.drop_zero, List.set_cons_zero, List.set_cons_succ, true_or, or_true, and_self, Bool.false_eq_true, Nat.le_refl, Option.bind_some, Option.map_some, Option.getD_some, Option.isSome_some, List.map_cons, List.map_nil, List.cons_append, List.nil_append, List.append_nil, List.getElem?_cons_zero, List.getElem?_cons_succ, eq_self, Int.reduceLT, Int.reduceLE, Int.reduceNeg, Int.reduceEq, hg, ga, e4]
      refine sep_store (s.pull 1 rfl) (by simp) fun h5 s => ?_
      have s := s.as (ds := [.int .i64 u, .int .i64 0]) (by simp [t_put])
      have gz := (s.pull 0 rfl).rdAll (n := 2) rfl
      simp (disch := omega) only [VW, VY, VZ, VA, VB, VC, VE, TY, ↓reduceIte, Nat.reduceEqDiff, Nat.reduceAdd, Nat.reduceMul, Nat.reduceSub, Nat.reduceLeDiff, List.length_cons, List.length_nil, List.length_append, List.append_assoc, List.take_succ_cons, List.take_zero, List.drop_succ_cons, List.drop_zero, List.set_cons_zero, List.set_cons_succ, true_or, or_true, and_self, Bool.false_eq_true, Nat.le_refl, Option.bind_some, Option.map_some, Option.getD_some, Option.isSome_some, List.map_cons, List.map_nil, List.cons_append, List.nil_append, List.append_nil, List.getElem?_cons_zero, List.getElem?_cons_succ, eq_self, Int.reduceLT, Int.reduceLE, Int.reduceNeg, Int.reduceEq, gz, e4]
      exact hQ _ s.ext
    | false =>
      rw [hmk, hg, if_neg (by decide), optV_eq] at hQ
      simp (disch := omega) only [VW, VY, VZ, VA, VB, VC, VE, TY, ↓reduceIte, Nat.reduceEqDiff, Nat.reduceAdd, Nat.reduceMul, Nat.reduceSub, Nat.reduceLeDiff, List.length_cons, List.length_nil, List.length_append, List.append_assoc, List.take_succ_cons, List.take_zero, List.drop_succ_cons, List.drop_zero, List.set_cons_zero, List.set_cons_succ, true_or, or_true, and_self, Bool.false_eq_true, Nat.le_refl, Option.bind_some, Option.map_some, Option.getD_some, Option.isSome_some, List.map_cons, List.map_nil, List.cons_append, List.nil_append, List.append_nil, List.getElem?_cons_zero, List.getElem?_cons_succ, eq_self, Int.reduceLT, Int.reduceLE, Int.reduceNeg, Int.reduceEq, hg, ga, e4]
      refine sep_store (s.pull 1 rfl) (by simp) fun h5 s => ?_
      have s := s.as (ds := [.int .i64 0, .int .i64 0]) (by simp [t_put])
      have gz := (s.pull 0 rfl).rdAll (n := 2) rfl
      simp (disch := omega) only [VW, VY, VZ, VA, VB, VC, VE, TY, ↓reduceIte, Nat.reduceEqDiff, Nat.reduceAdd, Nat.reduceMul, Nat.reduceSub, Nat.reduceLeDiff, List.length_cons, List.length_nil, List.length_append, List.append_assoc, List.take_succ_cons, List.take_zero, List.drop_succ_cons, List.drop_zero, List.set_cons_zero, List.set_cons_succ, true_or, or_true, and_self, Bool.false_eq_true, Nat.le_refl, Option.bind_some, Option.map_some, Option.getD_some, Option.isSome_some, List.map_cons, List.map_nil, List.cons_append, List.nil_append, List.append_nil, List.getElem?_cons_zero, List.getElem?_cons_succ, eq_self, Int.reduceLT, Int.reduceLE, Int.reduceNeg, Int.reduceEq, gz, e4]
      exact hQ _ s.ext
end Go.Proofs
