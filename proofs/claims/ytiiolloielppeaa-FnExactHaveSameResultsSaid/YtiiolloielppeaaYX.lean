/- Contracts of functions, facts of types, or the plain law behind one statement (own work): YX. Conditions: those told in each theorem. -/
import Derived.Test.YtiiolloielppeaaYW
set_option linter.all false
set_option linter.unusedSimpArgs false
set_option linter.unusedVariables false
set_option maxRecDepth 4000
namespace Go.Proofs
open Go Go.V
def addW (w v : Wd) : Wd := if w.neg = v.neg then wdOf w.neg (w.mag + v.mag) else if w.mag < v.mag then wdOf v.neg (v.mag - w.mag) else wdOf w.neg (w.mag - v.mag)
theorem addW_val (w v : Wd) : (addW w v).val = w.val + v.val := by
  unfold addW
  split
  · rename_i h
    rw [wdOf_val]
    unfold Wd.val
    rw [← h]
    cases w.neg
    · simp
    · simp; omega
  · rename_i h
    have hb : w.neg = !v.neg := by cases hw : w.neg <;> cases hv : v.neg <;> simp_all
    split
    · rename_i hl
      rw [wdOf_val]
      unfold Wd.val
      rw [hb]
      cases v.neg
      · simp; omega
      · simp; omega
    · rename_i hl
      rw [wdOf_val]
      unfold Wd.val
      rw [hb]
      cases v.neg
      · simp; omega
      · simp; omega
theorem addW_mag (w v : Wd) : (addW w v).mag ≤ w.mag + v.mag := by
  unfold addW
  split
  · rw [wdOf_mag]; omega
  · split
    · rw [wdOf_mag]; omega
    · rw [wdOf_mag]; omega
theorem add_parts {h1 l1 h2 l2 : Nat} (g1 : l1 < 18446744073709551616) (g2 : l2 < 18446744073709551616) (hm : (h1 * 18446744073709551616 + l1) + (h2 * 18446744073709551616 + l2) < 340282366920938463463374607431768211456) :
    (l1 + l2 + 0) % 18446744073709551616 = ((h1 * 18446744073709551616 + l1) + (h2 * 18446744073709551616 + l2)) % 18446744073709551616 ∧
    (h1 + h2 + (l1 + l2 + 0) / 18446744073709551616) % 18446744073709551616 = ((h1 * 18446744073709551616 + l1) + (h2 * 18446744073709551616 + l2)) / 18446744073709551616 ∧ (l1 + l2 + 0) / 18446744073709551616 ≤ 1 := by omega
theorem sub_parts {h1 l1 h2 l2 : Nat} (g1 : l1 < 18446744073709551616) (g2 : l2 < 18446744073709551616) (k1 : h1 < 18446744073709551616) (k2 : h2 < 18446744073709551616) (hm : (h2 * 18446744073709551616 + l2) ≤ (h1 * 18446744073709551616 + l1)) :
    (l1 + 18446744073709551616 - l2 - 0) % 18446744073709551616 = ((h1 * 18446744073709551616 + l1) - (h2 * 18446744073709551616 + l2)) % 18446744073709551616 ∧
    (h1 + 18446744073709551616 - h2 - (if l1 < l2 + 0 then 1 else 0)) % 18446744073709551616 = ((h1 * 18446744073709551616 + l1) - (h2 * 18446744073709551616 + l2)) / 18446744073709551616 ∧ (if l1 < l2 + 0 then 1 else 0) ≤ 1 := by
  split <;> omega
theorem add_c {w v : Wd} {h : Heap} {Q : Value → Heap → Prop} (gw : w.G) (gv : v.G) (hm : w.mag + v.mag < 340282366920938463463374607431768211456) (hQ : ∀ h', Ext h h' → Q (.agg (addW w v).cs.toArray) h') :
    CallsV Try.prog 120 [.agg w.cs.toArray, .agg v.cs.toArray] h Q := by
  refine CallsV.start Try.func120 rfl (by rw [Try.results120]) (by kernel_rfl) (by rw [Try.ntmps120]; simp) ?_
  have s := Sep.blk3 h w.cs v.cs [.bool false, .int .u64 0, .int .u64 0] 123 123 123 true true true
  have g1 := (s.pull 2 rfl).rd
  have g2 := (s.pull 1 rfl).rd
  simp (disch := omega) only [VW, VY, VZ, VA, VB, VC, VE, TY, ↓reduceIte, Nat.reduceEqDiff, Nat.reduceAdd, Nat.reduceMul, Nat.reduceSub, Nat.reduceLeDiff, List.length_cons, List.length_nil, List.length_append, List.append_assoc, List.take_succ_cons, List.take_zero, List.drop_succ_cons, List.drop_zero, List.set_cons_zero, List.set_cons_succ, true_or, or_true, and_self, Bool.false_eq_true, Nat.le_refl, Option.bind_some, Option.map_some, Option.getD_some, Option.isSome_some, List.map_cons, List.map_nil, List.cons_append, List.nil_append, List.append_nil, List.getElem?_cons_zero, List.getElem?_cons_succ, eq_self, Int.reduceLT, Int.reduceLE, Int.reduceNeg, Int.reduceEq, g1, g2]
  by_cases cb : w.neg = v.neg
  · obtain ⟨p1, p2, p3⟩ := add_parts gw.lo gv.lo (show (w.hi * 18446744073709551616 + w.lo) + (v.hi * 18446744073709551616 + v.lo) < _ from hm)
    have ecs : (addW w v).cs = [.bool w.neg, .int .u64 ((w.hi + v.hi + (w.lo + v.lo + 0) / 18446744073709551616) % 18446744073709551616 : Nat), .int .u64 ((w.lo + v.lo + 0) % 18446744073709551616 : Nat)] := by
      rw [p1, p2]
      unfold addW
      rw [if_pos cb]
      exact wdOf_cs _ _
    rw [ecs] at hQ
    have cb' : (w.neg == v.neg) = true := by rw [cb]; exact beq_self_eq_true _
    simp (disch := omega) only [VW, VY, VZ, VA, VB, VC, VE, TY, ↓reduceIte, Nat.reduceEqDiff, Nat.reduceAdd, Nat.reduceMul, Nat.reduceSub, Nat.reduceLeDiff, List.length_cons, List.length_nil, List.length_append, List.append_assoc, List.take_succ_cons, List.take_zero, List.drop_succ_cons, List.drop_zero, List.set_cons_zero, List.set_cons_succ, true_or, or_true, and_self, Bool.false_eq_true, Nat.le_refl, Option.bind_some, Option.map_some, Option.getD_some, Option.isSome_some, List.map_cons, List.map_nil, List.cons_append, List.nil_append, List.append_nil, List.getElem?_cons_zero, List.getElem?_cons_succ, eq_self, Int.reduceLT, Int.reduceLE, Int.reduceNeg, Int.reduceEq, cb', b_eqb, g1, g2]
    refine .inr ⟨_, pure_add64 w.lo v.lo 0 (by decide), ?_⟩
    simp (disch := omega) only [VW, VY, VZ, VA, VB, VC, VE, TY, ↓reduceIte, Nat.reduceEqDiff, Nat.reduceAdd, Nat.reduceMul, Nat.reduceSub, Nat.reduceLeDiff, List.length_cons, List.length_nil, List.length_append, List.append_assoc, List.take_succ_cons, List.take_zero, List.drop_succ_cons, List.drop_zero, List.set_cons_zero, List.set_cons_succ, true_or, or_true, and_self, Bool.false_eq_true, Nat.le_refl, Option.bind_some, Option.map_some, Option.getD_some, Option.isSome_some, List.map_cons, List.map_nil, List.cons_append, List.nil_append, List.append_nil, List.getElem?_cons_zero, List.getElem?_cons_succ, eq_self, Int.reduceLT, Int.reduceLE, Int.reduceNeg, Int.reduceEq, g1, g2]
    refine .inr ⟨_, pure_add64 w.hi v.hi ((w.lo + v.lo + 0) / 18446744073709551616) p3, ?_⟩
    simp (disch := omega) only [VW, VY, VZ, VA, VB, VC, VE, TY, ↓reduceIte, Nat.reduceEqDiff, Nat.reduceAdd, Nat.reduceMul, Nat.reduceSub, Nat.reduceLeDiff, List.length_cons, List.length_nil, List.length_append, List.append_assoc, List.take_succ_cons, List.take_zero, List.drop_succ_cons, List.drop_zero, List.set_cons_zero, List.set_cons_succ, true_or, or_true, and_self, Bool.false_eq_true, Nat.le_refl, Option.bind_some, Option.map_some, Option.getD_some, Option.isSome_some, List.map_cons, List.map_nil, List.cons_append, List.nil_append, List.append_nil, List.getElem?_cons_zero, List.getElem?_cons_succ, eq_self, Int.reduceLT, Int.reduceLE, Int.reduceNeg, Int.reduceEq, g1, g2]
    exact hQ _ (.app _ _)
  · have cb' : (w.neg == v.neg) = false := by simpa using cb
    have hw0 := (s.pull 2 rfl).rdAll (n := 3) rfl
    have hv0 := (s.pull 1 rfl).rdAll (n := 3) rfl
    simp (disch := omega) only [VW, VY, VZ, VA, VB, VC, VE, TY, ↓reduceIte, Nat.reduceEqDiff, Nat.reduceAdd, Nat.reduceMul, Nat.reduceSub, Nat.reduceLeDiff, List.length_cons, List.length_nil, List.length_append, List.append_assoc, List.take_succ_cons, List.take_zero, List.drop_succ_cons, List.drop_zero, List.set_cons_zero, List.set_cons_succ, true_or, or_true, and_self, Bool.false_eq_true, Nat.le_refl, Option.bind_some, Option.map_some, Option.getD_some, Option.isSome_some, List.map_cons, List.map_nil, List.cons_append, List.nil_append, List.append_nil, List.getElem?_cons_zero, List.getElem?_cons_succ, eq_self, Int.reduceLT, Int.reduceLE, Int.reduceNeg, Int.reduceEq, cb', b_eqb, g1, g2, hw0, hv0]
    refine .inl ⟨by kernel_rfl, ?_⟩; refine compareSizes_c gw gv fun h2 E2 => ?_
    have s := s.mono E2
    have hw3 := (s.pull 2 rfl).rdAll (n := 3) rfl
    have hv3 := (s.pull 1 rfl).rdAll (n := 3) rfl
    unfold sgnN
    by_cases cl : w.mag < v.mag
    · obtain ⟨p1, p2, p3⟩ := sub_parts gv.lo gw.lo gv.hi gw.hi (show (w.hi * 18446744073709551616 + w.lo) ≤ (v.hi * 18446744073709551616 + v.lo) from Nat.le_of_lt cl)
      have ecs : (addW w v).cs = [.bool v.neg, .int .u64 ((v.hi + 18446744073709551616 - w.hi - (if v.lo < w.lo + 0 then 1 else 0)) % 18446744073709551616 : Nat), .int .u64 ((v.lo + 18446744073709551616 - w.lo - 0) % 18446744073709551616 : Nat)] := by
        rw [p1, p2]
        unfold addW
        rw [if_neg cb, if_pos cl]
        exact wdOf_cs _ _
      rw [ecs] at hQ
      have q1 : (-1 : Int) < 0 := by decide
      rw [if_pos cl]
      simp (disch := omega) only [VW, VY, VZ, VA, VB, VC, VE, TY, ↓reduceIte, Nat.reduceEqDiff, Nat.reduceAdd, Nat.reduceMul, Nat.reduceSub, Nat.reduceLeDiff, List.length_cons, List.length_nil, List.length_append, List.append_assoc, List.take_succ_cons, List.take_zero, List.drop_succ_cons, List.drop_zero, List.set_cons_zero, List.set_cons_succ, true_or, or_true, and_self, Bool.false_eq_true, Nat.le_refl, Option.bind_some, Option.map_some, Option.getD_some, Option.isSome_some, List.map_cons, List.map_nil, List.cons_append, List.nil_append, List.append_nil, List.getElem?_cons_zero, List.getElem?_cons_succ, eq_self, Int.reduceLT, Int.reduceLE, Int.reduceNeg, Int.reduceEq, q1, hw3, hv3]
      refine sep_store (s.pull 2 rfl) (by simp) fun h3 s => ?_
      have s := s.as (ds := v.cs) (by simp [t_put])
      have hw3 := (s.pull 0 rfl).rdAll (n := 3) rfl
      have hv3 := (s.pull 2 rfl).rdAll (n := 3) rfl
      simp (disch := omega) only [VW, VY, VZ, VA, VB, VC, VE, TY, ↓reduceIte, Nat.reduceEqDiff, Nat.reduceAdd, Nat.reduceMul, Nat.reduceSub, Nat.reduceLeDiff, List.length_cons, List.length_nil, List.length_append, List.append_assoc, List.take_succ_cons, List.take_zero, List.drop_succ_cons, List.drop_zero, List.set_cons_zero, List.set_cons_succ, true_or, or_true, and_self, Bool.false_eq_true, Nat.le_refl, Option.bind_some, Option.map_some, Option.getD_some, Option.isSome_some, List.map_cons, List.map_nil, List.cons_append, List.nil_append, List.append_nil, List.getElem?_cons_zero, List.getElem?_cons_succ, eq_self, Int.reduceLT, Int.reduceLE, Int.reduceNeg, Int.reduceEq, hw3, hv3]
      refine sep_store (s.pull 2 rfl) (by simp) fun h4 s => ?_
      have s := s.as (ds := w.cs) (by simp [t_put])
      have g2 := (s.pull 0 rfl).rd
      have g1 := (s.pull 1 rfl).rd
      simp (disch := omega) only [VW, VY, VZ, VA, VB, VC, VE, TY, ↓reduceIte, Nat.reduceEqDiff, Nat.reduceAdd, Nat.reduceMul, Nat.reduceSub, Nat.reduceLeDiff, List.length_cons, List.length_nil, List.length_append, List.append_assoc, List.take_succ_cons, List.take_zero, List.drop_succ_cons, List.drop_zero, List.set_cons_zero, List.set_cons_succ, true_or, or_true, and_self, Bool.false_eq_true, Nat.le_refl, Option.bind_some, Option.map_some, Option.getD_some, Option.isSome_some, List.map_cons, List.map_nil, List.cons_append, List.nil_append, List.append_nil, List.getElem?_cons_zero, List.getElem?_cons_succ, eq_self, Int.reduceLT, Int.reduceLE, Int.reduceNeg, Int.reduceEq, g1, g2]
      refine .inr ⟨_, pure_sub64 v.lo w.lo 0 (by decide), ?_⟩
      simp (disch := omega) only [VW, VY, VZ, VA, VB, VC, VE, TY, ↓reduceIte, Nat.reduceEqDiff, Nat.reduceAdd, Nat.reduceMul, Nat.reduceSub, Nat.reduceLeDiff, List.length_cons, List.length_nil, List.length_append, List.append_assoc, List.take_succ_cons, List.take_zero, List.drop_succ_cons, List.drop_zero, List.set_cons_zero, List.set_cons_succ, true_or, or_true, and_self, Bool.false_eq_true, Nat.le_refl, Option.bind_some, Option.map_some, Option.getD_some, Option.isSome_some, List.map_cons, List.map_nil, List.cons_append, List.nil_append, List.append_nil, List.getElem?_cons_zero, List.getElem?_cons_succ, eq_self, Int.reduceLT, Int.reduceLE, Int.reduceNeg, Int.reduceEq, g1, g2]
      refine .inr ⟨_, pure_sub64 v.hi w.hi (if v.lo < w.lo + 0 then 1 else 0) p3, ?_⟩
      simp (disch := omega) only [VW, VY, VZ, VA, VB, VC, VE, TY, ↓reduceIte, Nat.reduceEqDiff, Nat.reduceAdd, Nat.reduceMul, Nat.reduceSub, Nat.reduceLeDiff, List.length_cons, List.length_nil, List.length_append, List.append_assoc, List.take_succ_cons, List.take_zero, List.drop_succ_cons, List.drop_zero, List.set_cons_zero, List.set_cons_succ, true_or, or_true, and_self, Bool.false_eq_true, Nat.le_refl, Option.bind_some, Option.map_some, Option.getD_some, Option.isSome_some, List.map_cons, List.map_nil, List.cons_append, List.nil_append, List.append_nil, List.getElem?_cons_zero, List.getElem?_cons_succ, eq_self, Int.reduceLT, Int.reduceLE, Int.reduceNeg, Int.reduceEq, g1, g2]
      refine sep_store (s.pull 2 rfl) (by simp) fun h5 s => ?_
      have s := s.as (ds := [.bool v.neg, .int .u64 ((v.hi + 18446744073709551616 - w.hi - (if v.lo < w.lo + 0 then 1 else 0)) % 18446744073709551616 : Nat), .int .u64 ((v.lo + 18446744073709551616 - w.lo - 0) % 18446744073709551616 : Nat)]) (by simp [t_put])
      have ga := s.rdAll (n := 3) rfl
      simp (disch := omega) only [VW, VY, VZ, VA, VB, VC, VE, TY, ↓reduceIte, Nat.reduceEqDiff, Nat.reduceAdd, Nat.reduceMul, Nat.reduceSub, Nat.reduceLeDiff, List.length_cons, List.length_nil, List.length_append, List.append_assoc, List.take_succ_cons, List.take_zero, List.drop_succ_cons, List.drop_zero, List.set_cons_zero, List.set_cons_succ, true_or, or_true, and_self, Bool.false_eq_true, Nat.le_refl, Option.bind_some, Option.map_some, Option.getD_some, Option.isSome_some, List.map_cons, List.map_nil, List.cons_append, List.nil_append, List.append_nil, List.getElem?_cons_zero, List.getElem?_cons_succ, eq_self, Int.reduceLT, Int.reduceLE, Int.reduceNeg, Int.reduceEq, ga]
      exact hQ _ s.ext
    · obtain ⟨p1, p2, p3⟩ := sub_parts gw.lo gv.lo gw.hi gv.hi (show (v.hi * 18446744073709551616 + v.lo) ≤ (w.hi * 18446744073709551616 + w.lo) from Nat.le_of_not_lt cl)
      have ecs : (addW w v).cs = [.bool w.neg, .int .u64 ((w.hi + 18446744073709551616 - v.hi - (if w.lo < v.lo + 0 then 1 else 0)) % 18446744073709551616 : Nat), .int .u64 ((w.lo + 18446744073709551616 - v.lo - 0) % 18446744073709551616 : Nat)] := by
        rw [p1, p2]
        unfold addW
        rw [if_neg cb, if_neg cl]
        exact wdOf_cs _ _
      rw [ecs] at hQ
      rw [if_neg cl]
      have q1 : ¬ ((if v.mag < w.mag then 1 else 0 : Int)) < 0 := by split <;> decide
      have g1 := (s.pull 2 rfl).rd
      have g2 := (s.pull 1 rfl).rd
      simp (disch := omega) only [VW, VY, VZ, VA, VB, VC, VE, TY, ↓reduceIte, Nat.reduceEqDiff, Nat.reduceAdd, Nat.reduceMul, Nat.reduceSub, Nat.reduceLeDiff, List.length_cons, List.length_nil, List.length_append, List.append_assoc, List.take_succ_cons, List.take_zero, List.drop_succ_cons, List.drop_zero, List.set_cons_zero, List.set_cons_succ, true_or, or_true, and_self, Bool.false_eq_true, Nat.le_refl, Option.bind_some, Option.map_some, Option.getD_some, Option.isSome_some, List.map_cons, List.map_nil, List.cons_append, List.nil_append, List.append_nil, List.getElem?_cons_zero, List.getElem?_cons_succ, eq_self, Int.reduceLT, Int.reduceLE, Int.reduceNeg, Int.reduceEq, q1, g1, g2]
      refine .inr ⟨_, pure_sub64 w.lo v.lo 0 (by decide), ?_⟩
      simp (disch := omega) only [VW, VY, VZ, VA, VB, VC, VE, TY, ↓reduceIte, Nat.reduceEqDiff, Nat.reduceAdd, Nat.reduceMul, Nat.reduceSub, Nat.reduceLeDiff, List.length_cons, List.length_nil, List.length_append, List.append_assoc, List.take_succ_cons, List.take_zero, List.drop_succ_cons, List.drop_zero, List.set_cons_zero, List.set_cons_succ, true_or, or_true, and_self, Bool.false_eq_true, Nat.le_refl, Option.bind_some, Option.map_some, Option.getD_some, Option.isSome_some, List.map_cons, List.map_nil, List.cons_append, List.nil_append, List.append_nil, List.getElem?_cons_zero, List.getElem?_cons_succ, eq_self, Int.reduceLT, Int.reduceLE, Int.reduceNeg, Int.reduceEq, g1, g2]
      refine .inr ⟨_, pure_sub64 w.hi v.hi (if w.lo < v.lo + 0 then 1 else 0) p3, ?_⟩
      simp (disch := omega) only [VW, VY, VZ, VA, VB, VC, VE, TY, ↓reduceIte, Nat.reduceEqDiff, Nat.reduceAdd, Nat.reduceMul, Nat.reduceSub, Nat.reduceLeDiff, List.length_cons, List.length_nil, List.length_append, List.append_assoc, List.take_succ_cons, List.take_zero, List.drop_succ_cons, List.drop_zero, List.set_cons_zero, List.set_cons_succ, true_or, or_true, and_self, Bool.false_eq_true, Nat.le_refl, Option.bind_some, Option.map_some, Option.getD_some, Option.isSome_some, List.map_cons, List.map_nil, List.cons_append, List.nil_append, List.append_nil, List.getElem?_cons_zero, List.getElem?_cons_succ, eq_self, Int.reduceLT, Int.reduceLE, Int.reduceNeg, Int.reduceEq, g1, g2]
      refine sep_store (s.pull 0 rfl) (by simp) fun h5 s => ?_
      have s := s.as (ds := [.bool w.neg, .int .u64 ((w.hi + 18446744073709551616 - v.hi - (if w.lo < v.lo + 0 then 1 else 0)) % 18446744073709551616 : Nat), .int .u64 ((w.lo + 18446744073709551616 - v.lo - 0) % 18446744073709551616 : Nat)]) (by simp [t_put])
      have ga := s.rdAll (n := 3) rfl
      simp (disch := omega) only [VW, VY, VZ, VA, VB, VC, VE, TY, ↓reduceIte, Nat.reduceEqDiff, Nat.reduceAdd, Nat.reduceMul, Nat.reduceSub, Nat.reduceLeDiff, List.length_cons, List.length_nil, List.length_append, List.append_assoc, List.take_succ_cons, List.take_zero, List.drop_succ_cons, List.drop_zero, List.set_cons_zero, List.set_cons_succ, true_or, or_true, and_self, Bool.false_eq_true, Nat.le_refl, Option.bind_some, Option.map_some, Option.getD_some, Option.isSome_some, List.map_cons, List.map_nil, List.cons_append, List.nil_append, List.append_nil, List.getElem?_cons_zero, List.getElem?_cons_succ, eq_self, Int.reduceLT, Int.reduceLE, Int.reduceNeg, Int.reduceEq, ga]
      exact hQ _ s.ext
end Go.Proofs
