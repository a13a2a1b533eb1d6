/- Contracts of functions, facts of types, or the plain law behind one statement (own work): H6. Conditions: those told in each theorem. -/
import Derived.Test.YtajkecjbdoineaaH1
set_option linter.all false
set_option linter.unusedSimpArgs false
set_option linter.unusedVariables false
set_option maxRecDepth 4000
namespace Go.Proofs
open Go Go.V
open Nat (reduceEqDiff reduceAdd reduceMul reduceSub reduceLeDiff)
open Int (reduceLT reduceLE reduceNeg reduceEq)
theorem eqIntSS_c {l m : List (List Int)} {v w : Value} {h : Heap} {Q : Value → Heap → Prop} (hl : Row h l v) (hm : Row h m w)
    (hQ : ∀ h', Ext h h' → Q (.bool (decide (l = m))) h') : CallsV Try.prog 9 [v, w] h Q := by
  refine CallsV.start Try.func9 rfl (by rw [Try.results9]) (by kernel_rfl) (by rw [Try.ntmps9]; simp) ?_
  have hll := hl.le
  have hml := hm.le
  simp (disch := omega) only [WA, ↓reduceIte, reduceEqDiff, reduceAdd, reduceMul, reduceSub, reduceLeDiff, reduceLT, reduceLE, reduceNeg, reduceEq, hl.isRow.len, hm.isRow.len]
  by_cases hne : l.length = m.length
  · have c0 : (l.length : Int) = (m.length : Int) := by omega
    simp (disch := omega) only [WA, ↓reduceIte, reduceEqDiff, reduceAdd, reduceMul, reduceSub, reduceLeDiff, reduceLT, reduceLE, reduceNeg, reduceEq, c0]
    refine loop_rule (fun n e h' => ∃ (i : Nat), e 0 = v ∧ e 1 = w ∧ e 5 = .int .i64 i ∧ i ≤ l.length ∧ n = l.length - i ∧ Ext h h' ∧ l.take i = m.take i) ?_ l.length _ _ ⟨0, rfl, rfl, rfl, Nat.zero_le _, rfl, .refl _, by simp⟩
    rintro n e h1 ⟨i, e0, e1, ei, hi, rfl, E1, ht⟩
    simp (disch := omega) only [WA, ↓reduceIte, reduceEqDiff, reduceAdd, reduceMul, reduceSub, reduceLeDiff, reduceLT, reduceLE, reduceNeg, reduceEq, e0, e1, ei, hl.isRow.len]
    by_cases hlt : i < l.length
    · obtain ⟨x, hx⟩ := get_some hlt
      obtain ⟨y, hy⟩ := get_some (show i < m.length by omega)
      have c1 : (i : Int) < (l.length : Int) := by omega
      obtain ⟨_, x3, x4⟩ := row_list (hl.mono E1) hx
      obtain ⟨_, y3, y4⟩ := row_list (hm.mono E1) hy
      simp (disch := omega) only [WA, ↓reduceIte, reduceEqDiff, reduceAdd, reduceMul, reduceSub, reduceLeDiff, reduceLT, reduceLE, reduceNeg, reduceEq, e0, e1, ei, c1]
      refine draw_id (by kernel_rfl) ?_
      simp (disch := omega) only [WA, ↓reduceIte, reduceEqDiff, reduceAdd, reduceMul, reduceSub, reduceLeDiff, reduceLT, reduceLE, reduceNeg, reduceEq, e0, e1, ei, hl.isRow.ix, hm.isRow.ix, x3, y3]
      refine .inl ⟨by kernel_rfl, ?_⟩; refine eqIntS_c x4 y4 fun h2 E2 => ?_
      have x3' := x3
      have y3' := y3
      rw [← E2.getC (row_live hl E1 hx)] at x3'
      rw [← E2.getC (row_live hm E1 hy)] at y3'
      simp (disch := omega) only [WA, ↓reduceIte, reduceEqDiff, reduceAdd, reduceMul, reduceSub, reduceLeDiff, reduceLT, reduceLE, reduceNeg, reduceEq, x3', y3']
      by_cases hxy : x = y
      · subst hxy
        simp (disch := omega) only [WA, ↓reduceIte, reduceEqDiff, reduceAdd, reduceMul, reduceSub, reduceLeDiff, reduceLT, reduceLE, reduceNeg, reduceEq, e0, e1, ei, wrap_in]
        exact ⟨_, by omega, i + 1, by simp, by omega, rfl, E1.trans E2, take_succ_eq ht hx hy⟩
      · simp (disch := omega) only [WA, ↓reduceIte, reduceEqDiff, reduceAdd, reduceMul, reduceSub, reduceLeDiff, reduceLT, reduceLE, reduceNeg, reduceEq, hxy]
        have : l ≠ m := fun e => hxy (by rw [e, hy] at hx; simpa using hx.symm)
        simpa [this] using hQ _ (E1.trans E2)
    · obtain rfl : i = l.length := by omega
      have c1 : ¬ (l.length : Int) < (l.length : Int) := by omega
      simp (disch := omega) only [WA, ↓reduceIte, reduceEqDiff, reduceAdd, reduceMul, reduceSub, reduceLeDiff, reduceLT, reduceLE, reduceNeg, reduceEq, e0, e1, ei, c1]
      have : l = m := by rw [List.take_of_length_le (Nat.le_refl _), List.take_of_length_le (by omega)] at ht; exact ht
      simpa [this] using hQ _ E1
  · have c0 : ¬ (l.length : Int) = (m.length : Int) := by omega
    simp (disch := omega) only [WA, ↓reduceIte, reduceEqDiff, reduceAdd, reduceMul, reduceSub, reduceLeDiff, reduceLT, reduceLE, reduceNeg, reduceEq, c0]
    have : l ≠ m := fun e => hne (by rw [e])
    simpa [this] using hQ _ (.refl _)
end Go.Proofs
