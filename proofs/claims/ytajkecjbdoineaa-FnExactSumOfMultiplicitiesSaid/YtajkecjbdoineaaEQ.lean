/- Contracts of functions, facts of types, or the plain law behind one statement (own work): EQ. Conditions: those told in each theorem. -/
import Derived.Test.YtajkecjbdoineaaEP
set_option linter.all false
set_option linter.unusedSimpArgs false
set_option linter.unusedVariables false
set_option maxRecDepth 4000
namespace Go.Proofs
open Go Go.V
open Nat (reduceEqDiff reduceAdd reduceMul reduceSub reduceLeDiff)
open Int (reduceLT reduceLE reduceNeg reduceEq)
/- The sum of multiplicities. -/
noncomputable def sumF : Nat → List (List Int) → Option Int
  | _, [] => some 0
  | k, q :: L => (rootsM q).bind fun n => (sumF (k + 1) L).map fun s => ((k : Int) + 1) * n + s
def outR : Option Int → Int × Bool | some n => (n, true) | none => (0, false)
noncomputable def smM (p : List Int) : Int × Bool := outR ((mpM p).bind (sumF 0))
/-- What has been summed, and what is still to come. -/
theorem sumF_stop (k : Nat) (s : Int) : (sumF k []).map (s + ·) = some s := by simp [sumF]
theorem sumF_none {k : Nat} {q : List Int} {L : List (List Int)} (h : rootsM q = none) : sumF k (q :: L) = none := by unfold sumF; rw [h]; rfl
theorem sumF_next {k : Nat} {q : List Int} {L : List (List Int)} {n s : Int} (h : rootsM q = some n) : (sumF k (q :: L)).map (s + ·) = (sumF (k + 1) L).map (s + ((k : Int) + 1) * n + ·) := by
  conv => lhs; unfold sumF
  rw [h]
  show ((sumF (k + 1) L).map fun t => ((k : Int) + 1) * n + t).map (s + ·) = _
  cases sumF (k + 1) L with
  | none => rfl
  | some t => simp only [Option.map_some]; congr 1; omega
theorem sm_bad {p : List Int} {R : Option Int} (hm : (mpM p).bind (sumF 0) = R) : smM p = outR R := by unfold smM; rw [hm]
theorem SumOfMultiplicities_s {p : List Int} {v : Value} {h : Heap} {Q : Value → Heap → Prop} (r : Row h p v)
    (hQ : ∀ h', Ext h h' → Q (.tuple #[.int .i64 (smM p).1, .bool (smM p).2]) h') : CallsV Try.prog 16 [v] h Q := by
  refine CallsV.start Try.func16 rfl (by rw [Try.results16]) (by kernel_rfl) (by rw [Try.ntmps16]; simp) ?_
  simp (disch := omega) only [WA, ↓reduceIte, reduceEqDiff, reduceAdd, reduceMul, reduceSub, reduceLeDiff, reduceLT, reduceLE, reduceNeg, reduceEq]
  refine .inl ⟨by kernel_rfl, ?_⟩; refine stAsked_c r ?_
  cases hs : singM p && decide (0 < p.length) with
  | false =>
    have hm : smM p = (0, false) := by unfold smM mpM; rw [hs]; rfl
    rw [hm] at hQ
    simp (disch := omega) only [WA, ↓reduceIte, reduceEqDiff, reduceAdd, reduceMul, reduceSub, reduceLeDiff, reduceLT, reduceLE, reduceNeg, reduceEq]
    exact hQ _ (.refl h)
  | true =>
    obtain ⟨s1, s2⟩ := Bool.and_eq_true_iff.1 hs
    have s2 := of_decide_eq_true s2
    have hP := sing_top s1 s2
    have hmp := mp_parts s1 s2
    simp (disch := omega) only [WA, ↓reduceIte, reduceEqDiff, reduceAdd, reduceMul, reduceSub, reduceLeDiff, reduceLT, reduceLE, reduceNeg, reduceEq]
    refine .inl ⟨by kernel_rfl, ?_⟩; refine muParts_c r hP fun v1 h1 s => ?_
    have E := s.ext
    cases hm : partsM p with
    | none =>
      have hr : smM p = (0, false) := by unfold smM; rw [hmp, hm]; rfl
      rw [hr] at hQ
      simp (disch := omega) only [WA, ↓reduceIte, reduceEqDiff, reduceAdd, reduceMul, reduceSub, reduceLeDiff, reduceLT, reduceLE, reduceNeg, reduceEq, Option.isSome_none]
      exact hQ _ E
    | some L =>
      obtain ⟨l1, l2⟩ := partsM_fact hP hm
      rw [hm, Option.getD_some] at s
      have rL := s.row
      have hR : (mpM p).bind (sumF 0) = sumF 0 L := by rw [hmp, hm]; rfl
      have hsm := sm_bad hR
      simp (disch := omega) only [WA, ↓reduceIte, reduceEqDiff, reduceAdd, reduceMul, reduceSub, reduceLeDiff, reduceLT, reduceLE, reduceNeg, reduceEq, Option.isSome_some, rL.isRow.len]
      refine loop_rule (fun m e h' => ∃ (i : Nat) (s : Int), e 6 = .int .i64 s ∧ e 21 = v1 ∧ e 22 = .int .i64 L.length ∧ e 23 = .int .i64 i ∧ i ≤ L.length ∧ m = L.length - i ∧ (-(600 * (i : Int)) ≤ s ∧ s ≤ 600 * (i : Int)) ∧ (sumF i (L.drop i)).map (s + ·) = sumF 0 L ∧ Ext h1 h') ?_ L.length _ _
        ⟨0, 0, rfl, rfl, rfl, rfl, by omega, by omega, by omega, by simp, .refl _⟩
      rintro m e h2 ⟨i, s, e6, e21, e22, e23, hi, rfl, hb, hsum, E2⟩
      have rL2 := rL.mono E2
      simp (disch := omega) only [WA, ↓reduceIte, reduceEqDiff, reduceAdd, reduceMul, reduceSub, reduceLeDiff, reduceLT, reduceLE, reduceNeg, reduceEq, e22, e23]
      by_cases c : i < L.length
      · have c1 : (i : Int) < (L.length : Int) := by omega
        obtain ⟨q, hq⟩ := get_some c
        obtain ⟨wq, Xq, rq⟩ := row_list rL2 hq
        rw [drop_cons hq] at hsum
        simp (disch := omega) only [WA, ↓reduceIte, reduceEqDiff, reduceAdd, reduceMul, reduceSub, reduceLeDiff, reduceLT, reduceLE, reduceNeg, reduceEq, c1, e21, e23, rL2.isRow.ix, Xq]
        refine .inl ⟨by kernel_rfl, ?_⟩; refine muRoots_c rq hP (l2 q (List.mem_of_getElem? hq)) (fun hn0 h3 E3 => ?_) (fun n h3 hn1 hb1 E3 => ?_)
        · rw [sumF_none hn0] at hsum
          rw [← hsum] at hsm
          rw [hsm] at hQ
          simp (disch := omega) only [WA, ↓reduceIte, reduceEqDiff, reduceAdd, reduceMul, reduceSub, reduceLeDiff, reduceLT, reduceLE, reduceNeg, reduceEq]
          exact hQ _ ((E.trans E2).trans E3)
        · rw [sumF_next hn1] at hsum
          have m1 := mul_in (A := 40) (B := 14) (by decide) (by decide) (a := (i : Int) + 1) ⟨by omega, by omega⟩ hb1
          have w1 := wrap9 (x := (i : Int) + 1) (by omega)
          have w2 := wrap9 (x := ((i : Int) + 1) * n) (by omega)
          have w3 := wrap9 (x := s + ((i : Int) + 1) * n) (by omega)
          simp (disch := omega) only [WA, ↓reduceIte, reduceEqDiff, reduceAdd, reduceMul, reduceSub, reduceLeDiff, reduceLT, reduceLE, reduceNeg, reduceEq, e6, e23, w1, w2, w3]
          exact ⟨_, by omega, i + 1, s + ((i : Int) + 1) * n, rfl, e21, e22, by simp, by omega, rfl, by omega, hsum, E2.trans E3⟩
      · obtain rfl : i = L.length := by omega
        have c1 : ¬ (L.length : Int) < (L.length : Int) := by omega
        rw [List.drop_length, sumF_stop] at hsum
        rw [← hsum] at hsm
        rw [hsm] at hQ
        simp (disch := omega) only [WA, ↓reduceIte, reduceEqDiff, reduceAdd, reduceMul, reduceSub, reduceLeDiff, reduceLT, reduceLE, reduceNeg, reduceEq, c1, e6]
        exact hQ _ (E.trans E2)
theorem SumOfMultiplicities_i {p : List Int} {v : Value} {h : Heap} {Q : Value → Heap → Prop} (r : Row h p v)
    (hQ : ∀ h', Ext h h' → Q (.tuple #[.int .i64 (smM p).1, .bool (smM p).2]) h') : CallsV Try.prog 17 [v] h Q := by
  refine CallsV.start Try.func17 rfl (by rw [Try.results17]) (by kernel_rfl) (by rw [Try.ntmps17]; simp) ?_
  simp (disch := omega) only [WA, ↓reduceIte, reduceEqDiff, reduceAdd, reduceMul, reduceSub, reduceLeDiff, reduceLT, reduceLE, reduceNeg, reduceEq]
  refine .inl ⟨by kernel_rfl, ?_⟩; refine isSingle_c r ?_
  cases s1 : singM p with
  | false =>
    have hm : smM p = (0, false) := by unfold smM mpM; rw [s1]; rfl
    rw [hm] at hQ
    simp (disch := omega) only [WA, ↓reduceIte, reduceEqDiff, reduceAdd, reduceMul, reduceSub, reduceLeDiff, reduceLT, reduceLE, reduceNeg, reduceEq]
    exact hQ _ (.refl h)
  | true =>
    by_cases s2 : p.length = 0
    · have c1 : (p.length : Int) = 0 := by omega
      have hm : smM p = (0, false) := by unfold smM mpM; rw [s1, decide_eq_false (show ¬ 0 < p.length by omega)]; rfl
      rw [hm] at hQ
      simp (disch := omega) only [WA, ↓reduceIte, reduceEqDiff, reduceAdd, reduceMul, reduceSub, reduceLeDiff, reduceLT, reduceLE, reduceNeg, reduceEq, r.isRow.len, c1]
      exact hQ _ (.refl h)
    · have c1 : ¬ (p.length : Int) = 0 := by omega
      have d1 : decide ((p.length : Int) = 0) = false := decide_eq_false c1
      have hP := sing_top s1 (by omega)
      have hmp := mp_parts s1 (show 0 < p.length by omega)
      simp (disch := omega) only [WA, ↓reduceIte, reduceEqDiff, reduceAdd, reduceMul, reduceSub, reduceLeDiff, reduceLT, reduceLE, reduceNeg, reduceEq, r.isRow.len, c1, d1]
      refine .inl ⟨by kernel_rfl, ?_⟩; refine multiplicityParts_c r hP fun v1 h1 s => ?_
      have E := s.ext
      cases hm : partsM p with
      | none =>
        have hr : smM p = (0, false) := by unfold smM; rw [hmp, hm]; rfl
        rw [hr] at hQ
        simp (disch := omega) only [WA, ↓reduceIte, reduceEqDiff, reduceAdd, reduceMul, reduceSub, reduceLeDiff, reduceLT, reduceLE, reduceNeg, reduceEq, Option.isSome_none]
        exact hQ _ E
      | some L =>
        obtain ⟨l1, l2⟩ := partsM_fact hP hm
        rw [hm, Option.getD_some] at s
        have rL := s.row
        have hR : (mpM p).bind (sumF 0) = sumF 0 L := by rw [hmp, hm]; rfl
        have hsm := sm_bad hR
        simp (disch := omega) only [WA, ↓reduceIte, reduceEqDiff, reduceAdd, reduceMul, reduceSub, reduceLeDiff, reduceLT, reduceLE, reduceNeg, reduceEq, Option.isSome_some, rL.isRow.len]
        refine loop_rule (fun m e h' => ∃ (i : Nat) (s : Int), e 6 = .int .i64 s ∧ e 26 = v1 ∧ e 27 = .int .i64 L.length ∧ e 28 = .int .i64 i ∧ i ≤ L.length ∧ m = L.length - i ∧ (-(600 * (i : Int)) ≤ s ∧ s ≤ 600 * (i : Int)) ∧ (sumF i (L.drop i)).map (s + ·) = sumF 0 L ∧ Ext h1 h') ?_ L.length _ _
          ⟨0, 0, rfl, rfl, rfl, rfl, by omega, by omega, by omega, by simp, .refl _⟩
        rintro m e h2 ⟨i, s, e6, e26, e27, e28, hi, rfl, hb, hsum, E2⟩
        have rL2 := rL.mono E2
        simp (disch := omega) only [WA, ↓reduceIte, reduceEqDiff, reduceAdd, reduceMul, reduceSub, reduceLeDiff, reduceLT, reduceLE, reduceNeg, reduceEq, e27, e28]
        by_cases c : i < L.length
        · have c1 : (i : Int) < (L.length : Int) := by omega
          obtain ⟨q, hq⟩ := get_some c
          obtain ⟨wq, Xq, rq⟩ := row_list rL2 hq
          rw [drop_cons hq] at hsum
          simp (disch := omega) only [WA, ↓reduceIte, reduceEqDiff, reduceAdd, reduceMul, reduceSub, reduceLeDiff, reduceLT, reduceLE, reduceNeg, reduceEq, c1, e26, e28, rL2.isRow.ix, Xq]
          refine .inl ⟨by kernel_rfl, ?_⟩; refine sturmChain_c rq hP (l2 q (List.mem_of_getElem? hq)) (fun hc h3 E3 => ?_) (fun C w h3 hc hC h14 rC E3 => ?_)
          · rw [sumF_none (roots_none hc)] at hsum
            rw [← hsum] at hsm
            rw [hsm] at hQ
            simp (disch := omega) only [WA, ↓reduceIte, reduceEqDiff, reduceAdd, reduceMul, reduceSub, reduceLeDiff, reduceLT, reduceLE, reduceNeg, reduceEq]
            exact hQ _ ((E.trans E2).trans E3)
          · obtain ⟨⟨hb1, hb2⟩, b2, b3⟩ := far_bd h14
            rw [sumF_next (roots_some hc)] at hsum
            obtain ⟨n, hn⟩ : ∃ n, (farM C false : Int) - (farM C true : Int) = n := ⟨_, rfl⟩
            rw [hn] at hsum hb1 hb2
            have w0 := wrap9 (x := n) (by omega)
            have w1 := wrap9 (x := (i : Int) + 1) (by omega)
            simp (disch := omega) only [WA, ↓reduceIte, reduceEqDiff, reduceAdd, reduceMul, reduceSub, reduceLeDiff, reduceLT, reduceLE, reduceNeg, reduceEq, e6, e28, w1]
            refine .inl ⟨by kernel_rfl, ?_⟩; refine variationsFar_c rC hC h14 fun h4 E4 => ?_
            simp (disch := omega) only [WA, ↓reduceIte, reduceEqDiff, reduceAdd, reduceMul, reduceSub, reduceLeDiff, reduceLT, reduceLE, reduceNeg, reduceEq]
            refine .inl ⟨by kernel_rfl, ?_⟩; refine variationsFar_c (rC.mono E4) hC h14 fun h5 E5 => ?_
            have m1 := mul_in (A := 40) (B := 14) (by decide) (by decide) (a := (i : Int) + 1) ⟨by omega, by omega⟩ ⟨hb1, hb2⟩
            have w2 := wrap9 (x := ((i : Int) + 1) * n) (by omega)
            have w3 := wrap9 (x := s + ((i : Int) + 1) * n) (by omega)
            simp (disch := omega) only [WA, ↓reduceIte, reduceEqDiff, reduceAdd, reduceMul, reduceSub, reduceLeDiff, reduceLT, reduceLE, reduceNeg, reduceEq, e6, e28, hn, w0, w1, w2, w3]
            exact ⟨_, by omega, i + 1, s + ((i : Int) + 1) * n, rfl, e26, e27, by simp, by omega, rfl, by omega, hsum, ((E2.trans E3).trans E4).trans E5⟩
        · obtain rfl : i = L.length := by omega
          have c1 : ¬ (L.length : Int) < (L.length : Int) := by omega
          rw [List.drop_length, sumF_stop] at hsum
          rw [← hsum] at hsm
          rw [hsm] at hQ
          simp (disch := omega) only [WA, ↓reduceIte, reduceEqDiff, reduceAdd, reduceMul, reduceSub, reduceLeDiff, reduceLT, reduceLE, reduceNeg, reduceEq, c1, e6]
          exact hQ _ (E.trans E2)
end Go.Proofs
