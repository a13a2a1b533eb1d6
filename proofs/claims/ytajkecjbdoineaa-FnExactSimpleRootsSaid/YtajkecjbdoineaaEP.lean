/- Contracts of functions, facts of types, or the plain law behind one statement (own work): EP. Conditions: those told in each theorem. -/
import Derived.Test.YtajkecjbdoineaaEO
import Derived.Test.YtajkecjbdoineaaEK
set_option linter.all false
set_option linter.unusedSimpArgs false
set_option linter.unusedVariables false
set_option maxRecDepth 4000
namespace Go.Proofs
open Go Go.V
open Nat (reduceEqDiff reduceAdd reduceMul reduceSub reduceLeDiff)
open Int (reduceLT reduceLE reduceNeg reduceEq)
/- Numbers of roots. -/
noncomputable def rootsM (p : List Int) : Option Int := (chainM p).map fun C => (farM C false : Int) - (farM C true : Int)
theorem roots_some {p : List Int} {C : List (List Int)} (h : chainM p = some C) : rootsM p = some ((farM C false : Int) - (farM C true : Int)) := by unfold rootsM; rw [h]; rfl
theorem roots_none {p : List Int} (h : chainM p = none) : rootsM p = none := by unfold rootsM; rw [h]; rfl
theorem far_bd {C : List (List Int)} (h : C.length ≤ 14) : (-14 ≤ (farM C false : Int) - (farM C true : Int) ∧ (farM C false : Int) - (farM C true : Int) ≤ 14) ∧ farM C false ≤ 14 ∧ farM C true ≤ 14 := by
  have h1 := farM_le C false
  have h2 := farM_le C true
  omega
theorem muRoots_c {P p : List Int} {v : Value} {h : Heap} {Q : Value → Heap → Prop} (r : Row h p v) (hP : Top P) (hp : InF P p)
    (hQ0 : rootsM p = none → ∀ h', Ext h h' → Q (.tuple #[.int .i64 0, .bool false]) h')
    (hQ : ∀ n h', rootsM p = some n → -14 ≤ n ∧ n ≤ 14 → Ext h h' → Q (.tuple #[.int .i64 n, .bool true]) h') : CallsV Try.prog 25 [v] h Q := by
  refine CallsV.start Try.func25 rfl (by rw [Try.results25]) (by kernel_rfl) (by rw [Try.ntmps25]; simp) ?_
  simp (disch := omega) only [WA, ↓reduceIte, reduceEqDiff, reduceAdd, reduceMul, reduceSub, reduceLeDiff, reduceLT, reduceLE, reduceNeg, reduceEq]
  refine .inl ⟨by kernel_rfl, ?_⟩; refine stChain_c r hP hp (fun hc h1 E1 => ?_) (fun C w h1 hc hC h14 rC E1 => ?_)
  · simp (disch := omega) only [WA, ↓reduceIte, reduceEqDiff, reduceAdd, reduceMul, reduceSub, reduceLeDiff, reduceLT, reduceLE, reduceNeg, reduceEq]
    exact hQ0 (roots_none hc) _ E1
  · obtain ⟨b1, b2, b3⟩ := far_bd h14
    have w1 := wrap9 (x := (farM C false : Int) - (farM C true : Int)) (by omega)
    simp (disch := omega) only [WA, ↓reduceIte, reduceEqDiff, reduceAdd, reduceMul, reduceSub, reduceLeDiff, reduceLT, reduceLE, reduceNeg, reduceEq]
    refine .inl ⟨by kernel_rfl, ?_⟩; refine stFar_c rC hC h14 fun h2 E2 => ?_
    simp (disch := omega) only [WA, ↓reduceIte, reduceEqDiff, reduceAdd, reduceMul, reduceSub, reduceLeDiff, reduceLT, reduceLE, reduceNeg, reduceEq]
    refine .inl ⟨by kernel_rfl, ?_⟩; refine stFar_c (rC.mono E2) hC h14 fun h3 E3 => ?_
    simp (disch := omega) only [WA, ↓reduceIte, reduceEqDiff, reduceAdd, reduceMul, reduceSub, reduceLeDiff, reduceLT, reduceLE, reduceNeg, reduceEq, w1]
    exact hQ _ _ (roots_some hc) b1 ((E1.trans E2).trans E3)
noncomputable def srM (p : List Int) : Int × Bool :=
  match mpM p with
  | none => (0, false)
  | some [] => (0, true)
  | some (q :: _) => match rootsM q with | some n => (n, true) | none => (0, false)
theorem mp_parts {p : List Int} (h : singM p = true) (h0 : 0 < p.length) : mpM p = partsM p := by
  unfold mpM
  rw [h, decide_eq_true h0]; rfl
theorem SimpleRoots_s {p : List Int} {v : Value} {h : Heap} {Q : Value → Heap → Prop} (r : Row h p v)
    (hQ : ∀ h', Ext h h' → Q (.tuple #[.int .i64 (srM p).1, .bool (srM p).2]) h') : CallsV Try.prog 14 [v] h Q := by
  refine CallsV.start Try.func14 rfl (by rw [Try.results14]) (by kernel_rfl) (by rw [Try.ntmps14]; simp) ?_
  simp (disch := omega) only [WA, ↓reduceIte, reduceEqDiff, reduceAdd, reduceMul, reduceSub, reduceLeDiff, reduceLT, reduceLE, reduceNeg, reduceEq]
  refine .inl ⟨by kernel_rfl, ?_⟩; refine stAsked_c r ?_
  cases hs : singM p && decide (0 < p.length) with
  | false =>
    have hm : srM p = (0, false) := by unfold srM mpM; rw [hs]; rfl
    rw [hm] at hQ
    simp (disch := omega) only [WA, ↓reduceIte, reduceEqDiff, reduceAdd, reduceMul, reduceSub, reduceLeDiff, reduceLT, reduceLE, reduceNeg, reduceEq]
    exact hQ _ (.refl h)
  | true =>
    obtain ⟨s1, s2⟩ := Bool.and_eq_true_iff.1 hs
    have s2 := of_decide_eq_true s2
    have hP := sing_top s1 s2
    have hmp := mp_parts s1 s2
    simp (disch := omega) only [WA, ↓reduceIte, reduceEqDiff, reduceAdd, reduceMul, reduceSub, reduceLeDiff, reduceLT, reduceLE, reduceNeg, reduceEq]
    refine .inl ⟨by kernel_rfl, ?_⟩; refine muParts_c r hP fun v1 h1 s => ?_
    have E := s.ext
    cases hm : partsM p with
    | none =>
      have hr : srM p = (0, false) := by unfold srM; rw [hmp, hm]
      rw [hr] at hQ
      simp (disch := omega) only [WA, ↓reduceIte, reduceEqDiff, reduceAdd, reduceMul, reduceSub, reduceLeDiff, reduceLT, reduceLE, reduceNeg, reduceEq, Option.isSome_none]
      exact hQ _ E
    | some L =>
      obtain ⟨l1, l2⟩ := partsM_fact hP hm
      rw [hm, Option.getD_some] at s
      have rL := s.row
      cases L with
      | nil =>
        have hr : srM p = (0, true) := by unfold srM; rw [hmp, hm]
        rw [hr] at hQ
        have l0 := rL.isRow.len Try.prog
        simp (disch := omega) only [WA, ↓reduceIte, reduceEqDiff, reduceAdd, reduceMul, reduceSub, reduceLeDiff, reduceLT, reduceLE, reduceNeg, reduceEq, Option.isSome_some, l0]
        exact hQ _ E
      | cons q L =>
        have l0 := rL.isRow.len Try.prog
        have c0 : ¬ (((q :: L).length : Nat) : Int) = 0 := by rw [List.length_cons]; omega
        have d0 : decide ((((q :: L).length : Nat) : Int) = 0) = false := decide_eq_false c0
        have q0 : (0 : Int) < (((q :: L).length : Nat) : Int) := by rw [List.length_cons]; omega
        obtain ⟨wq, Xq, rq⟩ := row_list rL (i := 0) (x := q) rfl
        have Xq : getC h1 (rowB v1) (rowO v1) = some wq := Xq
        generalize hn : (q :: L).length = n at *
        simp (disch := omega) only [WA, ↓reduceIte, reduceEqDiff, reduceAdd, reduceMul, reduceSub, reduceLeDiff, reduceLT, reduceLE, reduceNeg, reduceEq, Option.isSome_some, l0, c0, d0, rL.isRow.ix, q0, Xq]
        refine .inl ⟨by kernel_rfl, ?_⟩; refine muRoots_c rq hP (l2 q (by simp)) (fun hn0 h2 E2 => ?_) (fun n h2 hn1 hb E2 => ?_)
        · have hr : srM p = (0, false) := by unfold srM; rw [hmp, hm]; show (match rootsM q with | some n => (n, true) | none => (0, false)) = _; rw [hn0]
          rw [hr] at hQ
          simp (disch := omega) only [WA, ↓reduceIte, reduceEqDiff, reduceAdd, reduceMul, reduceSub, reduceLeDiff, reduceLT, reduceLE, reduceNeg, reduceEq]
          exact hQ _ (E.trans E2)
        · have hr : srM p = (n, true) := by unfold srM; rw [hmp, hm]; show (match rootsM q with | some n => (n, true) | none => (0, false)) = _; rw [hn1]
          rw [hr] at hQ
          simp (disch := omega) only [WA, ↓reduceIte, reduceEqDiff, reduceAdd, reduceMul, reduceSub, reduceLeDiff, reduceLT, reduceLE, reduceNeg, reduceEq]
          exact hQ _ (E.trans E2)
theorem SimpleRoots_i {p : List Int} {v : Value} {h : Heap} {Q : Value → Heap → Prop} (r : Row h p v)
    (hQ : ∀ h', Ext h h' → Q (.tuple #[.int .i64 (srM p).1, .bool (srM p).2]) h') : CallsV Try.prog 15 [v] h Q := by
  refine CallsV.start Try.func15 rfl (by rw [Try.results15]) (by kernel_rfl) (by rw [Try.ntmps15]; simp) ?_
  simp (disch := omega) only [WA, ↓reduceIte, reduceEqDiff, reduceAdd, reduceMul, reduceSub, reduceLeDiff, reduceLT, reduceLE, reduceNeg, reduceEq]
  refine .inl ⟨by kernel_rfl, ?_⟩; refine isSingle_c r ?_
  cases s1 : singM p with
  | false =>
    have hm : srM p = (0, false) := by unfold srM mpM; rw [s1]; rfl
    rw [hm] at hQ
    simp (disch := omega) only [WA, ↓reduceIte, reduceEqDiff, reduceAdd, reduceMul, reduceSub, reduceLeDiff, reduceLT, reduceLE, reduceNeg, reduceEq]
    exact hQ _ (.refl h)
  | true =>
    by_cases s2 : p.length = 0
    · have c1 : (p.length : Int) = 0 := by omega
      have hm : srM p = (0, false) := by unfold srM mpM; rw [s1, decide_eq_false (show ¬ 0 < p.length by omega)]; rfl
      rw [hm] at hQ
      simp (disch := omega) only [WA, ↓reduceIte, reduceEqDiff, reduceAdd, reduceMul, reduceSub, reduceLeDiff, reduceLT, reduceLE, reduceNeg, reduceEq, r.isRow.len, c1]
      exact hQ _ (.refl h)
    · have c1 : ¬ (p.length : Int) = 0 := by omega
      have d1 : decide ((p.length : Int) = 0) = false := decide_eq_false c1
      have hP := sing_top s1 (by omega)
      have hmp := mp_parts s1 (show 0 < p.length by omega)
      simp (disch := omega) only [WA, ↓reduceIte, reduceEqDiff, reduceAdd, reduceMul, reduceSub, reduceLeDiff, reduceLT, reduceLE, reduceNeg, reduceEq, r.isRow.len, c1, d1]
      refine .inl ⟨by kernel_rfl, ?_⟩; refine multiplicityParts_c r hP fun v1 h1 s => ?_
      have E := s.ext
      cases hm : partsM p with
      | none =>
        have hr : srM p = (0, false) := by unfold srM; rw [hmp, hm]
        rw [hr] at hQ
        simp (disch := omega) only [WA, ↓reduceIte, reduceEqDiff, reduceAdd, reduceMul, reduceSub, reduceLeDiff, reduceLT, reduceLE, reduceNeg, reduceEq, Option.isSome_none]
        exact hQ _ E
      | some L =>
        obtain ⟨l1, l2⟩ := partsM_fact hP hm
        rw [hm, Option.getD_some] at s
        have rL := s.row
        cases L with
        | nil =>
          have hr : srM p = (0, true) := by unfold srM; rw [hmp, hm]
          rw [hr] at hQ
          have l0 := rL.isRow.len Try.prog
          simp (disch := omega) only [WA, ↓reduceIte, reduceEqDiff, reduceAdd, reduceMul, reduceSub, reduceLeDiff, reduceLT, reduceLE, reduceNeg, reduceEq, Option.isSome_some, l0]
          exact hQ _ E
        | cons q L =>
          have l0 := rL.isRow.len Try.prog
          have c0 : ¬ (((q :: L).length : Nat) : Int) = 0 := by rw [List.length_cons]; omega
          have d0 : decide ((((q :: L).length : Nat) : Int) = 0) = false := decide_eq_false c0
          have q0 : (0 : Int) < (((q :: L).length : Nat) : Int) := by rw [List.length_cons]; omega
          obtain ⟨wq, Xq, rq⟩ := row_list rL (i := 0) (x := q) rfl
          have Xq : getC h1 (rowB v1) (rowO v1) = some wq := Xq
          generalize hn : (q :: L).length = n at *
          simp (disch := omega) only [WA, ↓reduceIte, reduceEqDiff, reduceAdd, reduceMul, reduceSub, reduceLeDiff, reduceLT, reduceLE, reduceNeg, reduceEq, Option.isSome_some, l0, c0, d0, rL.isRow.ix, q0, Xq]
          refine .inl ⟨by kernel_rfl, ?_⟩; refine sturmChain_c rq hP (l2 q (by simp)) (fun hc h2 E2 => ?_) (fun C w h2 hc hC h14 rC E2 => ?_)
          · have hr : srM p = (0, false) := by unfold srM; rw [hmp, hm]; show (match rootsM q with | some n => (n, true) | none => (0, false)) = _; rw [roots_none hc]
            rw [hr] at hQ
            simp (disch := omega) only [WA, ↓reduceIte, reduceEqDiff, reduceAdd, reduceMul, reduceSub, reduceLeDiff, reduceLT, reduceLE, reduceNeg, reduceEq]
            exact hQ _ (E.trans E2)
          · obtain ⟨b1, b2, b3⟩ := far_bd h14
            have w1 := wrap9 (x := (farM C false : Int) - (farM C true : Int)) (by omega)
            have hr : srM p = ((farM C false : Int) - (farM C true : Int), true) := by unfold srM; rw [hmp, hm]; show (match rootsM q with | some n => (n, true) | none => (0, false)) = _; rw [roots_some hc]
            rw [hr] at hQ
            simp (disch := omega) only [WA, ↓reduceIte, reduceEqDiff, reduceAdd, reduceMul, reduceSub, reduceLeDiff, reduceLT, reduceLE, reduceNeg, reduceEq]
            refine .inl ⟨by kernel_rfl, ?_⟩; refine variationsFar_c rC hC h14 fun h3 E3 => ?_
            simp (disch := omega) only [WA, ↓reduceIte, reduceEqDiff, reduceAdd, reduceMul, reduceSub, reduceLeDiff, reduceLT, reduceLE, reduceNeg, reduceEq]
            refine .inl ⟨by kernel_rfl, ?_⟩; refine variationsFar_c (rC.mono E3) hC h14 fun h4 E4 => ?_
            simp (disch := omega) only [WA, ↓reduceIte, reduceEqDiff, reduceAdd, reduceMul, reduceSub, reduceLeDiff, reduceLT, reduceLE, reduceNeg, reduceEq, w1]
            exact hQ _ (((E.trans E2).trans E3).trans E4)
end Go.Proofs
