/- Contracts of functions, facts of types, or the plain law behind one statement (own work): IE. Conditions: those told in each theorem. -/
import Derived.Test.YtlnephhhcofilaaGreatMD
set_option linter.all false
set_option linter.unusedSimpArgs false
set_option linter.unusedVariables false
set_option maxRecDepth 4000
namespace Go.Proofs
open Go Go.V
open Nat renaming reduceEqDiff → jA, reduceAdd → jB, reduceMul → jD, reduceSub → jE, reduceLeDiff → jF
open Int renaming reduceLT → jG, reduceLE → jH, reduceNeg → jI, reduceEq → jJ
/- Intervals: the program's steps. -/
abbrev ivC (i : Iv) : List Value := [.int .i64 i.low.n, .int .i64 i.low.k, .int .i64 i.high.n, .int .i64 i.high.k]
structure IvD (i : Iv) : Prop where
  low : DyG i.low
  high : DyG i.high
theorem IvG.d {i : Iv} (h : IvG i) : IvD i := ⟨h.low, h.high⟩
theorem rdI_D {i : Iv} (h : IvD i) : IvD (rdI i) := ⟨rdM_good h.low, negM_good (rdM_good (negM_good h.high))⟩
theorem ivRd {a h : Heap} {b : Nat} {ty : TypeId} {L : List Asr} {i : Iv} (s : Sep a h (blkA b (ivC i) ty :: L)) :
    cellsAt h b 0 2 = some (dyC i.low) ∧ cellsAt h b 2 2 = some (dyC i.high) ∧ cellsAt h b 0 4 = some (ivC i) ∧ (∀ off, getC h b off = (ivC i)[off]?) :=
  ⟨by rw [s.rdA]; rfl, by rw [s.rdA]; rfl, by rw [s.rdA]; rfl, s.rd⟩
theorem integer_c {n : Int} {h : Heap} {Q : Value → Heap → Prop} (hQ : ∀ h', Ext h h' → Q (.agg (dyC ⟨n, 0⟩).toArray) h') : CallsV Tryz.prog 139 [.int .i64 n] h Q := by
  refine CallsV.start Tryz.func139 rfl (by rw [Tryz.results139]) (by kernel_rfl) (by rw [Tryz.ntmps139]; simp) ?_
  simp (disch := omega) only [WA, ↓reduceIte, jA, jB, jD, jE, jF, jG, jH, jI, jJ]
  exact hQ _ (.one _ _)
theorem single_c {d : Dy} {h : Heap} {Q : Value → Heap → Prop} (hQ : ∀ h', Ext h h' → Q (.agg (ivC ⟨d, d⟩).toArray) h') : CallsV Tryz.prog 127 [.agg (dyC d).toArray] h Q := by
  refine CallsV.start Tryz.func127 rfl (by rw [Tryz.results127]) (by kernel_rfl) (by rw [Tryz.ntmps127]; simp) ?_
  simp (disch := omega) only [WA, ↓reduceIte, jA, jB, jD, jE, jF, jG, jH, jI, jJ]
  exact hQ _ (.app _ _)
theorem signOf_c {i : Iv} {h : Heap} {Q : Value → Heap → Prop} (hQ : ∀ h', Ext h h' → Q (.int .i64 (sgI i)) h') : CallsV Tryz.prog 131 [.agg (ivC i).toArray] h Q := by
  refine CallsV.start Tryz.func131 rfl (by rw [Tryz.results131]) (by kernel_rfl) (by rw [Tryz.ntmps131]; simp) ?_
  unfold sgI at hQ
  simp (disch := omega) only [WA, ↓reduceIte, jA, jB, jD, jE, jF, jG, jH, jI, jJ]
  by_cases c1 : 0 < i.low.n
  · rw [if_pos c1] at hQ
    simp (disch := omega) only [WA, ↓reduceIte, jA, jB, jD, jE, jF, jG, jH, jI, jJ, c1]
    exact hQ _ (.one _ _)
  · rw [if_neg c1] at hQ
    by_cases c2 : i.high.n < 0
    · rw [if_pos c2] at hQ
      simp (disch := omega) only [WA, ↓reduceIte, jA, jB, jD, jE, jF, jG, jH, jI, jJ, c1, c2]
      exact hQ _ (.one _ _)
    · rw [if_neg c2] at hQ
      simp (disch := omega) only [WA, ↓reduceIte, jA, jB, jD, jE, jF, jG, jH, jI, jJ, c1, c2]
      exact hQ _ (.one _ _)
theorem roundOut_c {i : Iv} {h : Heap} {Q : Value → Heap → Prop} (hi : IvD i) (hQ : ∀ h', Ext h h' → Q (.agg (ivC (rdI i)).toArray) h') :
    CallsV Tryz.prog 151 [.agg (ivC i).toArray, .int .i64 16] h Q := by
  refine CallsV.start Tryz.func151 rfl (by rw [Tryz.results151]) (by kernel_rfl) (by rw [Tryz.ntmps151]; simp) ?_
  have s := Sep.blk2 h (ivC i) [.int .i64 0, .int .i64 0, .int .i64 0, .int .i64 0] 122 122 true true
  have ga := ivRd (s.pull 1 rfl)
  simp (disch := omega) only [WA, ↓reduceIte, jA, jB, jD, jE, jF, jG, jH, jI, jJ, ga]
  refine draw_ord [0, 1, 2, 4, 5, 7, 3, 6, 8, 9, 10, 11] (by kernel_rfl) (by simp only [WLF]; rfl) ?_
  simp (disch := omega) only [WA, ↓reduceIte, jA, jB, jD, jE, jF, jG, jH, jI, jJ, ga]
  refine .inl ⟨by kernel_rfl, ?_⟩; refine roundDown_c hi.low fun h1 E1 => ?_
  have s := s.mono E1
  have ga := ivRd (s.pull 1 rfl)
  simp (disch := omega) only [WA, ↓reduceIte, jA, jB, jD, jE, jF, jG, jH, jI, jJ, ga]
  refine .inl ⟨by kernel_rfl, ?_⟩; refine minus_c hi.high fun h1 E1 => ?_
  have s := s.mono E1
  have ga := ivRd (s.pull 1 rfl)
  simp (disch := omega) only [WA, ↓reduceIte, jA, jB, jD, jE, jF, jG, jH, jI, jJ, ga]
  refine .inl ⟨by kernel_rfl, ?_⟩; refine roundDown_c (negM_good hi.high) fun h1 E1 => ?_
  have s := s.mono E1
  have ga := ivRd (s.pull 1 rfl)
  simp (disch := omega) only [WA, ↓reduceIte, jA, jB, jD, jE, jF, jG, jH, jI, jJ, ga]
  refine .inl ⟨by kernel_rfl, ?_⟩; refine minus_c (rdM_good (negM_good hi.high)) fun h1 E1 => ?_
  have s := s.mono E1
  have ga := ivRd (s.pull 1 rfl)
  simp (disch := omega) only [WA, ↓reduceIte, jA, jB, jD, jE, jF, jG, jH, jI, jJ, ga]
  refine sep_store (s.pull 0 rfl) (by simp) fun h7 s => ?_
  have s := s.as (ds := ivC (rdI i)) (by simp [t_put, rdI])
  have gz := (s.pull 0 rfl).rdAll (n := 4) rfl
  have ga := ivRd (s.pull 1 rfl)
  simp (disch := omega) only [WA, ↓reduceIte, jA, jB, jD, jE, jF, jG, jH, jI, jJ, gz, ga]
  exact hQ _ s.ext
theorem mulI_keep {i k : Iv} {p : Bool} :
    (∀ o, p = true → mulI i k = some o → rdI ⟨lsM (lsM (keepM p (mulM i.low k.low)) (keepM (p && (mulM i.low k.low).isSome) (mulM i.low k.high))) (lsM (keepM ((p && (mulM i.low k.low).isSome) && (mulM i.low k.high).isSome) (mulM i.high k.low)) (keepM (((p && (mulM i.low k.low).isSome) && (mulM i.low k.high).isSome) && (mulM i.high k.low).isSome) (mulM i.high k.high))),
      gtM (gtM (keepM p (mulM i.low k.low)) (keepM (p && (mulM i.low k.low).isSome) (mulM i.low k.high))) (gtM (keepM ((p && (mulM i.low k.low).isSome) && (mulM i.low k.high).isSome) (mulM i.high k.low)) (keepM (((p && (mulM i.low k.low).isSome) && (mulM i.low k.high).isSome) && (mulM i.high k.low).isSome) (mulM i.high k.high)))⟩ = o) ∧
    ((((p && (mulM i.low k.low).isSome) && (mulM i.low k.high).isSome) && (mulM i.high k.low).isSome) && (mulM i.high k.high).isSome) = (p && (mulI i k).isSome) := by
  unfold mulI
  cases mulM i.low k.low with
  | none => simp
  | some a =>
    cases mulM i.low k.high with
    | none => simp
    | some b =>
      cases mulM i.high k.low with
      | none => simp
      | some c =>
        cases mulM i.high k.high with
        | none => simp
        | some d =>
          refine ⟨fun o hp ho => ?_, by simp⟩
          subst hp
          exact Option.some.inj ho
end Go.Proofs
