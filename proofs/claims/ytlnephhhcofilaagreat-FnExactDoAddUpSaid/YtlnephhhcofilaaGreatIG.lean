/- Contracts of functions, facts of types, or the plain law behind one statement (own work): IG. Conditions: those told in each theorem. -/
import Derived.Test.YtlnephhhcofilaaGreatIF
set_option linter.all false
set_option linter.unusedSimpArgs false
set_option linter.unusedVariables false
set_option maxRecDepth 4000
namespace Go.Proofs
open Go Go.V
open Nat (reduceEqDiff reduceAdd reduceMul reduceSub reduceLeDiff)
open Int (reduceLT reduceLE reduceNeg reduceEq)
theorem addI_keep {i k : Iv} {p : Bool} :
    (∀ o, p = true → addI i k = some o → (⟨keepM p (sumM' i.low k.low), keepM (p && (sumM' i.low k.low).isSome) (sumM' i.high k.high)⟩ : Iv) = o) ∧
    ((p && (sumM' i.low k.low).isSome) && (sumM' i.high k.high).isSome) = (p && (addI i k).isSome) := by
  unfold addI
  cases sumM' i.low k.low with
  | none => simp
  | some a =>
    cases sumM' i.high k.high with
    | none => simp
    | some b =>
      refine ⟨fun o hp ho => ?_, by simp⟩
      subst hp
      exact Option.some.inj ho
theorem radd_c {a h : Heap} {b : Nat} {L : List Asr} {p : Bool} {i k : Iv} {Q : Value → Heap → Prop} (s : Sep a h (blkA b [.bool p] 149 :: L)) (hi : IvD i) (hk : IvD k)
    (hQ : ∀ h' v, IvD v → (∀ o, p = true → addI i k = some o → v = o) → Sep a h' (blkA b [.bool (p && (addI i k).isSome)] 149 :: L) → Q (.agg (ivC v).toArray) h') :
    CallsV Tryz.prog 142 [.pointer (some ⟨b, 0, none⟩), .agg (ivC i).toArray, .agg (ivC k).toArray] h Q := by
  refine CallsV.start Tryz.func142 rfl (by rw [Tryz.results142]) (by kernel_rfl) (by rw [Tryz.ntmps142]; simp) ?_
  obtain ⟨hk1, hk2⟩ := addI_keep (i := i) (k := k) (p := p)
  have GA := keepM_good (p := p) (o := sumM' i.low k.low) fun d h => makeM_good h
  have GB := keepM_good (p := p && (sumM' i.low k.low).isSome) (o := sumM' i.high k.high) fun d h => makeM_good h
  have s := ((s.newBlk (ivC i) 122 true).newBlk (ivC k) 122 true).newBlk [.int .i64 0, .int .i64 0, .int .i64 0, .int .i64 0] 122 true
  simp only [List.append_assoc, List.cons_append, List.nil_append, List.length_append, List.length_cons, List.length_nil, Nat.reduceAdd] at s
  have gi := ivRd (s.pull 2 rfl)
  have gk := ivRd (s.pull 1 rfl)
  simp (disch := omega) only [WA, ↓reduceIte, reduceEqDiff, reduceAdd, reduceMul, reduceSub, reduceLeDiff, reduceLT, reduceLE, reduceNeg, reduceEq, gi, gk]
  refine draw_ord [0, 1, 2, 3, 4, 6, 7, 8, 9, 10, 5, 11, 12, 13] (by kernel_rfl) (by simp only [List.filterMap_cons, List.filterMap_nil, List.getElem?_cons_zero, List.getElem?_cons_succ]; rfl) ?_
  simp (disch := omega) only [WA, ↓reduceIte, reduceEqDiff, reduceAdd, reduceMul, reduceSub, reduceLeDiff, reduceLT, reduceLE, reduceNeg, reduceEq, gi, gk]
  refine .inl ⟨by kernel_rfl, ?_⟩; refine rsumP_c (s.pull 3 rfl) hi.low hk.low fun h1 s => ?_
  have gi := ivRd (s.pull 3 rfl)
  have gk := ivRd (s.pull 2 rfl)
  simp (disch := omega) only [WA, ↓reduceIte, reduceEqDiff, reduceAdd, reduceMul, reduceSub, reduceLeDiff, reduceLT, reduceLE, reduceNeg, reduceEq, gi, gk]
  refine .inl ⟨by kernel_rfl, ?_⟩; refine rsumP_c s hi.high hk.high fun h2 s => ?_
  have gi := ivRd (s.pull 3 rfl)
  have gk := ivRd (s.pull 2 rfl)
  generalize keepM p (sumM' i.low k.low) = A at *
  generalize keepM (p && (sumM' i.low k.low).isSome) (sumM' i.high k.high) = B at *
  simp (disch := omega) only [WA, ↓reduceIte, reduceEqDiff, reduceAdd, reduceMul, reduceSub, reduceLeDiff, reduceLT, reduceLE, reduceNeg, reduceEq, gi, gk]
  refine sep_store (s.pull 1 rfl) (by simp) fun h3 s => ?_
  have s := s.as (ds := ivC ⟨A, B⟩) (by simp [t_put])
  have gz := (s.pull 0 rfl).rdAll (n := 4) rfl
  have gi := ivRd (s.pull 3 rfl)
  have gk := ivRd (s.pull 2 rfl)
  simp (disch := omega) only [WA, ↓reduceIte, reduceEqDiff, reduceAdd, reduceMul, reduceSub, reduceLeDiff, reduceLT, reduceLE, reduceNeg, reduceEq, gz, gi, gk]
  rw [hk2] at s
  exact hQ _ ⟨A, B⟩ ⟨GA, GB⟩ hk1 (s.tail.swap.tail.swap.tail)
theorem rresult_c {a h : Heap} {b : Nat} {L : List Asr} {p : Bool} {i : Iv} {Q : Value → Heap → Prop} (s : Sep a h (blkA b [.bool p] 149 :: L))
    (hQ : ∀ h', Ext h h' → Q (.tuple #[.agg (ivC (if p = true then i else ⟨⟨0, 0⟩, ⟨0, 0⟩⟩)).toArray, .bool p]) h') :
    CallsV Tryz.prog 143 [.pointer (some ⟨b, 0, none⟩), .agg (ivC i).toArray] h Q := by
  refine CallsV.start Tryz.func143 rfl (by rw [Tryz.results143]) (by kernel_rfl) (by rw [Tryz.ntmps143]; simp) ?_
  have E := Ext.app h [some ⟨ivC i, 122, false, true⟩, some ⟨[.int .i64 0, .int .i64 0, .int .i64 0, .int .i64 0], 122, false, true⟩]
  have u := Sep.blk2 h (ivC i) [.int .i64 0, .int .i64 0, .int .i64 0, .int .i64 0] 122 122 true true
  have s := s.mono E
  have g := s.rd
  have gi := ivRd (u.pull 1 rfl)
  cases p with
  | true =>
    simp (disch := omega) only [WA, ↓reduceIte, reduceEqDiff, reduceAdd, reduceMul, reduceSub, reduceLeDiff, reduceLT, reduceLE, reduceNeg, reduceEq, g, gi]
    exact hQ _ (.app _ _)
  | false =>
    simp (disch := omega) only [WA, ↓reduceIte, reduceEqDiff, reduceAdd, reduceMul, reduceSub, reduceLeDiff, reduceLT, reduceLE, reduceNeg, reduceEq, g, gi]
    exact hQ _ (.app _ _)
end Go.Proofs
