/- Contracts of functions, facts of types, or the plain law behind one statement (own work): Q14. Conditions: those told in each theorem. -/
import Derived.Test.YtiiolloielppeaaGreatDoorQ13
set_option linter.all false
set_option linter.unusedSimpArgs false
set_option linter.unusedVariables false
set_option maxRecDepth 4000
set_option linter.unusedSectionVars false
namespace Go.Proofs
open Go Go.V
def restM (s : ByteArray) (t : Int) : Option Wk := if (openM s).2 = true then workI (openM s).1.data.toList t else none
theorem openM_size {s : ByteArray} (h : s.size ≤ 1000000) : (openM s).1.size ≤ 1000000 := by
  unfold openM
  split
  · exact Nat.zero_le _
  · split
    · simp only [ByteArray.size_extract]; omega
    · exact Nat.zero_le _
theorem restM_valid {s : ByteArray} {t : Int} {w : Wk} (h : restM s t = some w) : workM w t = true := by
  unfold restM at h
  split at h
  · exact (workI_some h).1
  · cases h
theorem restM_steps {s : ByteArray} {t : Int} {w : Wk} (h : restM s t = some w) : 0 ≤ w.steps ∧ w.steps ≤ 10000 := work_steps (restM_valid h)
theorem restM_side {s : ByteArray} {t : Int} (h : ¬ (1 ≤ t ∧ t ≤ 3)) : restM s t = none := by
  cases hr : restM s t with
  | none => rfl
  | some w => exact absurd (work_sides (restM_valid hr)) h
theorem restore_c {s : ByteArray} {t : Int} {h : Heap} {Q : Value → Heap → Prop} (hs : s.size ≤ 1000000)
    (hQ : ∀ cs h', Sep h h' [repA ((restM s t).getD wkZ) cs] → Q (.tuple #[.agg cs.toArray, .bool (restM s t).isSome]) h') :
    CallsV Tryz.prog 11 [.string s, .int .i64 t] h Q := by
  unfold restM at hQ
  refine CallsV.start Tryz.func11 rfl (by rw [Tryz.results11]) (by kernel_rfl) (by rw [Tryz.ntmps11]; simp) ?_
  have hz := openM_size hs
  have u := Sep.blk1 h [.slice none 0 0, .slice none 0 0, .slice none 0 0, .slice none 0 0, .int .i64 0] 24 true
  simp (disch := omega) only [VW, VY, VZ, VA, VB, VC, VE, TY, ↓reduceIte, Nat.reduceEqDiff, Nat.reduceAdd, Nat.reduceMul, Nat.reduceSub, Nat.reduceLeDiff, List.length_cons, List.length_nil, List.length_append, List.append_assoc, List.take_succ_cons, List.take_zero, List.drop_succ_cons, List.drop_zero, List.set_cons_zero, List.set_cons_succ, true_or, or_true, and_self, Bool.false_eq_true, Nat.le_refl, Option.bind_some, Option.map_some, Option.getD_some, Option.isSome_some, List.map_cons, List.map_nil, List.cons_append, List.nil_append, List.append_nil, List.getElem?_cons_zero, List.getElem?_cons_succ, eq_self, Int.reduceLT, Int.reduceLE, Int.reduceNeg, Int.reduceEq]
  refine .inl ⟨by kernel_rfl, ?_⟩; refine openText_c hs fun h1 E1 => ?_
  have u := u.mono E1
  cases ho : (openM s).2 with
  | false =>
    rw [ho, if_neg (by decide)] at hQ
    simp (disch := omega) only [VW, VY, VZ, VA, VB, VC, VE, TY, ↓reduceIte, Nat.reduceEqDiff, Nat.reduceAdd, Nat.reduceMul, Nat.reduceSub, Nat.reduceLeDiff, List.length_cons, List.length_nil, List.length_append, List.append_assoc, List.take_succ_cons, List.take_zero, List.drop_succ_cons, List.drop_zero, List.set_cons_zero, List.set_cons_succ, true_or, or_true, and_self, Bool.false_eq_true, Nat.le_refl, Option.bind_some, Option.map_some, Option.getD_some, Option.isSome_some, List.map_cons, List.map_nil, List.cons_append, List.nil_append, List.append_nil, List.getElem?_cons_zero, List.getElem?_cons_succ, eq_self, Int.reduceLT, Int.reduceLE, Int.reduceNeg, Int.reduceEq]
    refine sep_store u (by simp) fun h3 u => ?_
    have u := u.as (ds := [.slice none 0 0, .slice none 0 0, .slice none 0 0, .slice none 0 0, .int .i64 0]) (by simp [t_put])
    have gz := u.rdAll (n := 5) rfl
    simp (disch := omega) only [VW, VY, VZ, VA, VB, VC, VE, TY, ↓reduceIte, Nat.reduceEqDiff, Nat.reduceAdd, Nat.reduceMul, Nat.reduceSub, Nat.reduceLeDiff, List.length_cons, List.length_nil, List.length_append, List.append_assoc, List.take_succ_cons, List.take_zero, List.drop_succ_cons, List.drop_zero, List.set_cons_zero, List.set_cons_succ, true_or, or_true, and_self, Bool.false_eq_true, Nat.le_refl, Option.bind_some, Option.map_some, Option.getD_some, Option.isSome_some, List.map_cons, List.map_nil, List.cons_append, List.nil_append, List.append_nil, List.getElem?_cons_zero, List.getElem?_cons_succ, eq_self, Int.reduceLT, Int.reduceLE, Int.reduceNeg, Int.reduceEq, gz]
    exact hQ _ _ (wk_zero u).head
  | true =>
    rw [ho, if_pos rfl] at hQ
    simp (disch := omega) only [VW, VY, VZ, VA, VB, VC, VE, TY, ↓reduceIte, Nat.reduceEqDiff, Nat.reduceAdd, Nat.reduceMul, Nat.reduceSub, Nat.reduceLeDiff, List.length_cons, List.length_nil, List.length_append, List.append_assoc, List.take_succ_cons, List.take_zero, List.drop_succ_cons, List.drop_zero, List.set_cons_zero, List.set_cons_succ, true_or, or_true, and_self, Bool.false_eq_true, Nat.le_refl, Option.bind_some, Option.map_some, Option.getD_some, Option.isSome_some, List.map_cons, List.map_nil, List.cons_append, List.nil_append, List.append_nil, List.getElem?_cons_zero, List.getElem?_cons_succ, eq_self, Int.reduceLT, Int.reduceLE, Int.reduceNeg, Int.reduceEq]
    refine .inl ⟨by kernel_rfl, ?_⟩; refine parseWork_c hz fun cs h2 s2 => ?_
    have hl := Here.len s2.here
    rw [Wk.sz] at hl
    have tk : cs.take 5 = cs := List.take_of_length_le (Nat.le_of_eq hl)
    have u := u.add s2
    simp (disch := omega) only [VW, VY, VZ, VA, VB, VC, VE, TY, ↓reduceIte, Nat.reduceEqDiff, Nat.reduceAdd, Nat.reduceMul, Nat.reduceSub, Nat.reduceLeDiff, List.length_cons, List.length_nil, List.length_append, List.append_assoc, List.take_succ_cons, List.take_zero, List.drop_succ_cons, List.drop_zero, List.set_cons_zero, List.set_cons_succ, true_or, or_true, and_self, Bool.false_eq_true, Nat.le_refl, Option.bind_some, Option.map_some, Option.getD_some, Option.isSome_some, List.map_cons, List.map_nil, List.cons_append, List.nil_append, List.append_nil, List.getElem?_cons_zero, List.getElem?_cons_succ, eq_self, Int.reduceLT, Int.reduceLE, Int.reduceNeg, Int.reduceEq, hl, tk]
    refine sep_store (u.pull 1 rfl) (by simp [hl]) fun h3 u => ?_
    have u := u.as (ds := cs) (by simp [t_put, hl])
    have gz := u.rdAll (n := 5) hl.symm
    simp (disch := omega) only [VW, VY, VZ, VA, VB, VC, VE, TY, ↓reduceIte, Nat.reduceEqDiff, Nat.reduceAdd, Nat.reduceMul, Nat.reduceSub, Nat.reduceLeDiff, List.length_cons, List.length_nil, List.length_append, List.append_assoc, List.take_succ_cons, List.take_zero, List.drop_succ_cons, List.drop_zero, List.set_cons_zero, List.set_cons_succ, true_or, or_true, and_self, Bool.false_eq_true, Nat.le_refl, Option.bind_some, Option.map_some, Option.getD_some, Option.isSome_some, List.map_cons, List.map_nil, List.cons_append, List.nil_append, List.append_nil, List.getElem?_cons_zero, List.getElem?_cons_succ, eq_self, Int.reduceLT, Int.reduceLE, Int.reduceNeg, Int.reduceEq, gz, hl, tk]
    exact hQ _ _ u.tail.head
theorem cpRestore_c {s : ByteArray} {t : Int} {h : Heap} {Q : Value → Heap → Prop} (hs : s.size ≤ 1000000)
    (hQ : ∀ cs h', Sep h h' [repA ((restM s t).getD wkZ) cs] → Q (.tuple #[.agg cs.toArray, .bool (restM s t).isSome]) h') :
    CallsV Tryz.prog 9 [.string s, .int .i64 t] h Q := by
  unfold restM at hQ
  refine CallsV.start Tryz.func9 rfl (by rw [Tryz.results9]) (by kernel_rfl) (by rw [Tryz.ntmps9]; simp) ?_
  have hz := openM_size hs
  have u := Sep.blk1 h [.slice none 0 0, .slice none 0 0, .slice none 0 0, .slice none 0 0, .int .i64 0] 24 true
  simp (disch := omega) only [VW, VY, VZ, VA, VB, VC, VE, TY, ↓reduceIte, Nat.reduceEqDiff, Nat.reduceAdd, Nat.reduceMul, Nat.reduceSub, Nat.reduceLeDiff, List.length_cons, List.length_nil, List.length_append, List.append_assoc, List.take_succ_cons, List.take_zero, List.drop_succ_cons, List.drop_zero, List.set_cons_zero, List.set_cons_succ, true_or, or_true, and_self, Bool.false_eq_true, Nat.le_refl, Option.bind_some, Option.map_some, Option.getD_some, Option.isSome_some, List.map_cons, List.map_nil, List.cons_append, List.nil_append, List.append_nil, List.getElem?_cons_zero, List.getElem?_cons_succ, eq_self, Int.reduceLT, Int.reduceLE, Int.reduceNeg, Int.reduceEq]
  refine .inl ⟨by kernel_rfl, ?_⟩; refine cpOpen_c hs fun h1 E1 => ?_
  have u := u.mono E1
  cases ho : (openM s).2 with
  | false =>
    rw [ho, if_neg (by decide)] at hQ
    simp (disch := omega) only [VW, VY, VZ, VA, VB, VC, VE, TY, ↓reduceIte, Nat.reduceEqDiff, Nat.reduceAdd, Nat.reduceMul, Nat.reduceSub, Nat.reduceLeDiff, List.length_cons, List.length_nil, List.length_append, List.append_assoc, List.take_succ_cons, List.take_zero, List.drop_succ_cons, List.drop_zero, List.set_cons_zero, List.set_cons_succ, true_or, or_true, and_self, Bool.false_eq_true, Nat.le_refl, Option.bind_some, Option.map_some, Option.getD_some, Option.isSome_some, List.map_cons, List.map_nil, List.cons_append, List.nil_append, List.append_nil, List.getElem?_cons_zero, List.getElem?_cons_succ, eq_self, Int.reduceLT, Int.reduceLE, Int.reduceNeg, Int.reduceEq]
    refine sep_store u (by simp) fun h3 u => ?_
    have u := u.as (ds := [.slice none 0 0, .slice none 0 0, .slice none 0 0, .slice none 0 0, .int .i64 0]) (by simp [t_put])
    have gz := u.rdAll (n := 5) rfl
    simp (disch := omega) only [VW, VY, VZ, VA, VB, VC, VE, TY, ↓reduceIte, Nat.reduceEqDiff, Nat.reduceAdd, Nat.reduceMul, Nat.reduceSub, Nat.reduceLeDiff, List.length_cons, List.length_nil, List.length_append, List.append_assoc, List.take_succ_cons, List.take_zero, List.drop_succ_cons, List.drop_zero, List.set_cons_zero, List.set_cons_succ, true_or, or_true, and_self, Bool.false_eq_true, Nat.le_refl, Option.bind_some, Option.map_some, Option.getD_some, Option.isSome_some, List.map_cons, List.map_nil, List.cons_append, List.nil_append, List.append_nil, List.getElem?_cons_zero, List.getElem?_cons_succ, eq_self, Int.reduceLT, Int.reduceLE, Int.reduceNeg, Int.reduceEq, gz]
    exact hQ _ _ (wk_zero u).head
  | true =>
    rw [ho, if_pos rfl] at hQ
    simp (disch := omega) only [VW, VY, VZ, VA, VB, VC, VE, TY, ↓reduceIte, Nat.reduceEqDiff, Nat.reduceAdd, Nat.reduceMul, Nat.reduceSub, Nat.reduceLeDiff, List.length_cons, List.length_nil, List.length_append, List.append_assoc, List.take_succ_cons, List.take_zero, List.drop_succ_cons, List.drop_zero, List.set_cons_zero, List.set_cons_succ, true_or, or_true, and_self, Bool.false_eq_true, Nat.le_refl, Option.bind_some, Option.map_some, Option.getD_some, Option.isSome_some, List.map_cons, List.map_nil, List.cons_append, List.nil_append, List.append_nil, List.getElem?_cons_zero, List.getElem?_cons_succ, eq_self, Int.reduceLT, Int.reduceLE, Int.reduceNeg, Int.reduceEq]
    refine .inl ⟨by kernel_rfl, ?_⟩; refine cpParse_c hz fun cs h2 s2 => ?_
    have hl := Here.len s2.here
    rw [Wk.sz] at hl
    have tk : cs.take 5 = cs := List.take_of_length_le (Nat.le_of_eq hl)
    have u := u.add s2
    simp (disch := omega) only [VW, VY, VZ, VA, VB, VC, VE, TY, ↓reduceIte, Nat.reduceEqDiff, Nat.reduceAdd, Nat.reduceMul, Nat.reduceSub, Nat.reduceLeDiff, List.length_cons, List.length_nil, List.length_append, List.append_assoc, List.take_succ_cons, List.take_zero, List.drop_succ_cons, List.drop_zero, List.set_cons_zero, List.set_cons_succ, true_or, or_true, and_self, Bool.false_eq_true, Nat.le_refl, Option.bind_some, Option.map_some, Option.getD_some, Option.isSome_some, List.map_cons, List.map_nil, List.cons_append, List.nil_append, List.append_nil, List.getElem?_cons_zero, List.getElem?_cons_succ, eq_self, Int.reduceLT, Int.reduceLE, Int.reduceNeg, Int.reduceEq, hl, tk]
    refine sep_store (u.pull 1 rfl) (by simp [hl]) fun h3 u => ?_
    have u := u.as (ds := cs) (by simp [t_put, hl])
    have gz := u.rdAll (n := 5) hl.symm
    simp (disch := omega) only [VW, VY, VZ, VA, VB, VC, VE, TY, ↓reduceIte, Nat.reduceEqDiff, Nat.reduceAdd, Nat.reduceMul, Nat.reduceSub, Nat.reduceLeDiff, List.length_cons, List.length_nil, List.length_append, List.append_assoc, List.take_succ_cons, List.take_zero, List.drop_succ_cons, List.drop_zero, List.set_cons_zero, List.set_cons_succ, true_or, or_true, and_self, Bool.false_eq_true, Nat.le_refl, Option.bind_some, Option.map_some, Option.getD_some, Option.isSome_some, List.map_cons, List.map_nil, List.cons_append, List.nil_append, List.append_nil, List.getElem?_cons_zero, List.getElem?_cons_succ, eq_self, Int.reduceLT, Int.reduceLE, Int.reduceNeg, Int.reduceEq, gz, hl, tk]
    exact hQ _ _ u.tail.head
/- Steps between two checkpoints. -/
def betweenM (a b : ByteArray) (t : Int) : Int × Bool :=
  match restM a t, restM b t with
  | some v, some w => if w.steps < v.steps then (0, false) else (w.steps - v.steps, true)
  | _, _ => (0, false)
end Go.Proofs
