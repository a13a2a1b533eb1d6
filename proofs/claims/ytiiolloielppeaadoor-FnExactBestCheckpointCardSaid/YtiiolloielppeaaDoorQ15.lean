/- Contracts of functions, facts of types, or the plain law behind one statement (own work): Q15. Conditions: those told in each theorem. -/
import Derived.Test.YtiiolloielppeaaDoorQ14
set_option linter.all false
set_option linter.unusedSimpArgs false
set_option linter.unusedVariables false
set_option maxRecDepth 4000
set_option linter.unusedSectionVars false
namespace Go.Proofs
open Go Go.V
/- The best checkpoint. -/
def updM (o : Option (Nat × Int)) (i : Nat) (w : Option Wk) : Option (Nat × Int) :=
  match w with
  | none => o
  | some w => match o with
    | none => some (i, w.steps)
    | some p => if p.2 < w.steps then some (i, w.steps) else some p
def bestM (l : List ByteArray) (t : Int) : Nat → Option (Nat × Int)
  | 0 => none
  | i + 1 => updM (bestM l t i) i ((l[i]?).bind fun s => restM s t)
theorem bestM_ok (l : List ByteArray) (t : Int) : ∀ i, ∀ p, bestM l t i = some p → p.1 < i ∧ 0 ≤ p.2 ∧ p.2 ≤ 10000
  | 0, p, h => by cases h
  | i + 1, p, h => by
    have ih := bestM_ok l t i
    simp only [bestM] at h
    generalize hw : (l[i]?).bind (fun s => restM s t) = w at h
    unfold updM at h
    cases w with
    | none => have := ih p h; omega
    | some w =>
      have hv : 0 ≤ w.steps ∧ w.steps ≤ 10000 := by
        rw [Option.bind_eq_some_iff] at hw
        obtain ⟨s, _, hs⟩ := hw
        exact restM_steps hs
      cases ho : bestM l t i with
      | none => rw [ho] at h; simp only [Option.some.injEq] at h; subst h; exact ⟨by simp, hv⟩
      | some q =>
        rw [ho] at h
        simp only [] at h
        have := ih q ho
        split at h
        · simp only [Option.some.injEq] at h; subst h; exact ⟨by simp, hv⟩
        · simp only [Option.some.injEq] at h; subst h; omega
theorem bestM_side {l : List ByteArray} {t : Int} (h : ¬ (1 ≤ t ∧ t ≤ 3)) : ∀ i, bestM l t i = none
  | 0 => rfl
  | i + 1 => by
    have : ∀ o : Option ByteArray, (o.bind fun s => restM s t) = none := fun o => by
      cases o with
      | none => rfl
      | some s => exact restM_side h
    simp only [bestM, this, updM]
    exact bestM_side h i
def bestR (l : List ByteArray) (t : Int) : Int × Bool :=
  if 10 < l.length then (0, false) else match bestM l t l.length with
    | none => (0, false)
    | some p => (p.1, true)
def spB (o : Option (Nat × Int)) : Int × Int := match o with | none => (0, -1) | some p => (p.1, p.2)
def imB (o : Option (Nat × Int)) : Int × Int := match o with | none => (-1, 0) | some p => (p.1, p.2)
theorem spB_upd {o : Option (Nat × Int)} {i : Nat} {w : Wk} (hw : 0 ≤ w.steps) : spB (updM o i (some w)) = if (spB o).2 < w.steps then ((i : Int), w.steps) else spB o := by
  cases o with
  | none => exact (if_pos (show (spB none).2 < w.steps by show (-1 : Int) < w.steps; omega)).symm
  | some p =>
    by_cases k : p.2 < w.steps
    · rw [show updM (some p) i (some w) = some (i, w.steps) from if_pos k]
      exact (if_pos (show (spB (some p)).2 < w.steps from k)).symm
    · rw [show updM (some p) i (some w) = some p from if_neg k]
      exact (if_neg (show ¬ (spB (some p)).2 < w.steps from k)).symm
theorem imB_upd {o : Option (Nat × Int)} {i : Nat} {w : Wk} : imB (updM o i (some w)) = if (imB o).1 < 0 ∨ (imB o).2 < w.steps then ((i : Int), w.steps) else imB o := by
  cases o with
  | none => exact (if_pos (show (imB none).1 < 0 ∨ (imB none).2 < w.steps from .inl (by decide))).symm
  | some p =>
    have hn : ¬ ((imB (some p)).1 < 0) := by show ¬ ((p.1 : Int) < 0); omega
    by_cases k : p.2 < w.steps
    · rw [show updM (some p) i (some w) = some (i, w.steps) from if_pos k]
      exact (if_pos (show (imB (some p)).1 < 0 ∨ (imB (some p)).2 < w.steps from .inr k)).symm
    · rw [show updM (some p) i (some w) = some p from if_neg k]
      exact (if_neg (show ¬ ((imB (some p)).1 < 0 ∨ (imB (some p)).2 < w.steps) from fun c => c.elim hn k)).symm
theorem BestCheckpoint_s {l : List ByteArray} {v : Value} {t : Int} {h : Heap} {Q : Value → Heap → Prop} (r : Row h l v) (hz : ∀ s ∈ l, s.size ≤ 1000000)
    (hQ : ∀ h', Ext h h' → Q (.tuple #[.int .i64 (bestR l t).1, .bool (bestR l t).2]) h') :
    CallsV Tryd.prog 20 [v, .int .i64 t] h Q := by
  unfold bestR at hQ
  refine CallsV.start Tryd.func20 rfl (by rw [Tryd.results20]) (by kernel_rfl) (by rw [Tryd.ntmps20]; simp) ?_
  have hle := r.le
  by_cases c : (10 : Int) < (l.length : Int)
  · rw [if_pos (by omega)] at hQ
    simp (disch := omega) only [VW, VY, VZ, VA, VB, VC, VE, TY, ↓reduceIte, Nat.reduceEqDiff, Nat.reduceAdd, Nat.reduceMul, Nat.reduceSub, Nat.reduceLeDiff, List.length_cons, List.length_nil, List.length_append, List.append_assoc, List.take_succ_cons, List.take_zero, List.drop_succ_cons, List.drop_zero, List.set_cons_zero, List.set_cons_succ, true_or, or_true, and_self, Bool.false_eq_true, Nat.le_refl, Option.bind_some, Option.map_some, Option.getD_some, Option.isSome_some, List.map_cons, List.map_nil, List.cons_append, List.nil_append, List.append_nil, List.getElem?_cons_zero, List.getElem?_cons_succ, eq_self, Int.reduceLT, Int.reduceLE, Int.reduceNeg, Int.reduceEq, r.isRow.len, c]
    exact hQ _ (.refl _)
  rw [if_neg (by omega)] at hQ
  simp (disch := omega) only [VW, VY, VZ, VA, VB, VC, VE, TY, ↓reduceIte, Nat.reduceEqDiff, Nat.reduceAdd, Nat.reduceMul, Nat.reduceSub, Nat.reduceLeDiff, List.length_cons, List.length_nil, List.length_append, List.append_assoc, List.take_succ_cons, List.take_zero, List.drop_succ_cons, List.drop_zero, List.set_cons_zero, List.set_cons_succ, true_or, or_true, and_self, Bool.false_eq_true, Nat.le_refl, Option.bind_some, Option.map_some, Option.getD_some, Option.isSome_some, List.map_cons, List.map_nil, List.cons_append, List.nil_append, List.append_nil, List.getElem?_cons_zero, List.getElem?_cons_succ, eq_self, Int.reduceLT, Int.reduceLE, Int.reduceNeg, Int.reduceEq, r.isRow.len, c]
  refine loop_rule (fun n e h' => ∃ (i : Nat), e 1 = .int .i64 t ∧ e 6 = .int .i64 (spB (bestM l t i)).1 ∧ e 7 = .int .i64 (spB (bestM l t i)).2 ∧ e 15 = v ∧ e 16 = .int .i64 (l.length : Int) ∧ e 17 = .int .i64 (i : Int) ∧ i ≤ l.length ∧ n = l.length - i ∧ Ext h h') ?_ l.length _ _
    ⟨0, rfl, rfl, rfl, rfl, rfl, rfl, Nat.zero_le _, rfl, .refl h⟩
  rintro n e h' ⟨i, e1, e6, e7, e15, e16, e17, hi, rfl, E⟩
  have hb := bestM_ok l t i
  simp (disch := omega) only [VW, VY, VZ, VA, VB, VC, VE, TY, ↓reduceIte, Nat.reduceEqDiff, Nat.reduceAdd, Nat.reduceMul, Nat.reduceSub, Nat.reduceLeDiff, List.length_cons, List.length_nil, List.length_append, List.append_assoc, List.take_succ_cons, List.take_zero, List.drop_succ_cons, List.drop_zero, List.set_cons_zero, List.set_cons_succ, true_or, or_true, and_self, Bool.false_eq_true, Nat.le_refl, Option.bind_some, Option.map_some, Option.getD_some, Option.isSome_some, List.map_cons, List.map_nil, List.cons_append, List.nil_append, List.append_nil, List.getElem?_cons_zero, List.getElem?_cons_succ, eq_self, Int.reduceLT, Int.reduceLE, Int.reduceNeg, Int.reduceEq, e16, e17]
  by_cases hlt : i < l.length
  · have q1 : (i : Int) < (l.length : Int) := by omega
    obtain ⟨x, hx⟩ := get_some hlt
    have g := (row_str (r.mono E) hx).1
    have hxz := hz x (List.mem_of_getElem? hx)
    have hst : bestM l t (i + 1) = updM (bestM l t i) i (restM x t) := by simp only [bestM, hx, Option.bind_some]
    simp (disch := omega) only [VW, VY, VZ, VA, VB, VC, VE, TY, ↓reduceIte, Nat.reduceEqDiff, Nat.reduceAdd, Nat.reduceMul, Nat.reduceSub, Nat.reduceLeDiff, List.length_cons, List.length_nil, List.length_append, List.append_assoc, List.take_succ_cons, List.take_zero, List.drop_succ_cons, List.drop_zero, List.set_cons_zero, List.set_cons_succ, true_or, or_true, and_self, Bool.false_eq_true, Nat.le_refl, Option.bind_some, Option.map_some, Option.getD_some, Option.isSome_some, List.map_cons, List.map_nil, List.cons_append, List.nil_append, List.append_nil, List.getElem?_cons_zero, List.getElem?_cons_succ, eq_self, Int.reduceLT, Int.reduceLE, Int.reduceNeg, Int.reduceEq, e1, e15, e17, q1, r.isRow.ix, g]
    refine .inl ⟨by kernel_rfl, ?_⟩; refine cpRestore_c hxz fun cs h2 s2 => ?_
    obtain ⟨v1, v2, v3, v4, rfl, r1, r2, r3, r4, f5⟩ := here_Wk s2.here
    have u := s2.newBlk [v1, v2, v3, v4, .int .i64 ((restM x t).getD wkZ).steps] 30 true
    generalize hsa : ((restM x t).getD wkZ).steps = sa at *
    have gw := u.rd
    cases hw : restM x t with
    | none =>
      rw [hw] at hst
      simp only [Option.isSome_none]
      simp (disch := omega) only [VW, VY, VZ, VA, VB, VC, VE, TY, ↓reduceIte, Nat.reduceEqDiff, Nat.reduceAdd, Nat.reduceMul, Nat.reduceSub, Nat.reduceLeDiff, List.length_cons, List.length_nil, List.length_append, List.append_assoc, List.take_succ_cons, List.take_zero, List.drop_succ_cons, List.drop_zero, List.set_cons_zero, List.set_cons_succ, true_or, or_true, and_self, Bool.false_eq_true, Nat.le_refl, Option.bind_some, Option.map_some, Option.getD_some, Option.isSome_some, List.map_cons, List.map_nil, List.cons_append, List.nil_append, List.append_nil, List.getElem?_cons_zero, List.getElem?_cons_succ, eq_self, Int.reduceLT, Int.reduceLE, Int.reduceNeg, Int.reduceEq, e1, e6, e7, e15, e16, e17, wrap_in]
      exact ⟨_, by omega, i + 1, by rw [hst]; rfl, by rw [hst]; rfl, by simp, by omega, rfl, E.trans u.ext⟩
    | some w =>
      rw [hw] at hst hsa
      simp only [Option.getD_some] at hsa
      subst hsa
      have sw := restM_steps hw
      have hup := spB_upd (o := bestM l t i) (i := i) sw.1
      rw [← hst] at hup
      simp only [Option.isSome_some]
      by_cases k : (spB (bestM l t i)).2 < w.steps
      · rw [if_pos k] at hup
        simp (disch := omega) only [VW, VY, VZ, VA, VB, VC, VE, TY, ↓reduceIte, Nat.reduceEqDiff, Nat.reduceAdd, Nat.reduceMul, Nat.reduceSub, Nat.reduceLeDiff, List.length_cons, List.length_nil, List.length_append, List.append_assoc, List.take_succ_cons, List.take_zero, List.drop_succ_cons, List.drop_zero, List.set_cons_zero, List.set_cons_succ, true_or, or_true, and_self, Bool.false_eq_true, Nat.le_refl, Option.bind_some, Option.map_some, Option.getD_some, Option.isSome_some, List.map_cons, List.map_nil, List.cons_append, List.nil_append, List.append_nil, List.getElem?_cons_zero, List.getElem?_cons_succ, eq_self, Int.reduceLT, Int.reduceLE, Int.reduceNeg, Int.reduceEq, gw, e7, k, e1, e6, e15, e16, e17, wrap_in]
        exact ⟨_, by omega, i + 1, by rw [hup], by rw [hup], by simp, by omega, rfl, E.trans u.ext⟩
      · rw [if_neg k] at hup
        simp (disch := omega) only [VW, VY, VZ, VA, VB, VC, VE, TY, ↓reduceIte, Nat.reduceEqDiff, Nat.reduceAdd, Nat.reduceMul, Nat.reduceSub, Nat.reduceLeDiff, List.length_cons, List.length_nil, List.length_append, List.append_assoc, List.take_succ_cons, List.take_zero, List.drop_succ_cons, List.drop_zero, List.set_cons_zero, List.set_cons_succ, true_or, or_true, and_self, Bool.false_eq_true, Nat.le_refl, Option.bind_some, Option.map_some, Option.getD_some, Option.isSome_some, List.map_cons, List.map_nil, List.cons_append, List.nil_append, List.append_nil, List.getElem?_cons_zero, List.getElem?_cons_succ, eq_self, Int.reduceLT, Int.reduceLE, Int.reduceNeg, Int.reduceEq, gw, e7, k, e1, e6, e15, e16, e17, wrap_in]
        exact ⟨_, by omega, i + 1, by rw [hup], by rw [hup], by simp, by omega, rfl, E.trans u.ext⟩
  · obtain rfl : i = l.length := by omega
    have q1 : ¬ (l.length : Int) < (l.length : Int) := by omega
    cases ho : bestM l t l.length with
    | none =>
      rw [ho] at hQ e6 e7
      have e6 : e 6 = .int .i64 0 := e6
      have e7 : e 7 = .int .i64 (-1) := e7
      simp (disch := omega) only [VW, VY, VZ, VA, VB, VC, VE, TY, ↓reduceIte, Nat.reduceEqDiff, Nat.reduceAdd, Nat.reduceMul, Nat.reduceSub, Nat.reduceLeDiff, List.length_cons, List.length_nil, List.length_append, List.append_assoc, List.take_succ_cons, List.take_zero, List.drop_succ_cons, List.drop_zero, List.set_cons_zero, List.set_cons_succ, true_or, or_true, and_self, Bool.false_eq_true, Nat.le_refl, Option.bind_some, Option.map_some, Option.getD_some, Option.isSome_some, List.map_cons, List.map_nil, List.cons_append, List.nil_append, List.append_nil, List.getElem?_cons_zero, List.getElem?_cons_succ, eq_self, Int.reduceLT, Int.reduceLE, Int.reduceNeg, Int.reduceEq, q1, e6, e7]
      exact hQ _ E
    | some p =>
      have hp := hb p ho
      rw [ho] at hQ e6 e7
      have e6 : e 6 = .int .i64 (p.1 : Int) := e6
      have e7 : e 7 = .int .i64 p.2 := e7
      have k : (0 : Int) ≤ p.2 := hp.2.1
      simp (disch := omega) only [VW, VY, VZ, VA, VB, VC, VE, TY, ↓reduceIte, Nat.reduceEqDiff, Nat.reduceAdd, Nat.reduceMul, Nat.reduceSub, Nat.reduceLeDiff, List.length_cons, List.length_nil, List.length_append, List.append_assoc, List.take_succ_cons, List.take_zero, List.drop_succ_cons, List.drop_zero, List.set_cons_zero, List.set_cons_succ, true_or, or_true, and_self, Bool.false_eq_true, Nat.le_refl, Option.bind_some, Option.map_some, Option.getD_some, Option.isSome_some, List.map_cons, List.map_nil, List.cons_append, List.nil_append, List.append_nil, List.getElem?_cons_zero, List.getElem?_cons_succ, eq_self, Int.reduceLT, Int.reduceLE, Int.reduceNeg, Int.reduceEq, q1, e6, e7, k]
      exact hQ _ E
theorem BestCheckpoint_i {l : List ByteArray} {v : Value} {t : Int} {h : Heap} {Q : Value → Heap → Prop} (r : Row h l v) (hz : ∀ s ∈ l, s.size ≤ 1000000)
    (hQ : ∀ h', Ext h h' → Q (.tuple #[.int .i64 (bestR l t).1, .bool (bestR l t).2]) h') :
    CallsV Tryd.prog 22 [v, .int .i64 t] h Q := by
  unfold bestR at hQ
  refine CallsV.start Tryd.func22 rfl (by rw [Tryd.results22]) (by kernel_rfl) (by rw [Tryd.ntmps22]; simp) ?_
  have hle := r.le
  by_cases c : (10 : Int) < (l.length : Int)
  · rw [if_pos (by omega)] at hQ
    simp (disch := omega) only [VW, VY, VZ, VA, VB, VC, VE, TY, ↓reduceIte, Nat.reduceEqDiff, Nat.reduceAdd, Nat.reduceMul, Nat.reduceSub, Nat.reduceLeDiff, List.length_cons, List.length_nil, List.length_append, List.append_assoc, List.take_succ_cons, List.take_zero, List.drop_succ_cons, List.drop_zero, List.set_cons_zero, List.set_cons_succ, true_or, or_true, and_self, Bool.false_eq_true, Nat.le_refl, Option.bind_some, Option.map_some, Option.getD_some, Option.isSome_some, List.map_cons, List.map_nil, List.cons_append, List.nil_append, List.append_nil, List.getElem?_cons_zero, List.getElem?_cons_succ, eq_self, Int.reduceLT, Int.reduceLE, Int.reduceNeg, Int.reduceEq, r.isRow.len, c]
    exact hQ _ (.refl _)
  rw [if_neg (by omega)] at hQ
  simp (disch := omega) only [VW, VY, VZ, VA, VB, VC, VE, TY, ↓reduceIte, Nat.reduceEqDiff, Nat.reduceAdd, Nat.reduceMul, Nat.reduceSub, Nat.reduceLeDiff, List.length_cons, List.length_nil, List.length_append, List.append_assoc, List.take_succ_cons, List.take_zero, List.drop_succ_cons, List.drop_zero, List.set_cons_zero, List.set_cons_succ, true_or, or_true, and_self, Bool.false_eq_true, Nat.le_refl, Option.bind_some, Option.map_some, Option.getD_some, Option.isSome_some, List.map_cons, List.map_nil, List.cons_append, List.nil_append, List.append_nil, List.getElem?_cons_zero, List.getElem?_cons_succ, eq_self, Int.reduceLT, Int.reduceLE, Int.reduceNeg, Int.reduceEq, r.isRow.len, c]
  refine .inl ⟨by kernel_rfl, ?_⟩; refine inside_c ?_
  by_cases cs : ¬ (1 ≤ t ∧ t ≤ 3)
  · have d := decide_eq_false cs
    rw [bestM_side cs] at hQ
    simp (disch := omega) only [VW, VY, VZ, VA, VB, VC, VE, TY, ↓reduceIte, Nat.reduceEqDiff, Nat.reduceAdd, Nat.reduceMul, Nat.reduceSub, Nat.reduceLeDiff, List.length_cons, List.length_nil, List.length_append, List.append_assoc, List.take_succ_cons, List.take_zero, List.drop_succ_cons, List.drop_zero, List.set_cons_zero, List.set_cons_succ, true_or, or_true, and_self, Bool.false_eq_true, Nat.le_refl, Option.bind_some, Option.map_some, Option.getD_some, Option.isSome_some, List.map_cons, List.map_nil, List.cons_append, List.nil_append, List.append_nil, List.getElem?_cons_zero, List.getElem?_cons_succ, eq_self, Int.reduceLT, Int.reduceLE, Int.reduceNeg, Int.reduceEq, d]
    exact hQ _ (.refl _)
  have d := decide_eq_true (Decidable.not_not.1 cs)
  simp (disch := omega) only [VW, VY, VZ, VA, VB, VC, VE, TY, ↓reduceIte, Nat.reduceEqDiff, Nat.reduceAdd, Nat.reduceMul, Nat.reduceSub, Nat.reduceLeDiff, List.length_cons, List.length_nil, List.length_append, List.append_assoc, List.take_succ_cons, List.take_zero, List.drop_succ_cons, List.drop_zero, List.set_cons_zero, List.set_cons_succ, true_or, or_true, and_self, Bool.false_eq_true, Nat.le_refl, Option.bind_some, Option.map_some, Option.getD_some, Option.isSome_some, List.map_cons, List.map_nil, List.cons_append, List.nil_append, List.append_nil, List.getElem?_cons_zero, List.getElem?_cons_succ, eq_self, Int.reduceLT, Int.reduceLE, Int.reduceNeg, Int.reduceEq, d, r.isRow.len]
  refine loop_rule (fun n e h' => ∃ (i : Nat), e 1 = .int .i64 t ∧ e 6 = .int .i64 (imB (bestM l t i)).1 ∧ e 7 = .int .i64 (imB (bestM l t i)).2 ∧ e 20 = v ∧ e 21 = .int .i64 (l.length : Int) ∧ e 22 = .int .i64 (i : Int) ∧ i ≤ l.length ∧ n = l.length - i ∧ Ext h h') ?_ l.length _ _
    ⟨0, rfl, rfl, rfl, rfl, rfl, rfl, Nat.zero_le _, rfl, .refl h⟩
  rintro n e h' ⟨i, e1, e6, e7, e20, e21, e22, hi, rfl, E⟩
  have hb := bestM_ok l t i
  simp (disch := omega) only [VW, VY, VZ, VA, VB, VC, VE, TY, ↓reduceIte, Nat.reduceEqDiff, Nat.reduceAdd, Nat.reduceMul, Nat.reduceSub, Nat.reduceLeDiff, List.length_cons, List.length_nil, List.length_append, List.append_assoc, List.take_succ_cons, List.take_zero, List.drop_succ_cons, List.drop_zero, List.set_cons_zero, List.set_cons_succ, true_or, or_true, and_self, Bool.false_eq_true, Nat.le_refl, Option.bind_some, Option.map_some, Option.getD_some, Option.isSome_some, List.map_cons, List.map_nil, List.cons_append, List.nil_append, List.append_nil, List.getElem?_cons_zero, List.getElem?_cons_succ, eq_self, Int.reduceLT, Int.reduceLE, Int.reduceNeg, Int.reduceEq, e21, e22]
  by_cases hlt : i < l.length
  · have q1 : (i : Int) < (l.length : Int) := by omega
    obtain ⟨x, hx⟩ := get_some hlt
    have g := (row_str (r.mono E) hx).1
    have hxz := hz x (List.mem_of_getElem? hx)
    have hst : bestM l t (i + 1) = updM (bestM l t i) i (restM x t) := by simp only [bestM, hx, Option.bind_some]
    simp (disch := omega) only [VW, VY, VZ, VA, VB, VC, VE, TY, ↓reduceIte, Nat.reduceEqDiff, Nat.reduceAdd, Nat.reduceMul, Nat.reduceSub, Nat.reduceLeDiff, List.length_cons, List.length_nil, List.length_append, List.append_assoc, List.take_succ_cons, List.take_zero, List.drop_succ_cons, List.drop_zero, List.set_cons_zero, List.set_cons_succ, true_or, or_true, and_self, Bool.false_eq_true, Nat.le_refl, Option.bind_some, Option.map_some, Option.getD_some, Option.isSome_some, List.map_cons, List.map_nil, List.cons_append, List.nil_append, List.append_nil, List.getElem?_cons_zero, List.getElem?_cons_succ, eq_self, Int.reduceLT, Int.reduceLE, Int.reduceNeg, Int.reduceEq, e1, e20, e22, q1, r.isRow.ix, g]
    refine .inl ⟨by kernel_rfl, ?_⟩; refine restore_c hxz fun cs h2 s2 => ?_
    obtain ⟨v1, v2, v3, v4, rfl, r1, r2, r3, r4, f5⟩ := here_Wk s2.here
    have u := s2.newBlk [v1, v2, v3, v4, .int .i64 ((restM x t).getD wkZ).steps] 30 true
    generalize hsa : ((restM x t).getD wkZ).steps = sa at *
    have gw := u.rd
    cases hw : restM x t with
    | none =>
      rw [hw] at hst
      simp only [Option.isSome_none]
      simp (disch := omega) only [VW, VY, VZ, VA, VB, VC, VE, TY, ↓reduceIte, Nat.reduceEqDiff, Nat.reduceAdd, Nat.reduceMul, Nat.reduceSub, Nat.reduceLeDiff, List.length_cons, List.length_nil, List.length_append, List.append_assoc, List.take_succ_cons, List.take_zero, List.drop_succ_cons, List.drop_zero, List.set_cons_zero, List.set_cons_succ, true_or, or_true, and_self, Bool.false_eq_true, Nat.le_refl, Option.bind_some, Option.map_some, Option.getD_some, Option.isSome_some, List.map_cons, List.map_nil, List.cons_append, List.nil_append, List.append_nil, List.getElem?_cons_zero, List.getElem?_cons_succ, eq_self, Int.reduceLT, Int.reduceLE, Int.reduceNeg, Int.reduceEq, e1, e6, e7, e20, e21, e22, wrap_in]
      exact ⟨_, by omega, i + 1, by rw [hst]; rfl, by rw [hst]; rfl, by simp, by omega, rfl, E.trans u.ext⟩
    | some w =>
      rw [hw] at hst hsa
      simp only [Option.getD_some] at hsa
      subst hsa
      have hup := imB_upd (o := bestM l t i) (i := i) (w := w)
      rw [← hst] at hup
      simp only [Option.isSome_some]
      by_cases k0 : (imB (bestM l t i)).1 < 0
      · rw [if_pos (.inl k0)] at hup
        simp (disch := omega) only [VW, VY, VZ, VA, VB, VC, VE, TY, ↓reduceIte, Nat.reduceEqDiff, Nat.reduceAdd, Nat.reduceMul, Nat.reduceSub, Nat.reduceLeDiff, List.length_cons, List.length_nil, List.length_append, List.append_assoc, List.take_succ_cons, List.take_zero, List.drop_succ_cons, List.drop_zero, List.set_cons_zero, List.set_cons_succ, true_or, or_true, and_self, Bool.false_eq_true, Nat.le_refl, Option.bind_some, Option.map_some, Option.getD_some, Option.isSome_some, List.map_cons, List.map_nil, List.cons_append, List.nil_append, List.append_nil, List.getElem?_cons_zero, List.getElem?_cons_succ, eq_self, Int.reduceLT, Int.reduceLE, Int.reduceNeg, Int.reduceEq, gw, e6, e7, k0]
        refine draw_ord [0, 1, 2, 3, 4] (by kernel_rfl) (by simp only [List.filterMap_cons, List.filterMap_nil, List.getElem?_cons_zero, List.getElem?_cons_succ]; rfl) ?_
        simp (disch := omega) only [VW, VY, VZ, VA, VB, VC, VE, TY, ↓reduceIte, Nat.reduceEqDiff, Nat.reduceAdd, Nat.reduceMul, Nat.reduceSub, Nat.reduceLeDiff, List.length_cons, List.length_nil, List.length_append, List.append_assoc, List.take_succ_cons, List.take_zero, List.drop_succ_cons, List.drop_zero, List.set_cons_zero, List.set_cons_succ, true_or, or_true, and_self, Bool.false_eq_true, Nat.le_refl, Option.bind_some, Option.map_some, Option.getD_some, Option.isSome_some, List.map_cons, List.map_nil, List.cons_append, List.nil_append, List.append_nil, List.getElem?_cons_zero, List.getElem?_cons_succ, eq_self, Int.reduceLT, Int.reduceLE, Int.reduceNeg, Int.reduceEq, gw]
        simp (disch := omega) only [VW, VY, VZ, VA, VB, VC, VE, TY, ↓reduceIte, Nat.reduceEqDiff, Nat.reduceAdd, Nat.reduceMul, Nat.reduceSub, Nat.reduceLeDiff, List.length_cons, List.length_nil, List.length_append, List.append_assoc, List.take_succ_cons, List.take_zero, List.drop_succ_cons, List.drop_zero, List.set_cons_zero, List.set_cons_succ, true_or, or_true, and_self, Bool.false_eq_true, Nat.le_refl, Option.bind_some, Option.map_some, Option.getD_some, Option.isSome_some, List.map_cons, List.map_nil, List.cons_append, List.nil_append, List.append_nil, List.getElem?_cons_zero, List.getElem?_cons_succ, eq_self, Int.reduceLT, Int.reduceLE, Int.reduceNeg, Int.reduceEq, e1, e6, e7, e20, e21, e22, wrap_in]
        exact ⟨_, by omega, i + 1, by rw [hup], by rw [hup], by simp, by omega, rfl, E.trans u.ext⟩
      · by_cases k : (imB (bestM l t i)).2 < w.steps
        · rw [if_pos (.inr k)] at hup
          simp (disch := omega) only [VW, VY, VZ, VA, VB, VC, VE, TY, ↓reduceIte, Nat.reduceEqDiff, Nat.reduceAdd, Nat.reduceMul, Nat.reduceSub, Nat.reduceLeDiff, List.length_cons, List.length_nil, List.length_append, List.append_assoc, List.take_succ_cons, List.take_zero, List.drop_succ_cons, List.drop_zero, List.set_cons_zero, List.set_cons_succ, true_or, or_true, and_self, Bool.false_eq_true, Nat.le_refl, Option.bind_some, Option.map_some, Option.getD_some, Option.isSome_some, List.map_cons, List.map_nil, List.cons_append, List.nil_append, List.append_nil, List.getElem?_cons_zero, List.getElem?_cons_succ, eq_self, Int.reduceLT, Int.reduceLE, Int.reduceNeg, Int.reduceEq, gw, e6, e7, k0, k]
          refine draw_ord [0, 1, 2, 3, 4] (by kernel_rfl) (by simp only [List.filterMap_cons, List.filterMap_nil, List.getElem?_cons_zero, List.getElem?_cons_succ]; rfl) ?_
          simp (disch := omega) only [VW, VY, VZ, VA, VB, VC, VE, TY, ↓reduceIte, Nat.reduceEqDiff, Nat.reduceAdd, Nat.reduceMul, Nat.reduceSub, Nat.reduceLeDiff, List.length_cons, List.length_nil, List.length_append, List.append_assoc, List.take_succ_cons, List.take_zero, List.drop_succ_cons, List.drop_zero, List.set_cons_zero, List.set_cons_succ, true_or, or_true, and_self, Bool.false_eq_true, Nat.le_refl, Option.bind_some, Option.map_some, Option.getD_some, Option.isSome_some, List.map_cons, List.map_nil, List.cons_append, List.nil_append, List.append_nil, List.getElem?_cons_zero, List.getElem?_cons_succ, eq_self, Int.reduceLT, Int.reduceLE, Int.reduceNeg, Int.reduceEq, gw]
          simp (disch := omega) only [VW, VY, VZ, VA, VB, VC, VE, TY, ↓reduceIte, Nat.reduceEqDiff, Nat.reduceAdd, Nat.reduceMul, Nat.reduceSub, Nat.reduceLeDiff, List.length_cons, List.length_nil, List.length_append, List.append_assoc, List.take_succ_cons, List.take_zero, List.drop_succ_cons, List.drop_zero, List.set_cons_zero, List.set_cons_succ, true_or, or_true, and_self, Bool.false_eq_true, Nat.le_refl, Option.bind_some, Option.map_some, Option.getD_some, Option.isSome_some, List.map_cons, List.map_nil, List.cons_append, List.nil_append, List.append_nil, List.getElem?_cons_zero, List.getElem?_cons_succ, eq_self, Int.reduceLT, Int.reduceLE, Int.reduceNeg, Int.reduceEq, e1, e6, e7, e20, e21, e22, wrap_in]
          exact ⟨_, by omega, i + 1, by rw [hup], by rw [hup], by simp, by omega, rfl, E.trans u.ext⟩
        · rw [if_neg (by rintro (a | a) <;> contradiction)] at hup
          simp (disch := omega) only [VW, VY, VZ, VA, VB, VC, VE, TY, ↓reduceIte, Nat.reduceEqDiff, Nat.reduceAdd, Nat.reduceMul, Nat.reduceSub, Nat.reduceLeDiff, List.length_cons, List.length_nil, List.length_append, List.append_assoc, List.take_succ_cons, List.take_zero, List.drop_succ_cons, List.drop_zero, List.set_cons_zero, List.set_cons_succ, true_or, or_true, and_self, Bool.false_eq_true, Nat.le_refl, Option.bind_some, Option.map_some, Option.getD_some, Option.isSome_some, List.map_cons, List.map_nil, List.cons_append, List.nil_append, List.append_nil, List.getElem?_cons_zero, List.getElem?_cons_succ, eq_self, Int.reduceLT, Int.reduceLE, Int.reduceNeg, Int.reduceEq, gw, e6, e7, k0, k, e1, e20, e21, e22, wrap_in]
          exact ⟨_, by omega, i + 1, by rw [hup], by rw [hup], by simp, by omega, rfl, E.trans u.ext⟩
  · obtain rfl : i = l.length := by omega
    have q1 : ¬ (l.length : Int) < (l.length : Int) := by omega
    cases ho : bestM l t l.length with
    | none =>
      rw [ho] at hQ e6 e7
      have e6 : e 6 = .int .i64 (-1) := e6
      simp (disch := omega) only [VW, VY, VZ, VA, VB, VC, VE, TY, ↓reduceIte, Nat.reduceEqDiff, Nat.reduceAdd, Nat.reduceMul, Nat.reduceSub, Nat.reduceLeDiff, List.length_cons, List.length_nil, List.length_append, List.append_assoc, List.take_succ_cons, List.take_zero, List.drop_succ_cons, List.drop_zero, List.set_cons_zero, List.set_cons_succ, true_or, or_true, and_self, Bool.false_eq_true, Nat.le_refl, Option.bind_some, Option.map_some, Option.getD_some, Option.isSome_some, List.map_cons, List.map_nil, List.cons_append, List.nil_append, List.append_nil, List.getElem?_cons_zero, List.getElem?_cons_succ, eq_self, Int.reduceLT, Int.reduceLE, Int.reduceNeg, Int.reduceEq, q1, e6]
      exact hQ _ E
    | some p =>
      rw [ho] at hQ e6 e7
      have e6 : e 6 = .int .i64 (p.1 : Int) := e6
      have k : (0 : Int) ≤ (p.1 : Int) := by omega
      have m1 : max (p.1 : Int) 0 = (p.1 : Int) := by omega
      simp (disch := omega) only [VW, VY, VZ, VA, VB, VC, VE, TY, ↓reduceIte, Nat.reduceEqDiff, Nat.reduceAdd, Nat.reduceMul, Nat.reduceSub, Nat.reduceLeDiff, List.length_cons, List.length_nil, List.length_append, List.append_assoc, List.take_succ_cons, List.take_zero, List.drop_succ_cons, List.drop_zero, List.set_cons_zero, List.set_cons_succ, true_or, or_true, and_self, Bool.false_eq_true, Nat.le_refl, Option.bind_some, Option.map_some, Option.getD_some, Option.isSome_some, List.map_cons, List.map_nil, List.cons_append, List.nil_append, List.append_nil, List.getElem?_cons_zero, List.getElem?_cons_succ, eq_self, Int.reduceLT, Int.reduceLE, Int.reduceNeg, Int.reduceEq, q1, e6, k, m1]
      exact hQ _ E
end Go.Proofs
