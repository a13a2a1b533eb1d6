/- Contracts of functions, facts of types, or the plain law behind one statement (own work): C4. Conditions: those told in each theorem. -/
import Derived.Test.YtcmkfkgcbllijaaC3
set_option linter.all false
set_option linter.unusedSimpArgs false
namespace Go.Proofs
open Go Go.V

/-- Is a node valid? -/
def okM (s : Int) (x : Nd) : Bool :=
  if x.kind = 0 then decide (0 ≤ x.num ∧ x.num ≤ s - 1) else if x.kind = 1 ∨ x.kind = 2 then decide (0 ≤ x.num ∧ x.num ≤ 99) else if x.kind = 3 then decide (x.num = 0) else false

theorem isNode_c {x : Nd} {s : Int} {h : Heap} {Q : Value → Heap → Prop} (hs : 1 ≤ s ∧ s ≤ 3) (hQ : ∀ h', Ext h h' → Q (.bool (okM s x)) h') :
    CallsV Try.prog 66 [.agg #[.int .i64 x.kind, .int .i64 x.num], .int .i64 s] h Q := by
  refine CallsV.start Try.func66 rfl (by rw [Try.results66]) (by kernel_rfl) (by rw [Try.ntmps66]; simp) ?_
  unfold okM at hQ
  simp (disch := omega) only [VW, VY, VZ, TY, ↓reduceIte, Nat.reduceEqDiff, Nat.reduceAdd, Nat.reduceMul, Nat.reduceSub, Nat.reduceLeDiff, List.length_cons, List.length_nil, List.length_append, List.append_assoc, List.take_succ_cons, List.take_zero, List.drop_succ_cons, List.drop_zero, List.set_cons_zero, List.set_cons_succ, true_or, or_true, and_self, Bool.false_eq_true, Nat.le_refl, Option.bind_some, Option.map_some, Option.getD_some, Option.isSome_some, List.map_cons, List.map_nil, List.cons_append, List.nil_append, List.append_nil, List.getElem?_cons_zero, List.getElem?_cons_succ, eq_self, Int.reduceLT, Int.reduceLE, Int.reduceNeg, Int.reduceEq]
  by_cases h0 : x.kind = 0
  · simp (disch := omega) only [VW, VY, VZ, TY, ↓reduceIte, Nat.reduceEqDiff, Nat.reduceAdd, Nat.reduceMul, Nat.reduceSub, Nat.reduceLeDiff, List.length_cons, List.length_nil, List.length_append, List.append_assoc, List.take_succ_cons, List.take_zero, List.drop_succ_cons, List.drop_zero, List.set_cons_zero, List.set_cons_succ, true_or, or_true, and_self, Bool.false_eq_true, Nat.le_refl, Option.bind_some, Option.map_some, Option.getD_some, Option.isSome_some, List.map_cons, List.map_nil, List.cons_append, List.nil_append, List.append_nil, List.getElem?_cons_zero, List.getElem?_cons_succ, eq_self, Int.reduceLT, Int.reduceLE, Int.reduceNeg, Int.reduceEq, h0, wrap_in]
    refine .inl ⟨by kernel_rfl, ?_⟩; refine inside_c ?_
    simp (disch := omega) only [VW, VY, VZ, TY, ↓reduceIte, Nat.reduceEqDiff, Nat.reduceAdd, Nat.reduceMul, Nat.reduceSub, Nat.reduceLeDiff, List.length_cons, List.length_nil, List.length_append, List.append_assoc, List.take_succ_cons, List.take_zero, List.drop_succ_cons, List.drop_zero, List.set_cons_zero, List.set_cons_succ, true_or, or_true, and_self, Bool.false_eq_true, Nat.le_refl, Option.bind_some, Option.map_some, Option.getD_some, Option.isSome_some, List.map_cons, List.map_nil, List.cons_append, List.nil_append, List.append_nil, List.getElem?_cons_zero, List.getElem?_cons_succ, eq_self, Int.reduceLT, Int.reduceLE, Int.reduceNeg, Int.reduceEq]
    simpa [h0] using hQ _ (.app _ _)
  · simp (disch := omega) only [VW, VY, VZ, TY, ↓reduceIte, Nat.reduceEqDiff, Nat.reduceAdd, Nat.reduceMul, Nat.reduceSub, Nat.reduceLeDiff, List.length_cons, List.length_nil, List.length_append, List.append_assoc, List.take_succ_cons, List.take_zero, List.drop_succ_cons, List.drop_zero, List.set_cons_zero, List.set_cons_succ, true_or, or_true, and_self, Bool.false_eq_true, Nat.le_refl, Option.bind_some, Option.map_some, Option.getD_some, Option.isSome_some, List.map_cons, List.map_nil, List.cons_append, List.nil_append, List.append_nil, List.getElem?_cons_zero, List.getElem?_cons_succ, eq_self, Int.reduceLT, Int.reduceLE, Int.reduceNeg, Int.reduceEq, h0]
    by_cases h1 : x.kind = 1
    · simp (disch := omega) only [VW, VY, VZ, TY, ↓reduceIte, Nat.reduceEqDiff, Nat.reduceAdd, Nat.reduceMul, Nat.reduceSub, Nat.reduceLeDiff, List.length_cons, List.length_nil, List.length_append, List.append_assoc, List.take_succ_cons, List.take_zero, List.drop_succ_cons, List.drop_zero, List.set_cons_zero, List.set_cons_succ, true_or, or_true, and_self, Bool.false_eq_true, Nat.le_refl, Option.bind_some, Option.map_some, Option.getD_some, Option.isSome_some, List.map_cons, List.map_nil, List.cons_append, List.nil_append, List.append_nil, List.getElem?_cons_zero, List.getElem?_cons_succ, eq_self, Int.reduceLT, Int.reduceLE, Int.reduceNeg, Int.reduceEq, h1]
      refine .inl ⟨by kernel_rfl, ?_⟩; refine inside_c ?_
      simp (disch := omega) only [VW, VY, VZ, TY, ↓reduceIte, Nat.reduceEqDiff, Nat.reduceAdd, Nat.reduceMul, Nat.reduceSub, Nat.reduceLeDiff, List.length_cons, List.length_nil, List.length_append, List.append_assoc, List.take_succ_cons, List.take_zero, List.drop_succ_cons, List.drop_zero, List.set_cons_zero, List.set_cons_succ, true_or, or_true, and_self, Bool.false_eq_true, Nat.le_refl, Option.bind_some, Option.map_some, Option.getD_some, Option.isSome_some, List.map_cons, List.map_nil, List.cons_append, List.nil_append, List.append_nil, List.getElem?_cons_zero, List.getElem?_cons_succ, eq_self, Int.reduceLT, Int.reduceLE, Int.reduceNeg, Int.reduceEq]
      simpa [h0, h1] using hQ _ (.app _ _)
    · simp (disch := omega) only [VW, VY, VZ, TY, ↓reduceIte, Nat.reduceEqDiff, Nat.reduceAdd, Nat.reduceMul, Nat.reduceSub, Nat.reduceLeDiff, List.length_cons, List.length_nil, List.length_append, List.append_assoc, List.take_succ_cons, List.take_zero, List.drop_succ_cons, List.drop_zero, List.set_cons_zero, List.set_cons_succ, true_or, or_true, and_self, Bool.false_eq_true, Nat.le_refl, Option.bind_some, Option.map_some, Option.getD_some, Option.isSome_some, List.map_cons, List.map_nil, List.cons_append, List.nil_append, List.append_nil, List.getElem?_cons_zero, List.getElem?_cons_succ, eq_self, Int.reduceLT, Int.reduceLE, Int.reduceNeg, Int.reduceEq, h1]
      by_cases h2 : x.kind = 2
      · simp (disch := omega) only [VW, VY, VZ, TY, ↓reduceIte, Nat.reduceEqDiff, Nat.reduceAdd, Nat.reduceMul, Nat.reduceSub, Nat.reduceLeDiff, List.length_cons, List.length_nil, List.length_append, List.append_assoc, List.take_succ_cons, List.take_zero, List.drop_succ_cons, List.drop_zero, List.set_cons_zero, List.set_cons_succ, true_or, or_true, and_self, Bool.false_eq_true, Nat.le_refl, Option.bind_some, Option.map_some, Option.getD_some, Option.isSome_some, List.map_cons, List.map_nil, List.cons_append, List.nil_append, List.append_nil, List.getElem?_cons_zero, List.getElem?_cons_succ, eq_self, Int.reduceLT, Int.reduceLE, Int.reduceNeg, Int.reduceEq, h2]
        refine .inl ⟨by kernel_rfl, ?_⟩; refine inside_c ?_
        simp (disch := omega) only [VW, VY, VZ, TY, ↓reduceIte, Nat.reduceEqDiff, Nat.reduceAdd, Nat.reduceMul, Nat.reduceSub, Nat.reduceLeDiff, List.length_cons, List.length_nil, List.length_append, List.append_assoc, List.take_succ_cons, List.take_zero, List.drop_succ_cons, List.drop_zero, List.set_cons_zero, List.set_cons_succ, true_or, or_true, and_self, Bool.false_eq_true, Nat.le_refl, Option.bind_some, Option.map_some, Option.getD_some, Option.isSome_some, List.map_cons, List.map_nil, List.cons_append, List.nil_append, List.append_nil, List.getElem?_cons_zero, List.getElem?_cons_succ, eq_self, Int.reduceLT, Int.reduceLE, Int.reduceNeg, Int.reduceEq]
        simpa [h0, h1, h2] using hQ _ (.app _ _)
      · simp (disch := omega) only [VW, VY, VZ, TY, ↓reduceIte, Nat.reduceEqDiff, Nat.reduceAdd, Nat.reduceMul, Nat.reduceSub, Nat.reduceLeDiff, List.length_cons, List.length_nil, List.length_append, List.append_assoc, List.take_succ_cons, List.take_zero, List.drop_succ_cons, List.drop_zero, List.set_cons_zero, List.set_cons_succ, true_or, or_true, and_self, Bool.false_eq_true, Nat.le_refl, Option.bind_some, Option.map_some, Option.getD_some, Option.isSome_some, List.map_cons, List.map_nil, List.cons_append, List.nil_append, List.append_nil, List.getElem?_cons_zero, List.getElem?_cons_succ, eq_self, Int.reduceLT, Int.reduceLE, Int.reduceNeg, Int.reduceEq, h2]
        by_cases h3 : x.kind = 3
        · simp (disch := omega) only [VW, VY, VZ, TY, ↓reduceIte, Nat.reduceEqDiff, Nat.reduceAdd, Nat.reduceMul, Nat.reduceSub, Nat.reduceLeDiff, List.length_cons, List.length_nil, List.length_append, List.append_assoc, List.take_succ_cons, List.take_zero, List.drop_succ_cons, List.drop_zero, List.set_cons_zero, List.set_cons_succ, true_or, or_true, and_self, Bool.false_eq_true, Nat.le_refl, Option.bind_some, Option.map_some, Option.getD_some, Option.isSome_some, List.map_cons, List.map_nil, List.cons_append, List.nil_append, List.append_nil, List.getElem?_cons_zero, List.getElem?_cons_succ, eq_self, Int.reduceLT, Int.reduceLE, Int.reduceNeg, Int.reduceEq, h3]
          simpa [h0, h1, h2, h3] using hQ _ (.app _ _)
        · simp (disch := omega) only [VW, VY, VZ, TY, ↓reduceIte, Nat.reduceEqDiff, Nat.reduceAdd, Nat.reduceMul, Nat.reduceSub, Nat.reduceLeDiff, List.length_cons, List.length_nil, List.length_append, List.append_assoc, List.take_succ_cons, List.take_zero, List.drop_succ_cons, List.drop_zero, List.set_cons_zero, List.set_cons_succ, true_or, or_true, and_self, Bool.false_eq_true, Nat.le_refl, Option.bind_some, Option.map_some, Option.getD_some, Option.isSome_some, List.map_cons, List.map_nil, List.cons_append, List.nil_append, List.append_nil, List.getElem?_cons_zero, List.getElem?_cons_succ, eq_self, Int.reduceLT, Int.reduceLE, Int.reduceNeg, Int.reduceEq, h3]
          simpa [h0, h1, h2, h3] using hQ _ (.app _ _)

/-- The tree at the front, f more levels allowed: what lies behind. -/
def prsM (s : Int) : Nat → List Nd → Option (List Nd)
  | 0, _ => none
  | _ + 1, [] => none
  | f + 1, x :: l => if okM s x then (if x.kind = 0 then (prsM s f l).bind (prsM s f) else some l) else none

theorem prs_drop {s : Int} : ∀ {f : Nat} {l r : List Nd}, prsM s f l = some r → r.length < l.length ∧ l.drop (l.length - r.length) = r := by
  intro f
  induction f with
  | zero => intro l r h; simp [prsM] at h
  | succ f ih =>
    intro l r h
    cases l with
    | nil => simp [prsM] at h
    | cons x l =>
      simp only [prsM] at h
      split at h
      · split at h
        · obtain ⟨m, h1, h2⟩ := Option.bind_eq_some_iff.1 h
          obtain ⟨a1, a2⟩ := ih h1
          obtain ⟨b1, b2⟩ := ih h2
          refine ⟨by simp; omega, ?_⟩
          have : (x :: l).length - r.length = (l.length - m.length) + (m.length - r.length) + 1 := by simp; omega
          rw [this, List.drop_succ_cons, ← List.drop_drop, a2, b2]
        · simp only [Option.some.injEq] at h; subst h
          refine ⟨by simp, ?_⟩
          have : (x :: l).length - l.length = 1 := by simp
          rw [this]; rfl
      · simp at h

theorem trEnd_c {l : List Nd} {s : Int} {v : Value} (hn : l.length ≤ 1000000) (hs : 1 ≤ s ∧ s ≤ 3) : ∀ (f d at' : Nat) (h : Heap) (Q : Value → Heap → Prop), Row h l v → d + f = 21 → at' ≤ l.length →
    (∀ h', Ext h h' → Q (.int .i64 (endR l.length (prsM s f (l.drop at')))) h') → CallsV Try.prog 64 [v, .int .i64 s, .int .i64 at', .int .i64 d] h Q := by
  intro f
  induction f with
  | zero =>
    intro d at' h Q hl hd ha hQ
    refine CallsV.start Try.func64 rfl (by rw [Try.results64]) (by kernel_rfl) (by rw [Try.ntmps64]; simp) ?_
    obtain rfl : d = 21 := by omega
    simp only [prsM, endR] at hQ
    by_cases c : l.length ≤ at'
    · have c1 : (l.length : Int) ≤ (at' : Int) := by omega
      simp (disch := omega) only [VW, VY, VZ, TY, ↓reduceIte, Nat.reduceEqDiff, Nat.reduceAdd, Nat.reduceMul, Nat.reduceSub, Nat.reduceLeDiff, List.length_cons, List.length_nil, List.length_append, List.append_assoc, List.take_succ_cons, List.take_zero, List.drop_succ_cons, List.drop_zero, List.set_cons_zero, List.set_cons_succ, true_or, or_true, and_self, Bool.false_eq_true, Nat.le_refl, Option.bind_some, Option.map_some, Option.getD_some, Option.isSome_some, List.map_cons, List.map_nil, List.cons_append, List.nil_append, List.append_nil, List.getElem?_cons_zero, List.getElem?_cons_succ, eq_self, Int.reduceLT, Int.reduceLE, Int.reduceNeg, Int.reduceEq, hl.isRow.len, c1]
      exact hQ _ (.refl _)
    · have c1 : ¬ (l.length : Int) ≤ (at' : Int) := by omega
      have c2 : (20 : Int) < ((21 : Nat) : Int) := by omega
      simp (disch := omega) only [VW, VY, VZ, TY, ↓reduceIte, Nat.reduceEqDiff, Nat.reduceAdd, Nat.reduceMul, Nat.reduceSub, Nat.reduceLeDiff, List.length_cons, List.length_nil, List.length_append, List.append_assoc, List.take_succ_cons, List.take_zero, List.drop_succ_cons, List.drop_zero, List.set_cons_zero, List.set_cons_succ, true_or, or_true, and_self, Bool.false_eq_true, Nat.le_refl, Option.bind_some, Option.map_some, Option.getD_some, Option.isSome_some, List.map_cons, List.map_nil, List.cons_append, List.nil_append, List.append_nil, List.getElem?_cons_zero, List.getElem?_cons_succ, eq_self, Int.reduceLT, Int.reduceLE, Int.reduceNeg, Int.reduceEq, hl.isRow.len, c1, c2]
      exact hQ _ (.refl _)
  | succ f ih =>
    intro d at' h Q hl hd ha hQ
    refine CallsV.start Try.func64 rfl (by rw [Try.results64]) (by kernel_rfl) (by rw [Try.ntmps64]; simp) ?_
    by_cases c : l.length ≤ at'
    · have c1 : (l.length : Int) ≤ (at' : Int) := by omega
      simp (disch := omega) only [VW, VY, VZ, TY, ↓reduceIte, Nat.reduceEqDiff, Nat.reduceAdd, Nat.reduceMul, Nat.reduceSub, Nat.reduceLeDiff, List.length_cons, List.length_nil, List.length_append, List.append_assoc, List.take_succ_cons, List.take_zero, List.drop_succ_cons, List.drop_zero, List.set_cons_zero, List.set_cons_succ, true_or, or_true, and_self, Bool.false_eq_true, Nat.le_refl, Option.bind_some, Option.map_some, Option.getD_some, Option.isSome_some, List.map_cons, List.map_nil, List.cons_append, List.nil_append, List.append_nil, List.getElem?_cons_zero, List.getElem?_cons_succ, eq_self, Int.reduceLT, Int.reduceLE, Int.reduceNeg, Int.reduceEq, hl.isRow.len, c1]
      have : l.drop at' = [] := List.drop_eq_nil_of_le c
      rw [this] at hQ
      exact hQ _ (.refl _)
    · obtain ⟨x, hx⟩ := get_some (show at' < l.length by omega)
      have c1 : ¬ (l.length : Int) ≤ (at' : Int) := by omega
      have c2 : ¬ (20 : Int) < (d : Int) := by omega
      obtain ⟨_, _, x3, x4, x5⟩ := row_Nd hl hx
      rw [drop_cons hx] at hQ
      simp only [prsM] at hQ
      simp (disch := omega) only [VW, VY, VZ, TY, ↓reduceIte, Nat.reduceEqDiff, Nat.reduceAdd, Nat.reduceMul, Nat.reduceSub, Nat.reduceLeDiff, List.length_cons, List.length_nil, List.length_append, List.append_assoc, List.take_succ_cons, List.take_zero, List.drop_succ_cons, List.drop_zero, List.set_cons_zero, List.set_cons_succ, true_or, or_true, and_self, Bool.false_eq_true, Nat.le_refl, Option.bind_some, Option.map_some, Option.getD_some, Option.isSome_some, List.map_cons, List.map_nil, List.cons_append, List.nil_append, List.append_nil, List.getElem?_cons_zero, List.getElem?_cons_succ, eq_self, Int.reduceLT, Int.reduceLE, Int.reduceNeg, Int.reduceEq, hl.isRow.len, hl.isRow.ix, c1, c2, x3]
      by_cases h0 : x.kind = 0
      · simp (disch := omega) only [VW, VY, VZ, TY, ↓reduceIte, Nat.reduceEqDiff, Nat.reduceAdd, Nat.reduceMul, Nat.reduceSub, Nat.reduceLeDiff, List.length_cons, List.length_nil, List.length_append, List.append_assoc, List.take_succ_cons, List.take_zero, List.drop_succ_cons, List.drop_zero, List.set_cons_zero, List.set_cons_succ, true_or, or_true, and_self, Bool.false_eq_true, Nat.le_refl, Option.bind_some, Option.map_some, Option.getD_some, Option.isSome_some, List.map_cons, List.map_nil, List.cons_append, List.nil_append, List.append_nil, List.getElem?_cons_zero, List.getElem?_cons_succ, eq_self, Int.reduceLT, Int.reduceLE, Int.reduceNeg, Int.reduceEq, h0, wrap_in]
        refine .inl ⟨by kernel_rfl, ?_⟩; refine l1In_c ?_
        by_cases ho : okM s x = true
        · have ho' : 0 ≤ x.num ∧ x.num ≤ s - 1 := by simpa [okM, h0] using ho
          simp (disch := omega) only [VW, VY, VZ, TY, ↓reduceIte, Nat.reduceEqDiff, Nat.reduceAdd, Nat.reduceMul, Nat.reduceSub, Nat.reduceLeDiff, List.length_cons, List.length_nil, List.length_append, List.append_assoc, List.take_succ_cons, List.take_zero, List.drop_succ_cons, List.drop_zero, List.set_cons_zero, List.set_cons_succ, true_or, or_true, and_self, Bool.false_eq_true, Nat.le_refl, Option.bind_some, Option.map_some, Option.getD_some, Option.isSome_some, List.map_cons, List.map_nil, List.cons_append, List.nil_append, List.append_nil, List.getElem?_cons_zero, List.getElem?_cons_succ, eq_self, Int.reduceLT, Int.reduceLE, Int.reduceNeg, Int.reduceEq, decide_eq_true ho', wrap_in]
          have e1 : (at' : Int) + 1 = ((at' + 1 : Nat) : Int) := by omega
          have e2 : (d : Int) + 1 = ((d + 1 : Nat) : Int) := by omega
          rw [e1, e2]
          refine .inl ⟨by kernel_rfl, ?_⟩; refine ih (d + 1) (at' + 1) _ _ (hl.mono (.app _ _)) (by omega) (by omega) fun h2 E2 => ?_
          rw [if_pos ho, if_pos h0] at hQ
          cases hp : prsM s f (l.drop (at' + 1)) with
          | none =>
            rw [hp] at hQ
            simp only [endR]
            simp (disch := omega) only [VW, VY, VZ, TY, ↓reduceIte, Nat.reduceEqDiff, Nat.reduceAdd, Nat.reduceMul, Nat.reduceSub, Nat.reduceLeDiff, List.length_cons, List.length_nil, List.length_append, List.append_assoc, List.take_succ_cons, List.take_zero, List.drop_succ_cons, List.drop_zero, List.set_cons_zero, List.set_cons_succ, true_or, or_true, and_self, Bool.false_eq_true, Nat.le_refl, Option.bind_some, Option.map_some, Option.getD_some, Option.isSome_some, List.map_cons, List.map_nil, List.cons_append, List.nil_append, List.append_nil, List.getElem?_cons_zero, List.getElem?_cons_succ, eq_self, Int.reduceLT, Int.reduceLE, Int.reduceNeg, Int.reduceEq]
            exact hQ _ (.trans (.app _ _) E2)
          | some r =>
            rw [hp] at hQ
            obtain ⟨r1, r2⟩ := prs_drop hp
            have r3 := List.length_drop (l := l) (i := at' + 1)
            simp only [endR]
            have c3 : ¬ (l.length : Int) - (r.length : Int) < 0 := by omega
            simp (disch := omega) only [VW, VY, VZ, TY, ↓reduceIte, Nat.reduceEqDiff, Nat.reduceAdd, Nat.reduceMul, Nat.reduceSub, Nat.reduceLeDiff, List.length_cons, List.length_nil, List.length_append, List.append_assoc, List.take_succ_cons, List.take_zero, List.drop_succ_cons, List.drop_zero, List.set_cons_zero, List.set_cons_succ, true_or, or_true, and_self, Bool.false_eq_true, Nat.le_refl, Option.bind_some, Option.map_some, Option.getD_some, Option.isSome_some, List.map_cons, List.map_nil, List.cons_append, List.nil_append, List.append_nil, List.getElem?_cons_zero, List.getElem?_cons_succ, eq_self, Int.reduceLT, Int.reduceLE, Int.reduceNeg, Int.reduceEq, c3, wrap_in]
            have e3 : (l.length : Int) - (r.length : Int) = ((l.length - r.length : Nat) : Int) := by omega
            rw [e2, e3]
            have e4 : l.drop (l.length - r.length) = r := by
              rw [List.drop_drop, r3] at r2
              rw [← r2]
              simp only [List.length_drop] at r3 ⊢
              congr 1; omega
            refine .inl ⟨by kernel_rfl, ?_⟩; refine ih (d + 1) (l.length - r.length) _ _ (hl.mono (.trans (.app _ _) E2)) (by omega) (by omega) fun h3 E3 => ?_
            rw [e4]
            simp (disch := omega) only [VW, VY, VZ, TY, ↓reduceIte, Nat.reduceEqDiff, Nat.reduceAdd, Nat.reduceMul, Nat.reduceSub, Nat.reduceLeDiff, List.length_cons, List.length_nil, List.length_append, List.append_assoc, List.take_succ_cons, List.take_zero, List.drop_succ_cons, List.drop_zero, List.set_cons_zero, List.set_cons_succ, true_or, or_true, and_self, Bool.false_eq_true, Nat.le_refl, Option.bind_some, Option.map_some, Option.getD_some, Option.isSome_some, List.map_cons, List.map_nil, List.cons_append, List.nil_append, List.append_nil, List.getElem?_cons_zero, List.getElem?_cons_succ, eq_self, Int.reduceLT, Int.reduceLE, Int.reduceNeg, Int.reduceEq]
            exact hQ _ (.trans (.trans (.app _ _) E2) E3)
        · have ho' : ¬ (0 ≤ x.num ∧ x.num ≤ s - 1) := by simpa [okM, h0] using ho
          simp (disch := omega) only [VW, VY, VZ, TY, ↓reduceIte, Nat.reduceEqDiff, Nat.reduceAdd, Nat.reduceMul, Nat.reduceSub, Nat.reduceLeDiff, List.length_cons, List.length_nil, List.length_append, List.append_assoc, List.take_succ_cons, List.take_zero, List.drop_succ_cons, List.drop_zero, List.set_cons_zero, List.set_cons_succ, true_or, or_true, and_self, Bool.false_eq_true, Nat.le_refl, Option.bind_some, Option.map_some, Option.getD_some, Option.isSome_some, List.map_cons, List.map_nil, List.cons_append, List.nil_append, List.append_nil, List.getElem?_cons_zero, List.getElem?_cons_succ, eq_self, Int.reduceLT, Int.reduceLE, Int.reduceNeg, Int.reduceEq, decide_eq_false ho']
          rw [if_neg ho] at hQ
          exact hQ _ (.app _ _)
      · simp (disch := omega) only [VW, VY, VZ, TY, ↓reduceIte, Nat.reduceEqDiff, Nat.reduceAdd, Nat.reduceMul, Nat.reduceSub, Nat.reduceLeDiff, List.length_cons, List.length_nil, List.length_append, List.append_assoc, List.take_succ_cons, List.take_zero, List.drop_succ_cons, List.drop_zero, List.set_cons_zero, List.set_cons_succ, true_or, or_true, and_self, Bool.false_eq_true, Nat.le_refl, Option.bind_some, Option.map_some, Option.getD_some, Option.isSome_some, List.map_cons, List.map_nil, List.cons_append, List.nil_append, List.append_nil, List.getElem?_cons_zero, List.getElem?_cons_succ, eq_self, Int.reduceLT, Int.reduceLE, Int.reduceNeg, Int.reduceEq, h0]
        by_cases h12 : x.kind = 1 ∨ x.kind = 2
        · have fin : ∀ (h' : Heap), Ext h h' → Q (.int .i64 (if 0 ≤ x.num ∧ x.num ≤ 99 then (at' : Int) + 1 else -1)) h' := by
            intro h' E'
            have := hQ h' E'
            have hk : okM s x = decide (0 ≤ x.num ∧ x.num ≤ 99) := by simp [okM, h0, h12]
            rw [hk, if_neg h0] at this
            by_cases hr : 0 ≤ x.num ∧ x.num ≤ 99
            · simp only [decide_eq_true hr, if_true, endR, List.length_drop] at this
              rw [if_pos hr]
              have e : (l.length : Int) - ((l.length - (at' + 1) : Nat) : Int) = (at' : Int) + 1 := by omega
              rwa [e] at this
            · rw [if_neg hr]
              simpa [decide_eq_false hr, endR] using this
          have tail : ∀ b : Bool, b = decide (0 ≤ x.num ∧ x.num ≤ 99) → True := fun _ _ => trivial
          by_cases h1 : x.kind = 1
          · simp (disch := omega) only [VW, VY, VZ, TY, ↓reduceIte, Nat.reduceEqDiff, Nat.reduceAdd, Nat.reduceMul, Nat.reduceSub, Nat.reduceLeDiff, List.length_cons, List.length_nil, List.length_append, List.append_assoc, List.take_succ_cons, List.take_zero, List.drop_succ_cons, List.drop_zero, List.set_cons_zero, List.set_cons_succ, true_or, or_true, and_self, Bool.false_eq_true, Nat.le_refl, Option.bind_some, Option.map_some, Option.getD_some, Option.isSome_some, List.map_cons, List.map_nil, List.cons_append, List.nil_append, List.append_nil, List.getElem?_cons_zero, List.getElem?_cons_succ, eq_self, Int.reduceLT, Int.reduceLE, Int.reduceNeg, Int.reduceEq, h1]
            refine .inl ⟨by kernel_rfl, ?_⟩; refine l1In_c ?_
            by_cases hr : 0 ≤ x.num ∧ x.num ≤ 99
            · simp (disch := omega) only [VW, VY, VZ, TY, ↓reduceIte, Nat.reduceEqDiff, Nat.reduceAdd, Nat.reduceMul, Nat.reduceSub, Nat.reduceLeDiff, List.length_cons, List.length_nil, List.length_append, List.append_assoc, List.take_succ_cons, List.take_zero, List.drop_succ_cons, List.drop_zero, List.set_cons_zero, List.set_cons_succ, true_or, or_true, and_self, Bool.false_eq_true, Nat.le_refl, Option.bind_some, Option.map_some, Option.getD_some, Option.isSome_some, List.map_cons, List.map_nil, List.cons_append, List.nil_append, List.append_nil, List.getElem?_cons_zero, List.getElem?_cons_succ, eq_self, Int.reduceLT, Int.reduceLE, Int.reduceNeg, Int.reduceEq, decide_eq_true hr, wrap_in]
              simpa [hr] using fin _ (.app _ _)
            · simp (disch := omega) only [VW, VY, VZ, TY, ↓reduceIte, Nat.reduceEqDiff, Nat.reduceAdd, Nat.reduceMul, Nat.reduceSub, Nat.reduceLeDiff, List.length_cons, List.length_nil, List.length_append, List.append_assoc, List.take_succ_cons, List.take_zero, List.drop_succ_cons, List.drop_zero, List.set_cons_zero, List.set_cons_succ, true_or, or_true, and_self, Bool.false_eq_true, Nat.le_refl, Option.bind_some, Option.map_some, Option.getD_some, Option.isSome_some, List.map_cons, List.map_nil, List.cons_append, List.nil_append, List.append_nil, List.getElem?_cons_zero, List.getElem?_cons_succ, eq_self, Int.reduceLT, Int.reduceLE, Int.reduceNeg, Int.reduceEq, decide_eq_false hr]
              simpa [hr] using fin _ (.app _ _)
          · have h2 : x.kind = 2 := by omega
            simp (disch := omega) only [VW, VY, VZ, TY, ↓reduceIte, Nat.reduceEqDiff, Nat.reduceAdd, Nat.reduceMul, Nat.reduceSub, Nat.reduceLeDiff, List.length_cons, List.length_nil, List.length_append, List.append_assoc, List.take_succ_cons, List.take_zero, List.drop_succ_cons, List.drop_zero, List.set_cons_zero, List.set_cons_succ, true_or, or_true, and_self, Bool.false_eq_true, Nat.le_refl, Option.bind_some, Option.map_some, Option.getD_some, Option.isSome_some, List.map_cons, List.map_nil, List.cons_append, List.nil_append, List.append_nil, List.getElem?_cons_zero, List.getElem?_cons_succ, eq_self, Int.reduceLT, Int.reduceLE, Int.reduceNeg, Int.reduceEq, h1, h2]
            refine .inl ⟨by kernel_rfl, ?_⟩; refine l1In_c ?_
            by_cases hr : 0 ≤ x.num ∧ x.num ≤ 99
            · simp (disch := omega) only [VW, VY, VZ, TY, ↓reduceIte, Nat.reduceEqDiff, Nat.reduceAdd, Nat.reduceMul, Nat.reduceSub, Nat.reduceLeDiff, List.length_cons, List.length_nil, List.length_append, List.append_assoc, List.take_succ_cons, List.take_zero, List.drop_succ_cons, List.drop_zero, List.set_cons_zero, List.set_cons_succ, true_or, or_true, and_self, Bool.false_eq_true, Nat.le_refl, Option.bind_some, Option.map_some, Option.getD_some, Option.isSome_some, List.map_cons, List.map_nil, List.cons_append, List.nil_append, List.append_nil, List.getElem?_cons_zero, List.getElem?_cons_succ, eq_self, Int.reduceLT, Int.reduceLE, Int.reduceNeg, Int.reduceEq, decide_eq_true hr, wrap_in]
              simpa [hr] using fin _ (.app _ _)
            · simp (disch := omega) only [VW, VY, VZ, TY, ↓reduceIte, Nat.reduceEqDiff, Nat.reduceAdd, Nat.reduceMul, Nat.reduceSub, Nat.reduceLeDiff, List.length_cons, List.length_nil, List.length_append, List.append_assoc, List.take_succ_cons, List.take_zero, List.drop_succ_cons, List.drop_zero, List.set_cons_zero, List.set_cons_succ, true_or, or_true, and_self, Bool.false_eq_true, Nat.le_refl, Option.bind_some, Option.map_some, Option.getD_some, Option.isSome_some, List.map_cons, List.map_nil, List.cons_append, List.nil_append, List.append_nil, List.getElem?_cons_zero, List.getElem?_cons_succ, eq_self, Int.reduceLT, Int.reduceLE, Int.reduceNeg, Int.reduceEq, decide_eq_false hr]
              simpa [hr] using fin _ (.app _ _)
        · have h1 : ¬ x.kind = 1 := fun e => h12 (.inl e)
          have h2 : ¬ x.kind = 2 := fun e => h12 (.inr e)
          simp (disch := omega) only [VW, VY, VZ, TY, ↓reduceIte, Nat.reduceEqDiff, Nat.reduceAdd, Nat.reduceMul, Nat.reduceSub, Nat.reduceLeDiff, List.length_cons, List.length_nil, List.length_append, List.append_assoc, List.take_succ_cons, List.take_zero, List.drop_succ_cons, List.drop_zero, List.set_cons_zero, List.set_cons_succ, true_or, or_true, and_self, Bool.false_eq_true, Nat.le_refl, Option.bind_some, Option.map_some, Option.getD_some, Option.isSome_some, List.map_cons, List.map_nil, List.cons_append, List.nil_append, List.append_nil, List.getElem?_cons_zero, List.getElem?_cons_succ, eq_self, Int.reduceLT, Int.reduceLE, Int.reduceNeg, Int.reduceEq, h1, h2]
          by_cases h3 : x.kind = 3
          · simp (disch := omega) only [VW, VY, VZ, TY, ↓reduceIte, Nat.reduceEqDiff, Nat.reduceAdd, Nat.reduceMul, Nat.reduceSub, Nat.reduceLeDiff, List.length_cons, List.length_nil, List.length_append, List.append_assoc, List.take_succ_cons, List.take_zero, List.drop_succ_cons, List.drop_zero, List.set_cons_zero, List.set_cons_succ, true_or, or_true, and_self, Bool.false_eq_true, Nat.le_refl, Option.bind_some, Option.map_some, Option.getD_some, Option.isSome_some, List.map_cons, List.map_nil, List.cons_append, List.nil_append, List.append_nil, List.getElem?_cons_zero, List.getElem?_cons_succ, eq_self, Int.reduceLT, Int.reduceLE, Int.reduceNeg, Int.reduceEq, h3]
            by_cases hz : x.num = 0
            · simp (disch := omega) only [VW, VY, VZ, TY, ↓reduceIte, Nat.reduceEqDiff, Nat.reduceAdd, Nat.reduceMul, Nat.reduceSub, Nat.reduceLeDiff, List.length_cons, List.length_nil, List.length_append, List.append_assoc, List.take_succ_cons, List.take_zero, List.drop_succ_cons, List.drop_zero, List.set_cons_zero, List.set_cons_succ, true_or, or_true, and_self, Bool.false_eq_true, Nat.le_refl, Option.bind_some, Option.map_some, Option.getD_some, Option.isSome_some, List.map_cons, List.map_nil, List.cons_append, List.nil_append, List.append_nil, List.getElem?_cons_zero, List.getElem?_cons_succ, eq_self, Int.reduceLT, Int.reduceLE, Int.reduceNeg, Int.reduceEq, hz, wrap_in]
              have := hQ (h ++ [some ⟨[.int .i64 3, .int .i64 0], 61, false, true⟩]) (.app _ _)
              have hk : okM s x = true := by simp [okM, h3, hz]
              rw [if_pos hk, if_neg h0] at this
              simp only [endR, List.length_drop] at this
              have e : (l.length : Int) - ((l.length - (at' + 1) : Nat) : Int) = (at' : Int) + 1 := by omega
              rw [e] at this
              exact this
            · simp (disch := omega) only [VW, VY, VZ, TY, ↓reduceIte, Nat.reduceEqDiff, Nat.reduceAdd, Nat.reduceMul, Nat.reduceSub, Nat.reduceLeDiff, List.length_cons, List.length_nil, List.length_append, List.append_assoc, List.take_succ_cons, List.take_zero, List.drop_succ_cons, List.drop_zero, List.set_cons_zero, List.set_cons_succ, true_or, or_true, and_self, Bool.false_eq_true, Nat.le_refl, Option.bind_some, Option.map_some, Option.getD_some, Option.isSome_some, List.map_cons, List.map_nil, List.cons_append, List.nil_append, List.append_nil, List.getElem?_cons_zero, List.getElem?_cons_succ, eq_self, Int.reduceLT, Int.reduceLE, Int.reduceNeg, Int.reduceEq, hz]
              have := hQ _ (.app _ [some ⟨[.int .i64 3, .int .i64 x.num], 61, false, true⟩])
              simpa [okM, h0, h1, h2, h3, hz, endR] using this
          · simp (disch := omega) only [VW, VY, VZ, TY, ↓reduceIte, Nat.reduceEqDiff, Nat.reduceAdd, Nat.reduceMul, Nat.reduceSub, Nat.reduceLeDiff, List.length_cons, List.length_nil, List.length_append, List.append_assoc, List.take_succ_cons, List.take_zero, List.drop_succ_cons, List.drop_zero, List.set_cons_zero, List.set_cons_succ, true_or, or_true, and_self, Bool.false_eq_true, Nat.le_refl, Option.bind_some, Option.map_some, Option.getD_some, Option.isSome_some, List.map_cons, List.map_nil, List.cons_append, List.nil_append, List.append_nil, List.getElem?_cons_zero, List.getElem?_cons_succ, eq_self, Int.reduceLT, Int.reduceLE, Int.reduceNeg, Int.reduceEq, h3]
            have := hQ _ (.app _ [some ⟨[.int .i64 x.kind, .int .i64 x.num], 61, false, true⟩])
            simpa [okM, h0, h1, h2, h3, endR] using this
end Go.Proofs
