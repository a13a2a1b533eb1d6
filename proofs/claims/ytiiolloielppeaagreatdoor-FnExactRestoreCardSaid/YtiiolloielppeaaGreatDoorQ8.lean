/- Contracts of functions, facts of types, or the plain law behind one statement (own work): Q8. Conditions: those told in each theorem. -/
import Derived.Test.YtiiolloielppeaaGreatDoorQ7
set_option linter.all false
set_option linter.unusedSimpArgs false
set_option linter.unusedVariables false
set_option maxRecDepth 4000
set_option linter.unusedSectionVars false
namespace Go.Proofs
open Go Go.V
theorem sIndex_c {l : List ByteArray} {v : Value} {x : ByteArray} {h : Heap} {Q : Value → Heap → Prop} (r : Row h l v)
    (hQ : ∀ i : Int, ((i = -1 ∧ ∀ y ∈ l, y ≠ x) ∨ (∃ k : Nat, i = k ∧ l[k]? = some x)) → Q (.int .i64 i) h) :
    CallsV Tryz.prog 37 [v, .string x] h Q := by
  refine CallsV.start Tryz.func37 rfl (by rw [Tryz.results37]) (by kernel_rfl) (by rw [Tryz.ntmps37]; simp) ?_
  have hle := r.le
  simp (disch := omega) only [VW, VY, VZ, VA, VB, VC, VE, TY, ↓reduceIte, Nat.reduceEqDiff, Nat.reduceAdd, Nat.reduceMul, Nat.reduceSub, Nat.reduceLeDiff, List.length_cons, List.length_nil, List.length_append, List.append_assoc, List.take_succ_cons, List.take_zero, List.drop_succ_cons, List.drop_zero, List.set_cons_zero, List.set_cons_succ, true_or, or_true, and_self, Bool.false_eq_true, Nat.le_refl, Option.bind_some, Option.map_some, Option.getD_some, Option.isSome_some, List.map_cons, List.map_nil, List.cons_append, List.nil_append, List.append_nil, List.getElem?_cons_zero, List.getElem?_cons_succ, eq_self, Int.reduceLT, Int.reduceLE, Int.reduceNeg, Int.reduceEq, r.isRow.len]
  refine loop_rule (fun n e h' => ∃ (i : Nat), e 0 = v ∧ e 1 = .string x ∧ e 7 = .int .i64 l.length ∧ e 8 = .int .i64 (i : Int) ∧ i ≤ l.length ∧ n = l.length - i ∧ h' = h ∧ ∀ y ∈ l.take i, y ≠ x) ?_ l.length _ _
    ⟨0, rfl, rfl, rfl, rfl, Nat.zero_le _, rfl, rfl, by simp⟩
  rintro n e h' ⟨i, e0, e1, e7, e8, hi, rfl, rfl, hno⟩
  simp (disch := omega) only [VW, VY, VZ, VA, VB, VC, VE, TY, ↓reduceIte, Nat.reduceEqDiff, Nat.reduceAdd, Nat.reduceMul, Nat.reduceSub, Nat.reduceLeDiff, List.length_cons, List.length_nil, List.length_append, List.append_assoc, List.take_succ_cons, List.take_zero, List.drop_succ_cons, List.drop_zero, List.set_cons_zero, List.set_cons_succ, true_or, or_true, and_self, Bool.false_eq_true, Nat.le_refl, Option.bind_some, Option.map_some, Option.getD_some, Option.isSome_some, List.map_cons, List.map_nil, List.cons_append, List.nil_append, List.append_nil, List.getElem?_cons_zero, List.getElem?_cons_succ, eq_self, Int.reduceLT, Int.reduceLE, Int.reduceNeg, Int.reduceEq, e7, e8]
  by_cases hlt : i < l.length
  · have q1 : (i : Int) < (l.length : Int) := by omega
    obtain ⟨y, hy⟩ := get_some hlt
    have g := (row_str r hy).1
    by_cases k : x = y
    · subst k
      have hQ := hQ (i : Int) (.inr ⟨i, rfl, hy⟩)
      simp (disch := omega) only [VW, VY, VZ, VA, VB, VC, VE, TY, ↓reduceIte, Nat.reduceEqDiff, Nat.reduceAdd, Nat.reduceMul, Nat.reduceSub, Nat.reduceLeDiff, List.length_cons, List.length_nil, List.length_append, List.append_assoc, List.take_succ_cons, List.take_zero, List.drop_succ_cons, List.drop_zero, List.set_cons_zero, List.set_cons_succ, true_or, or_true, and_self, Bool.false_eq_true, Nat.le_refl, Option.bind_some, Option.map_some, Option.getD_some, Option.isSome_some, List.map_cons, List.map_nil, List.cons_append, List.nil_append, List.append_nil, List.getElem?_cons_zero, List.getElem?_cons_succ, eq_self, Int.reduceLT, Int.reduceLE, Int.reduceNeg, Int.reduceEq, e0, e1, e8, q1, r.isRow.ix, g]
      exact hQ
    · simp (disch := omega) only [VW, VY, VZ, VA, VB, VC, VE, TY, ↓reduceIte, Nat.reduceEqDiff, Nat.reduceAdd, Nat.reduceMul, Nat.reduceSub, Nat.reduceLeDiff, List.length_cons, List.length_nil, List.length_append, List.append_assoc, List.take_succ_cons, List.take_zero, List.drop_succ_cons, List.drop_zero, List.set_cons_zero, List.set_cons_succ, true_or, or_true, and_self, Bool.false_eq_true, Nat.le_refl, Option.bind_some, Option.map_some, Option.getD_some, Option.isSome_some, List.map_cons, List.map_nil, List.cons_append, List.nil_append, List.append_nil, List.getElem?_cons_zero, List.getElem?_cons_succ, eq_self, Int.reduceLT, Int.reduceLE, Int.reduceNeg, Int.reduceEq, e0, e1, e8, q1, r.isRow.ix, g, k]
      simp (disch := omega) only [VW, VY, VZ, VA, VB, VC, VE, TY, ↓reduceIte, Nat.reduceEqDiff, Nat.reduceAdd, Nat.reduceMul, Nat.reduceSub, Nat.reduceLeDiff, List.length_cons, List.length_nil, List.length_append, List.append_assoc, List.take_succ_cons, List.take_zero, List.drop_succ_cons, List.drop_zero, List.set_cons_zero, List.set_cons_succ, true_or, or_true, and_self, Bool.false_eq_true, Nat.le_refl, Option.bind_some, Option.map_some, Option.getD_some, Option.isSome_some, List.map_cons, List.map_nil, List.cons_append, List.nil_append, List.append_nil, List.getElem?_cons_zero, List.getElem?_cons_succ, eq_self, Int.reduceLT, Int.reduceLE, Int.reduceNeg, Int.reduceEq, e0, e1, e7, e8, wrap_in]
      refine ⟨_, by omega, i + 1, by simp, by omega, rfl, ?_⟩
      intro z hz
      rw [List.take_add_one, hy] at hz
      rcases List.mem_append.1 hz with hz | hz
      · exact hno z hz
      · simp at hz; subst hz; exact fun e => k e.symm
  · obtain rfl : i = l.length := by omega
    have q1 : ¬ (l.length : Int) < (l.length : Int) := by omega
    rw [List.take_length] at hno
    have hQ := hQ (-1) (.inl ⟨rfl, hno⟩)
    simp (disch := omega) only [VW, VY, VZ, VA, VB, VC, VE, TY, ↓reduceIte, Nat.reduceEqDiff, Nat.reduceAdd, Nat.reduceMul, Nat.reduceSub, Nat.reduceLeDiff, List.length_cons, List.length_nil, List.length_append, List.append_assoc, List.take_succ_cons, List.take_zero, List.drop_succ_cons, List.drop_zero, List.set_cons_zero, List.set_cons_succ, true_or, or_true, and_self, Bool.false_eq_true, Nat.le_refl, Option.bind_some, Option.map_some, Option.getD_some, Option.isSome_some, List.map_cons, List.map_nil, List.cons_append, List.nil_append, List.append_nil, List.getElem?_cons_zero, List.getElem?_cons_succ, eq_self, Int.reduceLT, Int.reduceLE, Int.reduceNeg, Int.reduceEq, q1]
    exact hQ
def idxV (o : Option Nat) : Int := match o with | some k => k | none => -1
theorem idxN_lt {w : List UInt8} {k : Nat} (h : idxN w = some k) : k < 4 := by
  unfold idxN at h
  split at h
  · cases h; decide
  split at h
  · cases h; decide
  split at h
  · cases h; decide
  split at h
  · cases h; decide
  · cases h
theorem names_idx {w : List UInt8} {i : Int} (h : (i = -1 ∧ ∀ y ∈ namesL.map bL, y ≠ bL w) ∨ (∃ k : Nat, i = k ∧ (namesL.map bL)[k]? = some (bL w))) : i = idxV (idxN w) := by
  have inj : ∀ {a b : List UInt8}, bL a = bL b → a = b := fun e => by
    have := bL_eq.1 e; exact this
  rcases h with ⟨rfl, hno⟩ | ⟨k, rfl, hk⟩
  · have hn : ∀ nm ∈ namesL, w ≠ nm := fun nm hm e => hno (bL nm) (List.mem_map_of_mem hm) (by rw [e])
    unfold idxN
    rw [if_neg (hn _ (by decide)), if_neg (hn _ (by decide)), if_neg (hn _ (by decide)), if_neg (hn _ (by decide))]
    rfl
  · rw [List.getElem?_map] at hk
    cases hnm : namesL[k]? with
    | none => rw [hnm] at hk; cases hk
    | some nm =>
      rw [hnm] at hk
      simp only [Option.map_some, Option.some.injEq] at hk
      obtain rfl := inj hk
      match k, hnm with
      | 0, hnm => cases hnm; rfl
      | 1, hnm => cases hnm; rfl
      | 2, hnm => cases hnm; rfl
      | 3, hnm => cases hnm; rfl
      | j + 4, hnm => cases hnm
def wkZ : Wk := ⟨[], [], [], [], 0⟩
theorem wk_join {a h : Heap} {L : List Asr} {x : Wk} {w1 w2 w3 w4 : Value} (hs : inI64 x.steps)
    (s : Sep a h (ownA 38 x.opened w1 :: ownA 38 x.free w2 :: ownA 38 x.holds w3 :: ownA 38 x.kept w4 :: L)) : Sep a h (repA x [w1, w2, w3, w4, .int .i64 x.steps] :: L) := by
  have s := ((s.pull 1 rfl).pull 2 rfl).pull 3 rfl
  have s := (Sep.rep0 (x := x.steps) s.toRep (rep_int hs)).swap.pair
  have s := s.swap.toRep.pair
  have s := s.swap.toRep.pair
  exact s.swap.toRep.pair
theorem wk_zero {a h : Heap} {L : List Asr} (s : Sep a h L) : Sep a h (repA wkZ [.slice none 0 0, .slice none 0 0, .slice none 0 0, .slice none 0 0, .int .i64 0] :: L) :=
  wk_join (x := wkZ) ⟨by decide, by decide⟩ ((((s.nilA _).nilA _).nilA _).nilA _)
end Go.Proofs
