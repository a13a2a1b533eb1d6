/- Contracts of functions, facts of types, or the plain law behind one statement (own work): P1. Conditions: those told in each theorem. -/
import Derived.Test.YtiiolloielppeaaH5
import Derived.Test.YtiiolloielppeaaW1
set_option linter.all false
set_option linter.unusedSimpArgs false
set_option linter.unusedVariables false
set_option maxRecDepth 4000
namespace Go.Proofs
open Go Go.V

/-- Are the taken boxes valid, behind a worker? -/
def takenM (s : Int) : Int → List Tkn → Bool
  | _, [] => true
  | p, t :: l => decide (1 ≤ t.worker ∧ t.worker ≤ 8) && (boxM t.box && decide ((t.box.low.length : Int) = s)) && decide (p < t.worker) && takenM s t.worker l
def poolM (x : Pl) (s : Int) : Bool := takenM s 0 x.taken && workM x.work s
theorem takenM_len {s : Int} : ∀ {l : List Tkn} {p : Int}, takenM s p l = true → p ≤ 8 → p + (l.length : Int) ≤ 8 := by
  intro l
  induction l with
  | nil => intro p _ h; simpa using h
  | cons t l ih =>
    intro p h hp
    simp only [takenM, Bool.and_eq_true, decide_eq_true_eq] at h
    have := ih h.2 h.1.1.1.2
    simp only [List.length_cons]
    omega

theorem isWorker_c {n : Int} {h : Heap} {Q : Value → Heap → Prop} (hQ : Q (.bool (decide (1 ≤ n ∧ n ≤ 8))) h) : CallsV Try.prog 101 [.int .i64 n] h Q := by
  refine CallsV.start Try.func101 rfl (by rw [Try.results101]) (by kernel_rfl) (by rw [Try.ntmps101]; simp) ?_
  simp (disch := omega) only [VW, VY, VZ, VA, VB, VC, VE, TY, ↓reduceIte, Nat.reduceEqDiff, Nat.reduceAdd, Nat.reduceMul, Nat.reduceSub, Nat.reduceLeDiff, List.length_cons, List.length_nil, List.length_append, List.append_assoc, List.take_succ_cons, List.take_zero, List.drop_succ_cons, List.drop_zero, List.set_cons_zero, List.set_cons_succ, true_or, or_true, and_self, Bool.false_eq_true, Nat.le_refl, Option.bind_some, Option.map_some, Option.getD_some, Option.isSome_some, List.map_cons, List.map_nil, List.cons_append, List.nil_append, List.append_nil, List.getElem?_cons_zero, List.getElem?_cons_succ, eq_self, Int.reduceLT, Int.reduceLE, Int.reduceNeg, Int.reduceEq]
  refine .inl ⟨by kernel_rfl, ?_⟩; refine inside_c ?_
  simp (disch := omega) only [VW, VY, VZ, VA, VB, VC, VE, TY, ↓reduceIte, Nat.reduceEqDiff, Nat.reduceAdd, Nat.reduceMul, Nat.reduceSub, Nat.reduceLeDiff, List.length_cons, List.length_nil, List.length_append, List.append_assoc, List.take_succ_cons, List.take_zero, List.drop_succ_cons, List.drop_zero, List.set_cons_zero, List.set_cons_succ, true_or, or_true, and_self, Bool.false_eq_true, Nat.le_refl, Option.bind_some, Option.map_some, Option.getD_some, Option.isSome_some, List.map_cons, List.map_nil, List.cons_append, List.nil_append, List.append_nil, List.getElem?_cons_zero, List.getElem?_cons_succ, eq_self, Int.reduceLT, Int.reduceLE, Int.reduceNeg, Int.reduceEq]
  exact hQ

/-- The worker ahead of place i. -/
def AheadOf (l : List Tkn) (i : Nat) (p : Int) : Prop := (i = 0 → p = 0) ∧ ∀ y, 0 < i → l[i - 1]? = some y → p = y.worker

theorem isPool_c {x : Pl} {b off : Nat} {s : Int} {h : Heap} {Q : Value → Heap → Prop} (hp : At h b off x) (hQ : ∀ h', Ext h h' → Q (.bool (poolM x s)) h') :
    CallsV Try.prog 64 [.pointer (some ⟨b, off, none⟩), .int .i64 s] h Q := by
  obtain ⟨v1, v2, v3, v4, v5, g0, g1, g2, g3, g4, g5, r1, r2, r3, r4, f5, r6, ga⟩ := at_Pl hp
  refine CallsV.start Try.func64 rfl (by rw [Try.results64]) (by kernel_rfl) (by rw [Try.ntmps64]; simp) ?_
  unfold poolM at hQ
  have hle := r6.le
  simp (disch := omega) only [VW, VY, VZ, VA, VB, VC, VE, TY, ↓reduceIte, Nat.reduceEqDiff, Nat.reduceAdd, Nat.reduceMul, Nat.reduceSub, Nat.reduceLeDiff, List.length_cons, List.length_nil, List.length_append, List.append_assoc, List.take_succ_cons, List.take_zero, List.drop_succ_cons, List.drop_zero, List.set_cons_zero, List.set_cons_succ, true_or, or_true, and_self, Bool.false_eq_true, Nat.le_refl, Option.bind_some, Option.map_some, Option.getD_some, Option.isSome_some, List.map_cons, List.map_nil, List.cons_append, List.nil_append, List.append_nil, List.getElem?_cons_zero, List.getElem?_cons_succ, eq_self, Int.reduceLT, Int.reduceLE, Int.reduceNeg, Int.reduceEq, g5, r6.isRow.len]
  refine loop_rule (fun n e h' => ∃ (i : Nat) (p : Int), e 0 = .pointer (some ⟨b, off, none⟩) ∧ e 1 = .int .i64 s ∧ e 11 = .int .i64 x.taken.length ∧ e 12 = .int .i64 i ∧ i ≤ x.taken.length ∧ n = x.taken.length - i ∧ h = h' ∧ AheadOf x.taken i p ∧ takenM s 0 x.taken = takenM s p (x.taken.drop i)) ?_ x.taken.length _ _
    ⟨0, 0, rfl, rfl, rfl, rfl, Nat.zero_le _, rfl, rfl, ⟨fun _ => rfl, fun _ h => absurd h (by omega)⟩, by simp⟩
  rintro n e h' ⟨i, p, e0, e1, e11, e12, hi, rfl, rfl, ⟨ha, hb⟩, hm⟩
  simp (disch := omega) only [VW, VY, VZ, VA, VB, VC, VE, TY, ↓reduceIte, Nat.reduceEqDiff, Nat.reduceAdd, Nat.reduceMul, Nat.reduceSub, Nat.reduceLeDiff, List.length_cons, List.length_nil, List.length_append, List.append_assoc, List.take_succ_cons, List.take_zero, List.drop_succ_cons, List.drop_zero, List.set_cons_zero, List.set_cons_succ, true_or, or_true, and_self, Bool.false_eq_true, Nat.le_refl, Option.bind_some, Option.map_some, Option.getD_some, Option.isSome_some, List.map_cons, List.map_nil, List.cons_append, List.nil_append, List.append_nil, List.getElem?_cons_zero, List.getElem?_cons_succ, eq_self, Int.reduceLT, Int.reduceLE, Int.reduceNeg, Int.reduceEq, e11, e12]
  by_cases hlt : i < x.taken.length
  · obtain ⟨t, ht⟩ := get_some hlt
    have q1 : (i : Int) < (x.taken.length : Int) := by omega
    have pt := r6.ptr ht
    rw [Tkn.sz] at pt
    obtain ⟨w1, w2, t0, t1, t2, t3, f1, f2, k1, k2, tc⟩ := at_Tkn pt
    have pb : At h (rowB v5) (rowO v5 + i * 4 + 1) t.box := ⟨_, cellsAt_sub tc 1 3 (by decide), mk_Bx f2 k1 k2⟩
    rw [drop_cons ht] at hm
    simp only [takenM] at hm
    simp (disch := omega) only [VW, VY, VZ, VA, VB, VC, VE, TY, ↓reduceIte, Nat.reduceEqDiff, Nat.reduceAdd, Nat.reduceMul, Nat.reduceSub, Nat.reduceLeDiff, List.length_cons, List.length_nil, List.length_append, List.append_assoc, List.take_succ_cons, List.take_zero, List.drop_succ_cons, List.drop_zero, List.set_cons_zero, List.set_cons_succ, true_or, or_true, and_self, Bool.false_eq_true, Nat.le_refl, Option.bind_some, Option.map_some, Option.getD_some, Option.isSome_some, List.map_cons, List.map_nil, List.cons_append, List.nil_append, List.append_nil, List.getElem?_cons_zero, List.getElem?_cons_succ, eq_self, Int.reduceLT, Int.reduceLE, Int.reduceNeg, Int.reduceEq, e0, e1, e11, e12, q1, g5, r6.isRow.ix]
    refine draw_id (by kernel_rfl) ?_
    simp (disch := omega) only [VW, VY, VZ, VA, VB, VC, VE, TY, ↓reduceIte, Nat.reduceEqDiff, Nat.reduceAdd, Nat.reduceMul, Nat.reduceSub, Nat.reduceLeDiff, List.length_cons, List.length_nil, List.length_append, List.append_assoc, List.take_succ_cons, List.take_zero, List.drop_succ_cons, List.drop_zero, List.set_cons_zero, List.set_cons_succ, true_or, or_true, and_self, Bool.false_eq_true, Nat.le_refl, Option.bind_some, Option.map_some, Option.getD_some, Option.isSome_some, List.map_cons, List.map_nil, List.cons_append, List.nil_append, List.append_nil, List.getElem?_cons_zero, List.getElem?_cons_succ, eq_self, Int.reduceLT, Int.reduceLE, Int.reduceNeg, Int.reduceEq, t0]
    refine .inl ⟨by kernel_rfl, ?_⟩; refine isWorker_c ?_
    by_cases c1 : ¬ (1 ≤ t.worker ∧ t.worker ≤ 8)
    · have d1 := decide_eq_false c1
      simp (disch := omega) only [VW, VY, VZ, VA, VB, VC, VE, TY, ↓reduceIte, Nat.reduceEqDiff, Nat.reduceAdd, Nat.reduceMul, Nat.reduceSub, Nat.reduceLeDiff, List.length_cons, List.length_nil, List.length_append, List.append_assoc, List.take_succ_cons, List.take_zero, List.drop_succ_cons, List.drop_zero, List.set_cons_zero, List.set_cons_succ, true_or, or_true, and_self, Bool.false_eq_true, Nat.le_refl, Option.bind_some, Option.map_some, Option.getD_some, Option.isSome_some, List.map_cons, List.map_nil, List.cons_append, List.nil_append, List.append_nil, List.getElem?_cons_zero, List.getElem?_cons_succ, eq_self, Int.reduceLT, Int.reduceLE, Int.reduceNeg, Int.reduceEq, d1, t0]
      rw [hm, d1] at hQ
      exact hQ _ (.refl _)
    have c1 := Decidable.not_not.1 c1
    have d1 := decide_eq_true c1
    simp (disch := omega) only [VW, VY, VZ, VA, VB, VC, VE, TY, ↓reduceIte, Nat.reduceEqDiff, Nat.reduceAdd, Nat.reduceMul, Nat.reduceSub, Nat.reduceLeDiff, List.length_cons, List.length_nil, List.length_append, List.append_assoc, List.take_succ_cons, List.take_zero, List.drop_succ_cons, List.drop_zero, List.set_cons_zero, List.set_cons_succ, true_or, or_true, and_self, Bool.false_eq_true, Nat.le_refl, Option.bind_some, Option.map_some, Option.getD_some, Option.isSome_some, List.map_cons, List.map_nil, List.cons_append, List.nil_append, List.append_nil, List.getElem?_cons_zero, List.getElem?_cons_succ, eq_self, Int.reduceLT, Int.reduceLE, Int.reduceNeg, Int.reduceEq, d1, t0]
    refine .inl ⟨by kernel_rfl, ?_⟩; refine isBox_c pb ?_
    cases c2 : boxM t.box with
    | false =>
      simp (disch := omega) only [VW, VY, VZ, VA, VB, VC, VE, TY, ↓reduceIte, Nat.reduceEqDiff, Nat.reduceAdd, Nat.reduceMul, Nat.reduceSub, Nat.reduceLeDiff, List.length_cons, List.length_nil, List.length_append, List.append_assoc, List.take_succ_cons, List.take_zero, List.drop_succ_cons, List.drop_zero, List.set_cons_zero, List.set_cons_succ, true_or, or_true, and_self, Bool.false_eq_true, Nat.le_refl, Option.bind_some, Option.map_some, Option.getD_some, Option.isSome_some, List.map_cons, List.map_nil, List.cons_append, List.nil_append, List.append_nil, List.getElem?_cons_zero, List.getElem?_cons_succ, eq_self, Int.reduceLT, Int.reduceLE, Int.reduceNeg, Int.reduceEq, t0]
      rw [hm, c2, d1] at hQ
      exact hQ _ (.refl _)
    | true =>
      simp (disch := omega) only [VW, VY, VZ, VA, VB, VC, VE, TY, ↓reduceIte, Nat.reduceEqDiff, Nat.reduceAdd, Nat.reduceMul, Nat.reduceSub, Nat.reduceLeDiff, List.length_cons, List.length_nil, List.length_append, List.append_assoc, List.take_succ_cons, List.take_zero, List.drop_succ_cons, List.drop_zero, List.set_cons_zero, List.set_cons_succ, true_or, or_true, and_self, Bool.false_eq_true, Nat.le_refl, Option.bind_some, Option.map_some, Option.getD_some, Option.isSome_some, List.map_cons, List.map_nil, List.cons_append, List.nil_append, List.append_nil, List.getElem?_cons_zero, List.getElem?_cons_succ, eq_self, Int.reduceLT, Int.reduceLE, Int.reduceNeg, Int.reduceEq, t0, t2, k1.isRow.len, e1]
      by_cases c3 : ¬ (t.box.low.length : Int) = s
      · have d3 := decide_eq_false c3
        simp (disch := omega) only [VW, VY, VZ, VA, VB, VC, VE, TY, ↓reduceIte, Nat.reduceEqDiff, Nat.reduceAdd, Nat.reduceMul, Nat.reduceSub, Nat.reduceLeDiff, List.length_cons, List.length_nil, List.length_append, List.append_assoc, List.take_succ_cons, List.take_zero, List.drop_succ_cons, List.drop_zero, List.set_cons_zero, List.set_cons_succ, true_or, or_true, and_self, Bool.false_eq_true, Nat.le_refl, Option.bind_some, Option.map_some, Option.getD_some, Option.isSome_some, List.map_cons, List.map_nil, List.cons_append, List.nil_append, List.append_nil, List.getElem?_cons_zero, List.getElem?_cons_succ, eq_self, Int.reduceLT, Int.reduceLE, Int.reduceNeg, Int.reduceEq, c3]
        rw [hm, c2, d1, d3] at hQ
        exact hQ _ (.refl _)
      have c3 := Decidable.not_not.1 c3
      have d3 := decide_eq_true c3
      rw [c2, d1, d3] at hm
      simp only [Bool.true_and] at hm
      by_cases c4 : i = 0
      · subst c4
        have p0 := ha rfl
        have c5 : ¬ (0 : Int) < ((0 : Nat) : Int) := by decide
        have d5 : decide (p < t.worker) = true := decide_eq_true (by omega)
        rw [d5, Bool.true_and] at hm
        simp (disch := omega) only [VW, VY, VZ, VA, VB, VC, VE, TY, ↓reduceIte, Nat.reduceEqDiff, Nat.reduceAdd, Nat.reduceMul, Nat.reduceSub, Nat.reduceLeDiff, List.length_cons, List.length_nil, List.length_append, List.append_assoc, List.take_succ_cons, List.take_zero, List.drop_succ_cons, List.drop_zero, List.set_cons_zero, List.set_cons_succ, true_or, or_true, and_self, Bool.false_eq_true, Nat.le_refl, Option.bind_some, Option.map_some, Option.getD_some, Option.isSome_some, List.map_cons, List.map_nil, List.cons_append, List.nil_append, List.append_nil, List.getElem?_cons_zero, List.getElem?_cons_succ, eq_self, Int.reduceLT, Int.reduceLE, Int.reduceNeg, Int.reduceEq, d3, c5, e0, e1, e11, e12, wrap_in]
        exact ⟨_, by omega, 1, t.worker, by simp, by omega, rfl, ⟨fun h => absurd h (by decide), fun y _ hy => by simp at hy ht; rw [ht] at hy; simp at hy; rw [hy]⟩, hm⟩
      · obtain ⟨y, hy⟩ := get_some (show i - 1 < x.taken.length by omega)
        have py := hb y (by omega) hy
        have hy' := r6.ptr hy
        rw [Tkn.sz] at hy'
        obtain ⟨_, _, y0, _⟩ := at_Tkn hy'
        have c5 : (0 : Int) < (i : Int) := by omega
        have ei : ((i : Int) - 1).toNat = i - 1 := by omega
        simp (disch := omega) only [VW, VY, VZ, VA, VB, VC, VE, TY, ↓reduceIte, Nat.reduceEqDiff, Nat.reduceAdd, Nat.reduceMul, Nat.reduceSub, Nat.reduceLeDiff, List.length_cons, List.length_nil, List.length_append, List.append_assoc, List.take_succ_cons, List.take_zero, List.drop_succ_cons, List.drop_zero, List.set_cons_zero, List.set_cons_succ, true_or, or_true, and_self, Bool.false_eq_true, Nat.le_refl, Option.bind_some, Option.map_some, Option.getD_some, Option.isSome_some, List.map_cons, List.map_nil, List.cons_append, List.nil_append, List.append_nil, List.getElem?_cons_zero, List.getElem?_cons_succ, eq_self, Int.reduceLT, Int.reduceLE, Int.reduceNeg, Int.reduceEq, d3, c5, e0, g5, wrap_in, r6.isRow.ix, ei, y0, t0]
        by_cases c6 : t.worker ≤ y.worker
        · have d6 : decide (p < t.worker) = false := decide_eq_false (by omega)
          simp (disch := omega) only [VW, VY, VZ, VA, VB, VC, VE, TY, ↓reduceIte, Nat.reduceEqDiff, Nat.reduceAdd, Nat.reduceMul, Nat.reduceSub, Nat.reduceLeDiff, List.length_cons, List.length_nil, List.length_append, List.append_assoc, List.take_succ_cons, List.take_zero, List.drop_succ_cons, List.drop_zero, List.set_cons_zero, List.set_cons_succ, true_or, or_true, and_self, Bool.false_eq_true, Nat.le_refl, Option.bind_some, Option.map_some, Option.getD_some, Option.isSome_some, List.map_cons, List.map_nil, List.cons_append, List.nil_append, List.append_nil, List.getElem?_cons_zero, List.getElem?_cons_succ, eq_self, Int.reduceLT, Int.reduceLE, Int.reduceNeg, Int.reduceEq, c6]
          rw [hm, d6] at hQ
          exact hQ _ (.refl _)
        · have d6 : decide (p < t.worker) = true := decide_eq_true (by omega)
          rw [d6, Bool.true_and] at hm
          simp (disch := omega) only [VW, VY, VZ, VA, VB, VC, VE, TY, ↓reduceIte, Nat.reduceEqDiff, Nat.reduceAdd, Nat.reduceMul, Nat.reduceSub, Nat.reduceLeDiff, List.length_cons, List.length_nil, List.length_append, List.append_assoc, List.take_succ_cons, List.take_zero, List.drop_succ_cons, List.drop_zero, List.set_cons_zero, List.set_cons_succ, true_or, or_true, and_self, Bool.false_eq_true, Nat.le_refl, Option.bind_some, Option.map_some, Option.getD_some, Option.isSome_some, List.map_cons, List.map_nil, List.cons_append, List.nil_append, List.append_nil, List.getElem?_cons_zero, List.getElem?_cons_succ, eq_self, Int.reduceLT, Int.reduceLE, Int.reduceNeg, Int.reduceEq, c6, e0, e1, e11, e12, wrap_in]
          exact ⟨_, by omega, i + 1, t.worker, by simp, by omega, rfl, ⟨fun h => absurd h (by omega), fun z _ hz => by simp at hz; rw [ht] at hz; simp at hz; rw [hz]⟩, hm⟩
  · obtain rfl : i = x.taken.length := by omega
    have q1 : ¬ (x.taken.length : Int) < (x.taken.length : Int) := by omega
    rw [List.drop_length] at hm
    rw [hm] at hQ
    simp (disch := omega) only [VW, VY, VZ, VA, VB, VC, VE, TY, ↓reduceIte, Nat.reduceEqDiff, Nat.reduceAdd, Nat.reduceMul, Nat.reduceSub, Nat.reduceLeDiff, List.length_cons, List.length_nil, List.length_append, List.append_assoc, List.take_succ_cons, List.take_zero, List.drop_succ_cons, List.drop_zero, List.set_cons_zero, List.set_cons_succ, true_or, or_true, and_self, Bool.false_eq_true, Nat.le_refl, Option.bind_some, Option.map_some, Option.getD_some, Option.isSome_some, List.map_cons, List.map_nil, List.cons_append, List.nil_append, List.append_nil, List.getElem?_cons_zero, List.getElem?_cons_succ, eq_self, Int.reduceLT, Int.reduceLE, Int.reduceNeg, Int.reduceEq, e0, e1, q1]
    have pw : At h b off x.work := ⟨_, cellsAt_sub ga 0 5 (by decide), mk_Wk r1 r2 r3 r4 f5⟩
    refine .inl ⟨by kernel_rfl, ?_⟩; refine isWork_c pw fun h2 E2 => ?_
    simp (disch := omega) only [VW, VY, VZ, VA, VB, VC, VE, TY, ↓reduceIte, Nat.reduceEqDiff, Nat.reduceAdd, Nat.reduceMul, Nat.reduceSub, Nat.reduceLeDiff, List.length_cons, List.length_nil, List.length_append, List.append_assoc, List.take_succ_cons, List.take_zero, List.drop_succ_cons, List.drop_zero, List.set_cons_zero, List.set_cons_succ, true_or, or_true, and_self, Bool.false_eq_true, Nat.le_refl, Option.bind_some, Option.map_some, Option.getD_some, Option.isSome_some, List.map_cons, List.map_nil, List.cons_append, List.nil_append, List.append_nil, List.getElem?_cons_zero, List.getElem?_cons_succ, eq_self, Int.reduceLT, Int.reduceLE, Int.reduceNeg, Int.reduceEq]
    exact hQ _ E2

theorem wkGood_c {x : Pl} {cs : List Value} {s : Int} {h : Heap} {Q : Value → Heap → Prop} (hx : Here h x cs) (hQ : ∀ h', Ext h h' → Q (.bool (poolM x s)) h') :
    CallsV Try.prog 60 [.agg cs.toArray, .int .i64 s] h Q := by
  obtain ⟨v1, v2, v3, v4, v5, rfl, r1, r2, r3, r4, f5, r6⟩ := here_Pl hx
  refine CallsV.start Try.func60 rfl (by rw [Try.results60]) (by kernel_rfl) (by rw [Try.ntmps60]; simp) ?_
  unfold poolM at hQ
  have hle := r6.le
  have sp := Sep.blk1 h [v1, v2, v3, v4, .int .i64 x.work.steps, v5] 60 true
  simp (disch := omega) only [VW, VY, VZ, VA, VB, VC, VE, TY, ↓reduceIte, Nat.reduceEqDiff, Nat.reduceAdd, Nat.reduceMul, Nat.reduceSub, Nat.reduceLeDiff, List.length_cons, List.length_nil, List.length_append, List.append_assoc, List.take_succ_cons, List.take_zero, List.drop_succ_cons, List.drop_zero, List.set_cons_zero, List.set_cons_succ, true_or, or_true, and_self, Bool.false_eq_true, Nat.le_refl, Option.bind_some, Option.map_some, Option.getD_some, Option.isSome_some, List.map_cons, List.map_nil, List.cons_append, List.nil_append, List.append_nil, List.getElem?_cons_zero, List.getElem?_cons_succ, eq_self, Int.reduceLT, Int.reduceLE, Int.reduceNeg, Int.reduceEq]
  refine .inl ⟨by kernel_rfl, ?_⟩; refine brGood_c (x := x.work) (mk_Wk (r1.mono sp.ext) (r2.mono sp.ext) (r3.mono sp.ext) (r4.mono sp.ext) f5) fun h1 E1 => ?_
  have sp := sp.mono E1
  have g := sp.rd
  cases hw : workM x.work s with
  | false =>
    rw [hw, Bool.and_false] at hQ
    simp (disch := omega) only [VW, VY, VZ, VA, VB, VC, VE, TY, ↓reduceIte, Nat.reduceEqDiff, Nat.reduceAdd, Nat.reduceMul, Nat.reduceSub, Nat.reduceLeDiff, List.length_cons, List.length_nil, List.length_append, List.append_assoc, List.take_succ_cons, List.take_zero, List.drop_succ_cons, List.drop_zero, List.set_cons_zero, List.set_cons_succ, true_or, or_true, and_self, Bool.false_eq_true, Nat.le_refl, Option.bind_some, Option.map_some, Option.getD_some, Option.isSome_some, List.map_cons, List.map_nil, List.cons_append, List.nil_append, List.append_nil, List.getElem?_cons_zero, List.getElem?_cons_succ, eq_self, Int.reduceLT, Int.reduceLE, Int.reduceNeg, Int.reduceEq]
    exact hQ _ sp.ext
  | true =>
    rw [hw, Bool.and_true] at hQ
    simp (disch := omega) only [VW, VY, VZ, VA, VB, VC, VE, TY, ↓reduceIte, Nat.reduceEqDiff, Nat.reduceAdd, Nat.reduceMul, Nat.reduceSub, Nat.reduceLeDiff, List.length_cons, List.length_nil, List.length_append, List.append_assoc, List.take_succ_cons, List.take_zero, List.drop_succ_cons, List.drop_zero, List.set_cons_zero, List.set_cons_succ, true_or, or_true, and_self, Bool.false_eq_true, Nat.le_refl, Option.bind_some, Option.map_some, Option.getD_some, Option.isSome_some, List.map_cons, List.map_nil, List.cons_append, List.nil_append, List.append_nil, List.getElem?_cons_zero, List.getElem?_cons_succ, eq_self, Int.reduceLT, Int.reduceLE, Int.reduceNeg, Int.reduceEq, g, r6.isRow.len]
    by_cases c0 : (8 : Int) < (x.taken.length : Int)
    · simp (disch := omega) only [VW, VY, VZ, VA, VB, VC, VE, TY, ↓reduceIte, Nat.reduceEqDiff, Nat.reduceAdd, Nat.reduceMul, Nat.reduceSub, Nat.reduceLeDiff, List.length_cons, List.length_nil, List.length_append, List.append_assoc, List.take_succ_cons, List.take_zero, List.drop_succ_cons, List.drop_zero, List.set_cons_zero, List.set_cons_succ, true_or, or_true, and_self, Bool.false_eq_true, Nat.le_refl, Option.bind_some, Option.map_some, Option.getD_some, Option.isSome_some, List.map_cons, List.map_nil, List.cons_append, List.nil_append, List.append_nil, List.getElem?_cons_zero, List.getElem?_cons_succ, eq_self, Int.reduceLT, Int.reduceLE, Int.reduceNeg, Int.reduceEq, c0]
      cases ht : takenM s 0 x.taken with
      | false => rw [ht] at hQ; exact hQ _ sp.ext
      | true => have := takenM_len ht (by decide); omega
    simp (disch := omega) only [VW, VY, VZ, VA, VB, VC, VE, TY, ↓reduceIte, Nat.reduceEqDiff, Nat.reduceAdd, Nat.reduceMul, Nat.reduceSub, Nat.reduceLeDiff, List.length_cons, List.length_nil, List.length_append, List.append_assoc, List.take_succ_cons, List.take_zero, List.drop_succ_cons, List.drop_zero, List.set_cons_zero, List.set_cons_succ, true_or, or_true, and_self, Bool.false_eq_true, Nat.le_refl, Option.bind_some, Option.map_some, Option.getD_some, Option.isSome_some, List.map_cons, List.map_nil, List.cons_append, List.nil_append, List.append_nil, List.getElem?_cons_zero, List.getElem?_cons_succ, eq_self, Int.reduceLT, Int.reduceLE, Int.reduceNeg, Int.reduceEq, c0, g, r6.isRow.len]
    refine loop_rule (fun n e h' => ∃ (i : Nat) (p : Int), e 1 = .int .i64 s ∧ e 2 = .pointer (some ⟨h.length, 0, none⟩) ∧ e 19 = v5 ∧ e 20 = .int .i64 x.taken.length ∧ e 21 = .int .i64 i ∧ i ≤ x.taken.length ∧ n = x.taken.length - i ∧ Sep h h' [blkA h.length [v1, v2, v3, v4, .int .i64 x.work.steps, v5] 60] ∧ AheadOf x.taken i p ∧ takenM s 0 x.taken = takenM s p (x.taken.drop i)) ?_ x.taken.length _ _
      ⟨0, 0, rfl, rfl, rfl, rfl, rfl, Nat.zero_le _, rfl, sp, ⟨fun _ => rfl, fun _ h => absurd h (by omega)⟩, by simp⟩
    rintro n e h2 ⟨i, p, e1, e2, e19, e20, e21, hi, rfl, sp, ⟨ha, hb⟩, hm⟩
    have r6 := r6.mono sp.ext
    simp (disch := omega) only [VW, VY, VZ, VA, VB, VC, VE, TY, ↓reduceIte, Nat.reduceEqDiff, Nat.reduceAdd, Nat.reduceMul, Nat.reduceSub, Nat.reduceLeDiff, List.length_cons, List.length_nil, List.length_append, List.append_assoc, List.take_succ_cons, List.take_zero, List.drop_succ_cons, List.drop_zero, List.set_cons_zero, List.set_cons_succ, true_or, or_true, and_self, Bool.false_eq_true, Nat.le_refl, Option.bind_some, Option.map_some, Option.getD_some, Option.isSome_some, List.map_cons, List.map_nil, List.cons_append, List.nil_append, List.append_nil, List.getElem?_cons_zero, List.getElem?_cons_succ, eq_self, Int.reduceLT, Int.reduceLE, Int.reduceNeg, Int.reduceEq, e19, e20, e21]
    by_cases hlt : i < x.taken.length
    · obtain ⟨t, ht⟩ := get_some hlt
      have q1 : (i : Int) < (x.taken.length : Int) := by omega
      obtain ⟨ts, t3, t4⟩ := r6.at ht
      rw [Tkn.sz] at t3
      obtain ⟨w1, w2, rfl, f1, f2, k1, k2⟩ := here_Tkn t4
      have sb := sp.newBlk [.int .i64 t.worker, .int .i64 t.box.k, w1, w2] 100 true
      have Eb := Ext.one h2 (some ⟨[.int .i64 t.worker, .int .i64 t.box.k, w1, w2], 100, false, true⟩)
      rw [drop_cons ht] at hm
      simp only [takenM] at hm
      simp (disch := omega) only [VW, VY, VZ, VA, VB, VC, VE, TY, ↓reduceIte, Nat.reduceEqDiff, Nat.reduceAdd, Nat.reduceMul, Nat.reduceSub, Nat.reduceLeDiff, List.length_cons, List.length_nil, List.length_append, List.append_assoc, List.take_succ_cons, List.take_zero, List.drop_succ_cons, List.drop_zero, List.set_cons_zero, List.set_cons_succ, true_or, or_true, and_self, Bool.false_eq_true, Nat.le_refl, Option.bind_some, Option.map_some, Option.getD_some, Option.isSome_some, List.map_cons, List.map_nil, List.cons_append, List.nil_append, List.append_nil, List.getElem?_cons_zero, List.getElem?_cons_succ, eq_self, Int.reduceLT, Int.reduceLE, Int.reduceNeg, Int.reduceEq, e1, e2, e19, e20, e21, q1, r6.isRow.ix, t3]
      refine draw_id (by kernel_rfl) ?_
      simp (disch := omega) only [VW, VY, VZ, VA, VB, VC, VE, TY, ↓reduceIte, Nat.reduceEqDiff, Nat.reduceAdd, Nat.reduceMul, Nat.reduceSub, Nat.reduceLeDiff, List.length_cons, List.length_nil, List.length_append, List.append_assoc, List.take_succ_cons, List.take_zero, List.drop_succ_cons, List.drop_zero, List.set_cons_zero, List.set_cons_succ, true_or, or_true, and_self, Bool.false_eq_true, Nat.le_refl, Option.bind_some, Option.map_some, Option.getD_some, Option.isSome_some, List.map_cons, List.map_nil, List.cons_append, List.nil_append, List.append_nil, List.getElem?_cons_zero, List.getElem?_cons_succ, eq_self, Int.reduceLT, Int.reduceLE, Int.reduceNeg, Int.reduceEq]
      refine .inl ⟨by kernel_rfl, ?_⟩; refine l1In_c ?_
      by_cases c1 : ¬ (1 ≤ t.worker ∧ t.worker ≤ 8)
      · have d1 := decide_eq_false c1
        simp (disch := omega) only [VW, VY, VZ, VA, VB, VC, VE, TY, ↓reduceIte, Nat.reduceEqDiff, Nat.reduceAdd, Nat.reduceMul, Nat.reduceSub, Nat.reduceLeDiff, List.length_cons, List.length_nil, List.length_append, List.append_assoc, List.take_succ_cons, List.take_zero, List.drop_succ_cons, List.drop_zero, List.set_cons_zero, List.set_cons_succ, true_or, or_true, and_self, Bool.false_eq_true, Nat.le_refl, Option.bind_some, Option.map_some, Option.getD_some, Option.isSome_some, List.map_cons, List.map_nil, List.cons_append, List.nil_append, List.append_nil, List.getElem?_cons_zero, List.getElem?_cons_succ, eq_self, Int.reduceLT, Int.reduceLE, Int.reduceNeg, Int.reduceEq, d1]
        rw [hm, d1] at hQ
        exact hQ _ sb.ext
      have c1 := Decidable.not_not.1 c1
      have d1 := decide_eq_true c1
      simp (disch := omega) only [VW, VY, VZ, VA, VB, VC, VE, TY, ↓reduceIte, Nat.reduceEqDiff, Nat.reduceAdd, Nat.reduceMul, Nat.reduceSub, Nat.reduceLeDiff, List.length_cons, List.length_nil, List.length_append, List.append_assoc, List.take_succ_cons, List.take_zero, List.drop_succ_cons, List.drop_zero, List.set_cons_zero, List.set_cons_succ, true_or, or_true, and_self, Bool.false_eq_true, Nat.le_refl, Option.bind_some, Option.map_some, Option.getD_some, Option.isSome_some, List.map_cons, List.map_nil, List.cons_append, List.nil_append, List.append_nil, List.getElem?_cons_zero, List.getElem?_cons_succ, eq_self, Int.reduceLT, Int.reduceLE, Int.reduceNeg, Int.reduceEq, d1]
      refine .inl ⟨by kernel_rfl, ?_⟩; refine bxGood_c (mk_Bx f2 (k1.mono Eb) (k2.mono Eb)) fun h3 E3 => ?_
      have sb := sb.mono E3
      have gb := sb.rd
      have gA := sb.rdA
      have gp := sb.tail.rd
      cases c2 : boxM t.box with
      | false =>
        simp (disch := omega) only [VW, VY, VZ, VA, VB, VC, VE, TY, ↓reduceIte, Nat.reduceEqDiff, Nat.reduceAdd, Nat.reduceMul, Nat.reduceSub, Nat.reduceLeDiff, List.length_cons, List.length_nil, List.length_append, List.append_assoc, List.take_succ_cons, List.take_zero, List.drop_succ_cons, List.drop_zero, List.set_cons_zero, List.set_cons_succ, true_or, or_true, and_self, Bool.false_eq_true, Nat.le_refl, Option.bind_some, Option.map_some, Option.getD_some, Option.isSome_some, List.map_cons, List.map_nil, List.cons_append, List.nil_append, List.append_nil, List.getElem?_cons_zero, List.getElem?_cons_succ, eq_self, Int.reduceLT, Int.reduceLE, Int.reduceNeg, Int.reduceEq, gb, gA]
        rw [hm, c2, d1] at hQ
        exact hQ _ sb.ext
      | true =>
        simp (disch := omega) only [VW, VY, VZ, VA, VB, VC, VE, TY, ↓reduceIte, Nat.reduceEqDiff, Nat.reduceAdd, Nat.reduceMul, Nat.reduceSub, Nat.reduceLeDiff, List.length_cons, List.length_nil, List.length_append, List.append_assoc, List.take_succ_cons, List.take_zero, List.drop_succ_cons, List.drop_zero, List.set_cons_zero, List.set_cons_succ, true_or, or_true, and_self, Bool.false_eq_true, Nat.le_refl, Option.bind_some, Option.map_some, Option.getD_some, Option.isSome_some, List.map_cons, List.map_nil, List.cons_append, List.nil_append, List.append_nil, List.getElem?_cons_zero, List.getElem?_cons_succ, eq_self, Int.reduceLT, Int.reduceLE, Int.reduceNeg, Int.reduceEq, gb, gA, k1.isRow.len, e1]
        by_cases c3 : ¬ (t.box.low.length : Int) = s
        · have d3 := decide_eq_false c3
          simp (disch := omega) only [VW, VY, VZ, VA, VB, VC, VE, TY, ↓reduceIte, Nat.reduceEqDiff, Nat.reduceAdd, Nat.reduceMul, Nat.reduceSub, Nat.reduceLeDiff, List.length_cons, List.length_nil, List.length_append, List.append_assoc, List.take_succ_cons, List.take_zero, List.drop_succ_cons, List.drop_zero, List.set_cons_zero, List.set_cons_succ, true_or, or_true, and_self, Bool.false_eq_true, Nat.le_refl, Option.bind_some, Option.map_some, Option.getD_some, Option.isSome_some, List.map_cons, List.map_nil, List.cons_append, List.nil_append, List.append_nil, List.getElem?_cons_zero, List.getElem?_cons_succ, eq_self, Int.reduceLT, Int.reduceLE, Int.reduceNeg, Int.reduceEq, c3]
          rw [hm, c2, d1, d3] at hQ
          exact hQ _ sb.ext
        have c3 := Decidable.not_not.1 c3
        have d3 := decide_eq_true c3
        rw [c2, d1, d3] at hm
        simp only [Bool.true_and] at hm
        by_cases c4 : i = 0
        · subst c4
          have p0 := ha rfl
          have c5 : ¬ (0 : Int) < ((0 : Nat) : Int) := by decide
          have d5 : decide (p < t.worker) = true := decide_eq_true (by omega)
          rw [d5, Bool.true_and] at hm
          simp (disch := omega) only [VW, VY, VZ, VA, VB, VC, VE, TY, ↓reduceIte, Nat.reduceEqDiff, Nat.reduceAdd, Nat.reduceMul, Nat.reduceSub, Nat.reduceLeDiff, List.length_cons, List.length_nil, List.length_append, List.append_assoc, List.take_succ_cons, List.take_zero, List.drop_succ_cons, List.drop_zero, List.set_cons_zero, List.set_cons_succ, true_or, or_true, and_self, Bool.false_eq_true, Nat.le_refl, Option.bind_some, Option.map_some, Option.getD_some, Option.isSome_some, List.map_cons, List.map_nil, List.cons_append, List.nil_append, List.append_nil, List.getElem?_cons_zero, List.getElem?_cons_succ, eq_self, Int.reduceLT, Int.reduceLE, Int.reduceNeg, Int.reduceEq, d3, c5, e1, e2, e19, e20, e21, wrap_in]
          exact ⟨_, by omega, 1, t.worker, by simp, by omega, rfl, sb.tail, ⟨fun h => absurd h (by decide), fun y _ hy => by simp at hy ht; rw [ht] at hy; simp at hy; rw [hy]⟩, hm⟩
        · obtain ⟨y, hy⟩ := get_some (show i - 1 < x.taken.length by omega)
          have py := hb y (by omega) hy
          have hy' := (r6.mono (Eb.trans E3)).ptr hy
          rw [Tkn.sz] at hy'
          obtain ⟨_, _, y0, _⟩ := at_Tkn hy'
          have c5 : (0 : Int) < (i : Int) := by omega
          have ei : ((i : Int) - 1).toNat = i - 1 := by omega
          simp (disch := omega) only [VW, VY, VZ, VA, VB, VC, VE, TY, ↓reduceIte, Nat.reduceEqDiff, Nat.reduceAdd, Nat.reduceMul, Nat.reduceSub, Nat.reduceLeDiff, List.length_cons, List.length_nil, List.length_append, List.append_assoc, List.take_succ_cons, List.take_zero, List.drop_succ_cons, List.drop_zero, List.set_cons_zero, List.set_cons_succ, true_or, or_true, and_self, Bool.false_eq_true, Nat.le_refl, Option.bind_some, Option.map_some, Option.getD_some, Option.isSome_some, List.map_cons, List.map_nil, List.cons_append, List.nil_append, List.append_nil, List.getElem?_cons_zero, List.getElem?_cons_succ, eq_self, Int.reduceLT, Int.reduceLE, Int.reduceNeg, Int.reduceEq, d3, c5, e2, gp, gb, gA, wrap_in, r6.isRow.ix, ei, y0]
          by_cases c6 : t.worker ≤ y.worker
          · have d6 : decide (p < t.worker) = false := decide_eq_false (by omega)
            simp (disch := omega) only [VW, VY, VZ, VA, VB, VC, VE, TY, ↓reduceIte, Nat.reduceEqDiff, Nat.reduceAdd, Nat.reduceMul, Nat.reduceSub, Nat.reduceLeDiff, List.length_cons, List.length_nil, List.length_append, List.append_assoc, List.take_succ_cons, List.take_zero, List.drop_succ_cons, List.drop_zero, List.set_cons_zero, List.set_cons_succ, true_or, or_true, and_self, Bool.false_eq_true, Nat.le_refl, Option.bind_some, Option.map_some, Option.getD_some, Option.isSome_some, List.map_cons, List.map_nil, List.cons_append, List.nil_append, List.append_nil, List.getElem?_cons_zero, List.getElem?_cons_succ, eq_self, Int.reduceLT, Int.reduceLE, Int.reduceNeg, Int.reduceEq, c6]
            rw [hm, d6] at hQ
            exact hQ _ sb.ext
          · have d6 : decide (p < t.worker) = true := decide_eq_true (by omega)
            rw [d6, Bool.true_and] at hm
            simp (disch := omega) only [VW, VY, VZ, VA, VB, VC, VE, TY, ↓reduceIte, Nat.reduceEqDiff, Nat.reduceAdd, Nat.reduceMul, Nat.reduceSub, Nat.reduceLeDiff, List.length_cons, List.length_nil, List.length_append, List.append_assoc, List.take_succ_cons, List.take_zero, List.drop_succ_cons, List.drop_zero, List.set_cons_zero, List.set_cons_succ, true_or, or_true, and_self, Bool.false_eq_true, Nat.le_refl, Option.bind_some, Option.map_some, Option.getD_some, Option.isSome_some, List.map_cons, List.map_nil, List.cons_append, List.nil_append, List.append_nil, List.getElem?_cons_zero, List.getElem?_cons_succ, eq_self, Int.reduceLT, Int.reduceLE, Int.reduceNeg, Int.reduceEq, c6, e1, e2, e19, e20, e21, wrap_in]
            exact ⟨_, by omega, i + 1, t.worker, by simp, by omega, rfl, sb.tail, ⟨fun h => absurd h (by omega), fun z _ hz => by simp at hz; rw [ht] at hz; simp at hz; rw [hz]⟩, hm⟩
    · obtain rfl : i = x.taken.length := by omega
      have q1 : ¬ (x.taken.length : Int) < (x.taken.length : Int) := by omega
      rw [List.drop_length] at hm
      rw [hm] at hQ
      simp (disch := omega) only [VW, VY, VZ, VA, VB, VC, VE, TY, ↓reduceIte, Nat.reduceEqDiff, Nat.reduceAdd, Nat.reduceMul, Nat.reduceSub, Nat.reduceLeDiff, List.length_cons, List.length_nil, List.length_append, List.append_assoc, List.take_succ_cons, List.take_zero, List.drop_succ_cons, List.drop_zero, List.set_cons_zero, List.set_cons_succ, true_or, or_true, and_self, Bool.false_eq_true, Nat.le_refl, Option.bind_some, Option.map_some, Option.getD_some, Option.isSome_some, List.map_cons, List.map_nil, List.cons_append, List.nil_append, List.append_nil, List.getElem?_cons_zero, List.getElem?_cons_succ, eq_self, Int.reduceLT, Int.reduceLE, Int.reduceNeg, Int.reduceEq, q1]
      exact hQ _ sp.ext
end Go.Proofs
