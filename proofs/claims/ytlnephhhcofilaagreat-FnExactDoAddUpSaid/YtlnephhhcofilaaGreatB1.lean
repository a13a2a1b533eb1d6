/- Contracts of functions, facts of types, or the plain law behind one statement (own work): B1. Conditions: those told in each theorem. -/
import Derived.Test.YtlnephhhcofilaaGreatH2
set_option linter.all false
set_option linter.unusedSimpArgs false
set_option linter.unusedVariables false
set_option maxRecDepth 4000
namespace Go.Proofs
open Go Go.V
open Nat (reduceEqDiff reduceAdd reduceMul reduceSub reduceLeDiff)
open Int (reduceLT reduceLE reduceNeg reduceEq)

def pairOk (m : Int) (p : Int × Int) : Bool := decide (-m ≤ p.1 ∧ p.1 < p.2 ∧ p.2 ≤ m)
def pairOdd (p : Int × Int) : Bool := decide (¬ Int.tmod p.1 2 = 0) || decide (¬ Int.tmod p.2 2 = 0)
def mostM (k : Int) : Int := 8 * 2 ^ k.toNat
/-- Is a box valid? -/
def boxM (x : Bx) : Bool := decide (0 ≤ x.k ∧ x.k ≤ 8) && decide (1 ≤ (x.low.length : Int) ∧ (x.low.length : Int) ≤ 3) && decide (x.high.length = x.low.length) &&
  ((x.low.zip x.high).all (pairOk (mostM x.k)) && (decide (x.k = 0) || (x.low.zip x.high).any pairOdd))
theorem mostM_le {k : Int} (h : 0 ≤ k ∧ k ≤ 8) : 8 ≤ mostM k ∧ mostM k ≤ 2048 := by
  obtain ⟨n, rfl⟩ := Int.eq_ofNat_of_zero_le h.1
  have : n = 0 ∨ n = 1 ∨ n = 2 ∨ n = 3 ∨ n = 4 ∨ n = 5 ∨ n = 6 ∨ n = 7 ∨ n = 8 := by omega
  rcases this with rfl | rfl | rfl | rfl | rfl | rfl | rfl | rfl | rfl <;> decide
theorem mostM_wrap {k : Int} (h : 0 ≤ k ∧ k ≤ 8) : IntKind.wrap .i64 (8 * 2 ^ min k.toNat 64) = mostM k := by
  have hm := mostM_le h
  rw [Nat.min_eq_left (by omega)]
  exact wrap_in _ (by unfold mostM at hm; omega)

theorem isBox_c {x : Bx} {b off : Nat} {h : Heap} {Q : Value → Heap → Prop} (hp : At h b off x) (hQ : Q (.bool (boxM x)) h) :
    CallsV Tryz.prog 77 [.pointer (some ⟨b, off, none⟩)] h Q := by
  obtain ⟨v1, v2, g0, g1, g2, f1, r1, r2, _⟩ := at_Bx hp
  refine CallsV.start Tryz.func77 rfl (by rw [Tryz.results77]) (by kernel_rfl) (by rw [Tryz.ntmps77]; simp) ?_
  unfold boxM at hQ
  have hle := r1.le
  have hle2 := r2.le
  simp (disch := omega) only [WA, ↓reduceIte, reduceEqDiff, reduceAdd, reduceMul, reduceSub, reduceLeDiff, reduceLT, reduceLE, reduceNeg, reduceEq]
  refine draw_id (by kernel_rfl) ?_
  simp (disch := omega) only [WA, ↓reduceIte, reduceEqDiff, reduceAdd, reduceMul, reduceSub, reduceLeDiff, reduceLT, reduceLE, reduceNeg, reduceEq, g0]
  refine .inl ⟨by kernel_rfl, ?_⟩; refine inside_c ?_
  by_cases c1 : ¬ (0 ≤ x.k ∧ x.k ≤ 8)
  · have d1 := decide_eq_false c1
    simp (disch := omega) only [WA, ↓reduceIte, reduceEqDiff, reduceAdd, reduceMul, reduceSub, reduceLeDiff, reduceLT, reduceLE, reduceNeg, reduceEq, d1, g0]
    simpa [c1] using hQ
  have c1 := Decidable.not_not.1 c1
  have d1 := decide_eq_true c1
  simp (disch := omega) only [WA, ↓reduceIte, reduceEqDiff, reduceAdd, reduceMul, reduceSub, reduceLeDiff, reduceLT, reduceLE, reduceNeg, reduceEq, d1, g0, g1, r1.isRow.len]
  refine .inl ⟨by kernel_rfl, ?_⟩; refine inside_c ?_
  by_cases c2 : ¬ (1 ≤ (x.low.length : Int) ∧ (x.low.length : Int) ≤ 3)
  · have d2 := decide_eq_false c2
    simp (disch := omega) only [WA, ↓reduceIte, reduceEqDiff, reduceAdd, reduceMul, reduceSub, reduceLeDiff, reduceLT, reduceLE, reduceNeg, reduceEq, d2, g0, g1]
    simpa [c2] using hQ
  have c2 := Decidable.not_not.1 c2
  have d2 := decide_eq_true c2
  simp (disch := omega) only [WA, ↓reduceIte, reduceEqDiff, reduceAdd, reduceMul, reduceSub, reduceLeDiff, reduceLT, reduceLE, reduceNeg, reduceEq, d2, g0, g1, g2, r1.isRow.len, r2.isRow.len]
  by_cases c3 : ¬ x.high.length = x.low.length
  · have c3' : ¬ (x.high.length : Int) = (x.low.length : Int) := by omega
    simp (disch := omega) only [WA, ↓reduceIte, reduceEqDiff, reduceAdd, reduceMul, reduceSub, reduceLeDiff, reduceLT, reduceLE, reduceNeg, reduceEq, c3']
    simpa [c3] using hQ
  have c3 := Decidable.not_not.1 c3
  have c3' : (x.high.length : Int) = (x.low.length : Int) := by omega
  simp (disch := omega) only [WA, ↓reduceIte, reduceEqDiff, reduceAdd, reduceMul, reduceSub, reduceLeDiff, reduceLT, reduceLE, reduceNeg, reduceEq, c3']
  refine draw_id (by kernel_rfl) ?_
  have k0 : ¬ x.k < 0 := by omega
  have hm := mostM_le c1
  have hbits : IntKind.i64.bits = 64 := rfl
  simp (disch := omega) only [WA, ↓reduceIte, reduceEqDiff, reduceAdd, reduceMul, reduceSub, reduceLeDiff, reduceLT, reduceLE, reduceNeg, reduceEq, g0, g1, k0, r1.isRow.len, hbits, mostM_wrap c1]
  rw [d1, d2, decide_eq_true c3] at hQ
  have hzl : (x.low.zip x.high).length = x.low.length := by rw [List.length_zip]; omega
  refine loop_rule (fun n e h' => ∃ (i : Nat), e 0 = .pointer (some ⟨b, off, none⟩) ∧ e 48 = v1 ∧ e 49 = .int .i64 x.low.length ∧ e 50 = .int .i64 i ∧ e 3 = .int .i64 (mostM x.k) ∧
    e 4 = .bool (decide (x.k = 0) || ((x.low.zip x.high).take i).any pairOdd) ∧ i ≤ x.low.length ∧ n = x.low.length - i ∧ h' = h ∧ ((x.low.zip x.high).take i).all (pairOk (mostM x.k)) = true) ?_ x.low.length _ _
    ⟨0, rfl, rfl, rfl, rfl, rfl, by simp [upd], Nat.zero_le _, rfl, rfl, by simp⟩
  rintro n e h' ⟨i, e0, e48, e49, e50, e3, e4, hi, rfl, rfl, hall⟩
  simp (disch := omega) only [WA, ↓reduceIte, reduceEqDiff, reduceAdd, reduceMul, reduceSub, reduceLeDiff, reduceLT, reduceLE, reduceNeg, reduceEq, e48, e49, e50]
  by_cases hlt : i < x.low.length
  · obtain ⟨y, hy⟩ := get_some hlt
    obtain ⟨z, hz⟩ := get_some (show i < x.high.length by omega)
    have hyz := zip_get hy hz
    obtain ⟨y1, y2⟩ := row_int r1 hy
    obtain ⟨z1, z2⟩ := row_int r2 hz
    have q1 : (i : Int) < (x.low.length : Int) := by omega
    unfold inI64 at y2 z2
    simp (disch := omega) only [WA, ↓reduceIte, reduceEqDiff, reduceAdd, reduceMul, reduceSub, reduceLeDiff, reduceLT, reduceLE, reduceNeg, reduceEq, e0, e48, e49, e50, e3, e4, q1, r1.isRow.ix, y1, wrap_in]
    refine .inl ⟨by kernel_rfl, ?_⟩; refine inside_c ?_
    by_cases c5 : ¬ (0 - mostM x.k ≤ y ∧ y ≤ mostM x.k)
    · have d5 := decide_eq_false c5
      simp (disch := omega) only [WA, ↓reduceIte, reduceEqDiff, reduceAdd, reduceMul, reduceSub, reduceLeDiff, reduceLT, reduceLE, reduceNeg, reduceEq, d5]
      have hf : pairOk (mostM x.k) (y, z) = false := by simp only [pairOk, decide_eq_false_iff_not]; omega
      rw [all_false hyz hf] at hQ
      exact hQ
    have c5 := Decidable.not_not.1 c5
    have d5 := decide_eq_true c5
    simp (disch := omega) only [WA, ↓reduceIte, reduceEqDiff, reduceAdd, reduceMul, reduceSub, reduceLeDiff, reduceLT, reduceLE, reduceNeg, reduceEq, d5, e0, g2, r2.isRow.ix, z1, e3, wrap_in]
    refine .inl ⟨by kernel_rfl, ?_⟩; refine inside_c ?_
    by_cases c6 : ¬ (y + 1 ≤ z ∧ z ≤ mostM x.k)
    · have d6 := decide_eq_false c6
      simp (disch := omega) only [WA, ↓reduceIte, reduceEqDiff, reduceAdd, reduceMul, reduceSub, reduceLeDiff, reduceLT, reduceLE, reduceNeg, reduceEq, d6]
      have hf : pairOk (mostM x.k) (y, z) = false := by simp only [pairOk, decide_eq_false_iff_not]; omega
      rw [all_false hyz hf] at hQ
      exact hQ
    have c6 := Decidable.not_not.1 c6
    have d6 := decide_eq_true c6
    have hall' : ((x.low.zip x.high).take (i + 1)).all (pairOk (mostM x.k)) = true := by
      rw [all_take _ hyz, hall, Bool.true_and]; simp only [pairOk, decide_eq_true_eq]; omega
    have hany := any_take pairOdd hyz
    obtain ⟨o, ho⟩ : ∃ o, (decide (x.k = 0) || ((x.low.zip x.high).take i).any pairOdd) = o := ⟨_, rfl⟩
    rw [ho] at e4
    cases o with
    | true =>
      simp (disch := omega) only [WA, ↓reduceIte, reduceEqDiff, reduceAdd, reduceMul, reduceSub, reduceLeDiff, reduceLT, reduceLE, reduceNeg, reduceEq, d6, e0, e48, e49, e50, e3, e4, wrap_in]
      exact ⟨_, by omega, i + 1, by simp, by rw [hany, ← Bool.or_assoc, ho]; simp, by omega, rfl, hall'⟩
    | false =>
      by_cases c7 : Int.tmod y 2 = 0
      · simp (disch := omega) only [WA, ↓reduceIte, reduceEqDiff, reduceAdd, reduceMul, reduceSub, reduceLeDiff, reduceLT, reduceLE, reduceNeg, reduceEq, d6, e4, c7, e0, g2, r2.isRow.ix, z1]
        by_cases c8 : Int.tmod z 2 = 0
        · simp (disch := omega) only [WA, ↓reduceIte, reduceEqDiff, reduceAdd, reduceMul, reduceSub, reduceLeDiff, reduceLT, reduceLE, reduceNeg, reduceEq, c8, e0, e48, e49, e50, e3, wrap_in]
          exact ⟨_, by omega, i + 1, by simp, by rw [hany, ← Bool.or_assoc, ho]; simp [pairOdd, c7, c8], by omega, rfl, hall'⟩
        · simp (disch := omega) only [WA, ↓reduceIte, reduceEqDiff, reduceAdd, reduceMul, reduceSub, reduceLeDiff, reduceLT, reduceLE, reduceNeg, reduceEq, c8, e0, e48, e49, e50, e3, wrap_in]
          exact ⟨_, by omega, i + 1, by simp, by rw [hany, ← Bool.or_assoc, ho]; simp [pairOdd, c7, c8], by omega, rfl, hall'⟩
      · simp (disch := omega) only [WA, ↓reduceIte, reduceEqDiff, reduceAdd, reduceMul, reduceSub, reduceLeDiff, reduceLT, reduceLE, reduceNeg, reduceEq, d6, e4, c7, e0, e48, e49, e50, e3, wrap_in]
        exact ⟨_, by omega, i + 1, by simp, by rw [hany, ← Bool.or_assoc, ho]; simp [pairOdd, c7], by omega, rfl, hall'⟩
  · obtain rfl : i = x.low.length := by omega
    have q1 : ¬ (x.low.length : Int) < (x.low.length : Int) := by omega
    simp (disch := omega) only [WA, ↓reduceIte, reduceEqDiff, reduceAdd, reduceMul, reduceSub, reduceLeDiff, reduceLT, reduceLE, reduceNeg, reduceEq, e48, e49, e50, e4, q1]
    rw [List.take_of_length_le (by omega)] at hall ⊢
    rw [hall] at hQ
    simpa using hQ

theorem dyPower_c {k : Int} {h : Heap} {Q : Value → Heap → Prop} (hk : 0 ≤ k ∧ k ≤ 8) (hQ : Q (.int .i64 (2 ^ k.toNat)) h) : CallsV Tryz.prog 75 [.int .i64 k] h Q := by
  refine CallsV.start Tryz.func75 rfl (by rw [Tryz.results75]) (by kernel_rfl) (by rw [Tryz.ntmps75]; simp) ?_
  have hbits : IntKind.i64.bits = 64 := rfl
  have k0 : ¬ k < 0 := by omega
  simp (disch := omega) only [WA, ↓reduceIte, reduceEqDiff, reduceAdd, reduceMul, reduceSub, reduceLeDiff, reduceLT, reduceLE, reduceNeg, reduceEq, wrapu_in, k0, hbits]
  have e : IntKind.i64.wrap (1 * 2 ^ min k.toNat 64) = 2 ^ k.toNat := by
    have := mostM_le hk
    unfold mostM at this
    rw [Nat.min_eq_left (by omega), Int.one_mul]
    exact wrap_in _ (by omega)
  rw [e]
  exact hQ

theorem bxGood_c {x : Bx} {cs : List Value} {h : Heap} {Q : Value → Heap → Prop} (hx : Here h x cs) (hQ : ∀ h', Ext h h' → Q (.bool (boxM x)) h') :
    CallsV Tryz.prog 70 [.agg cs.toArray] h Q := by
  obtain ⟨v1, v2, rfl, f1, r1, r2⟩ := here_Bx hx
  refine CallsV.start Tryz.func70 rfl (by rw [Tryz.results70]) (by kernel_rfl) (by rw [Tryz.ntmps70]; simp) ?_
  unfold boxM at hQ
  have hle := r1.le
  have hle2 := r2.le
  have E := Ext.one h (some ⟨[.int .i64 x.k, v1, v2], 32, false, true⟩)
  simp (disch := omega) only [WA, ↓reduceIte, reduceEqDiff, reduceAdd, reduceMul, reduceSub, reduceLeDiff, reduceLT, reduceLE, reduceNeg, reduceEq]
  refine .inl ⟨by kernel_rfl, ?_⟩; refine l1In_c ?_
  by_cases c1 : ¬ (0 ≤ x.k ∧ x.k ≤ 8)
  · have d1 := decide_eq_false c1
    simp (disch := omega) only [WA, ↓reduceIte, reduceEqDiff, reduceAdd, reduceMul, reduceSub, reduceLeDiff, reduceLT, reduceLE, reduceNeg, reduceEq, d1]
    simpa [c1] using hQ _ E
  have c1 := Decidable.not_not.1 c1
  have d1 := decide_eq_true c1
  simp (disch := omega) only [WA, ↓reduceIte, reduceEqDiff, reduceAdd, reduceMul, reduceSub, reduceLeDiff, reduceLT, reduceLE, reduceNeg, reduceEq, d1, r1.isRow.len]
  refine .inl ⟨by kernel_rfl, ?_⟩; refine l1In_c ?_
  by_cases c2 : ¬ (1 ≤ (x.low.length : Int) ∧ (x.low.length : Int) ≤ 3)
  · have d2 := decide_eq_false c2
    simp (disch := omega) only [WA, ↓reduceIte, reduceEqDiff, reduceAdd, reduceMul, reduceSub, reduceLeDiff, reduceLT, reduceLE, reduceNeg, reduceEq, d2]
    simpa [c2] using hQ _ E
  have c2 := Decidable.not_not.1 c2
  have d2 := decide_eq_true c2
  simp (disch := omega) only [WA, ↓reduceIte, reduceEqDiff, reduceAdd, reduceMul, reduceSub, reduceLeDiff, reduceLT, reduceLE, reduceNeg, reduceEq, d2, r1.isRow.len, r2.isRow.len]
  by_cases c3 : ¬ x.high.length = x.low.length
  · have c3' : ¬ (x.high.length : Int) = (x.low.length : Int) := by omega
    simp (disch := omega) only [WA, ↓reduceIte, reduceEqDiff, reduceAdd, reduceMul, reduceSub, reduceLeDiff, reduceLT, reduceLE, reduceNeg, reduceEq, c3']
    simpa [c3] using hQ _ E
  have c3 := Decidable.not_not.1 c3
  have c3' : (x.high.length : Int) = (x.low.length : Int) := by omega
  simp (disch := omega) only [WA, ↓reduceIte, reduceEqDiff, reduceAdd, reduceMul, reduceSub, reduceLeDiff, reduceLT, reduceLE, reduceNeg, reduceEq, c3']
  refine .inl ⟨by kernel_rfl, ?_⟩; refine dyPower_c c1 ?_
  have hm := mostM_le c1
  have hpw : IntKind.i64.wrap (8 * 2 ^ x.k.toNat) = mostM x.k := wrap_in _ (by unfold mostM at hm; omega)
  simp (disch := omega) only [WA, ↓reduceIte, reduceEqDiff, reduceAdd, reduceMul, reduceSub, reduceLeDiff, reduceLT, reduceLE, reduceNeg, reduceEq, hpw, r1.isRow.len]
  rw [d1, d2, decide_eq_true c3] at hQ
  have hzl : (x.low.zip x.high).length = x.low.length := by rw [List.length_zip]; omega
  refine loop_rule (fun n e h' => ∃ (i : Nat), e 1 = .pointer (some ⟨h.length, 0, none⟩) ∧ e 36 = v1 ∧ e 37 = .int .i64 x.low.length ∧ e 38 = .int .i64 i ∧ e 3 = .int .i64 (mostM x.k) ∧
    e 4 = .bool (decide (x.k = 0) || ((x.low.zip x.high).take i).any pairOdd) ∧ i ≤ x.low.length ∧ n = x.low.length - i ∧ Sep h h' [blkA h.length [.int .i64 x.k, v1, v2] 32] ∧ ((x.low.zip x.high).take i).all (pairOk (mostM x.k)) = true) ?_ x.low.length _ _
    ⟨0, rfl, rfl, rfl, rfl, rfl, by simp [upd], Nat.zero_le _, rfl, Sep.blk1 _ _ _ _, by simp⟩
  rintro n e h' ⟨i, e1, e36, e37, e38, e3, e4, hi, rfl, s, hall⟩
  have g := s.rd
  have r1 := r1.mono s.ext
  have r2 := r2.mono s.ext
  simp (disch := omega) only [WA, ↓reduceIte, reduceEqDiff, reduceAdd, reduceMul, reduceSub, reduceLeDiff, reduceLT, reduceLE, reduceNeg, reduceEq, e36, e37, e38]
  by_cases hlt : i < x.low.length
  · obtain ⟨y, hy⟩ := get_some hlt
    obtain ⟨z, hz⟩ := get_some (show i < x.high.length by omega)
    have hyz := zip_get hy hz
    obtain ⟨y1, y2⟩ := row_int r1 hy
    obtain ⟨z1, z2⟩ := row_int r2 hz
    have q1 : (i : Int) < (x.low.length : Int) := by omega
    unfold inI64 at y2 z2
    simp (disch := omega) only [WA, ↓reduceIte, reduceEqDiff, reduceAdd, reduceMul, reduceSub, reduceLeDiff, reduceLT, reduceLE, reduceNeg, reduceEq, e1, e36, e37, e38, e3, e4, q1, r1.isRow.ix, y1, wrap_in, g, r2.isRow.ix, z1]
    refine .inl ⟨by kernel_rfl, ?_⟩; refine l1In_c ?_
    by_cases c5 : ¬ (0 - mostM x.k ≤ y ∧ y ≤ mostM x.k)
    · have d5 := decide_eq_false c5
      simp (disch := omega) only [WA, ↓reduceIte, reduceEqDiff, reduceAdd, reduceMul, reduceSub, reduceLeDiff, reduceLT, reduceLE, reduceNeg, reduceEq, d5]
      have hf : pairOk (mostM x.k) (y, z) = false := by simp only [pairOk, decide_eq_false_iff_not]; omega
      rw [all_false hyz hf] at hQ
      exact hQ _ s.ext
    have c5 := Decidable.not_not.1 c5
    have d5 := decide_eq_true c5
    simp (disch := omega) only [WA, ↓reduceIte, reduceEqDiff, reduceAdd, reduceMul, reduceSub, reduceLeDiff, reduceLT, reduceLE, reduceNeg, reduceEq, d5, e3, wrap_in]
    refine .inl ⟨by kernel_rfl, ?_⟩; refine l1In_c ?_
    by_cases c6 : ¬ (0 - mostM x.k ≤ z ∧ z ≤ mostM x.k)
    · have d6 := decide_eq_false c6
      simp (disch := omega) only [WA, ↓reduceIte, reduceEqDiff, reduceAdd, reduceMul, reduceSub, reduceLeDiff, reduceLT, reduceLE, reduceNeg, reduceEq, d6]
      have hf : pairOk (mostM x.k) (y, z) = false := by simp only [pairOk, decide_eq_false_iff_not]; omega
      rw [all_false hyz hf] at hQ
      exact hQ _ s.ext
    have c6 := Decidable.not_not.1 c6
    have d6 := decide_eq_true c6
    by_cases c9 : z ≤ y
    · have c9' : y ≥ z := c9
      simp (disch := omega) only [WA, ↓reduceIte, reduceEqDiff, reduceAdd, reduceMul, reduceSub, reduceLeDiff, reduceLT, reduceLE, reduceNeg, reduceEq, d6, c9]
      have hf : pairOk (mostM x.k) (y, z) = false := by simp only [pairOk, decide_eq_false_iff_not]; omega
      rw [all_false hyz hf] at hQ
      exact hQ _ s.ext
    have hall' : ((x.low.zip x.high).take (i + 1)).all (pairOk (mostM x.k)) = true := by
      rw [all_take _ hyz, hall, Bool.true_and]; simp only [pairOk, decide_eq_true_eq]; omega
    have hany := any_take pairOdd hyz
    obtain ⟨o, ho⟩ : ∃ o, (decide (x.k = 0) || ((x.low.zip x.high).take i).any pairOdd) = o := ⟨_, rfl⟩
    rw [ho] at e4
    cases o with
    | true =>
      simp (disch := omega) only [WA, ↓reduceIte, reduceEqDiff, reduceAdd, reduceMul, reduceSub, reduceLeDiff, reduceLT, reduceLE, reduceNeg, reduceEq, d6, c9, e1, e36, e37, e38, e3, e4, wrap_in]
      exact ⟨_, by omega, i + 1, by simp, by rw [hany, ← Bool.or_assoc, ho]; simp, by omega, rfl, s, hall'⟩
    | false =>
      by_cases c7 : Int.tmod y 2 = 0
      · simp (disch := omega) only [WA, ↓reduceIte, reduceEqDiff, reduceAdd, reduceMul, reduceSub, reduceLeDiff, reduceLT, reduceLE, reduceNeg, reduceEq, d6, c9, e4, c7]
        by_cases c8 : Int.tmod z 2 = 0
        · simp (disch := omega) only [WA, ↓reduceIte, reduceEqDiff, reduceAdd, reduceMul, reduceSub, reduceLeDiff, reduceLT, reduceLE, reduceNeg, reduceEq, c8, e1, e36, e37, e38, e3, wrap_in]
          exact ⟨_, by omega, i + 1, by simp, by rw [hany, ← Bool.or_assoc, ho]; simp [pairOdd, c7, c8], by omega, rfl, s, hall'⟩
        · simp (disch := omega) only [WA, ↓reduceIte, reduceEqDiff, reduceAdd, reduceMul, reduceSub, reduceLeDiff, reduceLT, reduceLE, reduceNeg, reduceEq, c8, e1, e36, e37, e38, e3, wrap_in]
          exact ⟨_, by omega, i + 1, by simp, by rw [hany, ← Bool.or_assoc, ho]; simp [pairOdd, c7, c8], by omega, rfl, s, hall'⟩
      · simp (disch := omega) only [WA, ↓reduceIte, reduceEqDiff, reduceAdd, reduceMul, reduceSub, reduceLeDiff, reduceLT, reduceLE, reduceNeg, reduceEq, d6, c9, e4, c7, e1, e36, e37, e38, e3, wrap_in]
        exact ⟨_, by omega, i + 1, by simp, by rw [hany, ← Bool.or_assoc, ho]; simp [pairOdd, c7], by omega, rfl, s, hall'⟩
  · obtain rfl : i = x.low.length := by omega
    have q1 : ¬ (x.low.length : Int) < (x.low.length : Int) := by omega
    simp (disch := omega) only [WA, ↓reduceIte, reduceEqDiff, reduceAdd, reduceMul, reduceSub, reduceLeDiff, reduceLT, reduceLE, reduceNeg, reduceEq, e36, e37, e38, e4, q1]
    rw [List.take_of_length_le (by omega)] at hall ⊢
    rw [hall] at hQ
    simpa using hQ _ s.ext
end Go.Proofs
