/- Contracts of functions, facts of types, or the plain law behind one statement (own work): D2. Conditions: those told in each theorem. -/
import Derived.Test.YtiiolloielppeaaGreatDoorD1
import Derived.Test.YtiiolloielppeaaGreatDoorC00
set_option linter.all false
set_option linter.unusedSimpArgs false
set_option linter.unusedVariables false
set_option maxRecDepth 4000
namespace Go.Proofs
open Go Go.V

def plainB (c : UInt8) : Bool := decide (c.toNat = 10) || (decide (32 ≤ c.toNat) && decide (c.toNat ≤ 126))
/-- Is a text plain? -/
def plainM (s : ByteArray) : Bool := s.data.toList.all plainB && decide (s.size ≤ 9000)

theorem isPlain_c {s : ByteArray} {h : Heap} {Q : Value → Heap → Prop} (hs : s.size ≤ 9223372036854775807) (hQ : Q (.bool (plainM s)) h) : CallsV Tryz.prog 31 [.string s] h Q := by
  refine CallsV.start Tryz.func31 rfl (by rw [Tryz.results31]) (by kernel_rfl) (by rw [Tryz.ntmps31]; simp) ?_
  unfold plainM at hQ
  have hl := str_len s
  simp (disch := omega) only [VW, VY, VZ, VA, VB, VC, VE, TY, ↓reduceIte, Nat.reduceEqDiff, Nat.reduceAdd, Nat.reduceMul, Nat.reduceSub, Nat.reduceLeDiff, List.length_cons, List.length_nil, List.length_append, List.append_assoc, List.take_succ_cons, List.take_zero, List.drop_succ_cons, List.drop_zero, List.set_cons_zero, List.set_cons_succ, true_or, or_true, and_self, Bool.false_eq_true, Nat.le_refl, Option.bind_some, Option.map_some, Option.getD_some, Option.isSome_some, List.map_cons, List.map_nil, List.cons_append, List.nil_append, List.append_nil, List.getElem?_cons_zero, List.getElem?_cons_succ, eq_self, Int.reduceLT, Int.reduceLE, Int.reduceNeg, Int.reduceEq]
  refine loop_rule (fun n e h' => ∃ (i : Nat), e 0 = .string s ∧ e 5 = .int .i64 s.size ∧ e 6 = .int .i64 i ∧ i ≤ s.size ∧ n = s.size - i ∧ h = h' ∧ (s.data.toList.take i).all plainB = true) ?_ s.size _ _ ⟨0, rfl, rfl, rfl, Nat.zero_le _, rfl, rfl, by simp⟩
  rintro n e h' ⟨i, e0, e5, e6, hi, rfl, rfl, hall⟩
  simp (disch := omega) only [VW, VY, VZ, VA, VB, VC, VE, TY, ↓reduceIte, Nat.reduceEqDiff, Nat.reduceAdd, Nat.reduceMul, Nat.reduceSub, Nat.reduceLeDiff, List.length_cons, List.length_nil, List.length_append, List.append_assoc, List.take_succ_cons, List.take_zero, List.drop_succ_cons, List.drop_zero, List.set_cons_zero, List.set_cons_succ, true_or, or_true, and_self, Bool.false_eq_true, Nat.le_refl, Option.bind_some, Option.map_some, Option.getD_some, Option.isSome_some, List.map_cons, List.map_nil, List.cons_append, List.nil_append, List.append_nil, List.getElem?_cons_zero, List.getElem?_cons_succ, eq_self, Int.reduceLT, Int.reduceLE, Int.reduceNeg, Int.reduceEq, e5, e6]
  by_cases hlt : i < s.size
  · obtain ⟨c, hc, hc'⟩ := get_str hlt
    have q1 : (i : Int) < (s.size : Int) := by omega
    have hc5 := c.toNat_lt
    simp (disch := omega) only [VW, VY, VZ, VA, VB, VC, VE, TY, ↓reduceIte, Nat.reduceEqDiff, Nat.reduceAdd, Nat.reduceMul, Nat.reduceSub, Nat.reduceLeDiff, List.length_cons, List.length_nil, List.length_append, List.append_assoc, List.take_succ_cons, List.take_zero, List.drop_succ_cons, List.drop_zero, List.set_cons_zero, List.set_cons_succ, true_or, or_true, and_self, Bool.false_eq_true, Nat.le_refl, Option.bind_some, Option.map_some, Option.getD_some, Option.isSome_some, List.map_cons, List.map_nil, List.cons_append, List.nil_append, List.append_nil, List.getElem?_cons_zero, List.getElem?_cons_succ, eq_self, Int.reduceLT, Int.reduceLE, Int.reduceNeg, Int.reduceEq, e0, e5, e6, q1, hc]
    by_cases c1 : c.toNat = 10
    · have c1' : (c.toNat : Int) = 10 := by omega
      simp (disch := omega) only [VW, VY, VZ, VA, VB, VC, VE, TY, ↓reduceIte, Nat.reduceEqDiff, Nat.reduceAdd, Nat.reduceMul, Nat.reduceSub, Nat.reduceLeDiff, List.length_cons, List.length_nil, List.length_append, List.append_assoc, List.take_succ_cons, List.take_zero, List.drop_succ_cons, List.drop_zero, List.set_cons_zero, List.set_cons_succ, true_or, or_true, and_self, Bool.false_eq_true, Nat.le_refl, Option.bind_some, Option.map_some, Option.getD_some, Option.isSome_some, List.map_cons, List.map_nil, List.cons_append, List.nil_append, List.append_nil, List.getElem?_cons_zero, List.getElem?_cons_succ, eq_self, Int.reduceLT, Int.reduceLE, Int.reduceNeg, Int.reduceEq, c1', e0, e5, e6, wrap_in]
      exact ⟨_, by omega, i + 1, by simp, by omega, rfl, by rw [all_take _ hc', hall]; simp [plainB, c1]⟩
    · have c1' : ¬ (c.toNat : Int) = 10 := by omega
      simp (disch := omega) only [VW, VY, VZ, VA, VB, VC, VE, TY, ↓reduceIte, Nat.reduceEqDiff, Nat.reduceAdd, Nat.reduceMul, Nat.reduceSub, Nat.reduceLeDiff, List.length_cons, List.length_nil, List.length_append, List.append_assoc, List.take_succ_cons, List.take_zero, List.drop_succ_cons, List.drop_zero, List.set_cons_zero, List.set_cons_succ, true_or, or_true, and_self, Bool.false_eq_true, Nat.le_refl, Option.bind_some, Option.map_some, Option.getD_some, Option.isSome_some, List.map_cons, List.map_nil, List.cons_append, List.nil_append, List.append_nil, List.getElem?_cons_zero, List.getElem?_cons_succ, eq_self, Int.reduceLT, Int.reduceLE, Int.reduceNeg, Int.reduceEq, c1', e0, hc]
      by_cases c2 : c.toNat < 32
      · have c2' : (c.toNat : Int) < 32 := by omega
        simp (disch := omega) only [VW, VY, VZ, VA, VB, VC, VE, TY, ↓reduceIte, Nat.reduceEqDiff, Nat.reduceAdd, Nat.reduceMul, Nat.reduceSub, Nat.reduceLeDiff, List.length_cons, List.length_nil, List.length_append, List.append_assoc, List.take_succ_cons, List.take_zero, List.drop_succ_cons, List.drop_zero, List.set_cons_zero, List.set_cons_succ, true_or, or_true, and_self, Bool.false_eq_true, Nat.le_refl, Option.bind_some, Option.map_some, Option.getD_some, Option.isSome_some, List.map_cons, List.map_nil, List.cons_append, List.nil_append, List.append_nil, List.getElem?_cons_zero, List.getElem?_cons_succ, eq_self, Int.reduceLT, Int.reduceLE, Int.reduceNeg, Int.reduceEq, c2']
        rw [all_false hc' (by simp [plainB, c1]; omega)] at hQ
        exact hQ
      · have c2' : ¬ (c.toNat : Int) < 32 := by omega
        simp (disch := omega) only [VW, VY, VZ, VA, VB, VC, VE, TY, ↓reduceIte, Nat.reduceEqDiff, Nat.reduceAdd, Nat.reduceMul, Nat.reduceSub, Nat.reduceLeDiff, List.length_cons, List.length_nil, List.length_append, List.append_assoc, List.take_succ_cons, List.take_zero, List.drop_succ_cons, List.drop_zero, List.set_cons_zero, List.set_cons_succ, true_or, or_true, and_self, Bool.false_eq_true, Nat.le_refl, Option.bind_some, Option.map_some, Option.getD_some, Option.isSome_some, List.map_cons, List.map_nil, List.cons_append, List.nil_append, List.append_nil, List.getElem?_cons_zero, List.getElem?_cons_succ, eq_self, Int.reduceLT, Int.reduceLE, Int.reduceNeg, Int.reduceEq, c2', e0, hc]
        by_cases c3 : 126 < c.toNat
        · have c3' : (126 : Int) < (c.toNat : Int) := by omega
          simp (disch := omega) only [VW, VY, VZ, VA, VB, VC, VE, TY, ↓reduceIte, Nat.reduceEqDiff, Nat.reduceAdd, Nat.reduceMul, Nat.reduceSub, Nat.reduceLeDiff, List.length_cons, List.length_nil, List.length_append, List.append_assoc, List.take_succ_cons, List.take_zero, List.drop_succ_cons, List.drop_zero, List.set_cons_zero, List.set_cons_succ, true_or, or_true, and_self, Bool.false_eq_true, Nat.le_refl, Option.bind_some, Option.map_some, Option.getD_some, Option.isSome_some, List.map_cons, List.map_nil, List.cons_append, List.nil_append, List.append_nil, List.getElem?_cons_zero, List.getElem?_cons_succ, eq_self, Int.reduceLT, Int.reduceLE, Int.reduceNeg, Int.reduceEq, c3']
          rw [all_false hc' (by simp [plainB, c1]; omega)] at hQ
          exact hQ
        · have c3' : ¬ (126 : Int) < (c.toNat : Int) := by omega
          simp (disch := omega) only [VW, VY, VZ, VA, VB, VC, VE, TY, ↓reduceIte, Nat.reduceEqDiff, Nat.reduceAdd, Nat.reduceMul, Nat.reduceSub, Nat.reduceLeDiff, List.length_cons, List.length_nil, List.length_append, List.append_assoc, List.take_succ_cons, List.take_zero, List.drop_succ_cons, List.drop_zero, List.set_cons_zero, List.set_cons_succ, true_or, or_true, and_self, Bool.false_eq_true, Nat.le_refl, Option.bind_some, Option.map_some, Option.getD_some, Option.isSome_some, List.map_cons, List.map_nil, List.cons_append, List.nil_append, List.append_nil, List.getElem?_cons_zero, List.getElem?_cons_succ, eq_self, Int.reduceLT, Int.reduceLE, Int.reduceNeg, Int.reduceEq, c3', e0, e5, e6, wrap_in]
          exact ⟨_, by omega, i + 1, by simp, by omega, rfl, by rw [all_take _ hc', hall]; simp [plainB, c1]; omega⟩
  · obtain rfl : i = s.size := by omega
    have q1 : ¬ (s.size : Int) < (s.size : Int) := by omega
    rw [List.take_of_length_le (by omega)] at hall
    rw [hall] at hQ
    simp (disch := omega) only [VW, VY, VZ, VA, VB, VC, VE, TY, ↓reduceIte, Nat.reduceEqDiff, Nat.reduceAdd, Nat.reduceMul, Nat.reduceSub, Nat.reduceLeDiff, List.length_cons, List.length_nil, List.length_append, List.append_assoc, List.take_succ_cons, List.take_zero, List.drop_succ_cons, List.drop_zero, List.set_cons_zero, List.set_cons_succ, true_or, or_true, and_self, Bool.false_eq_true, Nat.le_refl, Option.bind_some, Option.map_some, Option.getD_some, Option.isSome_some, List.map_cons, List.map_nil, List.cons_append, List.nil_append, List.append_nil, List.getElem?_cons_zero, List.getElem?_cons_succ, eq_self, Int.reduceLT, Int.reduceLE, Int.reduceNeg, Int.reduceEq, e0, q1]
    have e : decide ((s.size : Int) ≤ 9000) = decide (s.size ≤ 9000) := by rw [decide_eq_decide]; omega
    rw [e]
    simpa using hQ
theorem cpPlain_c {s : ByteArray} {h : Heap} {Q : Value → Heap → Prop} (hs : s.size ≤ 9223372036854775807) (hQ : Q (.bool (plainM s)) h) : CallsV Tryz.prog 22 [.string s] h Q := by
  refine CallsV.start Tryz.func22 rfl (by rw [Tryz.results22]) (by kernel_rfl) (by rw [Tryz.ntmps22]; simp) ?_
  unfold plainM at hQ
  have hl := str_len s
  simp (disch := omega) only [VW, VY, VZ, VA, VB, VC, VE, TY, ↓reduceIte, Nat.reduceEqDiff, Nat.reduceAdd, Nat.reduceMul, Nat.reduceSub, Nat.reduceLeDiff, List.length_cons, List.length_nil, List.length_append, List.append_assoc, List.take_succ_cons, List.take_zero, List.drop_succ_cons, List.drop_zero, List.set_cons_zero, List.set_cons_succ, true_or, or_true, and_self, Bool.false_eq_true, Nat.le_refl, Option.bind_some, Option.map_some, Option.getD_some, Option.isSome_some, List.map_cons, List.map_nil, List.cons_append, List.nil_append, List.append_nil, List.getElem?_cons_zero, List.getElem?_cons_succ, eq_self, Int.reduceLT, Int.reduceLE, Int.reduceNeg, Int.reduceEq]
  refine loop_rule (fun n e h' => ∃ (i : Nat), e 0 = .string s ∧ e 3 = .int .i64 i ∧ i ≤ s.size ∧ n = s.size - i ∧ h = h' ∧ (s.data.toList.take i).all plainB = true) ?_ s.size _ _ ⟨0, rfl, rfl, Nat.zero_le _, rfl, rfl, by simp⟩
  rintro n e h' ⟨i, e0, e3, hi, rfl, rfl, hall⟩
  simp (disch := omega) only [VW, VY, VZ, VA, VB, VC, VE, TY, ↓reduceIte, Nat.reduceEqDiff, Nat.reduceAdd, Nat.reduceMul, Nat.reduceSub, Nat.reduceLeDiff, List.length_cons, List.length_nil, List.length_append, List.append_assoc, List.take_succ_cons, List.take_zero, List.drop_succ_cons, List.drop_zero, List.set_cons_zero, List.set_cons_succ, true_or, or_true, and_self, Bool.false_eq_true, Nat.le_refl, Option.bind_some, Option.map_some, Option.getD_some, Option.isSome_some, List.map_cons, List.map_nil, List.cons_append, List.nil_append, List.append_nil, List.getElem?_cons_zero, List.getElem?_cons_succ, eq_self, Int.reduceLT, Int.reduceLE, Int.reduceNeg, Int.reduceEq, e0, e3]
  by_cases hlt : i < s.size
  · obtain ⟨c, hc, hc'⟩ := get_str hlt
    have q1 : (i : Int) < (s.size : Int) := by omega
    have hc5 := c.toNat_lt
    simp (disch := omega) only [VW, VY, VZ, VA, VB, VC, VE, TY, ↓reduceIte, Nat.reduceEqDiff, Nat.reduceAdd, Nat.reduceMul, Nat.reduceSub, Nat.reduceLeDiff, List.length_cons, List.length_nil, List.length_append, List.append_assoc, List.take_succ_cons, List.take_zero, List.drop_succ_cons, List.drop_zero, List.set_cons_zero, List.set_cons_succ, true_or, or_true, and_self, Bool.false_eq_true, Nat.le_refl, Option.bind_some, Option.map_some, Option.getD_some, Option.isSome_some, List.map_cons, List.map_nil, List.cons_append, List.nil_append, List.append_nil, List.getElem?_cons_zero, List.getElem?_cons_succ, eq_self, Int.reduceLT, Int.reduceLE, Int.reduceNeg, Int.reduceEq, e0, e3, q1, hc]
    by_cases c1 : c.toNat = 10
    · have c1' : (c.toNat : Int) = 10 := by omega
      simp (disch := omega) only [VW, VY, VZ, VA, VB, VC, VE, TY, ↓reduceIte, Nat.reduceEqDiff, Nat.reduceAdd, Nat.reduceMul, Nat.reduceSub, Nat.reduceLeDiff, List.length_cons, List.length_nil, List.length_append, List.append_assoc, List.take_succ_cons, List.take_zero, List.drop_succ_cons, List.drop_zero, List.set_cons_zero, List.set_cons_succ, true_or, or_true, and_self, Bool.false_eq_true, Nat.le_refl, Option.bind_some, Option.map_some, Option.getD_some, Option.isSome_some, List.map_cons, List.map_nil, List.cons_append, List.nil_append, List.append_nil, List.getElem?_cons_zero, List.getElem?_cons_succ, eq_self, Int.reduceLT, Int.reduceLE, Int.reduceNeg, Int.reduceEq, c1', e0, e3, wrap_in]
      exact ⟨_, by omega, i + 1, by simp, by omega, rfl, by rw [all_take _ hc', hall]; simp [plainB, c1]⟩
    · have c1' : ¬ (c.toNat : Int) = 10 := by omega
      simp (disch := omega) only [VW, VY, VZ, VA, VB, VC, VE, TY, ↓reduceIte, Nat.reduceEqDiff, Nat.reduceAdd, Nat.reduceMul, Nat.reduceSub, Nat.reduceLeDiff, List.length_cons, List.length_nil, List.length_append, List.append_assoc, List.take_succ_cons, List.take_zero, List.drop_succ_cons, List.drop_zero, List.set_cons_zero, List.set_cons_succ, true_or, or_true, and_self, Bool.false_eq_true, Nat.le_refl, Option.bind_some, Option.map_some, Option.getD_some, Option.isSome_some, List.map_cons, List.map_nil, List.cons_append, List.nil_append, List.append_nil, List.getElem?_cons_zero, List.getElem?_cons_succ, eq_self, Int.reduceLT, Int.reduceLE, Int.reduceNeg, Int.reduceEq, c1', e0, e3, hc, wrap_in]
      refine .inl ⟨by kernel_rfl, ?_⟩; refine l1In_c ?_
      by_cases c2 : 32 ≤ (c.toNat : Int) ∧ (c.toNat : Int) ≤ 126
      · have d2 := decide_eq_true c2
        simp (disch := omega) only [VW, VY, VZ, VA, VB, VC, VE, TY, ↓reduceIte, Nat.reduceEqDiff, Nat.reduceAdd, Nat.reduceMul, Nat.reduceSub, Nat.reduceLeDiff, List.length_cons, List.length_nil, List.length_append, List.append_assoc, List.take_succ_cons, List.take_zero, List.drop_succ_cons, List.drop_zero, List.set_cons_zero, List.set_cons_succ, true_or, or_true, and_self, Bool.false_eq_true, Nat.le_refl, Option.bind_some, Option.map_some, Option.getD_some, Option.isSome_some, List.map_cons, List.map_nil, List.cons_append, List.nil_append, List.append_nil, List.getElem?_cons_zero, List.getElem?_cons_succ, eq_self, Int.reduceLT, Int.reduceLE, Int.reduceNeg, Int.reduceEq, d2, e0, e3, wrap_in]
        exact ⟨_, by omega, i + 1, by simp, by omega, rfl, by rw [all_take _ hc', hall]; simp [plainB, c1]; omega⟩
      · have d2 := decide_eq_false c2
        simp (disch := omega) only [VW, VY, VZ, VA, VB, VC, VE, TY, ↓reduceIte, Nat.reduceEqDiff, Nat.reduceAdd, Nat.reduceMul, Nat.reduceSub, Nat.reduceLeDiff, List.length_cons, List.length_nil, List.length_append, List.append_assoc, List.take_succ_cons, List.take_zero, List.drop_succ_cons, List.drop_zero, List.set_cons_zero, List.set_cons_succ, true_or, or_true, and_self, Bool.false_eq_true, Nat.le_refl, Option.bind_some, Option.map_some, Option.getD_some, Option.isSome_some, List.map_cons, List.map_nil, List.cons_append, List.nil_append, List.append_nil, List.getElem?_cons_zero, List.getElem?_cons_succ, eq_self, Int.reduceLT, Int.reduceLE, Int.reduceNeg, Int.reduceEq, d2]
        rw [all_false hc' (by simp [plainB, c1]; omega)] at hQ
        exact hQ
  · obtain rfl : i = s.size := by omega
    have q1 : ¬ (s.size : Int) < (s.size : Int) := by omega
    rw [List.take_of_length_le (by omega)] at hall
    rw [hall] at hQ
    simp (disch := omega) only [VW, VY, VZ, VA, VB, VC, VE, TY, ↓reduceIte, Nat.reduceEqDiff, Nat.reduceAdd, Nat.reduceMul, Nat.reduceSub, Nat.reduceLeDiff, List.length_cons, List.length_nil, List.length_append, List.append_assoc, List.take_succ_cons, List.take_zero, List.drop_succ_cons, List.drop_zero, List.set_cons_zero, List.set_cons_succ, true_or, or_true, and_self, Bool.false_eq_true, Nat.le_refl, Option.bind_some, Option.map_some, Option.getD_some, Option.isSome_some, List.map_cons, List.map_nil, List.cons_append, List.nil_append, List.append_nil, List.getElem?_cons_zero, List.getElem?_cons_succ, eq_self, Int.reduceLT, Int.reduceLE, Int.reduceNeg, Int.reduceEq, e0, e3, q1]
    have e : decide ((s.size : Int) ≤ 9000) = decide (s.size ≤ 9000) := by rw [decide_eq_decide]; omega
    rw [e]
    simpa using hQ

def sumM (l : List UInt8) : Nat := l.foldl (fun a c => (29 * a + c.toNat) % 999983) 3
theorem sumM_lt (l : List UInt8) : sumM l < 999983 := by
  unfold sumM
  have : ∀ (l : List UInt8) (a : Nat), a < 999983 → l.foldl (fun a c => (29 * a + c.toNat) % 999983) a < 999983 := by
    intro l
    induction l with
    | nil => intro a h; exact h
    | cons c l ih => intro a h; exact ih _ (Nat.mod_lt _ (by decide))
  exact this l 3 (by decide)
theorem sumM_take {l : List UInt8} {i : Nat} {c : UInt8} (hc : l[i]? = some c) : sumM (l.take (i + 1)) = (29 * sumM (l.take i) + c.toNat) % 999983 := by
  unfold sumM; rw [List.take_add_one, hc, List.foldl_append]; rfl
def sealB (s : ByteArray) : ByteArray := s ++ ⟨#[35]⟩ ++ decB (sumM s.data.toList) ++ ⟨#[10]⟩
theorem sealB_size (s : ByteArray) : (sealB s).size ≤ s.size + 1002 := by
  unfold sealB
  have h1 := decB_size (sumM s.data.toList) (by have := sumM_lt s.data.toList; omega)
  have e1 : (⟨#[35]⟩ : ByteArray).size = 1 := rfl
  have e2 : (⟨#[10]⟩ : ByteArray).size = 1 := rfl
  rw [size_append, size_append, size_append]; omega

theorem cpSum_c {s : ByteArray} {h : Heap} {Q : Value → Heap → Prop} (hs : s.size ≤ 9223372036854775807) (hQ : Q (.int .i64 (sumM s.data.toList : Nat)) h) : CallsV Tryz.prog 45 [.string s] h Q := by
  refine CallsV.start Tryz.func45 rfl (by rw [Tryz.results45]) (by kernel_rfl) (by rw [Tryz.ntmps45]; simp) ?_
  have hl := str_len s
  simp (disch := omega) only [VW, VY, VZ, VA, VB, VC, VE, TY, ↓reduceIte, Nat.reduceEqDiff, Nat.reduceAdd, Nat.reduceMul, Nat.reduceSub, Nat.reduceLeDiff, List.length_cons, List.length_nil, List.length_append, List.append_assoc, List.take_succ_cons, List.take_zero, List.drop_succ_cons, List.drop_zero, List.set_cons_zero, List.set_cons_succ, true_or, or_true, and_self, Bool.false_eq_true, Nat.le_refl, Option.bind_some, Option.map_some, Option.getD_some, Option.isSome_some, List.map_cons, List.map_nil, List.cons_append, List.nil_append, List.append_nil, List.getElem?_cons_zero, List.getElem?_cons_succ, eq_self, Int.reduceLT, Int.reduceLE, Int.reduceNeg, Int.reduceEq]
  refine loop_rule (fun n e h' => ∃ (i : Nat), e 0 = .string s ∧ e 3 = .int .i64 (sumM (s.data.toList.take i) : Nat) ∧ e 4 = .int .i64 i ∧ i ≤ s.size ∧ n = s.size - i ∧ h = h') ?_ s.size _ _ ⟨0, rfl, rfl, rfl, Nat.zero_le _, rfl, rfl⟩
  rintro n e h' ⟨i, e0, e3, e4, hi, rfl, rfl⟩
  simp (disch := omega) only [VW, VY, VZ, VA, VB, VC, VE, TY, ↓reduceIte, Nat.reduceEqDiff, Nat.reduceAdd, Nat.reduceMul, Nat.reduceSub, Nat.reduceLeDiff, List.length_cons, List.length_nil, List.length_append, List.append_assoc, List.take_succ_cons, List.take_zero, List.drop_succ_cons, List.drop_zero, List.set_cons_zero, List.set_cons_succ, true_or, or_true, and_self, Bool.false_eq_true, Nat.le_refl, Option.bind_some, Option.map_some, Option.getD_some, Option.isSome_some, List.map_cons, List.map_nil, List.cons_append, List.nil_append, List.append_nil, List.getElem?_cons_zero, List.getElem?_cons_succ, eq_self, Int.reduceLT, Int.reduceLE, Int.reduceNeg, Int.reduceEq, e0, e4]
  by_cases hlt : i < s.size
  · obtain ⟨c, hc, hc'⟩ := get_str hlt
    have q1 : (i : Int) < (s.size : Int) := by omega
    have hc5 := c.toNat_lt
    have hsm := sumM_lt (s.data.toList.take i)
    have z : ¬ (999983 : Int) = 0 := by decide
    have tm : Int.tmod (29 * (sumM (s.data.toList.take i) : Nat) + (c.toNat : Int)) 999983 = ((sumM (s.data.toList.take (i + 1)) : Nat) : Int) := by
      rw [sumM_take hc']
      have := tmod_nat (29 * sumM (s.data.toList.take i) + c.toNat) 999983
      simpa using this
    simp (disch := omega) only [VW, VY, VZ, VA, VB, VC, VE, TY, ↓reduceIte, Nat.reduceEqDiff, Nat.reduceAdd, Nat.reduceMul, Nat.reduceSub, Nat.reduceLeDiff, List.length_cons, List.length_nil, List.length_append, List.append_assoc, List.take_succ_cons, List.take_zero, List.drop_succ_cons, List.drop_zero, List.set_cons_zero, List.set_cons_succ, true_or, or_true, and_self, Bool.false_eq_true, Nat.le_refl, Option.bind_some, Option.map_some, Option.getD_some, Option.isSome_some, List.map_cons, List.map_nil, List.cons_append, List.nil_append, List.append_nil, List.getElem?_cons_zero, List.getElem?_cons_succ, eq_self, Int.reduceLT, Int.reduceLE, Int.reduceNeg, Int.reduceEq, e0, e3, e4, q1, hc, wrap_in, z, tm]
    exact ⟨_, by omega, i + 1, rfl, by simp, by omega, rfl⟩
  · obtain rfl : i = s.size := by omega
    have q1 : ¬ (s.size : Int) < (s.size : Int) := by omega
    rw [List.take_of_length_le (by omega)] at e3
    simp (disch := omega) only [VW, VY, VZ, VA, VB, VC, VE, TY, ↓reduceIte, Nat.reduceEqDiff, Nat.reduceAdd, Nat.reduceMul, Nat.reduceSub, Nat.reduceLeDiff, List.length_cons, List.length_nil, List.length_append, List.append_assoc, List.take_succ_cons, List.take_zero, List.drop_succ_cons, List.drop_zero, List.set_cons_zero, List.set_cons_succ, true_or, or_true, and_self, Bool.false_eq_true, Nat.le_refl, Option.bind_some, Option.map_some, Option.getD_some, Option.isSome_some, List.map_cons, List.map_nil, List.cons_append, List.nil_append, List.append_nil, List.getElem?_cons_zero, List.getElem?_cons_succ, eq_self, Int.reduceLT, Int.reduceLE, Int.reduceNeg, Int.reduceEq, e0, e3, e4, q1]
    exact hQ

theorem str_cat {a b : ByteArray} {n : Nat} (ha : a.size + b.size = n) (hn : n ≤ 9223372036854775807) : strV .add a b = some (.string (a ++ b)) := str_add a b (by omega)

theorem sealText_c {s : ByteArray} {h : Heap} {Q : Value → Heap → Prop} (hs : s.size ≤ 1000000000) (hQ : Q (.string (sealB s)) h) : CallsV Tryz.prog 32 [.string s] h Q := by
  refine CallsV.start Tryz.func32 rfl (by rw [Tryz.results32]) (by kernel_rfl) (by rw [Tryz.ntmps32]; simp) ?_
  have hl := str_len s
  simp (disch := omega) only [VW, VY, VZ, VA, VB, VC, VE, TY, ↓reduceIte, Nat.reduceEqDiff, Nat.reduceAdd, Nat.reduceMul, Nat.reduceSub, Nat.reduceLeDiff, List.length_cons, List.length_nil, List.length_append, List.append_assoc, List.take_succ_cons, List.take_zero, List.drop_succ_cons, List.drop_zero, List.set_cons_zero, List.set_cons_succ, true_or, or_true, and_self, Bool.false_eq_true, Nat.le_refl, Option.bind_some, Option.map_some, Option.getD_some, Option.isSome_some, List.map_cons, List.map_nil, List.cons_append, List.nil_append, List.append_nil, List.getElem?_cons_zero, List.getElem?_cons_succ, eq_self, Int.reduceLT, Int.reduceLE, Int.reduceNeg, Int.reduceEq]
  refine loop_rule (fun n e h' => ∃ (i : Nat), e 0 = .string s ∧ e 3 = .int .i64 (sumM (s.data.toList.take i) : Nat) ∧ e 6 = .int .i64 s.size ∧ e 7 = .int .i64 i ∧ i ≤ s.size ∧ n = s.size - i ∧ h = h') ?_ s.size _ _ ⟨0, rfl, rfl, rfl, rfl, Nat.zero_le _, rfl, rfl⟩
  rintro n e h' ⟨i, e0, e3, e6, e7, hi, rfl, rfl⟩
  simp (disch := omega) only [VW, VY, VZ, VA, VB, VC, VE, TY, ↓reduceIte, Nat.reduceEqDiff, Nat.reduceAdd, Nat.reduceMul, Nat.reduceSub, Nat.reduceLeDiff, List.length_cons, List.length_nil, List.length_append, List.append_assoc, List.take_succ_cons, List.take_zero, List.drop_succ_cons, List.drop_zero, List.set_cons_zero, List.set_cons_succ, true_or, or_true, and_self, Bool.false_eq_true, Nat.le_refl, Option.bind_some, Option.map_some, Option.getD_some, Option.isSome_some, List.map_cons, List.map_nil, List.cons_append, List.nil_append, List.append_nil, List.getElem?_cons_zero, List.getElem?_cons_succ, eq_self, Int.reduceLT, Int.reduceLE, Int.reduceNeg, Int.reduceEq, e6, e7]
  by_cases hlt : i < s.size
  · obtain ⟨c, hc, hc'⟩ := get_str hlt
    have q1 : (i : Int) < (s.size : Int) := by omega
    have hc5 := c.toNat_lt
    have hsm := sumM_lt (s.data.toList.take i)
    have z : ¬ (999983 : Int) = 0 := by decide
    have tm : Int.tmod (29 * (sumM (s.data.toList.take i) : Nat) + (c.toNat : Int)) 999983 = ((sumM (s.data.toList.take (i + 1)) : Nat) : Int) := by
      rw [sumM_take hc']
      have := tmod_nat (29 * sumM (s.data.toList.take i) + c.toNat) 999983
      simpa using this
    simp (disch := omega) only [VW, VY, VZ, VA, VB, VC, VE, TY, ↓reduceIte, Nat.reduceEqDiff, Nat.reduceAdd, Nat.reduceMul, Nat.reduceSub, Nat.reduceLeDiff, List.length_cons, List.length_nil, List.length_append, List.append_assoc, List.take_succ_cons, List.take_zero, List.drop_succ_cons, List.drop_zero, List.set_cons_zero, List.set_cons_succ, true_or, or_true, and_self, Bool.false_eq_true, Nat.le_refl, Option.bind_some, Option.map_some, Option.getD_some, Option.isSome_some, List.map_cons, List.map_nil, List.cons_append, List.nil_append, List.append_nil, List.getElem?_cons_zero, List.getElem?_cons_succ, eq_self, Int.reduceLT, Int.reduceLE, Int.reduceNeg, Int.reduceEq, e0, e3, e6, e7, q1, hc, wrap_in, z, tm]
    exact ⟨_, by omega, i + 1, rfl, by simp, by omega, rfl⟩
  · obtain rfl : i = s.size := by omega
    have q1 : ¬ (s.size : Int) < (s.size : Int) := by omega
    rw [List.take_of_length_le (by omega)] at e3
    have hsm := sumM_lt s.data.toList
    have hz := decB_size (sumM s.data.toList) (by omega)
    have e1 : (⟨#[35]⟩ : ByteArray).size = 1 := rfl
    have e2 : (⟨#[10]⟩ : ByteArray).size = 1 := rfl
    have s1 := size_append s ⟨#[35]⟩
    have s2 := size_append (s ++ ⟨#[35]⟩) (decB (sumM s.data.toList))
    have a1 := str_add s ⟨#[35]⟩ (by omega)
    have a2 := str_add (s ++ ⟨#[35]⟩) (decB (sumM s.data.toList)) (by omega)
    have a3 := str_add (s ++ ⟨#[35]⟩ ++ decB (sumM s.data.toList)) ⟨#[10]⟩ (by omega)
    simp (disch := omega) only [VW, VY, VZ, VA, VB, VC, VE, TY, ↓reduceIte, Nat.reduceEqDiff, Nat.reduceAdd, Nat.reduceMul, Nat.reduceSub, Nat.reduceLeDiff, List.length_cons, List.length_nil, List.length_append, List.append_assoc, List.take_succ_cons, List.take_zero, List.drop_succ_cons, List.drop_zero, List.set_cons_zero, List.set_cons_succ, true_or, or_true, and_self, Bool.false_eq_true, Nat.le_refl, Option.bind_some, Option.map_some, Option.getD_some, Option.isSome_some, List.map_cons, List.map_nil, List.cons_append, List.nil_append, List.append_nil, List.getElem?_cons_zero, List.getElem?_cons_succ, eq_self, Int.reduceLT, Int.reduceLE, Int.reduceNeg, Int.reduceEq, e0, e3, q1, a1]
    refine .inl ⟨by kernel_rfl, ?_⟩; refine itoa_c ⟨by omega, by omega⟩ ?_
    rw [itoaB_nat]
    simp (disch := omega) only [VW, VY, VZ, VA, VB, VC, VE, TY, ↓reduceIte, Nat.reduceEqDiff, Nat.reduceAdd, Nat.reduceMul, Nat.reduceSub, Nat.reduceLeDiff, List.length_cons, List.length_nil, List.length_append, List.append_assoc, List.take_succ_cons, List.take_zero, List.drop_succ_cons, List.drop_zero, List.set_cons_zero, List.set_cons_succ, true_or, or_true, and_self, Bool.false_eq_true, Nat.le_refl, Option.bind_some, Option.map_some, Option.getD_some, Option.isSome_some, List.map_cons, List.map_nil, List.cons_append, List.nil_append, List.append_nil, List.getElem?_cons_zero, List.getElem?_cons_succ, eq_self, Int.reduceLT, Int.reduceLE, Int.reduceNeg, Int.reduceEq, a2, a3]
    exact hQ
theorem cpSeal_c {s : ByteArray} {h : Heap} {Q : Value → Heap → Prop} (hs : s.size ≤ 1000000000) (hQ : ∀ h', Ext h h' → Q (.string (sealB s)) h') : CallsV Tryz.prog 23 [.string s] h Q := by
  refine CallsV.start Tryz.func23 rfl (by rw [Tryz.results23]) (by kernel_rfl) (by rw [Tryz.ntmps23]; simp) ?_
  have hsm := sumM_lt s.data.toList
  have hz := decB_size (sumM s.data.toList) (by omega)
  have e1 : (⟨#[35]⟩ : ByteArray).size = 1 := rfl
  have e2 : (⟨#[10]⟩ : ByteArray).size = 1 := rfl
  have s1 := size_append s ⟨#[35]⟩
  have s2 := size_append (s ++ ⟨#[35]⟩) (decB (sumM s.data.toList))
  have a1 := str_add s ⟨#[35]⟩ (by omega)
  have a2 := str_add (s ++ ⟨#[35]⟩) (decB (sumM s.data.toList)) (by omega)
  have a3 := str_add (s ++ ⟨#[35]⟩ ++ decB (sumM s.data.toList)) ⟨#[10]⟩ (by omega)
  simp (disch := omega) only [VW, VY, VZ, VA, VB, VC, VE, TY, ↓reduceIte, Nat.reduceEqDiff, Nat.reduceAdd, Nat.reduceMul, Nat.reduceSub, Nat.reduceLeDiff, List.length_cons, List.length_nil, List.length_append, List.append_assoc, List.take_succ_cons, List.take_zero, List.drop_succ_cons, List.drop_zero, List.set_cons_zero, List.set_cons_succ, true_or, or_true, and_self, Bool.false_eq_true, Nat.le_refl, Option.bind_some, Option.map_some, Option.getD_some, Option.isSome_some, List.map_cons, List.map_nil, List.cons_append, List.nil_append, List.append_nil, List.getElem?_cons_zero, List.getElem?_cons_succ, eq_self, Int.reduceLT, Int.reduceLE, Int.reduceNeg, Int.reduceEq, a1]
  refine .inl ⟨by kernel_rfl, ?_⟩; refine cpSum_c (by omega) ?_
  simp (disch := omega) only [VW, VY, VZ, VA, VB, VC, VE, TY, ↓reduceIte, Nat.reduceEqDiff, Nat.reduceAdd, Nat.reduceMul, Nat.reduceSub, Nat.reduceLeDiff, List.length_cons, List.length_nil, List.length_append, List.append_assoc, List.take_succ_cons, List.take_zero, List.drop_succ_cons, List.drop_zero, List.set_cons_zero, List.set_cons_succ, true_or, or_true, and_self, Bool.false_eq_true, Nat.le_refl, Option.bind_some, Option.map_some, Option.getD_some, Option.isSome_some, List.map_cons, List.map_nil, List.cons_append, List.nil_append, List.append_nil, List.getElem?_cons_zero, List.getElem?_cons_succ, eq_self, Int.reduceLT, Int.reduceLE, Int.reduceNeg, Int.reduceEq]
  refine .inl ⟨by kernel_rfl, ?_⟩; refine l1Num_c _ _ _ (by omega) fun h2 E2 => ?_
  simp (disch := omega) only [VW, VY, VZ, VA, VB, VC, VE, TY, ↓reduceIte, Nat.reduceEqDiff, Nat.reduceAdd, Nat.reduceMul, Nat.reduceSub, Nat.reduceLeDiff, List.length_cons, List.length_nil, List.length_append, List.append_assoc, List.take_succ_cons, List.take_zero, List.drop_succ_cons, List.drop_zero, List.set_cons_zero, List.set_cons_succ, true_or, or_true, and_self, Bool.false_eq_true, Nat.le_refl, Option.bind_some, Option.map_some, Option.getD_some, Option.isSome_some, List.map_cons, List.map_nil, List.cons_append, List.nil_append, List.append_nil, List.getElem?_cons_zero, List.getElem?_cons_succ, eq_self, Int.reduceLT, Int.reduceLE, Int.reduceNeg, Int.reduceEq, a2, a3]
  exact hQ _ E2

def sealTextM (s : ByteArray) : ByteArray × Bool := if plainM s = true then (sealB s, true) else (⟨#[]⟩, false)
end Go.Proofs
