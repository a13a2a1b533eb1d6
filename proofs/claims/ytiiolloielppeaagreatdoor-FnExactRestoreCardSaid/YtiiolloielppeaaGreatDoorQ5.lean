/- Contracts of functions, facts of types, or the plain law behind one statement (own work): Q5. Conditions: those told in each theorem. -/
import Derived.Test.YtiiolloielppeaaGreatDoorS4
import Derived.Test.YtiiolloielppeaaGreatDoorQ1
import Derived.Test.YtiiolloielppeaaGreatDoorQ4
import Derived.Test.YtiiolloielppeaaGreatDoorWU
import Derived.Test.YtiiolloielppeaaGreatDoorD3
set_option linter.all false
set_option linter.unusedSimpArgs false
set_option linter.unusedVariables false
set_option maxRecDepth 4000
set_option linter.unusedSectionVars false
namespace Go.Proofs
open Go Go.V
theorem digV_lt : ∀ (l : List UInt8) (a b : Nat), digV a l = some b → b < (a + 1) * 10 ^ l.length
  | [], a, b, h => by simp only [digV] at h; cases h; simp
  | c :: r, a, b, h => by
    simp only [digV] at h
    split at h
    · rename_i hc
      unfold isDig at hc
      simp only [decide_eq_true_eq] at hc
      have := digV_lt r _ _ h
      rw [List.length_cons, Nat.pow_succ]
      have h2 : (10 * a + (c.toNat - 48) + 1) * 10 ^ r.length ≤ (10 * (a + 1)) * 10 ^ r.length := Nat.mul_le_mul_right _ (by omega)
      have e : (a + 1) * (10 ^ r.length * 10) = (10 * (a + 1)) * 10 ^ r.length := by
        rw [Nat.mul_comm (10 ^ r.length) 10, ← Nat.mul_assoc, Nat.mul_comm (a + 1) 10]
      omega
    · cases h
theorem take_split {l : List UInt8} {i : Nat} {c : UInt8} (h : l[i]? = some c) : l = l.take i ++ (c :: l.drop (i + 1)) := by
  have hlt : i < l.length := by
    rcases Nat.lt_or_ge i l.length with k | k
    · exact k
    · rw [List.getElem?_eq_none k] at h; cases h
  conv => lhs; rw [← List.take_append_drop i l]
  congr 1
  rw [List.drop_eq_getElem_cons hlt]
  congr 1
  rw [List.getElem?_eq_getElem hlt] at h
  exact Option.some.inj h
theorem digV_step {l : List UInt8} {i a b : Nat} {c : UInt8} (h : l[i]? = some c) (hb : digV a (l.take i) = some b) (hc : isDig c = true) : digV a (l.take (i + 1)) = some (10 * b + (c.toNat - 48)) := by
  rw [List.take_add_one, h, digV_app, hb]
  simp only [Option.bind_some, Option.toList_some, digV, hc, if_true]
theorem digV_stop {l : List UInt8} {i a b : Nat} {c : UInt8} (h : l[i]? = some c) (hb : digV a (l.take i) = some b) (hc : ¬ isDig c = true) : digV a l = none := by
  rw [take_split h, digV_app, hb]
  simp only [Option.bind_some, digV, hc]
  rfl
theorem wrap8_in (x : Int) (h : 0 ≤ x ∧ x ≤ 255) : IntKind.wrap .u8 x = x := by
  simp [IntKind.wrap, IntKind.bits, IntKind.signed]
  omega
theorem readM_pos {l : List UInt8} {c : UInt8} (h1 : 1 ≤ l.length ∧ l.length ≤ 6) (hh : l[0]? = some c) (k : ¬ (c.toNat = 48 ∧ 1 < l.length)) : readM l = (match digV 0 l with | some n => (n : Int) | none => -1) := by
  unfold readM
  refine if_pos ⟨h1, ?_⟩
  rintro ⟨k1, k2⟩
  rw [List.head?_eq_getElem?, hh] at k1
  cases k1
  exact k ⟨rfl, k2⟩
theorem isDig_no {c : UInt8} (h : (c.toNat : Int) < 48 ∨ (57 : Int) < c.toNat) : ¬ isDig c = true := by
  unfold isDig; simp only [decide_eq_true_eq]; omega
theorem isDig_yes {c : UInt8} (h1 : ¬ (c.toNat : Int) < 48) (h2 : ¬ (57 : Int) < c.toNat) : isDig c = true := by
  unfold isDig; simp only [decide_eq_true_eq]; omega
theorem ten_le {i : Nat} (h : i ≤ 6) : 10 ^ i ≤ 1000000 := by
  have := Nat.pow_le_pow_right (show 0 < 10 by decide) h
  simpa using this
theorem l1Read_c {s : ByteArray} {h : Heap} {Q : Value → Heap → Prop} (hs : s.size ≤ 1000000) (hQ : Q (.int .i64 (readM s.data.toList)) h) : CallsV Tryz.prog 25 [.string s] h Q := by
  refine CallsV.start Tryz.func25 rfl (by rw [Tryz.results25]) (by kernel_rfl) (by rw [Tryz.ntmps25]; simp) ?_
  have hl := str_len s
  simp (disch := omega) only [VW, VY, VZ, VA, VB, VC, VE, TY, ↓reduceIte, Nat.reduceEqDiff, Nat.reduceAdd, Nat.reduceMul, Nat.reduceSub, Nat.reduceLeDiff, List.length_cons, List.length_nil, List.length_append, List.append_assoc, List.take_succ_cons, List.take_zero, List.drop_succ_cons, List.drop_zero, List.set_cons_zero, List.set_cons_succ, true_or, or_true, and_self, Bool.false_eq_true, Nat.le_refl, Option.bind_some, Option.map_some, Option.getD_some, Option.isSome_some, List.map_cons, List.map_nil, List.cons_append, List.nil_append, List.append_nil, List.getElem?_cons_zero, List.getElem?_cons_succ, eq_self, Int.reduceLT, Int.reduceLE, Int.reduceNeg, Int.reduceEq]
  refine .inl ⟨by kernel_rfl, ?_⟩; refine l1In_c ?_
  by_cases c1 : ¬ (1 ≤ (s.size : Int) ∧ (s.size : Int) ≤ 6)
  · have d1 := decide_eq_false c1
    unfold readM at hQ
    rw [if_neg (by omega)] at hQ
    simp (disch := omega) only [VW, VY, VZ, VA, VB, VC, VE, TY, ↓reduceIte, Nat.reduceEqDiff, Nat.reduceAdd, Nat.reduceMul, Nat.reduceSub, Nat.reduceLeDiff, List.length_cons, List.length_nil, List.length_append, List.append_assoc, List.take_succ_cons, List.take_zero, List.drop_succ_cons, List.drop_zero, List.set_cons_zero, List.set_cons_succ, true_or, or_true, and_self, Bool.false_eq_true, Nat.le_refl, Option.bind_some, Option.map_some, Option.getD_some, Option.isSome_some, List.map_cons, List.map_nil, List.cons_append, List.nil_append, List.append_nil, List.getElem?_cons_zero, List.getElem?_cons_succ, eq_self, Int.reduceLT, Int.reduceLE, Int.reduceNeg, Int.reduceEq, d1]
    exact hQ
  have c1 := Decidable.not_not.1 c1
  have d1 := decide_eq_true c1
  obtain ⟨c, hc, hc'⟩ := get_str (show 0 < s.size by omega)
  have hc5 := c.toNat_lt
  have q0 : (0 : Int) < (s.size : Int) := by omega
  by_cases k : c.toNat = 48 ∧ 1 < s.size
  · have key : readM s.data.toList = -1 := by
      have : c = 48 := by
        apply UInt8.toNat_inj.1; rw [k.1]; rfl
      unfold readM
      refine if_neg ?_
      rintro ⟨_, k3⟩
      exact k3 ⟨by rw [List.head?_eq_getElem?, hc', this], by omega⟩
    have c2 : (c.toNat : Int) = 48 := by omega
    have c3 : (1 : Int) < (s.size : Int) := by omega
    rw [key] at hQ
    simp (disch := omega) only [VW, VY, VZ, VA, VB, VC, VE, TY, ↓reduceIte, Nat.reduceEqDiff, Nat.reduceAdd, Nat.reduceMul, Nat.reduceSub, Nat.reduceLeDiff, List.length_cons, List.length_nil, List.length_append, List.append_assoc, List.take_succ_cons, List.take_zero, List.drop_succ_cons, List.drop_zero, List.set_cons_zero, List.set_cons_succ, true_or, or_true, and_self, Bool.false_eq_true, Nat.le_refl, Option.bind_some, Option.map_some, Option.getD_some, Option.isSome_some, List.map_cons, List.map_nil, List.cons_append, List.nil_append, List.append_nil, List.getElem?_cons_zero, List.getElem?_cons_succ, eq_self, Int.reduceLT, Int.reduceLE, Int.reduceNeg, Int.reduceEq, d1, hc, x_ix_zero, c2, c3]
    exact hQ
  rw [readM_pos (by omega) hc' (by rw [hl]; exact k)] at hQ
  rcases Classical.em ((c.toNat : Int) = 48) with c2 | c2
  case' inl =>
    have c3 : ¬ (1 : Int) < (s.size : Int) := by omega
    simp (disch := omega) only [VW, VY, VZ, VA, VB, VC, VE, TY, ↓reduceIte, Nat.reduceEqDiff, Nat.reduceAdd, Nat.reduceMul, Nat.reduceSub, Nat.reduceLeDiff, List.length_cons, List.length_nil, List.length_append, List.append_assoc, List.take_succ_cons, List.take_zero, List.drop_succ_cons, List.drop_zero, List.set_cons_zero, List.set_cons_succ, true_or, or_true, and_self, Bool.false_eq_true, Nat.le_refl, Option.bind_some, Option.map_some, Option.getD_some, Option.isSome_some, List.map_cons, List.map_nil, List.cons_append, List.nil_append, List.append_nil, List.getElem?_cons_zero, List.getElem?_cons_succ, eq_self, Int.reduceLT, Int.reduceLE, Int.reduceNeg, Int.reduceEq, d1, hc, x_ix_zero, c2, c3]
  case' inr =>
    simp (disch := omega) only [VW, VY, VZ, VA, VB, VC, VE, TY, ↓reduceIte, Nat.reduceEqDiff, Nat.reduceAdd, Nat.reduceMul, Nat.reduceSub, Nat.reduceLeDiff, List.length_cons, List.length_nil, List.length_append, List.append_assoc, List.take_succ_cons, List.take_zero, List.drop_succ_cons, List.drop_zero, List.set_cons_zero, List.set_cons_succ, true_or, or_true, and_self, Bool.false_eq_true, Nat.le_refl, Option.bind_some, Option.map_some, Option.getD_some, Option.isSome_some, List.map_cons, List.map_nil, List.cons_append, List.nil_append, List.append_nil, List.getElem?_cons_zero, List.getElem?_cons_succ, eq_self, Int.reduceLT, Int.reduceLE, Int.reduceNeg, Int.reduceEq, d1, hc, x_ix_zero, c2]
  all_goals
    refine loop_rule (fun n e h' => ∃ (i m : Nat), e 0 = .string s ∧ e 3 = .int .i64 (m : Int) ∧ e 4 = .int .i64 (i : Int) ∧ i ≤ s.size ∧ n = s.size - i ∧ h' = h ∧ digV 0 (s.data.toList.take i) = some m) ?_ s.size _ _ ⟨0, 0, rfl, rfl, rfl, Nat.zero_le _, rfl, rfl, by simp [digV]⟩
    rintro n e h' ⟨i, m, e0, e3, e4, hi, rfl, rfl, hm⟩
    have hml := digV_lt _ _ _ hm
    rw [List.length_take, hl, Nat.min_eq_left hi, Nat.zero_add, Nat.one_mul] at hml
    have hml2 := ten_le (show i ≤ 6 by omega)
    simp (disch := omega) only [VW, VY, VZ, VA, VB, VC, VE, TY, ↓reduceIte, Nat.reduceEqDiff, Nat.reduceAdd, Nat.reduceMul, Nat.reduceSub, Nat.reduceLeDiff, List.length_cons, List.length_nil, List.length_append, List.append_assoc, List.take_succ_cons, List.take_zero, List.drop_succ_cons, List.drop_zero, List.set_cons_zero, List.set_cons_succ, true_or, or_true, and_self, Bool.false_eq_true, Nat.le_refl, Option.bind_some, Option.map_some, Option.getD_some, Option.isSome_some, List.map_cons, List.map_nil, List.cons_append, List.nil_append, List.append_nil, List.getElem?_cons_zero, List.getElem?_cons_succ, eq_self, Int.reduceLT, Int.reduceLE, Int.reduceNeg, Int.reduceEq, e0, e4]
    by_cases hlt : i < s.size
    · obtain ⟨d, hd, hd'⟩ := get_str hlt
      have q1 : (i : Int) < (s.size : Int) := by omega
      have hd5 := d.toNat_lt
      by_cases b1 : (d.toNat : Int) < 48
      · rw [digV_stop hd' hm (isDig_no (.inl b1))] at hQ
        simp (disch := omega) only [VW, VY, VZ, VA, VB, VC, VE, TY, ↓reduceIte, Nat.reduceEqDiff, Nat.reduceAdd, Nat.reduceMul, Nat.reduceSub, Nat.reduceLeDiff, List.length_cons, List.length_nil, List.length_append, List.append_assoc, List.take_succ_cons, List.take_zero, List.drop_succ_cons, List.drop_zero, List.set_cons_zero, List.set_cons_succ, true_or, or_true, and_self, Bool.false_eq_true, Nat.le_refl, Option.bind_some, Option.map_some, Option.getD_some, Option.isSome_some, List.map_cons, List.map_nil, List.cons_append, List.nil_append, List.append_nil, List.getElem?_cons_zero, List.getElem?_cons_succ, eq_self, Int.reduceLT, Int.reduceLE, Int.reduceNeg, Int.reduceEq, e0, e4, q1, hd, b1]
        exact hQ
      by_cases b2 : (57 : Int) < (d.toNat : Int)
      · rw [digV_stop hd' hm (isDig_no (.inr b2))] at hQ
        simp (disch := omega) only [VW, VY, VZ, VA, VB, VC, VE, TY, ↓reduceIte, Nat.reduceEqDiff, Nat.reduceAdd, Nat.reduceMul, Nat.reduceSub, Nat.reduceLeDiff, List.length_cons, List.length_nil, List.length_append, List.append_assoc, List.take_succ_cons, List.take_zero, List.drop_succ_cons, List.drop_zero, List.set_cons_zero, List.set_cons_succ, true_or, or_true, and_self, Bool.false_eq_true, Nat.le_refl, Option.bind_some, Option.map_some, Option.getD_some, Option.isSome_some, List.map_cons, List.map_nil, List.cons_append, List.nil_append, List.append_nil, List.getElem?_cons_zero, List.getElem?_cons_succ, eq_self, Int.reduceLT, Int.reduceLE, Int.reduceNeg, Int.reduceEq, e0, e4, q1, hd, b1, b2]
        exact hQ
      have w1 := wrap8_in ((d.toNat : Int) - 48) (by omega)
      simp (disch := omega) only [VW, VY, VZ, VA, VB, VC, VE, TY, ↓reduceIte, Nat.reduceEqDiff, Nat.reduceAdd, Nat.reduceMul, Nat.reduceSub, Nat.reduceLeDiff, List.length_cons, List.length_nil, List.length_append, List.append_assoc, List.take_succ_cons, List.take_zero, List.drop_succ_cons, List.drop_zero, List.set_cons_zero, List.set_cons_succ, true_or, or_true, and_self, Bool.false_eq_true, Nat.le_refl, Option.bind_some, Option.map_some, Option.getD_some, Option.isSome_some, List.map_cons, List.map_nil, List.cons_append, List.nil_append, List.append_nil, List.getElem?_cons_zero, List.getElem?_cons_succ, eq_self, Int.reduceLT, Int.reduceLE, Int.reduceNeg, Int.reduceEq, e0, e3, e4, q1, hd, b1, b2, wrap_in, w1]
      exact ⟨_, by omega, i + 1, 10 * m + (d.toNat - 48), by congr 1; omega, by simp, by omega, rfl, digV_step hd' hm (isDig_yes b1 b2)⟩
    · obtain rfl : i = s.size := by omega
      have q1 : ¬ (s.size : Int) < (s.size : Int) := by omega
      rw [List.take_of_length_le (by omega)] at hm
      rw [hm] at hQ
      simp (disch := omega) only [VW, VY, VZ, VA, VB, VC, VE, TY, ↓reduceIte, Nat.reduceEqDiff, Nat.reduceAdd, Nat.reduceMul, Nat.reduceSub, Nat.reduceLeDiff, List.length_cons, List.length_nil, List.length_append, List.append_assoc, List.take_succ_cons, List.take_zero, List.drop_succ_cons, List.drop_zero, List.set_cons_zero, List.set_cons_succ, true_or, or_true, and_self, Bool.false_eq_true, Nat.le_refl, Option.bind_some, Option.map_some, Option.getD_some, Option.isSome_some, List.map_cons, List.map_nil, List.cons_append, List.nil_append, List.append_nil, List.getElem?_cons_zero, List.getElem?_cons_succ, eq_self, Int.reduceLT, Int.reduceLE, Int.reduceNeg, Int.reduceEq, e0, e3, e4, q1]
      exact hQ
theorem digW_app (a : Nat) (l m : List UInt8) : digW a (l ++ m) = (digW a l).bind fun b => digW b m := by
  induction l generalizing a with
  | nil => rfl
  | cons c r ih =>
    rw [List.cons_append]
    simp only [digW]
    by_cases h : isDig c = true ∧ a ≤ 10995116277760
    · rw [if_pos h, if_pos h, ih]
    · rw [if_neg h, if_neg h]; rfl
theorem digW_max : ∀ (l : List UInt8) (a b : Nat), a ≤ 109951162777609 → digW a l = some b → b ≤ 109951162777609
  | [], a, b, ha, h => by simp only [digW] at h; cases h; exact ha
  | c :: r, a, b, ha, h => by
    simp only [digW] at h
    split at h
    · rename_i hc
      have hd := hc.1
      unfold isDig at hd
      simp only [decide_eq_true_eq] at hd
      exact digW_max r _ _ (by omega) h
    · cases h
theorem digW_step {l : List UInt8} {i a b : Nat} {c : UInt8} (h : l[i]? = some c) (hb : digW a (l.take i) = some b) (hc : isDig c = true ∧ b ≤ 10995116277760) : digW a (l.take (i + 1)) = some (10 * b + (c.toNat - 48)) := by
  rw [List.take_add_one, h, digW_app, hb]
  simp only [Option.bind_some, Option.toList_some, digW]
  rw [if_pos hc]
theorem digW_stop {l : List UInt8} {i a b : Nat} {c : UInt8} (h : l[i]? = some c) (hb : digW a (l.take i) = some b) (hc : ¬ (isDig c = true ∧ b ≤ 10995116277760)) : digW a l = none := by
  rw [take_split h, digW_app, hb]
  simp only [Option.bind_some, digW]
  rw [if_neg hc]
theorem dyRead_c {s : ByteArray} {h : Heap} {Q : Value → Heap → Prop} (hs : s.size ≤ 1000000) (hQ : Q (.int .i64 (dyReadM s.data.toList)) h) : CallsV Tryz.prog 46 [.string s] h Q := by
  refine CallsV.start Tryz.func46 rfl (by rw [Tryz.results46]) (by kernel_rfl) (by rw [Tryz.ntmps46]; simp) ?_
  have hl := str_len s
  unfold dyReadM at hQ
  by_cases z : s.size = 0
  · have z1 : ¬ (0 : Int) < (s.size : Int) := by omega
    have hh : ¬ s.data.toList.head? = some 45 := by
      have : s.data.toList = [] := List.eq_nil_of_length_eq_zero (by omega)
      rw [this]; simp
    rw [if_neg hh] at hQ
    unfold magM at hQ
    simp (disch := omega) only [VW, VY, VZ, VA, VB, VC, VE, TY, ↓reduceIte, Nat.reduceEqDiff, Nat.reduceAdd, Nat.reduceMul, Nat.reduceSub, Nat.reduceLeDiff, List.length_cons, List.length_nil, List.length_append, List.append_assoc, List.take_succ_cons, List.take_zero, List.drop_succ_cons, List.drop_zero, List.set_cons_zero, List.set_cons_succ, true_or, or_true, and_self, Bool.false_eq_true, Nat.le_refl, Option.bind_some, Option.map_some, Option.getD_some, Option.isSome_some, List.map_cons, List.map_nil, List.cons_append, List.nil_append, List.append_nil, List.getElem?_cons_zero, List.getElem?_cons_succ, eq_self, Int.reduceLT, Int.reduceLE, Int.reduceNeg, Int.reduceEq, z1]
    refine loop_rule (fun n e h' => ∃ (i m : Nat), e 0 = .string s ∧ e 3 = .int .i64 1 ∧ e 4 = .int .i64 (m : Int) ∧ e 5 = .int .i64 (i : Int) ∧ i ≤ s.size ∧ n = s.size - i ∧ h' = h ∧ digW 0 (s.data.toList.take i) = some m) ?_ s.size _ _ ⟨0, 0, rfl, rfl, rfl, rfl, Nat.zero_le _, rfl, rfl, by simp [digW]⟩
    rintro n e h' ⟨i, m, e0, e3, e4, e5, hi, rfl, rfl, hm⟩
    have hl := str_len s
    have hml := digW_max _ _ _ (show 0 ≤ 109951162777609 by decide) hm
    simp (disch := omega) only [VW, VY, VZ, VA, VB, VC, VE, TY, ↓reduceIte, Nat.reduceEqDiff, Nat.reduceAdd, Nat.reduceMul, Nat.reduceSub, Nat.reduceLeDiff, List.length_cons, List.length_nil, List.length_append, List.append_assoc, List.take_succ_cons, List.take_zero, List.drop_succ_cons, List.drop_zero, List.set_cons_zero, List.set_cons_succ, true_or, or_true, and_self, Bool.false_eq_true, Nat.le_refl, Option.bind_some, Option.map_some, Option.getD_some, Option.isSome_some, List.map_cons, List.map_nil, List.cons_append, List.nil_append, List.append_nil, List.getElem?_cons_zero, List.getElem?_cons_succ, eq_self, Int.reduceLT, Int.reduceLE, Int.reduceNeg, Int.reduceEq, e0, e5]
    by_cases hlt : i < s.size
    · obtain ⟨d, hd, hd'⟩ := get_str hlt
      have q1 : (i : Int) < (s.size : Int) := by omega
      have hd5 := d.toNat_lt
      by_cases b1 : (d.toNat : Int) < 48
      · rw [digW_stop hd' hm (fun k => isDig_no (.inl b1) k.1)] at hQ
        simp (disch := omega) only [VW, VY, VZ, VA, VB, VC, VE, TY, ↓reduceIte, Nat.reduceEqDiff, Nat.reduceAdd, Nat.reduceMul, Nat.reduceSub, Nat.reduceLeDiff, List.length_cons, List.length_nil, List.length_append, List.append_assoc, List.take_succ_cons, List.take_zero, List.drop_succ_cons, List.drop_zero, List.set_cons_zero, List.set_cons_succ, true_or, or_true, and_self, Bool.false_eq_true, Nat.le_refl, Option.bind_some, Option.map_some, Option.getD_some, Option.isSome_some, List.map_cons, List.map_nil, List.cons_append, List.nil_append, List.append_nil, List.getElem?_cons_zero, List.getElem?_cons_succ, eq_self, Int.reduceLT, Int.reduceLE, Int.reduceNeg, Int.reduceEq, e0, e5, q1, hd, b1]
        exact hQ
      by_cases b2 : (57 : Int) < (d.toNat : Int)
      · rw [digW_stop hd' hm (fun k => isDig_no (.inr b2) k.1)] at hQ
        simp (disch := omega) only [VW, VY, VZ, VA, VB, VC, VE, TY, ↓reduceIte, Nat.reduceEqDiff, Nat.reduceAdd, Nat.reduceMul, Nat.reduceSub, Nat.reduceLeDiff, List.length_cons, List.length_nil, List.length_append, List.append_assoc, List.take_succ_cons, List.take_zero, List.drop_succ_cons, List.drop_zero, List.set_cons_zero, List.set_cons_succ, true_or, or_true, and_self, Bool.false_eq_true, Nat.le_refl, Option.bind_some, Option.map_some, Option.getD_some, Option.isSome_some, List.map_cons, List.map_nil, List.cons_append, List.nil_append, List.append_nil, List.getElem?_cons_zero, List.getElem?_cons_succ, eq_self, Int.reduceLT, Int.reduceLE, Int.reduceNeg, Int.reduceEq, e0, e5, q1, hd, b1, b2]
        exact hQ
      by_cases b3 : (10995116277760 : Int) < (m : Int)
      · rw [digW_stop hd' hm (fun k => by have := k.2; omega)] at hQ
        simp (disch := omega) only [VW, VY, VZ, VA, VB, VC, VE, TY, ↓reduceIte, Nat.reduceEqDiff, Nat.reduceAdd, Nat.reduceMul, Nat.reduceSub, Nat.reduceLeDiff, List.length_cons, List.length_nil, List.length_append, List.append_assoc, List.take_succ_cons, List.take_zero, List.drop_succ_cons, List.drop_zero, List.set_cons_zero, List.set_cons_succ, true_or, or_true, and_self, Bool.false_eq_true, Nat.le_refl, Option.bind_some, Option.map_some, Option.getD_some, Option.isSome_some, List.map_cons, List.map_nil, List.cons_append, List.nil_append, List.append_nil, List.getElem?_cons_zero, List.getElem?_cons_succ, eq_self, Int.reduceLT, Int.reduceLE, Int.reduceNeg, Int.reduceEq, e0, e4, e5, q1, hd, b1, b2, b3]
        exact hQ
      have w1 := wrap8_in ((d.toNat : Int) - 48) (by omega)
      simp (disch := omega) only [VW, VY, VZ, VA, VB, VC, VE, TY, ↓reduceIte, Nat.reduceEqDiff, Nat.reduceAdd, Nat.reduceMul, Nat.reduceSub, Nat.reduceLeDiff, List.length_cons, List.length_nil, List.length_append, List.append_assoc, List.take_succ_cons, List.take_zero, List.drop_succ_cons, List.drop_zero, List.set_cons_zero, List.set_cons_succ, true_or, or_true, and_self, Bool.false_eq_true, Nat.le_refl, Option.bind_some, Option.map_some, Option.getD_some, Option.isSome_some, List.map_cons, List.map_nil, List.cons_append, List.nil_append, List.append_nil, List.getElem?_cons_zero, List.getElem?_cons_succ, eq_self, Int.reduceLT, Int.reduceLE, Int.reduceNeg, Int.reduceEq, e0, e3, e4, e5, q1, hd, b1, b2, b3, wrap_in, w1]
      exact ⟨_, by omega, i + 1, 10 * m + (d.toNat - 48), by congr 1; omega, by simp, by omega, rfl, digW_step hd' hm ⟨isDig_yes b1 b2, by omega⟩⟩
    · obtain rfl : i = s.size := by omega
      have q1 : ¬ (s.size : Int) < (s.size : Int) := by omega
      rw [List.take_of_length_le (by omega)] at hm
      rw [hm] at hQ
      simp (disch := omega) only [VW, VY, VZ, VA, VB, VC, VE, TY, ↓reduceIte, Nat.reduceEqDiff, Nat.reduceAdd, Nat.reduceMul, Nat.reduceSub, Nat.reduceLeDiff, List.length_cons, List.length_nil, List.length_append, List.append_assoc, List.take_succ_cons, List.take_zero, List.drop_succ_cons, List.drop_zero, List.set_cons_zero, List.set_cons_succ, true_or, or_true, and_self, Bool.false_eq_true, Nat.le_refl, Option.bind_some, Option.map_some, Option.getD_some, Option.isSome_some, List.map_cons, List.map_nil, List.cons_append, List.nil_append, List.append_nil, List.getElem?_cons_zero, List.getElem?_cons_succ, eq_self, Int.reduceLT, Int.reduceLE, Int.reduceNeg, Int.reduceEq, e0, e3, e4, e5, q1, wrap_in]
      exact hQ
  obtain ⟨c, hc, hc'⟩ := get_str (show 0 < s.size by omega)
  have hc5 := c.toNat_lt
  have z1 : (0 : Int) < (s.size : Int) := by omega
  by_cases c2 : (c.toNat : Int) = 45
  · have hce : c = 45 := by
      apply UInt8.toNat_inj.1
      have : (45 : UInt8).toNat = 45 := rfl
      omega
    rw [if_pos (by rw [List.head?_eq_getElem?, hc', hce])] at hQ
    unfold magM at hQ
    have k1 : (0 : Int) ≤ 1 := by decide
    have k2 : (1 : Int) ≤ (s.size : Int) := by omega
    have k3 : (1 : Int).toNat = 1 := rfl
    have hx : s.data.toList.tail = (s.extract 1 s.size).data.toList := by
      rw [extract_list, ← hl, List.take_length, List.drop_one]
    rw [hx] at hQ
    simp (disch := omega) only [VW, VY, VZ, VA, VB, VC, VE, TY, ↓reduceIte, Nat.reduceEqDiff, Nat.reduceAdd, Nat.reduceMul, Nat.reduceSub, Nat.reduceLeDiff, List.length_cons, List.length_nil, List.length_append, List.append_assoc, List.take_succ_cons, List.take_zero, List.drop_succ_cons, List.drop_zero, List.set_cons_zero, List.set_cons_succ, true_or, or_true, and_self, Bool.false_eq_true, Nat.le_refl, Option.bind_some, Option.map_some, Option.getD_some, Option.isSome_some, List.map_cons, List.map_nil, List.cons_append, List.nil_append, List.append_nil, List.getElem?_cons_zero, List.getElem?_cons_succ, eq_self, Int.reduceLT, Int.reduceLE, Int.reduceNeg, Int.reduceEq, z1, hc, x_ix_zero, c2, k1, k2, k3]
    have hrs : (s.extract 1 s.size).size ≤ 1000000 := by rw [ByteArray.size_extract]; omega
    generalize s.extract 1 s.size = r at *
    refine loop_rule (fun n e h' => ∃ (i m : Nat), e 0 = .string r ∧ e 3 = .int .i64 (-1) ∧ e 4 = .int .i64 (m : Int) ∧ e 5 = .int .i64 (i : Int) ∧ i ≤ r.size ∧ n = r.size - i ∧ h' = h ∧ digW 0 (r.data.toList.take i) = some m) ?_ r.size _ _ ⟨0, 0, rfl, rfl, rfl, rfl, Nat.zero_le _, rfl, rfl, by simp [digW]⟩
    rintro n e h' ⟨i, m, e0, e3, e4, e5, hi, rfl, rfl, hm⟩
    have hl := str_len r
    have hml := digW_max _ _ _ (show 0 ≤ 109951162777609 by decide) hm
    simp (disch := omega) only [VW, VY, VZ, VA, VB, VC, VE, TY, ↓reduceIte, Nat.reduceEqDiff, Nat.reduceAdd, Nat.reduceMul, Nat.reduceSub, Nat.reduceLeDiff, List.length_cons, List.length_nil, List.length_append, List.append_assoc, List.take_succ_cons, List.take_zero, List.drop_succ_cons, List.drop_zero, List.set_cons_zero, List.set_cons_succ, true_or, or_true, and_self, Bool.false_eq_true, Nat.le_refl, Option.bind_some, Option.map_some, Option.getD_some, Option.isSome_some, List.map_cons, List.map_nil, List.cons_append, List.nil_append, List.append_nil, List.getElem?_cons_zero, List.getElem?_cons_succ, eq_self, Int.reduceLT, Int.reduceLE, Int.reduceNeg, Int.reduceEq, e0, e5]
    by_cases hlt : i < r.size
    · obtain ⟨d, hd, hd'⟩ := get_str hlt
      have q1 : (i : Int) < (r.size : Int) := by omega
      have hd5 := d.toNat_lt
      by_cases b1 : (d.toNat : Int) < 48
      · rw [digW_stop hd' hm (fun k => isDig_no (.inl b1) k.1)] at hQ
        simp (disch := omega) only [VW, VY, VZ, VA, VB, VC, VE, TY, ↓reduceIte, Nat.reduceEqDiff, Nat.reduceAdd, Nat.reduceMul, Nat.reduceSub, Nat.reduceLeDiff, List.length_cons, List.length_nil, List.length_append, List.append_assoc, List.take_succ_cons, List.take_zero, List.drop_succ_cons, List.drop_zero, List.set_cons_zero, List.set_cons_succ, true_or, or_true, and_self, Bool.false_eq_true, Nat.le_refl, Option.bind_some, Option.map_some, Option.getD_some, Option.isSome_some, List.map_cons, List.map_nil, List.cons_append, List.nil_append, List.append_nil, List.getElem?_cons_zero, List.getElem?_cons_succ, eq_self, Int.reduceLT, Int.reduceLE, Int.reduceNeg, Int.reduceEq, e0, e5, q1, hd, b1]
        exact hQ
      by_cases b2 : (57 : Int) < (d.toNat : Int)
      · rw [digW_stop hd' hm (fun k => isDig_no (.inr b2) k.1)] at hQ
        simp (disch := omega) only [VW, VY, VZ, VA, VB, VC, VE, TY, ↓reduceIte, Nat.reduceEqDiff, Nat.reduceAdd, Nat.reduceMul, Nat.reduceSub, Nat.reduceLeDiff, List.length_cons, List.length_nil, List.length_append, List.append_assoc, List.take_succ_cons, List.take_zero, List.drop_succ_cons, List.drop_zero, List.set_cons_zero, List.set_cons_succ, true_or, or_true, and_self, Bool.false_eq_true, Nat.le_refl, Option.bind_some, Option.map_some, Option.getD_some, Option.isSome_some, List.map_cons, List.map_nil, List.cons_append, List.nil_append, List.append_nil, List.getElem?_cons_zero, List.getElem?_cons_succ, eq_self, Int.reduceLT, Int.reduceLE, Int.reduceNeg, Int.reduceEq, e0, e5, q1, hd, b1, b2]
        exact hQ
      by_cases b3 : (10995116277760 : Int) < (m : Int)
      · rw [digW_stop hd' hm (fun k => by have := k.2; omega)] at hQ
        simp (disch := omega) only [VW, VY, VZ, VA, VB, VC, VE, TY, ↓reduceIte, Nat.reduceEqDiff, Nat.reduceAdd, Nat.reduceMul, Nat.reduceSub, Nat.reduceLeDiff, List.length_cons, List.length_nil, List.length_append, List.append_assoc, List.take_succ_cons, List.take_zero, List.drop_succ_cons, List.drop_zero, List.set_cons_zero, List.set_cons_succ, true_or, or_true, and_self, Bool.false_eq_true, Nat.le_refl, Option.bind_some, Option.map_some, Option.getD_some, Option.isSome_some, List.map_cons, List.map_nil, List.cons_append, List.nil_append, List.append_nil, List.getElem?_cons_zero, List.getElem?_cons_succ, eq_self, Int.reduceLT, Int.reduceLE, Int.reduceNeg, Int.reduceEq, e0, e4, e5, q1, hd, b1, b2, b3]
        exact hQ
      have w1 := wrap8_in ((d.toNat : Int) - 48) (by omega)
      simp (disch := omega) only [VW, VY, VZ, VA, VB, VC, VE, TY, ↓reduceIte, Nat.reduceEqDiff, Nat.reduceAdd, Nat.reduceMul, Nat.reduceSub, Nat.reduceLeDiff, List.length_cons, List.length_nil, List.length_append, List.append_assoc, List.take_succ_cons, List.take_zero, List.drop_succ_cons, List.drop_zero, List.set_cons_zero, List.set_cons_succ, true_or, or_true, and_self, Bool.false_eq_true, Nat.le_refl, Option.bind_some, Option.map_some, Option.getD_some, Option.isSome_some, List.map_cons, List.map_nil, List.cons_append, List.nil_append, List.append_nil, List.getElem?_cons_zero, List.getElem?_cons_succ, eq_self, Int.reduceLT, Int.reduceLE, Int.reduceNeg, Int.reduceEq, e0, e3, e4, e5, q1, hd, b1, b2, b3, wrap_in, w1]
      exact ⟨_, by omega, i + 1, 10 * m + (d.toNat - 48), by congr 1; omega, by simp, by omega, rfl, digW_step hd' hm ⟨isDig_yes b1 b2, by omega⟩⟩
    · obtain rfl : i = r.size := by omega
      have q1 : ¬ (r.size : Int) < (r.size : Int) := by omega
      rw [List.take_of_length_le (by omega)] at hm
      rw [hm] at hQ
      simp (disch := omega) only [VW, VY, VZ, VA, VB, VC, VE, TY, ↓reduceIte, Nat.reduceEqDiff, Nat.reduceAdd, Nat.reduceMul, Nat.reduceSub, Nat.reduceLeDiff, List.length_cons, List.length_nil, List.length_append, List.append_assoc, List.take_succ_cons, List.take_zero, List.drop_succ_cons, List.drop_zero, List.set_cons_zero, List.set_cons_succ, true_or, or_true, and_self, Bool.false_eq_true, Nat.le_refl, Option.bind_some, Option.map_some, Option.getD_some, Option.isSome_some, List.map_cons, List.map_nil, List.cons_append, List.nil_append, List.append_nil, List.getElem?_cons_zero, List.getElem?_cons_succ, eq_self, Int.reduceLT, Int.reduceLE, Int.reduceNeg, Int.reduceEq, e0, e3, e4, e5, q1, wrap_in]
      exact hQ
  · rw [if_neg (by rw [List.head?_eq_getElem?, hc']; simp only [Option.some.injEq]; rintro rfl; exact c2 rfl)] at hQ
    unfold magM at hQ
    simp (disch := omega) only [VW, VY, VZ, VA, VB, VC, VE, TY, ↓reduceIte, Nat.reduceEqDiff, Nat.reduceAdd, Nat.reduceMul, Nat.reduceSub, Nat.reduceLeDiff, List.length_cons, List.length_nil, List.length_append, List.append_assoc, List.take_succ_cons, List.take_zero, List.drop_succ_cons, List.drop_zero, List.set_cons_zero, List.set_cons_succ, true_or, or_true, and_self, Bool.false_eq_true, Nat.le_refl, Option.bind_some, Option.map_some, Option.getD_some, Option.isSome_some, List.map_cons, List.map_nil, List.cons_append, List.nil_append, List.append_nil, List.getElem?_cons_zero, List.getElem?_cons_succ, eq_self, Int.reduceLT, Int.reduceLE, Int.reduceNeg, Int.reduceEq, z1, hc, x_ix_zero, c2]
    refine loop_rule (fun n e h' => ∃ (i m : Nat), e 0 = .string s ∧ e 3 = .int .i64 1 ∧ e 4 = .int .i64 (m : Int) ∧ e 5 = .int .i64 (i : Int) ∧ i ≤ s.size ∧ n = s.size - i ∧ h' = h ∧ digW 0 (s.data.toList.take i) = some m) ?_ s.size _ _ ⟨0, 0, rfl, rfl, rfl, rfl, Nat.zero_le _, rfl, rfl, by simp [digW]⟩
    rintro n e h' ⟨i, m, e0, e3, e4, e5, hi, rfl, rfl, hm⟩
    have hl := str_len s
    have hml := digW_max _ _ _ (show 0 ≤ 109951162777609 by decide) hm
    simp (disch := omega) only [VW, VY, VZ, VA, VB, VC, VE, TY, ↓reduceIte, Nat.reduceEqDiff, Nat.reduceAdd, Nat.reduceMul, Nat.reduceSub, Nat.reduceLeDiff, List.length_cons, List.length_nil, List.length_append, List.append_assoc, List.take_succ_cons, List.take_zero, List.drop_succ_cons, List.drop_zero, List.set_cons_zero, List.set_cons_succ, true_or, or_true, and_self, Bool.false_eq_true, Nat.le_refl, Option.bind_some, Option.map_some, Option.getD_some, Option.isSome_some, List.map_cons, List.map_nil, List.cons_append, List.nil_append, List.append_nil, List.getElem?_cons_zero, List.getElem?_cons_succ, eq_self, Int.reduceLT, Int.reduceLE, Int.reduceNeg, Int.reduceEq, e0, e5]
    by_cases hlt : i < s.size
    · obtain ⟨d, hd, hd'⟩ := get_str hlt
      have q1 : (i : Int) < (s.size : Int) := by omega
      have hd5 := d.toNat_lt
      by_cases b1 : (d.toNat : Int) < 48
      · rw [digW_stop hd' hm (fun k => isDig_no (.inl b1) k.1)] at hQ
        simp (disch := omega) only [VW, VY, VZ, VA, VB, VC, VE, TY, ↓reduceIte, Nat.reduceEqDiff, Nat.reduceAdd, Nat.reduceMul, Nat.reduceSub, Nat.reduceLeDiff, List.length_cons, List.length_nil, List.length_append, List.append_assoc, List.take_succ_cons, List.take_zero, List.drop_succ_cons, List.drop_zero, List.set_cons_zero, List.set_cons_succ, true_or, or_true, and_self, Bool.false_eq_true, Nat.le_refl, Option.bind_some, Option.map_some, Option.getD_some, Option.isSome_some, List.map_cons, List.map_nil, List.cons_append, List.nil_append, List.append_nil, List.getElem?_cons_zero, List.getElem?_cons_succ, eq_self, Int.reduceLT, Int.reduceLE, Int.reduceNeg, Int.reduceEq, e0, e5, q1, hd, b1]
        exact hQ
      by_cases b2 : (57 : Int) < (d.toNat : Int)
      · rw [digW_stop hd' hm (fun k => isDig_no (.inr b2) k.1)] at hQ
        simp (disch := omega) only [VW, VY, VZ, VA, VB, VC, VE, TY, ↓reduceIte, Nat.reduceEqDiff, Nat.reduceAdd, Nat.reduceMul, Nat.reduceSub, Nat.reduceLeDiff, List.length_cons, List.length_nil, List.length_append, List.append_assoc, List.take_succ_cons, List.take_zero, List.drop_succ_cons, List.drop_zero, List.set_cons_zero, List.set_cons_succ, true_or, or_true, and_self, Bool.false_eq_true, Nat.le_refl, Option.bind_some, Option.map_some, Option.getD_some, Option.isSome_some, List.map_cons, List.map_nil, List.cons_append, List.nil_append, List.append_nil, List.getElem?_cons_zero, List.getElem?_cons_succ, eq_self, Int.reduceLT, Int.reduceLE, Int.reduceNeg, Int.reduceEq, e0, e5, q1, hd, b1, b2]
        exact hQ
      by_cases b3 : (10995116277760 : Int) < (m : Int)
      · rw [digW_stop hd' hm (fun k => by have := k.2; omega)] at hQ
        simp (disch := omega) only [VW, VY, VZ, VA, VB, VC, VE, TY, ↓reduceIte, Nat.reduceEqDiff, Nat.reduceAdd, Nat.reduceMul, Nat.reduceSub, Nat.reduceLeDiff, List.length_cons, List.length_nil, List.length_append, List.append_assoc, List.take_succ_cons, List.take_zero, List.drop_succ_cons, List.drop_zero, List.set_cons_zero, List.set_cons_succ, true_or, or_true, and_self, Bool.false_eq_true, Nat.le_refl, Option.bind_some, Option.map_some, Option.getD_some, Option.isSome_some, List.map_cons, List.map_nil, List.cons_append, List.nil_append, List.append_nil, List.getElem?_cons_zero, List.getElem?_cons_succ, eq_self, Int.reduceLT, Int.reduceLE, Int.reduceNeg, Int.reduceEq, e0, e4, e5, q1, hd, b1, b2, b3]
        exact hQ
      have w1 := wrap8_in ((d.toNat : Int) - 48) (by omega)
      simp (disch := omega) only [VW, VY, VZ, VA, VB, VC, VE, TY, ↓reduceIte, Nat.reduceEqDiff, Nat.reduceAdd, Nat.reduceMul, Nat.reduceSub, Nat.reduceLeDiff, List.length_cons, List.length_nil, List.length_append, List.append_assoc, List.take_succ_cons, List.take_zero, List.drop_succ_cons, List.drop_zero, List.set_cons_zero, List.set_cons_succ, true_or, or_true, and_self, Bool.false_eq_true, Nat.le_refl, Option.bind_some, Option.map_some, Option.getD_some, Option.isSome_some, List.map_cons, List.map_nil, List.cons_append, List.nil_append, List.append_nil, List.getElem?_cons_zero, List.getElem?_cons_succ, eq_self, Int.reduceLT, Int.reduceLE, Int.reduceNeg, Int.reduceEq, e0, e3, e4, e5, q1, hd, b1, b2, b3, wrap_in, w1]
      exact ⟨_, by omega, i + 1, 10 * m + (d.toNat - 48), by congr 1; omega, by simp, by omega, rfl, digW_step hd' hm ⟨isDig_yes b1 b2, by omega⟩⟩
    · obtain rfl : i = s.size := by omega
      have q1 : ¬ (s.size : Int) < (s.size : Int) := by omega
      rw [List.take_of_length_le (by omega)] at hm
      rw [hm] at hQ
      simp (disch := omega) only [VW, VY, VZ, VA, VB, VC, VE, TY, ↓reduceIte, Nat.reduceEqDiff, Nat.reduceAdd, Nat.reduceMul, Nat.reduceSub, Nat.reduceLeDiff, List.length_cons, List.length_nil, List.length_append, List.append_assoc, List.take_succ_cons, List.take_zero, List.drop_succ_cons, List.drop_zero, List.set_cons_zero, List.set_cons_succ, true_or, or_true, and_self, Bool.false_eq_true, Nat.le_refl, Option.bind_some, Option.map_some, Option.getD_some, Option.isSome_some, List.map_cons, List.map_nil, List.cons_append, List.nil_append, List.append_nil, List.getElem?_cons_zero, List.getElem?_cons_succ, eq_self, Int.reduceLT, Int.reduceLE, Int.reduceNeg, Int.reduceEq, e0, e3, e4, e5, q1, wrap_in]
      exact hQ
end Go.Proofs
