/- Contracts of functions, facts of types, or the plain law behind one statement (own work): F11. Conditions: those told in each theorem. -/
import Derived.Test.YtcgbjecjlamkbaaF10
set_option linter.all false
set_option linter.unusedSimpArgs false
set_option linter.unusedVariables false
set_option maxRecDepth 4000
namespace Go.Proofs
open Go Go.V
/- The sign of the value of a list of coefficients, as the reference tells it. -/
theorem mul_cap {x m A B : Int} (hA : 0 ≤ A) (hx : -A ≤ x ∧ x ≤ A) (hm : -B ≤ m ∧ m ≤ B) : -(A * B) ≤ x * m ∧ x * m ≤ A * B := by
  have hB : 0 ≤ B := by omega
  have h1 : (x * m).natAbs ≤ (A * B).natAbs := by
    rw [Int.natAbs_mul, Int.natAbs_mul]; exact Nat.mul_le_mul (by omega) (by omega)
  have h2 : 0 ≤ A * B := Int.mul_nonneg hA hB
  omega
theorem stTimes_c {l : List Int} {m : Int} {v : Value} {h : Heap} {Q : Value → Heap → Prop} (r : Row h l v) (hl : l.length ≤ 100000) (hc : Can l) (hm : -68719476736 ≤ m ∧ m ≤ 68719476736)
    (hQ : ∀ o w h', Can o → valS o = valS l * m → o.length ≤ l.length + 4 → Sep h h' [ownA 3 o w] → Q w h') : CallsV Try.prog 28 [v, .int .i64 m] h Q := by
  refine CallsV.start Try.func28 rfl (by rw [Try.results28]) (by kernel_rfl) (by rw [Try.ntmps28]; simp) ?_
  have hb : ∀ x ∈ l, -1152921504606846976 ≤ x * m ∧ x * m ≤ 1152921504606846976 := fun x hx => by
    have := hc.bound hx
    exact mul_cap (A := 16777216) (B := 68719476736) (by decide) (by omega) hm
  simp (disch := omega) only [VW, VY, VZ, VA, VB, VC, VE, TY, ↓reduceIte, Nat.reduceEqDiff, Nat.reduceAdd, Nat.reduceMul, Nat.reduceSub, Nat.reduceLeDiff, List.length_cons, List.length_nil, List.length_append, List.append_assoc, List.take_succ_cons, List.take_zero, List.drop_succ_cons, List.drop_zero, List.set_cons_zero, List.set_cons_succ, true_or, or_true, and_self, Bool.false_eq_true, Nat.le_refl, Option.bind_some, Option.map_some, Option.getD_some, Option.isSome_some, List.map_cons, List.map_nil, List.cons_append, List.nil_append, List.append_nil, List.getElem?_cons_zero, List.getElem?_cons_succ, eq_self, Int.reduceLT, Int.reduceLE, Int.reduceNeg, Int.reduceEq, r.isRow.len]
  refine loop_rule (fun n e h' => ∃ (i : Nat) (vo : Value), e 1 = .int .i64 m ∧ e 5 = vo ∧ e 8 = v ∧ e 9 = .int .i64 l.length ∧ e 10 = .int .i64 i ∧ i ≤ l.length ∧ n = l.length - i ∧ Sep h h' [ownA 3 ((l.map (· * m)).take i) vo]) ?_ l.length _ _
    ⟨0, _, rfl, rfl, rfl, rfl, rfl, Nat.zero_le _, rfl, (Sep.nil (.refl h)).nilA _⟩
  rintro n e h1 ⟨i, vo, e1, e5, e8, e9, e10, hi, rfl, s⟩
  simp (disch := omega) only [VW, VY, VZ, VA, VB, VC, VE, TY, ↓reduceIte, Nat.reduceEqDiff, Nat.reduceAdd, Nat.reduceMul, Nat.reduceSub, Nat.reduceLeDiff, List.length_cons, List.length_nil, List.length_append, List.append_assoc, List.take_succ_cons, List.take_zero, List.drop_succ_cons, List.drop_zero, List.set_cons_zero, List.set_cons_succ, true_or, or_true, and_self, Bool.false_eq_true, Nat.le_refl, Option.bind_some, Option.map_some, Option.getD_some, Option.isSome_some, List.map_cons, List.map_nil, List.cons_append, List.nil_append, List.append_nil, List.getElem?_cons_zero, List.getElem?_cons_succ, eq_self, Int.reduceLT, Int.reduceLE, Int.reduceNeg, Int.reduceEq, e9, e10]
  by_cases hlt : i < l.length
  · obtain ⟨x, hx⟩ := get_some hlt
    have c1 : (i : Int) < (l.length : Int) := by omega
    obtain ⟨x3, x4⟩ := row_int (r.mono s.ext) hx
    have hxb := hb x (List.mem_of_getElem? hx)
    have w1 := wrap_in (x * m) (by omega)
    simp (disch := omega) only [VW, VY, VZ, VA, VB, VC, VE, TY, ↓reduceIte, Nat.reduceEqDiff, Nat.reduceAdd, Nat.reduceMul, Nat.reduceSub, Nat.reduceLeDiff, List.length_cons, List.length_nil, List.length_append, List.append_assoc, List.take_succ_cons, List.take_zero, List.drop_succ_cons, List.drop_zero, List.set_cons_zero, List.set_cons_succ, true_or, or_true, and_self, Bool.false_eq_true, Nat.le_refl, Option.bind_some, Option.map_some, Option.getD_some, Option.isSome_some, List.map_cons, List.map_nil, List.cons_append, List.nil_append, List.append_nil, List.getElem?_cons_zero, List.getElem?_cons_succ, eq_self, Int.reduceLT, Int.reduceLE, Int.reduceNeg, Int.reduceEq, c1, e1, e5, e8, e10, r.isRow.ix, x3, w1]
    have s := Sep.rep0 (x := x * m) s (rep_int ⟨by omega, by omega⟩)
    refine sep_append s.swap rfl rfl te22 tk3 rfl (by decide) (by simp; omega) fun v2 h2 s => ?_
    simp (disch := omega) only [VW, VY, VZ, VA, VB, VC, VE, TY, ↓reduceIte, Nat.reduceEqDiff, Nat.reduceAdd, Nat.reduceMul, Nat.reduceSub, Nat.reduceLeDiff, List.length_cons, List.length_nil, List.length_append, List.append_assoc, List.take_succ_cons, List.take_zero, List.drop_succ_cons, List.drop_zero, List.set_cons_zero, List.set_cons_succ, true_or, or_true, and_self, Bool.false_eq_true, Nat.le_refl, Option.bind_some, Option.map_some, Option.getD_some, Option.isSome_some, List.map_cons, List.map_nil, List.cons_append, List.nil_append, List.append_nil, List.getElem?_cons_zero, List.getElem?_cons_succ, eq_self, Int.reduceLT, Int.reduceLE, Int.reduceNeg, Int.reduceEq, e1, e8, e9, e10, wrap_in]
    exact ⟨_, by omega, i + 1, v2, rfl, by simp, by omega, rfl, by rw [List.take_add_one, List.getElem?_map, hx]; exact s⟩
  · obtain rfl : i = l.length := by omega
    have c1 : ¬ (l.length : Int) < (l.length : Int) := by omega
    rw [List.take_of_length_le (by simp)] at s
    simp (disch := omega) only [VW, VY, VZ, VA, VB, VC, VE, TY, ↓reduceIte, Nat.reduceEqDiff, Nat.reduceAdd, Nat.reduceMul, Nat.reduceSub, Nat.reduceLeDiff, List.length_cons, List.length_nil, List.length_append, List.append_assoc, List.take_succ_cons, List.take_zero, List.drop_succ_cons, List.drop_zero, List.set_cons_zero, List.set_cons_succ, true_or, or_true, and_self, Bool.false_eq_true, Nat.le_refl, Option.bind_some, Option.map_some, Option.getD_some, Option.isSome_some, List.map_cons, List.map_nil, List.cons_append, List.nil_append, List.append_nil, List.getElem?_cons_zero, List.getElem?_cons_succ, eq_self, Int.reduceLT, Int.reduceLE, Int.reduceNeg, Int.reduceEq, c1, e5]
    refine .inl ⟨by kernel_rfl, ?_⟩; refine stCarry_c s.row (by simp; omega) (fun y hy => ?_) fun o w h2 ho hv hol s2 => ?_
    · obtain ⟨x, hx, rfl⟩ := List.mem_map.1 hy
      have := hb x hx
      omega
    · simp (disch := omega) only [VW, VY, VZ, VA, VB, VC, VE, TY, ↓reduceIte, Nat.reduceEqDiff, Nat.reduceAdd, Nat.reduceMul, Nat.reduceSub, Nat.reduceLeDiff, List.length_cons, List.length_nil, List.length_append, List.append_assoc, List.take_succ_cons, List.take_zero, List.drop_succ_cons, List.drop_zero, List.set_cons_zero, List.set_cons_succ, true_or, or_true, and_self, Bool.false_eq_true, Nat.le_refl, Option.bind_some, Option.map_some, Option.getD_some, Option.isSome_some, List.map_cons, List.map_nil, List.cons_append, List.nil_append, List.append_nil, List.getElem?_cons_zero, List.getElem?_cons_succ, eq_self, Int.reduceLT, Int.reduceLE, Int.reduceNeg, Int.reduceEq]
      exact hQ o _ _ ho (by rw [hv, valS_map]) (by simpa using hol) (s.add s2).head
def digI (l : List Int) (i : Nat) : Int := l[i]?.getD 0
theorem digI_some {l : List Int} {i : Nat} {x : Int} (h : l[i]? = some x) : digI l i = x := by unfold digI; rw [h]; rfl
theorem digI_none {l : List Int} {i : Nat} (h : l.length ≤ i) : digI l i = 0 := by unfold digI; rw [List.getElem?_eq_none h]; rfl
theorem valS_take2 (l : List Int) (i : Nat) : valS (l.take (i + 1)) = valS (l.take i) + 16777216 ^ i * digI l i := by
  rcases Nat.lt_or_ge i l.length with c | c
  · obtain ⟨x, hx⟩ := get_some c
    rw [valS_take hx, digI_some hx]
  · rw [List.take_of_length_le (by omega), List.take_of_length_le c, digI_none c, Int.mul_zero, Int.add_zero]
theorem Can.dig {l : List Int} (c : Can l) (i : Nat) : -1 ≤ digI l i ∧ digI l i < 16777216 := by
  rcases Nat.lt_or_ge i l.length with k | k
  · obtain ⟨x, hx⟩ := get_some k
    rw [digI_some hx]
    exact c.bound (List.mem_of_getElem? hx)
  · rw [digI_none k]; decide
theorem stJoin_c {l m : List Int} {v w : Value} {h : Heap} {Q : Value → Heap → Prop} (r1 : Row h l v) (r2 : Row h m w) {N : Nat} (hN : N ≤ 100000) (hl : l.length ≤ N) (hm : m.length ≤ N) (hc1 : Can l) (hc2 : Can m)
    (hQ : ∀ o w h', Can o → valS o = valS l + valS m → o.length ≤ N + 4 → Sep h h' [ownA 3 o w] → Q w h') : CallsV Try.prog 27 [v, w] h Q := by
  refine CallsV.start Try.func27 rfl (by rw [Try.results27]) (by kernel_rfl) (by rw [Try.ntmps27]; simp) ?_
  have len1 := r1.isRow.len Try.prog
  have len2 := r2.isRow.len Try.prog
  simp (disch := omega) only [VW, VY, VZ, VA, VB, VC, VE, TY, ↓reduceIte, Nat.reduceEqDiff, Nat.reduceAdd, Nat.reduceMul, Nat.reduceSub, Nat.reduceLeDiff, List.length_cons, List.length_nil, List.length_append, List.append_assoc, List.take_succ_cons, List.take_zero, List.drop_succ_cons, List.drop_zero, List.set_cons_zero, List.set_cons_succ, true_or, or_true, and_self, Bool.false_eq_true, Nat.le_refl, Option.bind_some, Option.map_some, Option.getD_some, Option.isSome_some, List.map_cons, List.map_nil, List.cons_append, List.nil_append, List.append_nil, List.getElem?_cons_zero, List.getElem?_cons_succ, eq_self, Int.reduceLT, Int.reduceLE, Int.reduceNeg, Int.reduceEq]
  refine loop_rule (fun n e h' => ∃ (i : Nat) (o : List Int) (vo : Value), e 0 = v ∧ e 1 = w ∧ e 5 = vo ∧ e 6 = .int .i64 i ∧ i ≤ N ∧ n = N - i ∧ o.length = i ∧ (∀ x ∈ o, -2 ≤ x ∧ x ≤ 33554432) ∧ valS o = valS (l.take i) + valS (m.take i) ∧ Sep h h' [ownA 3 o vo]) ?_ N _ _
    ⟨0, [], _, rfl, rfl, rfl, rfl, Nat.zero_le _, rfl, rfl, by simp, by simp [valS], (Sep.nil (.refl h)).nilA _⟩
  rintro n e h1 ⟨i, o, vo, e0, e1, e5, e6, hi, rfl, hol, hob, hv, s⟩
  have d1 := hc1.dig i
  have d2 := hc2.dig i
  have fin : ∀ (vo : Value) h1, Sep h h1 [ownA 3 (o ++ [digI l i + digI m i]) vo] → valS (o ++ [digI l i + digI m i]) = valS (l.take (i + 1)) + valS (m.take (i + 1)) ∧ (∀ x ∈ o ++ [digI l i + digI m i], -2 ≤ x ∧ x ≤ 33554432) := fun _ _ _ => by
    refine ⟨by rw [valS_snoc, hol, valS_take2, valS_take2, hv, Int.mul_add]; omega, fun x hx => ?_⟩
    rcases List.mem_append.1 hx with hx | hx
    · exact hob x hx
    · obtain rfl : x = digI l i + digI m i := by simpa using hx
      omega
  have iz := rep_int (h := h1) (x := digI l i + digI m i) ⟨by omega, by omega⟩
  have s0 := Sep.rep0 (x := digI l i + digI m i) s iz
  by_cases c1 : i < l.length
  · have k1 : (i : Int) < (l.length : Int) := by omega
    obtain ⟨x, hx⟩ := get_some c1
    obtain ⟨x3, x4⟩ := row_int (r1.mono s.ext) hx
    have ex := digI_some hx
    by_cases c2 : i < m.length
    · have k2 : (i : Int) < (m.length : Int) := by omega
      obtain ⟨y, hy⟩ := get_some c2
      obtain ⟨y3, y4⟩ := row_int (r2.mono s.ext) hy
      have ey := digI_some hy
      rw [ex, ey] at fin s0 
      rw [ex] at d1
      rw [ey] at d2
      simp (disch := omega) only [VW, VY, VZ, VA, VB, VC, VE, TY, ↓reduceIte, Nat.reduceEqDiff, Nat.reduceAdd, Nat.reduceMul, Nat.reduceSub, Nat.reduceLeDiff, List.length_cons, List.length_nil, List.length_append, List.append_assoc, List.take_succ_cons, List.take_zero, List.drop_succ_cons, List.drop_zero, List.set_cons_zero, List.set_cons_succ, true_or, or_true, and_self, Bool.false_eq_true, Nat.le_refl, Option.bind_some, Option.map_some, Option.getD_some, Option.isSome_some, List.map_cons, List.map_nil, List.cons_append, List.nil_append, List.append_nil, List.getElem?_cons_zero, List.getElem?_cons_succ, eq_self, Int.reduceLT, Int.reduceLE, Int.reduceNeg, Int.reduceEq, e0, e1, e5, e6, len1, len2, k1, k2, r1.isRow.ix, r2.isRow.ix, x3, y3, wrap_in, Int.zero_add]
      refine sep_append s0.swap rfl rfl te22 tk3 rfl (by decide) (by simp; omega) fun v2 h2 s => ?_
      obtain ⟨f1, f2⟩ := fin _ _ s
      simp (disch := omega) only [VW, VY, VZ, VA, VB, VC, VE, TY, ↓reduceIte, Nat.reduceEqDiff, Nat.reduceAdd, Nat.reduceMul, Nat.reduceSub, Nat.reduceLeDiff, List.length_cons, List.length_nil, List.length_append, List.append_assoc, List.take_succ_cons, List.take_zero, List.drop_succ_cons, List.drop_zero, List.set_cons_zero, List.set_cons_succ, true_or, or_true, and_self, Bool.false_eq_true, Nat.le_refl, Option.bind_some, Option.map_some, Option.getD_some, Option.isSome_some, List.map_cons, List.map_nil, List.cons_append, List.nil_append, List.append_nil, List.getElem?_cons_zero, List.getElem?_cons_succ, eq_self, Int.reduceLT, Int.reduceLE, Int.reduceNeg, Int.reduceEq, e0, e1, e6, wrap_in]
      exact ⟨N - (i + 1), by omega, i + 1, _, v2, rfl, by simp, by omega, rfl, by simp [hol], f2, f1, s⟩
    · have k2 : ¬ (i : Int) < (m.length : Int) := by omega
      have ey := digI_none (l := m) (i := i) (by omega)
      rw [ex, ey, Int.add_zero] at fin s0
      rw [ex] at d1
      simp (disch := omega) only [VW, VY, VZ, VA, VB, VC, VE, TY, ↓reduceIte, Nat.reduceEqDiff, Nat.reduceAdd, Nat.reduceMul, Nat.reduceSub, Nat.reduceLeDiff, List.length_cons, List.length_nil, List.length_append, List.append_assoc, List.take_succ_cons, List.take_zero, List.drop_succ_cons, List.drop_zero, List.set_cons_zero, List.set_cons_succ, true_or, or_true, and_self, Bool.false_eq_true, Nat.le_refl, Option.bind_some, Option.map_some, Option.getD_some, Option.isSome_some, List.map_cons, List.map_nil, List.cons_append, List.nil_append, List.append_nil, List.getElem?_cons_zero, List.getElem?_cons_succ, eq_self, Int.reduceLT, Int.reduceLE, Int.reduceNeg, Int.reduceEq, e0, e1, e5, e6, len1, len2, k1, k2, r1.isRow.ix, r2.isRow.ix, x3, wrap_in, Int.zero_add]
      refine sep_append s0.swap rfl rfl te22 tk3 rfl (by decide) (by simp; omega) fun v2 h2 s => ?_
      obtain ⟨f1, f2⟩ := fin _ _ s
      simp (disch := omega) only [VW, VY, VZ, VA, VB, VC, VE, TY, ↓reduceIte, Nat.reduceEqDiff, Nat.reduceAdd, Nat.reduceMul, Nat.reduceSub, Nat.reduceLeDiff, List.length_cons, List.length_nil, List.length_append, List.append_assoc, List.take_succ_cons, List.take_zero, List.drop_succ_cons, List.drop_zero, List.set_cons_zero, List.set_cons_succ, true_or, or_true, and_self, Bool.false_eq_true, Nat.le_refl, Option.bind_some, Option.map_some, Option.getD_some, Option.isSome_some, List.map_cons, List.map_nil, List.cons_append, List.nil_append, List.append_nil, List.getElem?_cons_zero, List.getElem?_cons_succ, eq_self, Int.reduceLT, Int.reduceLE, Int.reduceNeg, Int.reduceEq, e0, e1, e6, wrap_in]
      exact ⟨N - (i + 1), by omega, i + 1, _, v2, rfl, by simp, by omega, rfl, by simp [hol], f2, f1, s⟩
  · have k1 : ¬ (i : Int) < (l.length : Int) := by omega
    have ex := digI_none (l := l) (i := i) (by omega)
    by_cases c2 : i < m.length
    · have k2 : (i : Int) < (m.length : Int) := by omega
      obtain ⟨y, hy⟩ := get_some c2
      obtain ⟨y3, y4⟩ := row_int (r2.mono s.ext) hy
      have ey := digI_some hy
      rw [ex, ey, Int.zero_add] at fin s0
      rw [ey] at d2
      simp (disch := omega) only [VW, VY, VZ, VA, VB, VC, VE, TY, ↓reduceIte, Nat.reduceEqDiff, Nat.reduceAdd, Nat.reduceMul, Nat.reduceSub, Nat.reduceLeDiff, List.length_cons, List.length_nil, List.length_append, List.append_assoc, List.take_succ_cons, List.take_zero, List.drop_succ_cons, List.drop_zero, List.set_cons_zero, List.set_cons_succ, true_or, or_true, and_self, Bool.false_eq_true, Nat.le_refl, Option.bind_some, Option.map_some, Option.getD_some, Option.isSome_some, List.map_cons, List.map_nil, List.cons_append, List.nil_append, List.append_nil, List.getElem?_cons_zero, List.getElem?_cons_succ, eq_self, Int.reduceLT, Int.reduceLE, Int.reduceNeg, Int.reduceEq, e0, e1, e5, e6, len1, len2, k1, k2, r1.isRow.ix, r2.isRow.ix, y3, wrap_in, Int.zero_add]
      refine sep_append s0.swap rfl rfl te22 tk3 rfl (by decide) (by simp; omega) fun v2 h2 s => ?_
      obtain ⟨f1, f2⟩ := fin _ _ s
      simp (disch := omega) only [VW, VY, VZ, VA, VB, VC, VE, TY, ↓reduceIte, Nat.reduceEqDiff, Nat.reduceAdd, Nat.reduceMul, Nat.reduceSub, Nat.reduceLeDiff, List.length_cons, List.length_nil, List.length_append, List.append_assoc, List.take_succ_cons, List.take_zero, List.drop_succ_cons, List.drop_zero, List.set_cons_zero, List.set_cons_succ, true_or, or_true, and_self, Bool.false_eq_true, Nat.le_refl, Option.bind_some, Option.map_some, Option.getD_some, Option.isSome_some, List.map_cons, List.map_nil, List.cons_append, List.nil_append, List.append_nil, List.getElem?_cons_zero, List.getElem?_cons_succ, eq_self, Int.reduceLT, Int.reduceLE, Int.reduceNeg, Int.reduceEq, e0, e1, e6, wrap_in]
      exact ⟨N - (i + 1), by omega, i + 1, _, v2, rfl, by simp, by omega, rfl, by simp [hol], f2, f1, s⟩
    · have k2 : ¬ (i : Int) < (m.length : Int) := by omega
      rw [List.take_of_length_le (by omega), List.take_of_length_le (by omega)] at hv
      simp (disch := omega) only [VW, VY, VZ, VA, VB, VC, VE, TY, ↓reduceIte, Nat.reduceEqDiff, Nat.reduceAdd, Nat.reduceMul, Nat.reduceSub, Nat.reduceLeDiff, List.length_cons, List.length_nil, List.length_append, List.append_assoc, List.take_succ_cons, List.take_zero, List.drop_succ_cons, List.drop_zero, List.set_cons_zero, List.set_cons_succ, true_or, or_true, and_self, Bool.false_eq_true, Nat.le_refl, Option.bind_some, Option.map_some, Option.getD_some, Option.isSome_some, List.map_cons, List.map_nil, List.cons_append, List.nil_append, List.append_nil, List.getElem?_cons_zero, List.getElem?_cons_succ, eq_self, Int.reduceLT, Int.reduceLE, Int.reduceNeg, Int.reduceEq, e0, e1, e5, e6, len1, len2, k1, k2]
      refine .inl ⟨by kernel_rfl, ?_⟩; refine stCarry_c s.row (by omega) (fun y hy => by have := hob y hy; omega) fun o2 w h2 ho hv2 hol2 s2 => ?_
      simp (disch := omega) only [VW, VY, VZ, VA, VB, VC, VE, TY, ↓reduceIte, Nat.reduceEqDiff, Nat.reduceAdd, Nat.reduceMul, Nat.reduceSub, Nat.reduceLeDiff, List.length_cons, List.length_nil, List.length_append, List.append_assoc, List.take_succ_cons, List.take_zero, List.drop_succ_cons, List.drop_zero, List.set_cons_zero, List.set_cons_succ, true_or, or_true, and_self, Bool.false_eq_true, Nat.le_refl, Option.bind_some, Option.map_some, Option.getD_some, Option.isSome_some, List.map_cons, List.map_nil, List.cons_append, List.nil_append, List.append_nil, List.getElem?_cons_zero, List.getElem?_cons_succ, eq_self, Int.reduceLT, Int.reduceLE, Int.reduceNeg, Int.reduceEq]
      exact hQ o2 _ _ ho (by rw [hv2, hv]) (by omega) (s.add s2).head
end Go.Proofs
