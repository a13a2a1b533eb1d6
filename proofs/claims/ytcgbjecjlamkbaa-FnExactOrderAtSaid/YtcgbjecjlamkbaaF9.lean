/- Contracts of functions, facts of types, or the plain law behind one statement (own work): F9. Conditions: those told in each theorem. -/
import Derived.Test.YtcgbjecjlamkbaaF8
set_option linter.all false
set_option linter.unusedSimpArgs false
set_option linter.unusedVariables false
set_option maxRecDepth 4000
namespace Go.Proofs
open Go Go.V
/- Derivatives without their content. -/
theorem l1Most_c {a b : Int} {h : Heap} {Q : Value → Heap → Prop} (hQ : Q (.int .i64 (max a b)) h) : CallsV Try.prog 56 [.int .i64 a, .int .i64 b] h Q := by
  refine CallsV.start Try.func56 rfl (by rw [Try.results56]) (by kernel_rfl) (by rw [Try.ntmps56]; simp) ?_
  by_cases c : b < a
  · simp (disch := omega) only [VW, VY, VZ, VA, VB, VC, VE, TY, ↓reduceIte, Nat.reduceEqDiff, Nat.reduceAdd, Nat.reduceMul, Nat.reduceSub, Nat.reduceLeDiff, List.length_cons, List.length_nil, List.length_append, List.append_assoc, List.take_succ_cons, List.take_zero, List.drop_succ_cons, List.drop_zero, List.set_cons_zero, List.set_cons_succ, true_or, or_true, and_self, Bool.false_eq_true, Nat.le_refl, Option.bind_some, Option.map_some, Option.getD_some, Option.isSome_some, List.map_cons, List.map_nil, List.cons_append, List.nil_append, List.append_nil, List.getElem?_cons_zero, List.getElem?_cons_succ, eq_self, Int.reduceLT, Int.reduceLE, Int.reduceNeg, Int.reduceEq, c]
    rw [Int.max_eq_left (by omega)] at hQ
    exact hQ
  · simp (disch := omega) only [VW, VY, VZ, VA, VB, VC, VE, TY, ↓reduceIte, Nat.reduceEqDiff, Nat.reduceAdd, Nat.reduceMul, Nat.reduceSub, Nat.reduceLeDiff, List.length_cons, List.length_nil, List.length_append, List.append_assoc, List.take_succ_cons, List.take_zero, List.drop_succ_cons, List.drop_zero, List.set_cons_zero, List.set_cons_succ, true_or, or_true, and_self, Bool.false_eq_true, Nat.le_refl, Option.bind_some, Option.map_some, Option.getD_some, Option.isSome_some, List.map_cons, List.map_nil, List.cons_append, List.nil_append, List.append_nil, List.getElem?_cons_zero, List.getElem?_cons_succ, eq_self, Int.reduceLT, Int.reduceLE, Int.reduceNeg, Int.reduceEq, c]
    rw [Int.max_eq_right (by omega)] at hQ
    exact hQ
theorem l1Abs_c {a : Int} {h : Heap} {Q : Value → Heap → Prop} (ha : -9000000000000000000 ≤ a ∧ a ≤ 9000000000000000000) (hQ : Q (.int .i64 (a.natAbs : Nat)) h) : CallsV Try.prog 53 [.int .i64 a] h Q := by
  refine CallsV.start Try.func53 rfl (by rw [Try.results53]) (by kernel_rfl) (by rw [Try.ntmps53]; simp) ?_
  have e : max a (0 - a) = (a.natAbs : Int) := by omega
  simp (disch := omega) only [VW, VY, VZ, VA, VB, VC, VE, TY, ↓reduceIte, Nat.reduceEqDiff, Nat.reduceAdd, Nat.reduceMul, Nat.reduceSub, Nat.reduceLeDiff, List.length_cons, List.length_nil, List.length_append, List.append_assoc, List.take_succ_cons, List.take_zero, List.drop_succ_cons, List.drop_zero, List.set_cons_zero, List.set_cons_succ, true_or, or_true, and_self, Bool.false_eq_true, Nat.le_refl, Option.bind_some, Option.map_some, Option.getD_some, Option.isSome_some, List.map_cons, List.map_nil, List.cons_append, List.nil_append, List.append_nil, List.getElem?_cons_zero, List.getElem?_cons_succ, eq_self, Int.reduceLT, Int.reduceLE, Int.reduceNeg, Int.reduceEq, wrap_in]
  refine .inl ⟨by kernel_rfl, ?_⟩; refine l1Most_c ?_
  simp (disch := omega) only [VW, VY, VZ, VA, VB, VC, VE, TY, ↓reduceIte, Nat.reduceEqDiff, Nat.reduceAdd, Nat.reduceMul, Nat.reduceSub, Nat.reduceLeDiff, List.length_cons, List.length_nil, List.length_append, List.append_assoc, List.take_succ_cons, List.take_zero, List.drop_succ_cons, List.drop_zero, List.set_cons_zero, List.set_cons_succ, true_or, or_true, and_self, Bool.false_eq_true, Nat.le_refl, Option.bind_some, Option.map_some, Option.getD_some, Option.isSome_some, List.map_cons, List.map_nil, List.cons_append, List.nil_append, List.append_nil, List.getElem?_cons_zero, List.getElem?_cons_succ, eq_self, Int.reduceLT, Int.reduceLE, Int.reduceNeg, Int.reduceEq, e]
  exact hQ
theorem sgGcd_c {a b : Int} {h : Heap} {Q : Value → Heap → Prop} (ha : 0 ≤ a) (hb : 0 ≤ b ∧ b ≤ 9000000000000000000) (hQ : ∀ g, 0 ≤ g → g ∣ a → g ∣ b → Q (.int .i64 g) h) : CallsV Try.prog 52 [.int .i64 a, .int .i64 b] h Q := by
  refine CallsV.start Try.func52 rfl (by rw [Try.results52]) (by kernel_rfl) (by rw [Try.ntmps52]; simp) ?_
  simp (disch := omega) only [VW, VY, VZ, VA, VB, VC, VE, TY, ↓reduceIte, Nat.reduceEqDiff, Nat.reduceAdd, Nat.reduceMul, Nat.reduceSub, Nat.reduceLeDiff, List.length_cons, List.length_nil, List.length_append, List.append_assoc, List.take_succ_cons, List.take_zero, List.drop_succ_cons, List.drop_zero, List.set_cons_zero, List.set_cons_succ, true_or, or_true, and_self, Bool.false_eq_true, Nat.le_refl, Option.bind_some, Option.map_some, Option.getD_some, Option.isSome_some, List.map_cons, List.map_nil, List.cons_append, List.nil_append, List.append_nil, List.getElem?_cons_zero, List.getElem?_cons_succ, eq_self, Int.reduceLT, Int.reduceLE, Int.reduceNeg, Int.reduceEq]
  refine loop_rule (fun n e h' => ∃ A B : Int, e 0 = .int .i64 A ∧ e 1 = .int .i64 B ∧ 0 ≤ A ∧ 0 ≤ B ∧ B ≤ 9000000000000000000 ∧ n = B.toNat ∧ (∀ g, g ∣ A → g ∣ B → g ∣ a ∧ g ∣ b) ∧ h' = h) ?_ b.toNat _ _ ⟨a, b, rfl, rfl, ha, hb.1, hb.2, rfl, fun g h1 h2 => ⟨h1, h2⟩, rfl⟩
  rintro n e h' ⟨A, B, e0, e1, hA, hB, hB2, rfl, hg, rfl⟩
  by_cases c : 0 < B
  · have z : ¬ B = 0 := by omega
    have tm : Int.tmod A B = A % B := Int.tmod_eq_emod_of_nonneg hA
    have m1 := Int.emod_nonneg A z
    have m2 := Int.emod_lt_of_pos A c
    simp (disch := omega) only [VW, VY, VZ, VA, VB, VC, VE, TY, ↓reduceIte, Nat.reduceEqDiff, Nat.reduceAdd, Nat.reduceMul, Nat.reduceSub, Nat.reduceLeDiff, List.length_cons, List.length_nil, List.length_append, List.append_assoc, List.take_succ_cons, List.take_zero, List.drop_succ_cons, List.drop_zero, List.set_cons_zero, List.set_cons_succ, true_or, or_true, and_self, Bool.false_eq_true, Nat.le_refl, Option.bind_some, Option.map_some, Option.getD_some, Option.isSome_some, List.map_cons, List.map_nil, List.cons_append, List.nil_append, List.append_nil, List.getElem?_cons_zero, List.getElem?_cons_succ, eq_self, Int.reduceLT, Int.reduceLE, Int.reduceNeg, Int.reduceEq, e0, e1, c, z, tm, wrap_in]
    refine ⟨(A % B).toNat, by omega, B, A % B, rfl, rfl, hB, m1, by omega, rfl, fun g h1 h2 => hg g ?_ h1⟩
    have := Int.emod_add_mul_ediv A B
    rw [← this]
    exact Int.dvd_add h2 (Int.dvd_mul_of_dvd_left h1)
  · obtain rfl : B = 0 := by omega
    simp (disch := omega) only [VW, VY, VZ, VA, VB, VC, VE, TY, ↓reduceIte, Nat.reduceEqDiff, Nat.reduceAdd, Nat.reduceMul, Nat.reduceSub, Nat.reduceLeDiff, List.length_cons, List.length_nil, List.length_append, List.append_assoc, List.take_succ_cons, List.take_zero, List.drop_succ_cons, List.drop_zero, List.set_cons_zero, List.set_cons_succ, true_or, or_true, and_self, Bool.false_eq_true, Nat.le_refl, Option.bind_some, Option.map_some, Option.getD_some, Option.isSome_some, List.map_cons, List.map_nil, List.cons_append, List.nil_append, List.append_nil, List.getElem?_cons_zero, List.getElem?_cons_succ, eq_self, Int.reduceLT, Int.reduceLE, Int.reduceNeg, Int.reduceEq, e0, e1, c]
    obtain ⟨h1, h2⟩ := hg A (Int.dvd_refl _) (Int.dvd_zero _)
    exact hQ A hA h1 h2
theorem sgContent_c {n : Nat} {p : List Int} {v : Value} {h : Heap} {Q : Value → Heap → Prop} (r : Row h p v) (hp : ∀ x ∈ p, -9000000000000000000 ≤ x ∧ x ≤ 9000000000000000000) (hQ : ∀ d, 0 ≤ d → (∀ x ∈ p, d ∣ x) → Q (.int .i64 d) h) : CallsV Try.prog 42 [v] h Q := by
  refine CallsV.start Try.func42 rfl (by rw [Try.results42]) (by kernel_rfl) (by rw [Try.ntmps42]; simp) ?_
  have hle := r.le
  simp (disch := omega) only [VW, VY, VZ, VA, VB, VC, VE, TY, ↓reduceIte, Nat.reduceEqDiff, Nat.reduceAdd, Nat.reduceMul, Nat.reduceSub, Nat.reduceLeDiff, List.length_cons, List.length_nil, List.length_append, List.append_assoc, List.take_succ_cons, List.take_zero, List.drop_succ_cons, List.drop_zero, List.set_cons_zero, List.set_cons_succ, true_or, or_true, and_self, Bool.false_eq_true, Nat.le_refl, Option.bind_some, Option.map_some, Option.getD_some, Option.isSome_some, List.map_cons, List.map_nil, List.cons_append, List.nil_append, List.append_nil, List.getElem?_cons_zero, List.getElem?_cons_succ, eq_self, Int.reduceLT, Int.reduceLE, Int.reduceNeg, Int.reduceEq, r.isRow.len]
  refine loop_rule (fun n e h' => ∃ (i : Nat) (d : Int), e 3 = .int .i64 d ∧ e 6 = v ∧ e 7 = .int .i64 p.length ∧ e 8 = .int .i64 i ∧ i ≤ p.length ∧ n = p.length - i ∧ 0 ≤ d ∧ (∀ x ∈ p.take i, d ∣ x) ∧ h' = h) ?_ p.length _ _ ⟨0, 0, rfl, rfl, rfl, rfl, Nat.zero_le _, rfl, by decide, by simp, rfl⟩
  rintro n e h' ⟨i, d, e3, e6, e7, e8, hi, rfl, hd, hv, rfl⟩
  simp (disch := omega) only [VW, VY, VZ, VA, VB, VC, VE, TY, ↓reduceIte, Nat.reduceEqDiff, Nat.reduceAdd, Nat.reduceMul, Nat.reduceSub, Nat.reduceLeDiff, List.length_cons, List.length_nil, List.length_append, List.append_assoc, List.take_succ_cons, List.take_zero, List.drop_succ_cons, List.drop_zero, List.set_cons_zero, List.set_cons_succ, true_or, or_true, and_self, Bool.false_eq_true, Nat.le_refl, Option.bind_some, Option.map_some, Option.getD_some, Option.isSome_some, List.map_cons, List.map_nil, List.cons_append, List.nil_append, List.append_nil, List.getElem?_cons_zero, List.getElem?_cons_succ, eq_self, Int.reduceLT, Int.reduceLE, Int.reduceNeg, Int.reduceEq, e7, e8]
  by_cases hlt : i < p.length
  · obtain ⟨x, hx⟩ := get_some hlt
    have c1 : (i : Int) < (p.length : Int) := by omega
    obtain ⟨x3, x4⟩ := row_int r hx
    have hxb := hp x (List.mem_of_getElem? hx)
    simp (disch := omega) only [VW, VY, VZ, VA, VB, VC, VE, TY, ↓reduceIte, Nat.reduceEqDiff, Nat.reduceAdd, Nat.reduceMul, Nat.reduceSub, Nat.reduceLeDiff, List.length_cons, List.length_nil, List.length_append, List.append_assoc, List.take_succ_cons, List.take_zero, List.drop_succ_cons, List.drop_zero, List.set_cons_zero, List.set_cons_succ, true_or, or_true, and_self, Bool.false_eq_true, Nat.le_refl, Option.bind_some, Option.map_some, Option.getD_some, Option.isSome_some, List.map_cons, List.map_nil, List.cons_append, List.nil_append, List.append_nil, List.getElem?_cons_zero, List.getElem?_cons_succ, eq_self, Int.reduceLT, Int.reduceLE, Int.reduceNeg, Int.reduceEq, c1, e3, e6, e8, r.isRow.ix, x3]
    refine .inl ⟨by kernel_rfl, ?_⟩; refine l1Abs_c hxb ?_
    simp (disch := omega) only [VW, VY, VZ, VA, VB, VC, VE, TY, ↓reduceIte, Nat.reduceEqDiff, Nat.reduceAdd, Nat.reduceMul, Nat.reduceSub, Nat.reduceLeDiff, List.length_cons, List.length_nil, List.length_append, List.append_assoc, List.take_succ_cons, List.take_zero, List.drop_succ_cons, List.drop_zero, List.set_cons_zero, List.set_cons_succ, true_or, or_true, and_self, Bool.false_eq_true, Nat.le_refl, Option.bind_some, Option.map_some, Option.getD_some, Option.isSome_some, List.map_cons, List.map_nil, List.cons_append, List.nil_append, List.append_nil, List.getElem?_cons_zero, List.getElem?_cons_succ, eq_self, Int.reduceLT, Int.reduceLE, Int.reduceNeg, Int.reduceEq]
    refine .inl ⟨by kernel_rfl, ?_⟩; refine sgGcd_c hd (by omega) fun g g0 g1 g2 => ?_
    simp (disch := omega) only [VW, VY, VZ, VA, VB, VC, VE, TY, ↓reduceIte, Nat.reduceEqDiff, Nat.reduceAdd, Nat.reduceMul, Nat.reduceSub, Nat.reduceLeDiff, List.length_cons, List.length_nil, List.length_append, List.append_assoc, List.take_succ_cons, List.take_zero, List.drop_succ_cons, List.drop_zero, List.set_cons_zero, List.set_cons_succ, true_or, or_true, and_self, Bool.false_eq_true, Nat.le_refl, Option.bind_some, Option.map_some, Option.getD_some, Option.isSome_some, List.map_cons, List.map_nil, List.cons_append, List.nil_append, List.append_nil, List.getElem?_cons_zero, List.getElem?_cons_succ, eq_self, Int.reduceLT, Int.reduceLE, Int.reduceNeg, Int.reduceEq, e3, e6, e7, e8, wrap_in]
    refine ⟨_, by omega, i + 1, g, by simp, by simp, by omega, rfl, g0, fun y hy => ?_⟩
    rw [List.take_add_one, hx] at hy
    rcases List.mem_append.1 hy with hy | hy
    · exact Int.dvd_trans g1 (hv y hy)
    · obtain rfl : y = x := by simpa using hy
      exact Int.dvd_natAbs.1 g2
  · obtain rfl : i = p.length := by omega
    have c1 : ¬ (p.length : Int) < (p.length : Int) := by omega
    rw [List.take_length] at hv
    simp (disch := omega) only [VW, VY, VZ, VA, VB, VC, VE, TY, ↓reduceIte, Nat.reduceEqDiff, Nat.reduceAdd, Nat.reduceMul, Nat.reduceSub, Nat.reduceLeDiff, List.length_cons, List.length_nil, List.length_append, List.append_assoc, List.take_succ_cons, List.take_zero, List.drop_succ_cons, List.drop_zero, List.set_cons_zero, List.set_cons_succ, true_or, or_true, and_self, Bool.false_eq_true, Nat.le_refl, Option.bind_some, Option.map_some, Option.getD_some, Option.isSome_some, List.map_cons, List.map_nil, List.cons_append, List.nil_append, List.append_nil, List.getElem?_cons_zero, List.getElem?_cons_succ, eq_self, Int.reduceLT, Int.reduceLE, Int.reduceNeg, Int.reduceEq, c1, e3]
    exact hQ d hd hv
theorem map_div {p : List Int} {d : Int} (hv : ∀ x ∈ p, d ∣ x) : p = (p.map (· / d)).map (d * ·) := by
  rw [List.map_map]
  refine (List.map_id p).symm.trans (List.map_congr_left fun x hx => ?_)
  exact (Int.mul_ediv_cancel' (hv x hx)).symm
theorem sgPart_c {n : Nat} {p : List Int} {v : Value} {h : Heap} {Q : Value → Heap → Prop} (r : Row h p v) (hn : n ≤ 8) (hp : Okay n p) (hl : Led p)
    (hQ : ∀ c q w h', 0 < c → p = q.map (c * ·) → Okay n q → Sep h h' [ownA 3 q w] → Q w h') : CallsV Try.prog 31 [v] h Q := by
  refine CallsV.start Try.func31 rfl (by rw [Try.results31]) (by kernel_rfl) (by rw [Try.ntmps31]; simp) ?_
  have hle := hp.1
  have hbn := bndD_le hn
  simp (disch := omega) only [VW, VY, VZ, VA, VB, VC, VE, TY, ↓reduceIte, Nat.reduceEqDiff, Nat.reduceAdd, Nat.reduceMul, Nat.reduceSub, Nat.reduceLeDiff, List.length_cons, List.length_nil, List.length_append, List.append_assoc, List.take_succ_cons, List.take_zero, List.drop_succ_cons, List.drop_zero, List.set_cons_zero, List.set_cons_succ, true_or, or_true, and_self, Bool.false_eq_true, Nat.le_refl, Option.bind_some, Option.map_some, Option.getD_some, Option.isSome_some, List.map_cons, List.map_nil, List.cons_append, List.nil_append, List.append_nil, List.getElem?_cons_zero, List.getElem?_cons_succ, eq_self, Int.reduceLT, Int.reduceLE, Int.reduceNeg, Int.reduceEq]
  refine .inl ⟨by kernel_rfl, ?_⟩; refine sgContent_c (n := n) r (fun x hx => by have := hp.2 x hx; omega) fun d hd hv => ?_
  have hpos : p ≠ [] → 0 < d := fun hne => by
    have hlen : p.length ≠ 0 := fun k => hne (List.eq_nil_of_length_eq_zero k)
    have hx := last_get hlen
    have h1 := hv _ (List.mem_of_getElem? hx)
    have h2 := hl _ hx
    rcases Int.lt_or_eq_of_le hd with k | k
    · exact k
    · rw [← k] at h1
      exact absurd (Int.zero_dvd.1 h1) h2
  simp (disch := omega) only [VW, VY, VZ, VA, VB, VC, VE, TY, ↓reduceIte, Nat.reduceEqDiff, Nat.reduceAdd, Nat.reduceMul, Nat.reduceSub, Nat.reduceLeDiff, List.length_cons, List.length_nil, List.length_append, List.append_assoc, List.take_succ_cons, List.take_zero, List.drop_succ_cons, List.drop_zero, List.set_cons_zero, List.set_cons_succ, true_or, or_true, and_self, Bool.false_eq_true, Nat.le_refl, Option.bind_some, Option.map_some, Option.getD_some, Option.isSome_some, List.map_cons, List.map_nil, List.cons_append, List.nil_append, List.append_nil, List.getElem?_cons_zero, List.getElem?_cons_succ, eq_self, Int.reduceLT, Int.reduceLE, Int.reduceNeg, Int.reduceEq, r.isRow.len]
  refine loop_rule (fun k e h' => ∃ (i : Nat) (vo : Value), e 3 = .int .i64 d ∧ e 4 = vo ∧ e 9 = v ∧ e 10 = .int .i64 p.length ∧ e 11 = .int .i64 i ∧ i ≤ p.length ∧ k = p.length - i ∧ Sep h h' [ownA 3 ((p.map (· / d)).take i) vo]) ?_ p.length _ _
    ⟨0, _, rfl, rfl, rfl, rfl, rfl, Nat.zero_le _, rfl, (Sep.nil (.refl h)).nilA _⟩
  rintro k e h1 ⟨i, vo, e3, e4, e9, e10, e11, hi, rfl, s⟩
  simp (disch := omega) only [VW, VY, VZ, VA, VB, VC, VE, TY, ↓reduceIte, Nat.reduceEqDiff, Nat.reduceAdd, Nat.reduceMul, Nat.reduceSub, Nat.reduceLeDiff, List.length_cons, List.length_nil, List.length_append, List.append_assoc, List.take_succ_cons, List.take_zero, List.drop_succ_cons, List.drop_zero, List.set_cons_zero, List.set_cons_succ, true_or, or_true, and_self, Bool.false_eq_true, Nat.le_refl, Option.bind_some, Option.map_some, Option.getD_some, Option.isSome_some, List.map_cons, List.map_nil, List.cons_append, List.nil_append, List.append_nil, List.getElem?_cons_zero, List.getElem?_cons_succ, eq_self, Int.reduceLT, Int.reduceLE, Int.reduceNeg, Int.reduceEq, e10, e11]
  by_cases hlt : i < p.length
  · obtain ⟨x, hx⟩ := get_some hlt
    have c1 : (i : Int) < (p.length : Int) := by omega
    obtain ⟨x3, x4⟩ := row_int (r.mono s.ext) hx
    have hd0 := hpos (by rintro rfl; simp at hlt)
    have z : ¬ d = 0 := by omega
    have hxm := List.mem_of_getElem? hx
    have hb := hp.2 x hxm
    have hb2 := tdiv_bnd hd0 hb.1 hb.2 (hv x hxm)
    have td : Int.tdiv x d = x / d := Int.tdiv_eq_ediv_of_dvd (hv x hxm)
    have w1 := wrap_in (x / d) (by omega)
    simp (disch := omega) only [VW, VY, VZ, VA, VB, VC, VE, TY, ↓reduceIte, Nat.reduceEqDiff, Nat.reduceAdd, Nat.reduceMul, Nat.reduceSub, Nat.reduceLeDiff, List.length_cons, List.length_nil, List.length_append, List.append_assoc, List.take_succ_cons, List.take_zero, List.drop_succ_cons, List.drop_zero, List.set_cons_zero, List.set_cons_succ, true_or, or_true, and_self, Bool.false_eq_true, Nat.le_refl, Option.bind_some, Option.map_some, Option.getD_some, Option.isSome_some, List.map_cons, List.map_nil, List.cons_append, List.nil_append, List.append_nil, List.getElem?_cons_zero, List.getElem?_cons_succ, eq_self, Int.reduceLT, Int.reduceLE, Int.reduceNeg, Int.reduceEq, c1, e3, e4, e9, e11, r.isRow.ix, x3, z, td, w1]
    have s := Sep.rep0 (x := x / d) s (rep_int ⟨by omega, by omega⟩)
    refine sep_append s.swap rfl rfl te22 tk3 rfl (by decide) (by simp; omega) fun v2 h2 s => ?_
    simp (disch := omega) only [VW, VY, VZ, VA, VB, VC, VE, TY, ↓reduceIte, Nat.reduceEqDiff, Nat.reduceAdd, Nat.reduceMul, Nat.reduceSub, Nat.reduceLeDiff, List.length_cons, List.length_nil, List.length_append, List.append_assoc, List.take_succ_cons, List.take_zero, List.drop_succ_cons, List.drop_zero, List.set_cons_zero, List.set_cons_succ, true_or, or_true, and_self, Bool.false_eq_true, Nat.le_refl, Option.bind_some, Option.map_some, Option.getD_some, Option.isSome_some, List.map_cons, List.map_nil, List.cons_append, List.nil_append, List.append_nil, List.getElem?_cons_zero, List.getElem?_cons_succ, eq_self, Int.reduceLT, Int.reduceLE, Int.reduceNeg, Int.reduceEq, e3, e9, e10, e11, wrap_in]
    exact ⟨_, by omega, i + 1, v2, rfl, by simp, by omega, rfl, by rw [List.take_add_one, List.getElem?_map, hx]; exact s⟩
  · obtain rfl : i = p.length := by omega
    have c1 : ¬ (p.length : Int) < (p.length : Int) := by omega
    rw [List.take_of_length_le (by simp)] at s
    simp (disch := omega) only [VW, VY, VZ, VA, VB, VC, VE, TY, ↓reduceIte, Nat.reduceEqDiff, Nat.reduceAdd, Nat.reduceMul, Nat.reduceSub, Nat.reduceLeDiff, List.length_cons, List.length_nil, List.length_append, List.append_assoc, List.take_succ_cons, List.take_zero, List.drop_succ_cons, List.drop_zero, List.set_cons_zero, List.set_cons_succ, true_or, or_true, and_self, Bool.false_eq_true, Nat.le_refl, Option.bind_some, Option.map_some, Option.getD_some, Option.isSome_some, List.map_cons, List.map_nil, List.cons_append, List.nil_append, List.append_nil, List.getElem?_cons_zero, List.getElem?_cons_succ, eq_self, Int.reduceLT, Int.reduceLE, Int.reduceNeg, Int.reduceEq, e4, c1]
    by_cases hne : p = []
    · subst hne
      exact hQ 1 [] _ _ (by decide) rfl hp s
    · refine hQ d _ _ _ (hpos hne) (map_div hv) ⟨by simpa using hp.1, fun y hy => ?_⟩ s
      obtain ⟨x, hx, rfl⟩ := List.mem_map.1 hy
      have hb := hp.2 x hx
      exact tdiv_bnd (hpos hne) hb.1 hb.2 (hv x hx)
theorem sgDerive_c {n : Nat} {p : List Int} {v : Value} {h : Heap} {Q : Value → Heap → Prop} (r : Row h p v) (hp : Okay n p) (hn : n < 8) (hQ : ∀ w h', Sep h h' [ownA 3 (dM p) w] → Q w h') :
    CallsV Try.prog 32 [v] h Q := by
  refine CallsV.start Try.func32 rfl (by rw [Try.results32]) (by kernel_rfl) (by rw [Try.ntmps32]; simp) ?_
  have hpl := hp.1
  have hd := hp.d hn
  have hbn := bndD_le (n := n + 1) (by omega)
  have hdl := dM_len p
  simp (disch := omega) only [VW, VY, VZ, VA, VB, VC, VE, TY, ↓reduceIte, Nat.reduceEqDiff, Nat.reduceAdd, Nat.reduceMul, Nat.reduceSub, Nat.reduceLeDiff, List.length_cons, List.length_nil, List.length_append, List.append_assoc, List.take_succ_cons, List.take_zero, List.drop_succ_cons, List.drop_zero, List.set_cons_zero, List.set_cons_succ, true_or, or_true, and_self, Bool.false_eq_true, Nat.le_refl, Option.bind_some, Option.map_some, Option.getD_some, Option.isSome_some, List.map_cons, List.map_nil, List.cons_append, List.nil_append, List.append_nil, List.getElem?_cons_zero, List.getElem?_cons_succ, eq_self, Int.reduceLT, Int.reduceLE, Int.reduceNeg, Int.reduceEq, r.isRow.len]
  refine loop_rule (fun k e h' => ∃ (i : Nat) (vo : Value), e 3 = vo ∧ e 6 = v ∧ e 7 = .int .i64 p.length ∧ e 8 = .int .i64 i ∧ i ≤ p.length ∧ k = p.length - i ∧ Sep h h' [ownA 3 ((dM p).take (i - 1)) vo]) ?_ p.length _ _
    ⟨0, _, rfl, rfl, rfl, rfl, Nat.zero_le _, rfl, (Sep.nil (.refl h)).nilA _⟩
  rintro k e h1 ⟨i, vo, e3, e6, e7, e8, hi, rfl, s⟩
  simp (disch := omega) only [VW, VY, VZ, VA, VB, VC, VE, TY, ↓reduceIte, Nat.reduceEqDiff, Nat.reduceAdd, Nat.reduceMul, Nat.reduceSub, Nat.reduceLeDiff, List.length_cons, List.length_nil, List.length_append, List.append_assoc, List.take_succ_cons, List.take_zero, List.drop_succ_cons, List.drop_zero, List.set_cons_zero, List.set_cons_succ, true_or, or_true, and_self, Bool.false_eq_true, Nat.le_refl, Option.bind_some, Option.map_some, Option.getD_some, Option.isSome_some, List.map_cons, List.map_nil, List.cons_append, List.nil_append, List.append_nil, List.getElem?_cons_zero, List.getElem?_cons_succ, eq_self, Int.reduceLT, Int.reduceLE, Int.reduceNeg, Int.reduceEq, e7, e8]
  by_cases hlt : i < p.length
  · obtain ⟨x, hx⟩ := get_some hlt
    have c1 : (i : Int) < (p.length : Int) := by omega
    obtain ⟨x3, x4⟩ := row_int (r.mono s.ext) hx
    simp (disch := omega) only [VW, VY, VZ, VA, VB, VC, VE, TY, ↓reduceIte, Nat.reduceEqDiff, Nat.reduceAdd, Nat.reduceMul, Nat.reduceSub, Nat.reduceLeDiff, List.length_cons, List.length_nil, List.length_append, List.append_assoc, List.take_succ_cons, List.take_zero, List.drop_succ_cons, List.drop_zero, List.set_cons_zero, List.set_cons_succ, true_or, or_true, and_self, Bool.false_eq_true, Nat.le_refl, Option.bind_some, Option.map_some, Option.getD_some, Option.isSome_some, List.map_cons, List.map_nil, List.cons_append, List.nil_append, List.append_nil, List.getElem?_cons_zero, List.getElem?_cons_succ, eq_self, Int.reduceLT, Int.reduceLE, Int.reduceNeg, Int.reduceEq, c1, e3, e6, e8, r.isRow.ix, x3]
    cases i with
    | zero =>
      have c2 : ¬ (0 : Int) < ((0 : Nat) : Int) := by decide
      have c3 : ¬ (0 : Int) < 0 := by decide
      simp (disch := omega) only [VW, VY, VZ, VA, VB, VC, VE, TY, ↓reduceIte, Nat.reduceEqDiff, Nat.reduceAdd, Nat.reduceMul, Nat.reduceSub, Nat.reduceLeDiff, List.length_cons, List.length_nil, List.length_append, List.append_assoc, List.take_succ_cons, List.take_zero, List.drop_succ_cons, List.drop_zero, List.set_cons_zero, List.set_cons_succ, true_or, or_true, and_self, Bool.false_eq_true, Nat.le_refl, Option.bind_some, Option.map_some, Option.getD_some, Option.isSome_some, List.map_cons, List.map_nil, List.cons_append, List.nil_append, List.append_nil, List.getElem?_cons_zero, List.getElem?_cons_succ, eq_self, Int.reduceLT, Int.reduceLE, Int.reduceNeg, Int.reduceEq, c2, c3, e3, e6, e7, e8, wrap_in]
      exact ⟨_, by omega, 1, vo, rfl, by simp, by omega, rfl, s⟩
    | succ i =>
      have c2 : (0 : Int) < ((i + 1 : Nat) : Int) := by omega
      have hb := hd.2 _ (List.mem_of_getElem? (dM_get hx))
      have e1 : ((i + 1 : Nat) : Int) * x = ((i : Int) + 1) * x := by simp
      have w1 := wrap_in (((i : Int) + 1) * x) (by omega)
      simp (disch := omega) only [VW, VY, VZ, VA, VB, VC, VE, TY, ↓reduceIte, Nat.reduceEqDiff, Nat.reduceAdd, Nat.reduceMul, Nat.reduceSub, Nat.reduceLeDiff, List.length_cons, List.length_nil, List.length_append, List.append_assoc, List.take_succ_cons, List.take_zero, List.drop_succ_cons, List.drop_zero, List.set_cons_zero, List.set_cons_succ, true_or, or_true, and_self, Bool.false_eq_true, Nat.le_refl, Option.bind_some, Option.map_some, Option.getD_some, Option.isSome_some, List.map_cons, List.map_nil, List.cons_append, List.nil_append, List.append_nil, List.getElem?_cons_zero, List.getElem?_cons_succ, eq_self, Int.reduceLT, Int.reduceLE, Int.reduceNeg, Int.reduceEq, c2, e1, w1, e3]
      have s := Sep.rep0 (x := ((i : Int) + 1) * x) s (rep_int ⟨by omega, by omega⟩)
      refine sep_append s.swap rfl rfl te22 tk3 rfl (by decide) (by simp; omega) fun v2 h2 s => ?_
      simp (disch := omega) only [VW, VY, VZ, VA, VB, VC, VE, TY, ↓reduceIte, Nat.reduceEqDiff, Nat.reduceAdd, Nat.reduceMul, Nat.reduceSub, Nat.reduceLeDiff, List.length_cons, List.length_nil, List.length_append, List.append_assoc, List.take_succ_cons, List.take_zero, List.drop_succ_cons, List.drop_zero, List.set_cons_zero, List.set_cons_succ, true_or, or_true, and_self, Bool.false_eq_true, Nat.le_refl, Option.bind_some, Option.map_some, Option.getD_some, Option.isSome_some, List.map_cons, List.map_nil, List.cons_append, List.nil_append, List.append_nil, List.getElem?_cons_zero, List.getElem?_cons_succ, eq_self, Int.reduceLT, Int.reduceLE, Int.reduceNeg, Int.reduceEq, e6, e7, e8, wrap_in]
      exact ⟨_, by omega, i + 1 + 1, v2, rfl, by simp, by omega, rfl, by rw [show i + 1 + 1 - 1 = i + 1 by omega, dM_take hx]; exact s⟩
  · obtain rfl : i = p.length := by omega
    have c1 : ¬ (p.length : Int) < (p.length : Int) := by omega
    rw [List.take_of_length_le (by omega)] at s
    simp (disch := omega) only [VW, VY, VZ, VA, VB, VC, VE, TY, ↓reduceIte, Nat.reduceEqDiff, Nat.reduceAdd, Nat.reduceMul, Nat.reduceSub, Nat.reduceLeDiff, List.length_cons, List.length_nil, List.length_append, List.append_assoc, List.take_succ_cons, List.take_zero, List.drop_succ_cons, List.drop_zero, List.set_cons_zero, List.set_cons_succ, true_or, or_true, and_self, Bool.false_eq_true, Nat.le_refl, Option.bind_some, Option.map_some, Option.getD_some, Option.isSome_some, List.map_cons, List.map_nil, List.cons_append, List.nil_append, List.append_nil, List.getElem?_cons_zero, List.getElem?_cons_succ, eq_self, Int.reduceLT, Int.reduceLE, Int.reduceNeg, Int.reduceEq, e3, c1]
    exact hQ _ _ s
end Go.Proofs
