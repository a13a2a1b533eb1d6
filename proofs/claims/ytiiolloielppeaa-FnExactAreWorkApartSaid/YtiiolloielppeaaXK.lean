/- Contracts of functions, facts of types, or the plain law behind one statement (own work): XK. Conditions: those told in each theorem. -/
import Derived.Test.YtiiolloielppeaaXI
set_option linter.all false
set_option linter.unusedSimpArgs false
set_option linter.unusedVariables false
set_option maxRecDepth 4000
namespace Go.Proofs
open Go Go.V
theorem l1Most_c {a b : Int} {h : Heap} {Q : Value → Heap → Prop} (hQ : Q (.int .i64 (imax a b)) h) : CallsV Try.prog 81 [.int .i64 a, .int .i64 b] h Q := by
  refine CallsV.start Try.func81 rfl (by rw [Try.results81]) (by kernel_rfl) (by rw [Try.ntmps81]; simp) ?_
  unfold imax at hQ
  by_cases c : b < a
  · rw [Int.max_eq_left (by omega)] at hQ
    simp (disch := omega) only [VW, VY, VZ, VA, VB, VC, VE, TY, ↓reduceIte, Nat.reduceEqDiff, Nat.reduceAdd, Nat.reduceMul, Nat.reduceSub, Nat.reduceLeDiff, List.length_cons, List.length_nil, List.length_append, List.append_assoc, List.take_succ_cons, List.take_zero, List.drop_succ_cons, List.drop_zero, List.set_cons_zero, List.set_cons_succ, true_or, or_true, and_self, Bool.false_eq_true, Nat.le_refl, Option.bind_some, Option.map_some, Option.getD_some, Option.isSome_some, List.map_cons, List.map_nil, List.cons_append, List.nil_append, List.append_nil, List.getElem?_cons_zero, List.getElem?_cons_succ, eq_self, Int.reduceLT, Int.reduceLE, Int.reduceNeg, Int.reduceEq, c]
    exact hQ
  · rw [Int.max_eq_right (by omega)] at hQ
    simp (disch := omega) only [VW, VY, VZ, VA, VB, VC, VE, TY, ↓reduceIte, Nat.reduceEqDiff, Nat.reduceAdd, Nat.reduceMul, Nat.reduceSub, Nat.reduceLeDiff, List.length_cons, List.length_nil, List.length_append, List.append_assoc, List.take_succ_cons, List.take_zero, List.drop_succ_cons, List.drop_zero, List.set_cons_zero, List.set_cons_succ, true_or, or_true, and_self, Bool.false_eq_true, Nat.le_refl, Option.bind_some, Option.map_some, Option.getD_some, Option.isSome_some, List.map_cons, List.map_nil, List.cons_append, List.nil_append, List.append_nil, List.getElem?_cons_zero, List.getElem?_cons_succ, eq_self, Int.reduceLT, Int.reduceLE, Int.reduceNeg, Int.reduceEq, c]
    exact hQ
theorem l1Least_c {a b : Int} {h : Heap} {Q : Value → Heap → Prop} (hQ : Q (.int .i64 (imin a b)) h) : CallsV Try.prog 82 [.int .i64 a, .int .i64 b] h Q := by
  refine CallsV.start Try.func82 rfl (by rw [Try.results82]) (by kernel_rfl) (by rw [Try.ntmps82]; simp) ?_
  unfold imin at hQ
  by_cases c : a < b
  · rw [Int.min_eq_left (by omega)] at hQ
    simp (disch := omega) only [VW, VY, VZ, VA, VB, VC, VE, TY, ↓reduceIte, Nat.reduceEqDiff, Nat.reduceAdd, Nat.reduceMul, Nat.reduceSub, Nat.reduceLeDiff, List.length_cons, List.length_nil, List.length_append, List.append_assoc, List.take_succ_cons, List.take_zero, List.drop_succ_cons, List.drop_zero, List.set_cons_zero, List.set_cons_succ, true_or, or_true, and_self, Bool.false_eq_true, Nat.le_refl, Option.bind_some, Option.map_some, Option.getD_some, Option.isSome_some, List.map_cons, List.map_nil, List.cons_append, List.nil_append, List.append_nil, List.getElem?_cons_zero, List.getElem?_cons_succ, eq_self, Int.reduceLT, Int.reduceLE, Int.reduceNeg, Int.reduceEq, c]
    exact hQ
  · rw [Int.min_eq_right (by omega)] at hQ
    simp (disch := omega) only [VW, VY, VZ, VA, VB, VC, VE, TY, ↓reduceIte, Nat.reduceEqDiff, Nat.reduceAdd, Nat.reduceMul, Nat.reduceSub, Nat.reduceLeDiff, List.length_cons, List.length_nil, List.length_append, List.append_assoc, List.take_succ_cons, List.take_zero, List.drop_succ_cons, List.drop_zero, List.set_cons_zero, List.set_cons_succ, true_or, or_true, and_self, Bool.false_eq_true, Nat.le_refl, Option.bind_some, Option.map_some, Option.getD_some, Option.isSome_some, List.map_cons, List.map_nil, List.cons_append, List.nil_append, List.append_nil, List.getElem?_cons_zero, List.getElem?_cons_succ, eq_self, Int.reduceLT, Int.reduceLE, Int.reduceNeg, Int.reduceEq, c]
    exact hQ
theorem bxEven_c {x : Bx} {cs : List Value} {h : Heap} {Q : Value → Heap → Prop} (hx : Here h x cs) (hl : x.high.length = x.low.length) (hQ : ∀ h', Ext h h' → Q (.bool (!(x.low.zip x.high).any pairOdd)) h') :
    CallsV Try.prog 111 [.agg cs.toArray] h Q := by
  obtain ⟨v1, v2, rfl, f1, r1, r2⟩ := here_Bx hx
  refine CallsV.start Try.func111 rfl (by rw [Try.results111]) (by kernel_rfl) (by rw [Try.ntmps111]; simp) ?_
  have u := Sep.blk1 h [.int .i64 x.k, v1, v2] 42 true
  simp (disch := omega) only [VW, VY, VZ, VA, VB, VC, VE, TY, ↓reduceIte, Nat.reduceEqDiff, Nat.reduceAdd, Nat.reduceMul, Nat.reduceSub, Nat.reduceLeDiff, List.length_cons, List.length_nil, List.length_append, List.append_assoc, List.take_succ_cons, List.take_zero, List.drop_succ_cons, List.drop_zero, List.set_cons_zero, List.set_cons_succ, true_or, or_true, and_self, Bool.false_eq_true, Nat.le_refl, Option.bind_some, Option.map_some, Option.getD_some, Option.isSome_some, List.map_cons, List.map_nil, List.cons_append, List.nil_append, List.append_nil, List.getElem?_cons_zero, List.getElem?_cons_succ, eq_self, Int.reduceLT, Int.reduceLE, Int.reduceNeg, Int.reduceEq]
  generalize hH : h ++ [some ⟨[.int .i64 x.k, v1, v2], 42, false, true⟩] = H at *
  have E := u.ext
  have r1 := r1.mono E
  have r2 := r2.mono E
  have g := u.rd
  have hle := r1.le
  simp (disch := omega) only [VW, VY, VZ, VA, VB, VC, VE, TY, ↓reduceIte, Nat.reduceEqDiff, Nat.reduceAdd, Nat.reduceMul, Nat.reduceSub, Nat.reduceLeDiff, List.length_cons, List.length_nil, List.length_append, List.append_assoc, List.take_succ_cons, List.take_zero, List.drop_succ_cons, List.drop_zero, List.set_cons_zero, List.set_cons_succ, true_or, or_true, and_self, Bool.false_eq_true, Nat.le_refl, Option.bind_some, Option.map_some, Option.getD_some, Option.isSome_some, List.map_cons, List.map_nil, List.cons_append, List.nil_append, List.append_nil, List.getElem?_cons_zero, List.getElem?_cons_succ, eq_self, Int.reduceLT, Int.reduceLE, Int.reduceNeg, Int.reduceEq, g, r1.isRow.len]
  have hzl : (x.low.zip x.high).length = x.low.length := by rw [List.length_zip]; omega
  refine loop_rule (fun n e h' => ∃ (i : Nat), e 1 = .pointer (some ⟨h.length, 0, none⟩) ∧ e 6 = v1 ∧ e 7 = .int .i64 x.low.length ∧ e 8 = .int .i64 i ∧ i ≤ x.low.length ∧ n = x.low.length - i ∧ H = h' ∧ ((x.low.zip x.high).take i).any pairOdd = false) ?_ x.low.length _ _
    ⟨0, rfl, rfl, rfl, rfl, Nat.zero_le _, rfl, rfl, by simp⟩
  rintro n e h' ⟨i, e1, e6, e7, e8, hi, rfl, rfl, hany⟩
  simp (disch := omega) only [VW, VY, VZ, VA, VB, VC, VE, TY, ↓reduceIte, Nat.reduceEqDiff, Nat.reduceAdd, Nat.reduceMul, Nat.reduceSub, Nat.reduceLeDiff, List.length_cons, List.length_nil, List.length_append, List.append_assoc, List.take_succ_cons, List.take_zero, List.drop_succ_cons, List.drop_zero, List.set_cons_zero, List.set_cons_succ, true_or, or_true, and_self, Bool.false_eq_true, Nat.le_refl, Option.bind_some, Option.map_some, Option.getD_some, Option.isSome_some, List.map_cons, List.map_nil, List.cons_append, List.nil_append, List.append_nil, List.getElem?_cons_zero, List.getElem?_cons_succ, eq_self, Int.reduceLT, Int.reduceLE, Int.reduceNeg, Int.reduceEq, e7, e8]
  by_cases hlt : i < x.low.length
  · obtain ⟨y, hy⟩ := get_some hlt
    obtain ⟨z, hz⟩ := get_some (show i < x.high.length by omega)
    have hyz := zip_get hy hz
    obtain ⟨y1, y2⟩ := row_int r1 hy
    obtain ⟨z1, z2⟩ := row_int r2 hz
    have q1 : (i : Int) < (x.low.length : Int) := by omega
    have hany2 := any_take pairOdd hyz
    rw [hany, Bool.false_or] at hany2
    have ne2 : ¬ (2 : Int) = 0 := by decide
    by_cases c7 : Int.tmod y 2 = 0
    · by_cases c8 : Int.tmod z 2 = 0
      · simp (disch := omega) only [VW, VY, VZ, VA, VB, VC, VE, TY, ↓reduceIte, Nat.reduceEqDiff, Nat.reduceAdd, Nat.reduceMul, Nat.reduceSub, Nat.reduceLeDiff, List.length_cons, List.length_nil, List.length_append, List.append_assoc, List.take_succ_cons, List.take_zero, List.drop_succ_cons, List.drop_zero, List.set_cons_zero, List.set_cons_succ, true_or, or_true, and_self, Bool.false_eq_true, Nat.le_refl, Option.bind_some, Option.map_some, Option.getD_some, Option.isSome_some, List.map_cons, List.map_nil, List.cons_append, List.nil_append, List.append_nil, List.getElem?_cons_zero, List.getElem?_cons_succ, eq_self, Int.reduceLT, Int.reduceLE, Int.reduceNeg, Int.reduceEq, e1, e6, e7, e8, q1, r1.isRow.ix, y1, ne2, c7, g, r2.isRow.ix, z1, c8, wrap_in]
        exact ⟨_, by omega, i + 1, by simp, by omega, rfl, by rw [hany2]; simp [pairOdd, c7, c8]⟩
      · simp (disch := omega) only [VW, VY, VZ, VA, VB, VC, VE, TY, ↓reduceIte, Nat.reduceEqDiff, Nat.reduceAdd, Nat.reduceMul, Nat.reduceSub, Nat.reduceLeDiff, List.length_cons, List.length_nil, List.length_append, List.append_assoc, List.take_succ_cons, List.take_zero, List.drop_succ_cons, List.drop_zero, List.set_cons_zero, List.set_cons_succ, true_or, or_true, and_self, Bool.false_eq_true, Nat.le_refl, Option.bind_some, Option.map_some, Option.getD_some, Option.isSome_some, List.map_cons, List.map_nil, List.cons_append, List.nil_append, List.append_nil, List.getElem?_cons_zero, List.getElem?_cons_succ, eq_self, Int.reduceLT, Int.reduceLE, Int.reduceNeg, Int.reduceEq, e1, e6, e7, e8, q1, r1.isRow.ix, y1, ne2, c7, g, r2.isRow.ix, z1, c8, wrap_in]
        rw [any_true hyz (by simp [pairOdd, c8])] at hQ
        exact hQ _ E
    · simp (disch := omega) only [VW, VY, VZ, VA, VB, VC, VE, TY, ↓reduceIte, Nat.reduceEqDiff, Nat.reduceAdd, Nat.reduceMul, Nat.reduceSub, Nat.reduceLeDiff, List.length_cons, List.length_nil, List.length_append, List.append_assoc, List.take_succ_cons, List.take_zero, List.drop_succ_cons, List.drop_zero, List.set_cons_zero, List.set_cons_succ, true_or, or_true, and_self, Bool.false_eq_true, Nat.le_refl, Option.bind_some, Option.map_some, Option.getD_some, Option.isSome_some, List.map_cons, List.map_nil, List.cons_append, List.nil_append, List.append_nil, List.getElem?_cons_zero, List.getElem?_cons_succ, eq_self, Int.reduceLT, Int.reduceLE, Int.reduceNeg, Int.reduceEq, e1, e6, e7, e8, q1, r1.isRow.ix, y1, ne2, c7, g, wrap_in]
      rw [any_true hyz (by simp [pairOdd, c7])] at hQ
      exact hQ _ E
  · obtain rfl : i = x.low.length := by omega
    have q1 : ¬ (x.low.length : Int) < (x.low.length : Int) := by omega
    rw [List.take_of_length_le (by omega)] at hany
    rw [hany] at hQ
    simp (disch := omega) only [VW, VY, VZ, VA, VB, VC, VE, TY, ↓reduceIte, Nat.reduceEqDiff, Nat.reduceAdd, Nat.reduceMul, Nat.reduceSub, Nat.reduceLeDiff, List.length_cons, List.length_nil, List.length_append, List.append_assoc, List.take_succ_cons, List.take_zero, List.drop_succ_cons, List.drop_zero, List.set_cons_zero, List.set_cons_succ, true_or, or_true, and_self, Bool.false_eq_true, Nat.le_refl, Option.bind_some, Option.map_some, Option.getD_some, Option.isSome_some, List.map_cons, List.map_nil, List.cons_append, List.nil_append, List.append_nil, List.getElem?_cons_zero, List.getElem?_cons_succ, eq_self, Int.reduceLT, Int.reduceLE, Int.reduceNeg, Int.reduceEq, e7, e8, q1]
    exact hQ _ E
theorem bxAt_c {x : Bx} {cs : List Value} {h : Heap} {Q : Value → Heap → Prop} (hx : Here h x cs) (gx : boxM x = true)
    (hQ : ∀ w1 w2 h', Sep h h' [ownA 3 (upL x.low (8 - x.k).toNat) w1, ownA 3 (upL x.high (8 - x.k).toNat) w2] → Q (.tuple #[w1, w2]) h') :
    CallsV Try.prog 80 [.agg cs.toArray] h Q := by
  obtain ⟨v1, v2, rfl, f1, r1, r2⟩ := here_Bx hx
  obtain ⟨kx, lx, lx3, ex, bx1, bx2⟩ := box_k gx
  refine CallsV.start Try.func80 rfl (by rw [Try.results80]) (by kernel_rfl) (by rw [Try.ntmps80]; simp) ?_
  have u := Sep.blk1 h [.int .i64 x.k, v1, v2] 42 true
  simp (disch := omega) only [VW, VY, VZ, VA, VB, VC, VE, TY, ↓reduceIte, Nat.reduceEqDiff, Nat.reduceAdd, Nat.reduceMul, Nat.reduceSub, Nat.reduceLeDiff, List.length_cons, List.length_nil, List.length_append, List.append_assoc, List.take_succ_cons, List.take_zero, List.drop_succ_cons, List.drop_zero, List.set_cons_zero, List.set_cons_succ, true_or, or_true, and_self, Bool.false_eq_true, Nat.le_refl, Option.bind_some, Option.map_some, Option.getD_some, Option.isSome_some, List.map_cons, List.map_nil, List.cons_append, List.nil_append, List.append_nil, List.getElem?_cons_zero, List.getElem?_cons_succ, eq_self, Int.reduceLT, Int.reduceLE, Int.reduceNeg, Int.reduceEq]
  generalize hH : h ++ [some ⟨[.int .i64 x.k, v1, v2], 42, false, true⟩] = H at *
  have g := u.rd
  simp (disch := omega) only [VW, VY, VZ, VA, VB, VC, VE, TY, ↓reduceIte, Nat.reduceEqDiff, Nat.reduceAdd, Nat.reduceMul, Nat.reduceSub, Nat.reduceLeDiff, List.length_cons, List.length_nil, List.length_append, List.append_assoc, List.take_succ_cons, List.take_zero, List.drop_succ_cons, List.drop_zero, List.set_cons_zero, List.set_cons_succ, true_or, or_true, and_self, Bool.false_eq_true, Nat.le_refl, Option.bind_some, Option.map_some, Option.getD_some, Option.isSome_some, List.map_cons, List.map_nil, List.cons_append, List.nil_append, List.append_nil, List.getElem?_cons_zero, List.getElem?_cons_succ, eq_self, Int.reduceLT, Int.reduceLE, Int.reduceNeg, Int.reduceEq, g, wrap_in]
  refine .inl ⟨by kernel_rfl, ?_⟩; refine dyPower_c (k := 8 - x.k) (by omega) ?_
  obtain ⟨d, hd, hd8⟩ : ∃ d : Nat, (8 - x.k).toNat = d ∧ d ≤ 8 := ⟨_, rfl, by omega⟩
  rw [hd] at hQ ⊢
  simp (disch := omega) only [VW, VY, VZ, VA, VB, VC, VE, TY, ↓reduceIte, Nat.reduceEqDiff, Nat.reduceAdd, Nat.reduceMul, Nat.reduceSub, Nat.reduceLeDiff, List.length_cons, List.length_nil, List.length_append, List.append_assoc, List.take_succ_cons, List.take_zero, List.drop_succ_cons, List.drop_zero, List.set_cons_zero, List.set_cons_succ, true_or, or_true, and_self, Bool.false_eq_true, Nat.le_refl, Option.bind_some, Option.map_some, Option.getD_some, Option.isSome_some, List.map_cons, List.map_nil, List.cons_append, List.nil_append, List.append_nil, List.getElem?_cons_zero, List.getElem?_cons_succ, eq_self, Int.reduceLT, Int.reduceLE, Int.reduceNeg, Int.reduceEq, g, r1.isRow.len]
  refine loop_rule (fun n e h' => ∃ (i : Nat) (vo1 vo2 : Value), e 1 = .pointer (some ⟨h.length, 0, none⟩) ∧ e 4 = vo1 ∧ e 5 = vo2 ∧ e 6 = .int .i64 (2 ^ d) ∧ e 14 = v1 ∧ e 15 = .int .i64 (x.low.length : Int) ∧ e 16 = .int .i64 (i : Int) ∧ i ≤ x.low.length ∧ n = x.low.length - i ∧
     Sep h h' [ownA 3 (upL (x.low.take i) d) vo1, ownA 3 (upL (x.high.take i) d) vo2, blkA h.length [.int .i64 x.k, v1, v2] 42]) ?_ x.low.length _ _
    ⟨0, .slice none 0 0, .slice none 0 0, rfl, rfl, rfl, rfl, rfl, rfl, rfl, Nat.zero_le _, rfl, ((u.nilA 3).nilA 3)⟩
  rintro n e h' ⟨i, vo1, vo2, e1, e4, e5, e6, e14, e15, e16, hi, rfl, s⟩
  have w1 := r1.mono s.ext
  have w2 := r2.mono s.ext
  have g := (s.pull 2 rfl).rd
  simp (disch := omega) only [VW, VY, VZ, VA, VB, VC, VE, TY, ↓reduceIte, Nat.reduceEqDiff, Nat.reduceAdd, Nat.reduceMul, Nat.reduceSub, Nat.reduceLeDiff, List.length_cons, List.length_nil, List.length_append, List.append_assoc, List.take_succ_cons, List.take_zero, List.drop_succ_cons, List.drop_zero, List.set_cons_zero, List.set_cons_succ, true_or, or_true, and_self, Bool.false_eq_true, Nat.le_refl, Option.bind_some, Option.map_some, Option.getD_some, Option.isSome_some, List.map_cons, List.map_nil, List.cons_append, List.nil_append, List.append_nil, List.getElem?_cons_zero, List.getElem?_cons_succ, eq_self, Int.reduceLT, Int.reduceLE, Int.reduceNeg, Int.reduceEq, e15, e16]
  by_cases hlt : i < x.low.length
  · obtain ⟨a, ha⟩ := get_some hlt
    obtain ⟨b, hb⟩ := get_some (show i < x.high.length by omega)
    have q1 : (i : Int) < (x.low.length : Int) := by omega
    obtain ⟨x1, x2⟩ := row_int w1 ha
    have ua := up_small (bx1 a (List.mem_of_getElem? ha)) hd8
    have ub := up_small (bx2 b (List.mem_of_getElem? hb)) hd8
    have hl1 : (upL (x.low.take i) d).length = i := by unfold upL; rw [List.length_map, List.length_take]; omega
    have hl2 : (upL (x.high.take i) d).length = i := by unfold upL; rw [List.length_map, List.length_take]; omega
    have t1 : upL (x.low.take (i + 1)) d = upL (x.low.take i) d ++ [a * 2 ^ d] := by
      unfold upL; rw [List.take_add_one, ha, List.map_append]; rfl
    have t2 : upL (x.high.take (i + 1)) d = upL (x.high.take i) d ++ [b * 2 ^ d] := by
      unfold upL; rw [List.take_add_one, hb, List.map_append]; rfl
    simp (disch := omega) only [VW, VY, VZ, VA, VB, VC, VE, TY, ↓reduceIte, Nat.reduceEqDiff, Nat.reduceAdd, Nat.reduceMul, Nat.reduceSub, Nat.reduceLeDiff, List.length_cons, List.length_nil, List.length_append, List.append_assoc, List.take_succ_cons, List.take_zero, List.drop_succ_cons, List.drop_zero, List.set_cons_zero, List.set_cons_succ, true_or, or_true, and_self, Bool.false_eq_true, Nat.le_refl, Option.bind_some, Option.map_some, Option.getD_some, Option.isSome_some, List.map_cons, List.map_nil, List.cons_append, List.nil_append, List.append_nil, List.getElem?_cons_zero, List.getElem?_cons_succ, eq_self, Int.reduceLT, Int.reduceLE, Int.reduceNeg, Int.reduceEq, e1, e4, e5, e6, e14, e16, q1, w1.isRow.ix, x1, wrap_in]
    have sq := (Sep.rep0 (x := a * 2 ^ d) s (rep_int ⟨by omega, by omega⟩)).swap
    refine sep_append (y := a * 2 ^ d) sq rfl rfl te34 tk3 rfl (by decide) (by rw [hl1]; simp only []; omega) fun v5 h5 s => ?_
    have g := (s.pull 2 rfl).rd
    have w2 := r2.mono s.ext
    obtain ⟨y1, y2⟩ := row_int w2 hb
    have sb := s.pull 1 rfl
    simp (disch := omega) only [VW, VY, VZ, VA, VB, VC, VE, TY, ↓reduceIte, Nat.reduceEqDiff, Nat.reduceAdd, Nat.reduceMul, Nat.reduceSub, Nat.reduceLeDiff, List.length_cons, List.length_nil, List.length_append, List.append_assoc, List.take_succ_cons, List.take_zero, List.drop_succ_cons, List.drop_zero, List.set_cons_zero, List.set_cons_succ, true_or, or_true, and_self, Bool.false_eq_true, Nat.le_refl, Option.bind_some, Option.map_some, Option.getD_some, Option.isSome_some, List.map_cons, List.map_nil, List.cons_append, List.nil_append, List.append_nil, List.getElem?_cons_zero, List.getElem?_cons_succ, eq_self, Int.reduceLT, Int.reduceLE, Int.reduceNeg, Int.reduceEq, e1, e5, e6, e16, g, w2.isRow.ix, y1, wrap_in]
    have sq := (Sep.rep0 (x := b * 2 ^ d) sb (rep_int ⟨by omega, by omega⟩)).swap
    refine sep_append (y := b * 2 ^ d) sq rfl rfl te34 tk3 rfl (by decide) (by rw [hl2]; simp only []; omega) fun v6 h6 s => ?_
    simp (disch := omega) only [VW, VY, VZ, VA, VB, VC, VE, TY, ↓reduceIte, Nat.reduceEqDiff, Nat.reduceAdd, Nat.reduceMul, Nat.reduceSub, Nat.reduceLeDiff, List.length_cons, List.length_nil, List.length_append, List.append_assoc, List.take_succ_cons, List.take_zero, List.drop_succ_cons, List.drop_zero, List.set_cons_zero, List.set_cons_succ, true_or, or_true, and_self, Bool.false_eq_true, Nat.le_refl, Option.bind_some, Option.map_some, Option.getD_some, Option.isSome_some, List.map_cons, List.map_nil, List.cons_append, List.nil_append, List.append_nil, List.getElem?_cons_zero, List.getElem?_cons_succ, eq_self, Int.reduceLT, Int.reduceLE, Int.reduceNeg, Int.reduceEq, e1, e6, e14, e15, e16, wrap_in]
    refine ⟨_, by omega, i + 1, v5, v6, rfl, rfl, by simp, by omega, rfl, ?_⟩
    rw [t1, t2]
    exact s.swap
  · obtain rfl : i = x.low.length := by omega
    have q1 : ¬ (x.low.length : Int) < (x.low.length : Int) := by omega
    rw [List.take_length, ← ex, List.take_length] at s
    have p1 := s.row.isRow.plain
    have p2 := (s.pull 1 rfl).row.isRow.plain
    simp (disch := omega) only [VW, VY, VZ, VA, VB, VC, VE, TY, ↓reduceIte, Nat.reduceEqDiff, Nat.reduceAdd, Nat.reduceMul, Nat.reduceSub, Nat.reduceLeDiff, List.length_cons, List.length_nil, List.length_append, List.append_assoc, List.take_succ_cons, List.take_zero, List.drop_succ_cons, List.drop_zero, List.set_cons_zero, List.set_cons_succ, true_or, or_true, and_self, Bool.false_eq_true, Nat.le_refl, Option.bind_some, Option.map_some, Option.getD_some, Option.isSome_some, List.map_cons, List.map_nil, List.cons_append, List.nil_append, List.append_nil, List.getElem?_cons_zero, List.getElem?_cons_succ, eq_self, Int.reduceLT, Int.reduceLE, Int.reduceNeg, Int.reduceEq, q1, e4, e5, p1, p2]
    exact hQ _ _ _ (Sep.keep (L := [_, _]) s)
end Go.Proofs
