/- Contracts of functions, facts of types, or the plain law behind one statement (own work): XM. Conditions: those told in each theorem. -/
import Derived.Test.YtiiolloielppeaaXL
set_option linter.all false
set_option linter.unusedSimpArgs false
set_option linter.unusedVariables false
set_option maxRecDepth 4000
namespace Go.Proofs
open Go Go.V
theorem bxCommon_c {x y : Bx} {cx cy : List Value} {h : Heap} {Q : Value → Heap → Prop} (hx : Here h x cx) (hy : Here h y cy) (gx : boxM x = true) (gy : boxM y = true) (hl : y.low.length = x.low.length)
    (hQ : ∀ (cs : List Value) h', cs.length = 3 → Ext h h' → Q (.tuple #[.agg cs.toArray, .bool (comM x y)]) h') :
    CallsV Try.prog 43 [.agg cx.toArray, .agg cy.toArray] h Q := by
  obtain ⟨vx1, vx2, rfl, fx, rx1, rx2⟩ := here_Bx hx
  obtain ⟨vy1, vy2, rfl, fy, ry1, ry2⟩ := here_Bx hy
  obtain ⟨kx, lx, lx3, ex, bx1, bx2⟩ := box_k gx
  obtain ⟨ky, ly, ly3, ey, by1, by2⟩ := box_k gy
  refine CallsV.start Try.func43 rfl (by rw [Try.results43]) (by kernel_rfl) (by rw [Try.ntmps43]; simp) ?_
  have u := Sep.blk3 h [.int .i64 x.k, vx1, vx2] [.int .i64 y.k, vy1, vy2] [.int .i64 0, .slice none 0 0, .slice none 0 0] 42 42 42 true true true
  simp (disch := omega) only [VW, VY, VZ, VA, VB, VC, VE, TY, ↓reduceIte, Nat.reduceEqDiff, Nat.reduceAdd, Nat.reduceMul, Nat.reduceSub, Nat.reduceLeDiff, List.length_cons, List.length_nil, List.length_append, List.append_assoc, List.take_succ_cons, List.take_zero, List.drop_succ_cons, List.drop_zero, List.set_cons_zero, List.set_cons_succ, true_or, or_true, and_self, Bool.false_eq_true, Nat.le_refl, Option.bind_some, Option.map_some, Option.getD_some, Option.isSome_some, List.map_cons, List.map_nil, List.cons_append, List.nil_append, List.append_nil, List.getElem?_cons_zero, List.getElem?_cons_succ, eq_self, Int.reduceLT, Int.reduceLE, Int.reduceNeg, Int.reduceEq]
  generalize hH : h ++ [some ⟨[.int .i64 x.k, vx1, vx2], 42, false, true⟩, some ⟨[.int .i64 y.k, vy1, vy2], 42, false, true⟩, some ⟨[.int .i64 0, .slice none 0 0, .slice none 0 0], 42, false, true⟩] = H at *
  have g := (u.pull 2 rfl).rdAll (n := 3) rfl
  try simp (disch := omega) only [VW, VY, VZ, VA, VB, VC, VE, TY, ↓reduceIte, Nat.reduceEqDiff, Nat.reduceAdd, Nat.reduceMul, Nat.reduceSub, Nat.reduceLeDiff, List.length_cons, List.length_nil, List.length_append, List.append_assoc, List.take_succ_cons, List.take_zero, List.drop_succ_cons, List.drop_zero, List.set_cons_zero, List.set_cons_succ, true_or, or_true, and_self, Bool.false_eq_true, Nat.le_refl, Option.bind_some, Option.map_some, Option.getD_some, Option.isSome_some, List.map_cons, List.map_nil, List.cons_append, List.nil_append, List.append_nil, List.getElem?_cons_zero, List.getElem?_cons_succ, eq_self, Int.reduceLT, Int.reduceLE, Int.reduceNeg, Int.reduceEq, g]
  refine .inl ⟨by kernel_rfl, ?_⟩; refine bxAt_c (hx.mono u.ext) gx fun v1 v2 h1 s1 => ?_
  have g := ((u.pull 1 rfl).mono s1.ext).rdAll (n := 3) rfl
  have p1 := s1.row.isRow.plain
  have p2 := (s1.pull 1 rfl).row.isRow.plain
  simp (disch := omega) only [VW, VY, VZ, VA, VB, VC, VE, TY, ↓reduceIte, Nat.reduceEqDiff, Nat.reduceAdd, Nat.reduceMul, Nat.reduceSub, Nat.reduceLeDiff, List.length_cons, List.length_nil, List.length_append, List.append_assoc, List.take_succ_cons, List.take_zero, List.drop_succ_cons, List.drop_zero, List.set_cons_zero, List.set_cons_succ, true_or, or_true, and_self, Bool.false_eq_true, Nat.le_refl, Option.bind_some, Option.map_some, Option.getD_some, Option.isSome_some, List.map_cons, List.map_nil, List.cons_append, List.nil_append, List.append_nil, List.getElem?_cons_zero, List.getElem?_cons_succ, eq_self, Int.reduceLT, Int.reduceLE, Int.reduceNeg, Int.reduceEq, g]
  refine .inl ⟨by kernel_rfl, ?_⟩; refine bxAt_c (hy.mono (u.ext.trans s1.ext)) gy fun v3 v4 h2 s2 => ?_
  have u := (u.add s1).add s2
  have hM : comM x y = ((List.zipWith imax (upL x.low (8 - x.k).toNat) (upL y.low (8 - y.k).toNat)).zip (List.zipWith imin (upL x.high (8 - x.k).toNat) (upL y.high (8 - y.k).toNat))).all ltP := by rw [← comM_eight kx ky]; rfl
  rw [hM] at hQ
  clear hM
  have n1 : (upL x.low (8 - x.k).toNat).length = x.low.length := by unfold upL; simp
  have n2 : (upL x.high (8 - x.k).toNat).length = x.low.length := by unfold upL; simp [ex]
  have n3 : (upL y.low (8 - y.k).toNat).length = x.low.length := by unfold upL; simp [hl]
  have n4 : (upL y.high (8 - y.k).toNat).length = x.low.length := by unfold upL; simp [ey, hl]
  have a1 : InB (mostM ((8 : Nat) : Int)) (upL x.low (8 - x.k).toNat) := by
    have := up_in (d := (8 - x.k).toNat) kx.1 (box_in gx).1
    rwa [show x.k + ((8 - x.k).toNat : Int) = ((8 : Nat) : Int) by omega] at this
  have a2 : InB (mostM ((8 : Nat) : Int)) (upL x.high (8 - x.k).toNat) := by
    have := up_in (d := (8 - x.k).toNat) kx.1 (box_in gx).2
    rwa [show x.k + ((8 - x.k).toNat : Int) = ((8 : Nat) : Int) by omega] at this
  have a3 : InB (mostM ((8 : Nat) : Int)) (upL y.low (8 - y.k).toNat) := by
    have := up_in (d := (8 - y.k).toNat) ky.1 (box_in gy).1
    rwa [show y.k + ((8 - y.k).toNat : Int) = ((8 : Nat) : Int) by omega] at this
  have a4 : InB (mostM ((8 : Nat) : Int)) (upL y.high (8 - y.k).toNat) := by
    have := up_in (d := (8 - y.k).toNat) ky.1 (box_in gy).2
    rwa [show y.k + ((8 - y.k).toNat : Int) = ((8 : Nat) : Int) by omega] at this
  generalize upL x.low (8 - x.k).toNat = L1 at *
  generalize upL x.high (8 - x.k).toNat = L2 at *
  generalize upL y.low (8 - y.k).toNat = L3 at *
  generalize upL y.high (8 - y.k).toNat = L4 at *
  have u : Sep h h2 (ownA 3 L3 v3 :: ownA 3 L4 v4 :: ownA 3 L1 v1 :: ownA 3 L2 v2 :: blkA (h.length + 2) [.int .i64 0, .slice none 0 0, .slice none 0 0] 42 :: _) := u
  have u := Sep.keep (L := [ownA 3 L3 v3, ownA 3 L4 v4, ownA 3 L1 v1, ownA 3 L2 v2, blkA (h.length + 2) [.int .i64 0, .slice none 0 0, .slice none 0 0] 42]) u
  have w3l := u.row.isRow.len Try.prog
  simp (disch := omega) only [VW, VY, VZ, VA, VB, VC, VE, TY, ↓reduceIte, Nat.reduceEqDiff, Nat.reduceAdd, Nat.reduceMul, Nat.reduceSub, Nat.reduceLeDiff, List.length_cons, List.length_nil, List.length_append, List.append_assoc, List.take_succ_cons, List.take_zero, List.drop_succ_cons, List.drop_zero, List.set_cons_zero, List.set_cons_succ, true_or, or_true, and_self, Bool.false_eq_true, Nat.le_refl, Option.bind_some, Option.map_some, Option.getD_some, Option.isSome_some, List.map_cons, List.map_nil, List.cons_append, List.nil_append, List.append_nil, List.getElem?_cons_zero, List.getElem?_cons_succ, eq_self, Int.reduceLT, Int.reduceLE, Int.reduceNeg, Int.reduceEq, w3l]
  refine loop_rule (fun n e h' => ∃ (i : Nat), e 4 = .pointer (some ⟨h.length + 2, 0, none⟩) ∧ e 6 = v1 ∧ e 7 = v2 ∧ e 9 = v4 ∧ e 22 = v3 ∧ e 23 = .int .i64 (L3.length : Int) ∧ e 24 = .int .i64 (i : Int) ∧ i ≤ L3.length ∧ n = L3.length - i ∧
      Sep h h' [ownA 3 L3 v3, ownA 3 L4 v4, ownA 3 (stp imax i L1 L3) v1, ownA 3 (stp imin i L2 L4) v2, blkA (h.length + 2) [.int .i64 0, .slice none 0 0, .slice none 0 0] 42]) ?_ L3.length _ _
      ⟨0, rfl, rfl, rfl, rfl, rfl, rfl, rfl, Nat.zero_le _, rfl, by rw [stp_zero, stp_zero]; exact u⟩
  rintro n e h' ⟨i, e4, e6, e7, e9, e22, e23, e24, hi, rfl, u⟩
  have m1 := stp_len (f := imax) (i := i) (l := L1) (m := L3) (by omega) (by omega)
  have m2 := stp_len (f := imin) (i := i) (l := L2) (m := L4) (by omega) (by omega)
  have w1 := (u.pull 2 rfl).row
  have w2 := (u.pull 3 rfl).row
  have w3 := u.row
  have w4 := (u.pull 1 rfl).row
  simp (disch := omega) only [VW, VY, VZ, VA, VB, VC, VE, TY, ↓reduceIte, Nat.reduceEqDiff, Nat.reduceAdd, Nat.reduceMul, Nat.reduceSub, Nat.reduceLeDiff, List.length_cons, List.length_nil, List.length_append, List.append_assoc, List.take_succ_cons, List.take_zero, List.drop_succ_cons, List.drop_zero, List.set_cons_zero, List.set_cons_succ, true_or, or_true, and_self, Bool.false_eq_true, Nat.le_refl, Option.bind_some, Option.map_some, Option.getD_some, Option.isSome_some, List.map_cons, List.map_nil, List.cons_append, List.nil_append, List.append_nil, List.getElem?_cons_zero, List.getElem?_cons_succ, eq_self, Int.reduceLT, Int.reduceLE, Int.reduceNeg, Int.reduceEq, e23, e24]
  by_cases hlt : i < L3.length
  · obtain ⟨p1, hp1⟩ := get_some (show i < L1.length by omega)
    obtain ⟨p2, hp2⟩ := get_some (show i < L2.length by omega)
    obtain ⟨p3, hp3⟩ := get_some hlt
    obtain ⟨p4, hp4⟩ := get_some (show i < L4.length by omega)
    have q1 : (i : Int) < (L3.length : Int) := by omega
    obtain ⟨x1, y1⟩ := row_int w1 (stp_get (by omega) hp1)
    obtain ⟨x2, y2⟩ := row_int w2 (stp_get (by omega) hp2)
    obtain ⟨x3, y3⟩ := row_int w3 hp3
    obtain ⟨x4, y4⟩ := row_int w4 hp4
    have o1 : inI64 (imax p1 p3) := by rcases imax_or p1 p3 with e | e <;> rw [e] <;> assumption
    have o2 : inI64 (imin p2 p4) := by rcases imin_or p2 p4 with e | e <;> rw [e] <;> assumption
    have i1 := w1.isRow.ix Try.prog
    have i2 := w2.isRow.ix Try.prog
    have i3 := w3.isRow.ix Try.prog
    have i4 := w4.isRow.ix Try.prog
    rw [m1, show L1.length = L3.length by omega] at i1
    rw [m2, show L2.length = L3.length by omega] at i2
    rw [show L4.length = L3.length by omega] at i4
    simp (disch := omega) only [VW, VY, VZ, VA, VB, VC, VE, TY, ↓reduceIte, Nat.reduceEqDiff, Nat.reduceAdd, Nat.reduceMul, Nat.reduceSub, Nat.reduceLeDiff, List.length_cons, List.length_nil, List.length_append, List.append_assoc, List.take_succ_cons, List.take_zero, List.drop_succ_cons, List.drop_zero, List.set_cons_zero, List.set_cons_succ, true_or, or_true, and_self, Bool.false_eq_true, Nat.le_refl, Option.bind_some, Option.map_some, Option.getD_some, Option.isSome_some, List.map_cons, List.map_nil, List.cons_append, List.nil_append, List.append_nil, List.getElem?_cons_zero, List.getElem?_cons_succ, eq_self, Int.reduceLT, Int.reduceLE, Int.reduceNeg, Int.reduceEq, e6, e22, e24, q1, i3, x3, i1, x1]
    refine .inl ⟨by kernel_rfl, ?_⟩; refine l1Most_c ?_
    have sp := (u.pull 2 rfl).rep0 (x := imax p1 p3) (rep_int o1)
    simp (disch := omega) only [VW, VY, VZ, VA, VB, VC, VE, TY, ↓reduceIte, Nat.reduceEqDiff, Nat.reduceAdd, Nat.reduceMul, Nat.reduceSub, Nat.reduceLeDiff, List.length_cons, List.length_nil, List.length_append, List.append_assoc, List.take_succ_cons, List.take_zero, List.drop_succ_cons, List.drop_zero, List.set_cons_zero, List.set_cons_succ, true_or, or_true, and_self, Bool.false_eq_true, Nat.le_refl, Option.bind_some, Option.map_some, Option.getD_some, Option.isSome_some, List.map_cons, List.map_nil, List.cons_append, List.nil_append, List.append_nil, List.getElem?_cons_zero, List.getElem?_cons_succ, eq_self, Int.reduceLT, Int.reduceLE, Int.reduceNeg, Int.reduceEq, e6, e24, q1, i1]
    refine sep_set1 (i := i) (y := imax p1 p3) (Sep.swap sp) rfl (by omega) fun h9 u => ?_
    rw [stp_set (by omega) hp1 hp3] at u
    have w2 := (u.pull 3 rfl).row
    have w4 := (u.pull 2 rfl).row
    obtain ⟨x2, y2⟩ := row_int w2 (stp_get (by omega) hp2)
    obtain ⟨x4, y4⟩ := row_int w4 hp4
    simp (disch := omega) only [VW, VY, VZ, VA, VB, VC, VE, TY, ↓reduceIte, Nat.reduceEqDiff, Nat.reduceAdd, Nat.reduceMul, Nat.reduceSub, Nat.reduceLeDiff, List.length_cons, List.length_nil, List.length_append, List.append_assoc, List.take_succ_cons, List.take_zero, List.drop_succ_cons, List.drop_zero, List.set_cons_zero, List.set_cons_succ, true_or, or_true, and_self, Bool.false_eq_true, Nat.le_refl, Option.bind_some, Option.map_some, Option.getD_some, Option.isSome_some, List.map_cons, List.map_nil, List.cons_append, List.nil_append, List.append_nil, List.getElem?_cons_zero, List.getElem?_cons_succ, eq_self, Int.reduceLT, Int.reduceLE, Int.reduceNeg, Int.reduceEq]
    refine draw_tail [0, 1, 2, 3, 4, 5, 6, 7, 8, 9] [10, 11, 12] (by kernel_rfl) (by simp only [List.filterMap_cons, List.filterMap_nil, List.getElem?_cons_zero, List.getElem?_cons_succ]; rfl) ?_
    simp (disch := omega) only [VW, VY, VZ, VA, VB, VC, VE, TY, ↓reduceIte, Nat.reduceEqDiff, Nat.reduceAdd, Nat.reduceMul, Nat.reduceSub, Nat.reduceLeDiff, List.length_cons, List.length_nil, List.length_append, List.append_assoc, List.take_succ_cons, List.take_zero, List.drop_succ_cons, List.drop_zero, List.set_cons_zero, List.set_cons_succ, true_or, or_true, and_self, Bool.false_eq_true, Nat.le_refl, Option.bind_some, Option.map_some, Option.getD_some, Option.isSome_some, List.map_cons, List.map_nil, List.cons_append, List.nil_append, List.append_nil, List.getElem?_cons_zero, List.getElem?_cons_succ, eq_self, Int.reduceLT, Int.reduceLE, Int.reduceNeg, Int.reduceEq, e7, e9, e24, q1, i2, i4, x2, x4]
    refine tail_step [(10, [11], [12], false)] (by kernel_rfl) (by kernel_rfl) (a_cons (by simp only [List.filterMap_cons, List.filterMap_nil, List.getElem?_cons_zero, List.getElem?_cons_succ]; rfl) (by kernel_rfl) ?_ trivial)
    simp (disch := omega) only [VW, VY, VZ, VA, VB, VC, VE, TY, ↓reduceIte, Nat.reduceEqDiff, Nat.reduceAdd, Nat.reduceMul, Nat.reduceSub, Nat.reduceLeDiff, List.length_cons, List.length_nil, List.length_append, List.append_assoc, List.take_succ_cons, List.take_zero, List.drop_succ_cons, List.drop_zero, List.set_cons_zero, List.set_cons_succ, true_or, or_true, and_self, Bool.false_eq_true, Nat.le_refl, Option.bind_some, Option.map_some, Option.getD_some, Option.isSome_some, List.map_cons, List.map_nil, List.cons_append, List.nil_append, List.append_nil, List.getElem?_cons_zero, List.getElem?_cons_succ, eq_self, Int.reduceLT, Int.reduceLE, Int.reduceNeg, Int.reduceEq, e7, e9, e24, q1, i2, i4, x2, x4]
    refine .inl ⟨by kernel_rfl, ?_⟩; refine l1Least_c ?_
    simp (disch := omega) only [VW, VY, VZ, VA, VB, VC, VE, TY, ↓reduceIte, Nat.reduceEqDiff, Nat.reduceAdd, Nat.reduceMul, Nat.reduceSub, Nat.reduceLeDiff, List.length_cons, List.length_nil, List.length_append, List.append_assoc, List.take_succ_cons, List.take_zero, List.drop_succ_cons, List.drop_zero, List.set_cons_zero, List.set_cons_succ, true_or, or_true, and_self, Bool.false_eq_true, Nat.le_refl, Option.bind_some, Option.map_some, Option.getD_some, Option.isSome_some, List.map_cons, List.map_nil, List.cons_append, List.nil_append, List.append_nil, List.getElem?_cons_zero, List.getElem?_cons_succ, eq_self, Int.reduceLT, Int.reduceLE, Int.reduceNeg, Int.reduceEq, e7, e9, e24, q1, i2, i4, x2, x4]
    refine tail_step [(12, [], [], true)] (by kernel_rfl) (by kernel_rfl) (a_cut (by simp only [List.filterMap_cons, List.filterMap_nil, List.getElem?_cons_zero, List.getElem?_cons_succ]; rfl) (by kernel_rfl) ?_ trivial)
    have sp := (u.pull 3 rfl).rep0 (x := imin p2 p4) (rep_int o2)
    simp (disch := omega) only [VW, VY, VZ, VA, VB, VC, VE, TY, ↓reduceIte, Nat.reduceEqDiff, Nat.reduceAdd, Nat.reduceMul, Nat.reduceSub, Nat.reduceLeDiff, List.length_cons, List.length_nil, List.length_append, List.append_assoc, List.take_succ_cons, List.take_zero, List.drop_succ_cons, List.drop_zero, List.set_cons_zero, List.set_cons_succ, true_or, or_true, and_self, Bool.false_eq_true, Nat.le_refl, Option.bind_some, Option.map_some, Option.getD_some, Option.isSome_some, List.map_cons, List.map_nil, List.cons_append, List.nil_append, List.append_nil, List.getElem?_cons_zero, List.getElem?_cons_succ, eq_self, Int.reduceLT, Int.reduceLE, Int.reduceNeg, Int.reduceEq, e7, e9, e24, q1, i2, i4]
    refine sep_set1 (i := i) (y := imin p2 p4) (Sep.swap sp) rfl (by omega) fun h9 u => ?_
    rw [stp_set (by omega) hp2 hp4] at u
    simp (disch := omega) only [VW, VY, VZ, VA, VB, VC, VE, TY, ↓reduceIte, Nat.reduceEqDiff, Nat.reduceAdd, Nat.reduceMul, Nat.reduceSub, Nat.reduceLeDiff, List.length_cons, List.length_nil, List.length_append, List.append_assoc, List.take_succ_cons, List.take_zero, List.drop_succ_cons, List.drop_zero, List.set_cons_zero, List.set_cons_succ, true_or, or_true, and_self, Bool.false_eq_true, Nat.le_refl, Option.bind_some, Option.map_some, Option.getD_some, Option.isSome_some, List.map_cons, List.map_nil, List.cons_append, List.nil_append, List.append_nil, List.getElem?_cons_zero, List.getElem?_cons_succ, eq_self, Int.reduceLT, Int.reduceLE, Int.reduceNeg, Int.reduceEq, e4, e6, e7, e9, e22, e23, e24, wrap_in]
    exact ⟨_, by omega, i + 1, by simp, by omega, rfl, (u.swap.pull 3 rfl).pull 3 rfl⟩
  · obtain rfl : i = L3.length := by omega
    have q1 : ¬ (L3.length : Int) < (L3.length : Int) := by omega
    rw [show L3.length = L1.length by omega, stp_full (by omega)] at u
    rw [show L1.length = L2.length by omega, stp_full (by omega)] at u
    have w1 := (u.pull 2 rfl).row
    have w2 := (u.pull 3 rfl).row
    have t1 : (List.zipWith imax L1 L3).length = x.low.length := by rw [List.length_zipWith]; omega
    have t2 : (List.zipWith imin L2 L4).length = x.low.length := by rw [List.length_zipWith]; omega
    simp (disch := omega) only [VW, VY, VZ, VA, VB, VC, VE, TY, ↓reduceIte, Nat.reduceEqDiff, Nat.reduceAdd, Nat.reduceMul, Nat.reduceSub, Nat.reduceLeDiff, List.length_cons, List.length_nil, List.length_append, List.append_assoc, List.take_succ_cons, List.take_zero, List.drop_succ_cons, List.drop_zero, List.set_cons_zero, List.set_cons_succ, true_or, or_true, and_self, Bool.false_eq_true, Nat.le_refl, Option.bind_some, Option.map_some, Option.getD_some, Option.isSome_some, List.map_cons, List.map_nil, List.cons_append, List.nil_append, List.append_nil, List.getElem?_cons_zero, List.getElem?_cons_succ, eq_self, Int.reduceLT, Int.reduceLE, Int.reduceNeg, Int.reduceEq, q1, e6, e7]
    refine .inl ⟨by kernel_rfl, ?_⟩; refine bxMake_c (k := 8) w1 w2 (by decide) (by omega) (by omega) (by omega) (zw_in imax_or a1 a3) (zw_in imin_or a2 a4) fun cs h2 h3 E2 => ?_
    obtain ⟨d0, d1, d2, rfl⟩ : ∃ d0 d1 d2, cs = [d0, d1, d2] := by
      match cs, h3 with
      | [d0, d1, d2], _ => exact ⟨_, _, _, rfl⟩
    have u := u.mono E2
    simp (disch := omega) only [VW, VY, VZ, VA, VB, VC, VE, TY, ↓reduceIte, Nat.reduceEqDiff, Nat.reduceAdd, Nat.reduceMul, Nat.reduceSub, Nat.reduceLeDiff, List.length_cons, List.length_nil, List.length_append, List.append_assoc, List.take_succ_cons, List.take_zero, List.drop_succ_cons, List.drop_zero, List.set_cons_zero, List.set_cons_succ, true_or, or_true, and_self, Bool.false_eq_true, Nat.le_refl, Option.bind_some, Option.map_some, Option.getD_some, Option.isSome_some, List.map_cons, List.map_nil, List.cons_append, List.nil_append, List.append_nil, List.getElem?_cons_zero, List.getElem?_cons_succ, eq_self, Int.reduceLT, Int.reduceLE, Int.reduceNeg, Int.reduceEq, e4]
    refine sep_store (u.pull 4 rfl) (by simp) fun h9 u => ?_
    have u := u.as (ds := [d0, d1, d2]) (by simp [t_put])
    have gz := u.rdAll (n := 3) rfl
    simp (disch := omega) only [VW, VY, VZ, VA, VB, VC, VE, TY, ↓reduceIte, Nat.reduceEqDiff, Nat.reduceAdd, Nat.reduceMul, Nat.reduceSub, Nat.reduceLeDiff, List.length_cons, List.length_nil, List.length_append, List.append_assoc, List.take_succ_cons, List.take_zero, List.drop_succ_cons, List.drop_zero, List.set_cons_zero, List.set_cons_succ, true_or, or_true, and_self, Bool.false_eq_true, Nat.le_refl, Option.bind_some, Option.map_some, Option.getD_some, Option.isSome_some, List.map_cons, List.map_nil, List.cons_append, List.nil_append, List.append_nil, List.getElem?_cons_zero, List.getElem?_cons_succ, eq_self, Int.reduceLT, Int.reduceLE, Int.reduceNeg, Int.reduceEq, gz, e4]
    exact hQ _ _ rfl u.ext
end Go.Proofs
