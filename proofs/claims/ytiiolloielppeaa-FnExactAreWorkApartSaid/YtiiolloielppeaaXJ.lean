/- Contracts of functions, facts of types, or the plain law behind one statement (own work): XJ. Conditions: those told in each theorem. -/
import Derived.Test.YtiiolloielppeaaXI
set_option linter.all false
set_option linter.unusedSimpArgs false
set_option linter.unusedVariables false
set_option maxRecDepth 4000
namespace Go.Proofs
open Go Go.V
theorem commonBox_c {x y : Bx} {cx cy : List Value} {h : Heap} {Q : Value → Heap → Prop} (hx : Here h x cx) (hy : Here h y cy) (gx : boxM x = true) (gy : boxM y = true) (hl : y.low.length = x.low.length)
    (hQ : ∀ (cs : List Value) h', cs.length = 3 → Ext h h' → Q (.tuple #[.agg cs.toArray, .bool (comM x y)]) h') :
    CallsV Try.prog 46 [.agg cx.toArray, .agg cy.toArray] h Q := by
  obtain ⟨vx1, vx2, rfl, fx, rx1, rx2⟩ := here_Bx hx
  obtain ⟨vy1, vy2, rfl, fy, ry1, ry2⟩ := here_Bx hy
  obtain ⟨kx, lx, lx3, ex, bx1, bx2⟩ := box_k gx
  obtain ⟨ky, ly, ly3, ey, by1, by2⟩ := box_k gy
  refine CallsV.start Try.func46 rfl (by rw [Try.results46]) (by kernel_rfl) (by rw [Try.ntmps46]; simp) ?_
  have u := Sep.blk3 h [.int .i64 x.k, vx1, vx2] [.int .i64 y.k, vy1, vy2] [.int .i64 0, .slice none 0 0, .slice none 0 0] 42 42 42 true true true
  simp (disch := omega) only [VW, VY, VZ, VA, VB, VC, VE, TY, ↓reduceIte, Nat.reduceEqDiff, Nat.reduceAdd, Nat.reduceMul, Nat.reduceSub, Nat.reduceLeDiff, List.length_cons, List.length_nil, List.length_append, List.append_assoc, List.take_succ_cons, List.take_zero, List.drop_succ_cons, List.drop_zero, List.set_cons_zero, List.set_cons_succ, true_or, or_true, and_self, Bool.false_eq_true, Nat.le_refl, Option.bind_some, Option.map_some, Option.getD_some, Option.isSome_some, List.map_cons, List.map_nil, List.cons_append, List.nil_append, List.append_nil, List.getElem?_cons_zero, List.getElem?_cons_succ, eq_self, Int.reduceLT, Int.reduceLE, Int.reduceNeg, Int.reduceEq]
  generalize hH : h ++ [some ⟨[.int .i64 x.k, vx1, vx2], 42, false, true⟩, some ⟨[.int .i64 y.k, vy1, vy2], 42, false, true⟩, some ⟨[.int .i64 0, .slice none 0 0, .slice none 0 0], 42, false, true⟩] = H at *
  have px : At H h.length 0 x := ⟨_, (u.pull 2 rfl).rdAll (n := 3) rfl, hx.mono u.ext⟩
  have py : At H (h.length + 1) 0 y := ⟨_, (u.pull 1 rfl).rdAll (n := 3) rfl, hy.mono u.ext⟩
  have gx1 := (u.pull 2 rfl).rd
  have gy1 := (u.pull 1 rfl).rd
  try simp (disch := omega) only [VW, VY, VZ, VA, VB, VC, VE, TY, ↓reduceIte, Nat.reduceEqDiff, Nat.reduceAdd, Nat.reduceMul, Nat.reduceSub, Nat.reduceLeDiff, List.length_cons, List.length_nil, List.length_append, List.append_assoc, List.take_succ_cons, List.take_zero, List.drop_succ_cons, List.drop_zero, List.set_cons_zero, List.set_cons_succ, true_or, or_true, and_self, Bool.false_eq_true, Nat.le_refl, Option.bind_some, Option.map_some, Option.getD_some, Option.isSome_some, List.map_cons, List.map_nil, List.cons_append, List.nil_append, List.append_nil, List.getElem?_cons_zero, List.getElem?_cons_succ, eq_self, Int.reduceLT, Int.reduceLE, Int.reduceNeg, Int.reduceEq]
  refine .inl ⟨by kernel_rfl, ?_⟩; refine isBox_c px ?_
  rw [gx]
  simp (disch := omega) only [VW, VY, VZ, VA, VB, VC, VE, TY, ↓reduceIte, Nat.reduceEqDiff, Nat.reduceAdd, Nat.reduceMul, Nat.reduceSub, Nat.reduceLeDiff, List.length_cons, List.length_nil, List.length_append, List.append_assoc, List.take_succ_cons, List.take_zero, List.drop_succ_cons, List.drop_zero, List.set_cons_zero, List.set_cons_succ, true_or, or_true, and_self, Bool.false_eq_true, Nat.le_refl, Option.bind_some, Option.map_some, Option.getD_some, Option.isSome_some, List.map_cons, List.map_nil, List.cons_append, List.nil_append, List.append_nil, List.getElem?_cons_zero, List.getElem?_cons_succ, eq_self, Int.reduceLT, Int.reduceLE, Int.reduceNeg, Int.reduceEq]
  refine .inl ⟨by kernel_rfl, ?_⟩; refine isBox_c py ?_
  rw [gy]
  have lx := rx1.isRow.len
  have ly := ry1.isRow.len
  have cl : (x.low.length : Int) = (y.low.length : Int) := by omega
  simp (disch := omega) only [VW, VY, VZ, VA, VB, VC, VE, TY, ↓reduceIte, Nat.reduceEqDiff, Nat.reduceAdd, Nat.reduceMul, Nat.reduceSub, Nat.reduceLeDiff, List.length_cons, List.length_nil, List.length_append, List.append_assoc, List.take_succ_cons, List.take_zero, List.drop_succ_cons, List.drop_zero, List.set_cons_zero, List.set_cons_succ, true_or, or_true, and_self, Bool.false_eq_true, Nat.le_refl, Option.bind_some, Option.map_some, Option.getD_some, Option.isSome_some, List.map_cons, List.map_nil, List.cons_append, List.nil_append, List.append_nil, List.getElem?_cons_zero, List.getElem?_cons_succ, eq_self, Int.reduceLT, Int.reduceLE, Int.reduceNeg, Int.reduceEq, gx1, gy1, rx1.isRow.len, ry1.isRow.len, cl]
  refine .inl ⟨by kernel_rfl, ?_⟩; refine align_c px py gx gy fun v1 v2 v3 v4 h1 s1 => ?_
  have r1 := s1.row
  have r2 := (s1.pull 1 rfl).row
  have r3 := (s1.pull 2 rfl).row
  have r4 := (s1.pull 3 rfl).row
  have c1 := r1.isRow.cells
  have c2 := r2.isRow.cells
  have c3 := r3.isRow.cells
  have c4 := r4.isRow.cells
  have n1 : (upL x.low (upK x y)).length = x.low.length := by unfold upL; simp
  have n2 : (upL x.high (upK x y)).length = x.low.length := by unfold upL; simp [ex]
  have n3 : (upL y.low (upK y x)).length = x.low.length := by unfold upL; simp [hl]
  have n4 : (upL y.high (upK y x)).length = x.low.length := by unfold upL; simp [ey, hl]
  have tk : ∃ k : Nat, topK x y = (k : Int) ∧ k ≤ 8 := ⟨(topK x y).toNat, by unfold topK; omega, by unfold topK; omega⟩
  obtain ⟨k, hk, hk8⟩ := tk
  have a1 : InB (mostM (k : Int)) (upL x.low (upK x y)) := by
    have := up_in (d := upK x y) kx.1 (box_in gx).1
    rwa [show x.k + (upK x y : Int) = (k : Int) by unfold upK; unfold topK at hk; omega] at this
  have a2 : InB (mostM (k : Int)) (upL x.high (upK x y)) := by
    have := up_in (d := upK x y) kx.1 (box_in gx).2
    rwa [show x.k + (upK x y : Int) = (k : Int) by unfold upK; unfold topK at hk; omega] at this
  have a3 : InB (mostM (k : Int)) (upL y.low (upK y x)) := by
    have := up_in (d := upK y x) ky.1 (box_in gy).1
    rwa [show y.k + (upK y x : Int) = (k : Int) by unfold upK; unfold topK at hk; omega] at this
  have a4 : InB (mostM (k : Int)) (upL y.high (upK y x)) := by
    have := up_in (d := upK y x) ky.1 (box_in gy).2
    rwa [show y.k + (upK y x : Int) = (k : Int) by unfold upK; unfold topK at hk; omega] at this
  have hM : comM x y = ((List.zipWith imax (upL x.low (upK x y)) (upL y.low (upK y x))).zip (List.zipWith imin (upL x.high (upK x y)) (upL y.high (upK y x)))).all ltP := rfl
  rw [hM] at hQ
  rw [hk]
  clear hM
  have e1 := (box_in gx).1
  generalize upL x.low (upK x y) = L1 at *
  generalize upL x.high (upK x y) = L2 at *
  generalize upL y.low (upK y x) = L3 at *
  generalize upL y.high (upK y x) = L4 at *
  have u := u.add s1
  have u : Sep h h1 (ownA 3 L1 v1 :: ownA 3 L2 v2 :: ownA 3 L3 v3 :: ownA 3 L4 v4 :: blkA (h.length + 2) [.int .i64 0, .slice none 0 0, .slice none 0 0] 42 :: _) := u
  have u := u.newBlk [.int .i64 (k : Int), v1, v2] 42 true
  have u := u.newBlk [.int .i64 (k : Int), v3, v4] 42 true
  simp only [List.append_assoc, List.cons_append, List.nil_append, List.length_append, List.length_cons, List.length_nil, Nat.reduceAdd] at u
  have gt := (u.pull 1 rfl).rd
  simp (disch := omega) only [VW, VY, VZ, VA, VB, VC, VE, TY, ↓reduceIte, Nat.reduceEqDiff, Nat.reduceAdd, Nat.reduceMul, Nat.reduceSub, Nat.reduceLeDiff, List.length_cons, List.length_nil, List.length_append, List.append_assoc, List.take_succ_cons, List.take_zero, List.drop_succ_cons, List.drop_zero, List.set_cons_zero, List.set_cons_succ, true_or, or_true, and_self, Bool.false_eq_true, Nat.le_refl, Option.bind_some, Option.map_some, Option.getD_some, Option.isSome_some, List.map_cons, List.map_nil, List.cons_append, List.nil_append, List.append_nil, List.getElem?_cons_zero, List.getElem?_cons_succ, eq_self, Int.reduceLT, Int.reduceLE, Int.reduceNeg, Int.reduceEq, c1, c2, c3, c4, gt, r1.isRow.len]
  have u := Sep.keep (L := [blkA (h1.length + 1) [.int .i64 (k : Int), v3, v4] 42, blkA h1.length [.int .i64 (k : Int), v1, v2] 42, ownA 3 L1 v1, ownA 3 L2 v2, ownA 3 L3 v3, ownA 3 L4 v4, blkA (h.length + 2) [.int .i64 0, .slice none 0 0, .slice none 0 0] 42]) u
  refine loop_rule (fun n e h' => ∃ (i : Nat), e 4 = .pointer (some ⟨h.length + 2, 0, none⟩) ∧ e 6 = .int .i64 (k : Int) ∧ e 7 = .pointer (some ⟨h1.length, 0, none⟩) ∧ e 8 = .pointer (some ⟨h1.length + 1, 0, none⟩) ∧ e 33 = .int .i64 (L1.length : Int) ∧ e 34 = .int .i64 (i : Int) ∧ i ≤ L1.length ∧ n = L1.length - i ∧
      Sep h h' [blkA (h1.length + 1) [.int .i64 (k : Int), v3, v4] 42, blkA h1.length [.int .i64 (k : Int), v1, v2] 42, ownA 3 (stp imax i L1 L3) v1, ownA 3 (stp imin i L2 L4) v2, ownA 3 L3 v3, ownA 3 L4 v4, blkA (h.length + 2) [.int .i64 0, .slice none 0 0, .slice none 0 0] 42]) ?_ L1.length _ _
      ⟨0, rfl, rfl, rfl, rfl, rfl, rfl, Nat.zero_le _, rfl, by rw [stp_zero, stp_zero]; exact u⟩
  rintro n e h' ⟨i, e4, e6, e7, e8, e33, e34, hi, rfl, u⟩
  have g8 := u.rd
  have g7 := (u.pull 1 rfl).rd
  have m1 := stp_len (f := imax) (i := i) (l := L1) (m := L3) (by omega) (by omega)
  have m2 := stp_len (f := imin) (i := i) (l := L2) (m := L4) (by omega) (by omega)
  have w1 := (u.pull 2 rfl).row
  have w2 := (u.pull 3 rfl).row
  have w3 := (u.pull 4 rfl).row
  have w4 := (u.pull 5 rfl).row
  simp (disch := omega) only [VW, VY, VZ, VA, VB, VC, VE, TY, ↓reduceIte, Nat.reduceEqDiff, Nat.reduceAdd, Nat.reduceMul, Nat.reduceSub, Nat.reduceLeDiff, List.length_cons, List.length_nil, List.length_append, List.append_assoc, List.take_succ_cons, List.take_zero, List.drop_succ_cons, List.drop_zero, List.set_cons_zero, List.set_cons_succ, true_or, or_true, and_self, Bool.false_eq_true, Nat.le_refl, Option.bind_some, Option.map_some, Option.getD_some, Option.isSome_some, List.map_cons, List.map_nil, List.cons_append, List.nil_append, List.append_nil, List.getElem?_cons_zero, List.getElem?_cons_succ, eq_self, Int.reduceLT, Int.reduceLE, Int.reduceNeg, Int.reduceEq, e33, e34]
  by_cases hlt : i < L1.length
  · obtain ⟨p1, hp1⟩ := get_some hlt
    obtain ⟨p2, hp2⟩ := get_some (show i < L2.length by omega)
    obtain ⟨p3, hp3⟩ := get_some (show i < L3.length by omega)
    obtain ⟨p4, hp4⟩ := get_some (show i < L4.length by omega)
    have q1 : (i : Int) < (L1.length : Int) := by omega
    obtain ⟨x1, y1⟩ := row_int w1 (stp_get (by omega) hp1)
    obtain ⟨x2, y2⟩ := row_int w2 (stp_get (by omega) hp2)
    obtain ⟨x3, y3⟩ := row_int w3 hp3
    obtain ⟨x4, y4⟩ := row_int w4 hp4
    have i1 := w1.isRow.ix Try.prog
    have i2 := w2.isRow.ix Try.prog
    have i3 := w3.isRow.ix Try.prog
    have i4 := w4.isRow.ix Try.prog
    rw [m1] at i1
    rw [m2, show L2.length = L1.length by omega] at i2
    rw [show L3.length = L1.length by omega] at i3
    rw [show L4.length = L1.length by omega] at i4
    simp (disch := omega) only [VW, VY, VZ, VA, VB, VC, VE, TY, ↓reduceIte, Nat.reduceEqDiff, Nat.reduceAdd, Nat.reduceMul, Nat.reduceSub, Nat.reduceLeDiff, List.length_cons, List.length_nil, List.length_append, List.append_assoc, List.take_succ_cons, List.take_zero, List.drop_succ_cons, List.drop_zero, List.set_cons_zero, List.set_cons_succ, true_or, or_true, and_self, Bool.false_eq_true, Nat.le_refl, Option.bind_some, Option.map_some, Option.getD_some, Option.isSome_some, List.map_cons, List.map_nil, List.cons_append, List.nil_append, List.append_nil, List.getElem?_cons_zero, List.getElem?_cons_succ, eq_self, Int.reduceLT, Int.reduceLE, Int.reduceNeg, Int.reduceEq, e34, q1]
    refine draw_tail [0, 1, 2, 3, 4, 5, 6, 7, 8, 9, 10, 11, 12, 13, 14, 15, 16, 17, 18, 19, 20, 21, 22, 23, 24, 25, 26, 27, 28] [29, 30, 31] (by kernel_rfl) (by simp only [List.filterMap_cons, List.filterMap_nil, List.getElem?_cons_zero, List.getElem?_cons_succ]; rfl) ?_
    simp (disch := omega) only [VW, VY, VZ, VA, VB, VC, VE, TY, ↓reduceIte, Nat.reduceEqDiff, Nat.reduceAdd, Nat.reduceMul, Nat.reduceSub, Nat.reduceLeDiff, List.length_cons, List.length_nil, List.length_append, List.append_assoc, List.take_succ_cons, List.take_zero, List.drop_succ_cons, List.drop_zero, List.set_cons_zero, List.set_cons_succ, true_or, or_true, and_self, Bool.false_eq_true, Nat.le_refl, Option.bind_some, Option.map_some, Option.getD_some, Option.isSome_some, List.map_cons, List.map_nil, List.cons_append, List.nil_append, List.append_nil, List.getElem?_cons_zero, List.getElem?_cons_succ, eq_self, Int.reduceLT, Int.reduceLE, Int.reduceNeg, Int.reduceEq, e4, e6, e7, e8, g7, g8, i1, i2, i3, i4, x1, x2, x3, x4, q1]
    refine tail_one (i := 29) (pl := [30]) (r := [31]) [34] (by kernel_rfl) (by kernel_rfl) (by kernel_rfl) (by simp only [List.filterMap_cons, List.filterMap_nil, List.getElem?_cons_zero, List.getElem?_cons_succ]; rfl) (by rfl) (by simp only [heldCut, List.filter_cons, List.filter_nil, List.contains_cons, List.contains_nil, Nat.reduceBEq, Bool.or_false, Bool.or_true, reduceIte, Bool.false_eq_true]; rfl) ?_
    have wm1 : max p1 p3 = imax p1 p3 := rfl
    have wm2 : min p2 p4 = imin p2 p4 := rfl
    have o1 : inI64 (imax p1 p3) := by rcases imax_or p1 p3 with e | e <;> rw [e] <;> assumption
    have o2 : inI64 (imin p2 p4) := by rcases imin_or p2 p4 with e | e <;> rw [e] <;> assumption
    simp (disch := omega) only [VW, VY, VZ, VA, VB, VC, VE, TY, ↓reduceIte, Nat.reduceEqDiff, Nat.reduceAdd, Nat.reduceMul, Nat.reduceSub, Nat.reduceLeDiff, List.length_cons, List.length_nil, List.length_append, List.append_assoc, List.take_succ_cons, List.take_zero, List.drop_succ_cons, List.drop_zero, List.set_cons_zero, List.set_cons_succ, true_or, or_true, and_self, Bool.false_eq_true, Nat.le_refl, Option.bind_some, Option.map_some, Option.getD_some, Option.isSome_some, List.map_cons, List.map_nil, List.cons_append, List.nil_append, List.append_nil, List.getElem?_cons_zero, List.getElem?_cons_succ, eq_self, Int.reduceLT, Int.reduceLE, Int.reduceNeg, Int.reduceEq, e4, e6, e7, e8, g7, g8, i1, i2, i3, i4, x1, x2, x3, x4, q1, wm1, wm2]
    have sp := (u.pull 2 rfl).rep0 (x := imax p1 p3) (rep_int o1)
    refine sep_set1 (i := i) (y := imax p1 p3) (Sep.swap sp) rfl (by omega) fun h9 u => ?_
    rw [stp_set (by omega) hp1 hp3] at u
    simp (disch := omega) only [VW, VY, VZ, VA, VB, VC, VE, TY, ↓reduceIte, Nat.reduceEqDiff, Nat.reduceAdd, Nat.reduceMul, Nat.reduceSub, Nat.reduceLeDiff, List.length_cons, List.length_nil, List.length_append, List.append_assoc, List.take_succ_cons, List.take_zero, List.drop_succ_cons, List.drop_zero, List.set_cons_zero, List.set_cons_succ, true_or, or_true, and_self, Bool.false_eq_true, Nat.le_refl, Option.bind_some, Option.map_some, Option.getD_some, Option.isSome_some, List.map_cons, List.map_nil, List.cons_append, List.nil_append, List.append_nil, List.getElem?_cons_zero, List.getElem?_cons_succ, eq_self, Int.reduceLT, Int.reduceLE, Int.reduceNeg, Int.reduceEq]
    have g8 := (u.pull 1 rfl).rd
    have g7 := (u.pull 2 rfl).rd
    have w2 := (u.pull 3 rfl).row
    have w4 := (u.pull 5 rfl).row
    obtain ⟨x2, y2⟩ := row_int w2 (stp_get (by omega) hp2)
    obtain ⟨x4, y4⟩ := row_int w4 hp4
    simp (disch := omega) only [VW, VY, VZ, VA, VB, VC, VE, TY, ↓reduceIte, Nat.reduceEqDiff, Nat.reduceAdd, Nat.reduceMul, Nat.reduceSub, Nat.reduceLeDiff, List.length_cons, List.length_nil, List.length_append, List.append_assoc, List.take_succ_cons, List.take_zero, List.drop_succ_cons, List.drop_zero, List.set_cons_zero, List.set_cons_succ, true_or, or_true, and_self, Bool.false_eq_true, Nat.le_refl, Option.bind_some, Option.map_some, Option.getD_some, Option.isSome_some, List.map_cons, List.map_nil, List.cons_append, List.nil_append, List.append_nil, List.getElem?_cons_zero, List.getElem?_cons_succ, eq_self, Int.reduceLT, Int.reduceLE, Int.reduceNeg, Int.reduceEq, e4, e6, e7, e8, g7, g8, i1, i2, i3, i4, x1, x2, x3, x4, q1, wm1, wm2]
    refine tail_step [(31, [], [], true)] (by kernel_rfl) (by kernel_rfl) (a_cut (by simp only [List.filterMap_cons, List.filterMap_nil, List.getElem?_cons_zero, List.getElem?_cons_succ]; rfl) (by kernel_rfl) ?_ trivial)
    have sp := (u.pull 3 rfl).rep0 (x := imin p2 p4) (rep_int o2)
    simp (disch := omega) only [VW, VY, VZ, VA, VB, VC, VE, TY, ↓reduceIte, Nat.reduceEqDiff, Nat.reduceAdd, Nat.reduceMul, Nat.reduceSub, Nat.reduceLeDiff, List.length_cons, List.length_nil, List.length_append, List.append_assoc, List.take_succ_cons, List.take_zero, List.drop_succ_cons, List.drop_zero, List.set_cons_zero, List.set_cons_succ, true_or, or_true, and_self, Bool.false_eq_true, Nat.le_refl, Option.bind_some, Option.map_some, Option.getD_some, Option.isSome_some, List.map_cons, List.map_nil, List.cons_append, List.nil_append, List.append_nil, List.getElem?_cons_zero, List.getElem?_cons_succ, eq_self, Int.reduceLT, Int.reduceLE, Int.reduceNeg, Int.reduceEq, e4, e6, e7, e8, g7, g8, i1, i2, i3, i4, x2, x4, q1, wm1, wm2]
    refine sep_set1 (i := i) (y := imin p2 p4) (Sep.swap sp) rfl (by omega) fun h9 u => ?_
    rw [stp_set (by omega) hp2 hp4] at u
    simp (disch := omega) only [VW, VY, VZ, VA, VB, VC, VE, TY, ↓reduceIte, Nat.reduceEqDiff, Nat.reduceAdd, Nat.reduceMul, Nat.reduceSub, Nat.reduceLeDiff, List.length_cons, List.length_nil, List.length_append, List.append_assoc, List.take_succ_cons, List.take_zero, List.drop_succ_cons, List.drop_zero, List.set_cons_zero, List.set_cons_succ, true_or, or_true, and_self, Bool.false_eq_true, Nat.le_refl, Option.bind_some, Option.map_some, Option.getD_some, Option.isSome_some, List.map_cons, List.map_nil, List.cons_append, List.nil_append, List.append_nil, List.getElem?_cons_zero, List.getElem?_cons_succ, eq_self, Int.reduceLT, Int.reduceLE, Int.reduceNeg, Int.reduceEq, e4, e6, e7, e8, e33, e34, wrap_in]
    exact ⟨_, by omega, i + 1, by simp, by omega, rfl, (u.swap.pull 3 rfl).pull 3 rfl⟩
  · obtain rfl : i = L1.length := by omega
    have q1 : ¬ (L1.length : Int) < (L1.length : Int) := by omega
    rw [stp_full (by omega)] at u
    rw [show L1.length = L2.length by omega, stp_full (by omega)] at u
    have w1 := (u.pull 2 rfl).row
    have w2 := (u.pull 3 rfl).row
    have t1 : (List.zipWith imax L1 L3).length = x.low.length := by rw [List.length_zipWith]; omega
    have t2 : (List.zipWith imin L2 L4).length = x.low.length := by rw [List.length_zipWith]; omega
    simp (disch := omega) only [VW, VY, VZ, VA, VB, VC, VE, TY, ↓reduceIte, Nat.reduceEqDiff, Nat.reduceAdd, Nat.reduceMul, Nat.reduceSub, Nat.reduceLeDiff, List.length_cons, List.length_nil, List.length_append, List.append_assoc, List.take_succ_cons, List.take_zero, List.drop_succ_cons, List.drop_zero, List.set_cons_zero, List.set_cons_succ, true_or, or_true, and_self, Bool.false_eq_true, Nat.le_refl, Option.bind_some, Option.map_some, Option.getD_some, Option.isSome_some, List.map_cons, List.map_nil, List.cons_append, List.nil_append, List.append_nil, List.getElem?_cons_zero, List.getElem?_cons_succ, eq_self, Int.reduceLT, Int.reduceLE, Int.reduceNeg, Int.reduceEq, q1, e4, e6, e7, e8, g7, g8]
    refine .inl ⟨by kernel_rfl, ?_⟩; refine boxOf_c (k := k) w1 w2 hk8 (by omega) (by omega) (by omega) (zw_in imax_or a1 a3) (zw_in imin_or a2 a4) fun cs h2 h3 E2 => ?_
    obtain ⟨d0, d1, d2, rfl⟩ : ∃ d0 d1 d2, cs = [d0, d1, d2] := by
      match cs, h3 with
      | [d0, d1, d2], _ => exact ⟨_, _, _, rfl⟩
    have u := u.mono E2
    simp (disch := omega) only [VW, VY, VZ, VA, VB, VC, VE, TY, ↓reduceIte, Nat.reduceEqDiff, Nat.reduceAdd, Nat.reduceMul, Nat.reduceSub, Nat.reduceLeDiff, List.length_cons, List.length_nil, List.length_append, List.append_assoc, List.take_succ_cons, List.take_zero, List.drop_succ_cons, List.drop_zero, List.set_cons_zero, List.set_cons_succ, true_or, or_true, and_self, Bool.false_eq_true, Nat.le_refl, Option.bind_some, Option.map_some, Option.getD_some, Option.isSome_some, List.map_cons, List.map_nil, List.cons_append, List.nil_append, List.append_nil, List.getElem?_cons_zero, List.getElem?_cons_succ, eq_self, Int.reduceLT, Int.reduceLE, Int.reduceNeg, Int.reduceEq, e4]
    refine sep_store (u.pull 6 rfl) (by simp) fun h9 u => ?_
    have u := u.as (ds := [d0, d1, d2]) (by simp [t_put])
    have gz := u.rdAll (n := 3) rfl
    simp (disch := omega) only [VW, VY, VZ, VA, VB, VC, VE, TY, ↓reduceIte, Nat.reduceEqDiff, Nat.reduceAdd, Nat.reduceMul, Nat.reduceSub, Nat.reduceLeDiff, List.length_cons, List.length_nil, List.length_append, List.append_assoc, List.take_succ_cons, List.take_zero, List.drop_succ_cons, List.drop_zero, List.set_cons_zero, List.set_cons_succ, true_or, or_true, and_self, Bool.false_eq_true, Nat.le_refl, Option.bind_some, Option.map_some, Option.getD_some, Option.isSome_some, List.map_cons, List.map_nil, List.cons_append, List.nil_append, List.append_nil, List.getElem?_cons_zero, List.getElem?_cons_succ, eq_self, Int.reduceLT, Int.reduceLE, Int.reduceNeg, Int.reduceEq, gz, e4]
    exact hQ _ _ rfl u.ext
end Go.Proofs
