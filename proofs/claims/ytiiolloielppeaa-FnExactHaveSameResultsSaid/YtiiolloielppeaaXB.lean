/- Contracts of functions, facts of types, or the plain law behind one statement (own work): XB. Conditions: those told in each theorem. -/
import Derived.Test.YtiiolloielppeaaXA
set_option linter.all false
set_option linter.unusedSimpArgs false
set_option linter.unusedVariables false
set_option maxRecDepth 4000
namespace Go.Proofs
open Go Go.V
theorem box_k {x : Bx} (h : boxM x = true) : (0 ≤ x.k ∧ x.k ≤ 8) ∧ 1 ≤ x.low.length ∧ x.low.length ≤ 3 ∧ x.high.length = x.low.length ∧ (∀ n ∈ x.low, -2048 ≤ n ∧ n ≤ 2048) ∧ (∀ n ∈ x.high, -2048 ≤ n ∧ n ≤ 2048) := by
  unfold boxM at h
  simp only [Bool.and_eq_true, decide_eq_true_eq] at h
  obtain ⟨⟨⟨h1, h2⟩, h3⟩, h4, _⟩ := h
  have hm := mostM_le h1
  have key : ∀ (i : Nat) (a b : Int), x.low[i]? = some a → x.high[i]? = some b → (-2048 ≤ a ∧ a ≤ 2048) ∧ (-2048 ≤ b ∧ b ≤ 2048) := fun i a b ha hb => by
    have := List.all_eq_true.1 h4 (a, b) (List.mem_of_getElem? (zip_get ha hb))
    simp only [pairOk, decide_eq_true_eq] at this
    omega
  refine ⟨h1, by omega, by omega, h3, fun n hn => ?_, fun n hn => ?_⟩
  · obtain ⟨i, hi, rfl⟩ := List.mem_iff_getElem.1 hn
    obtain ⟨b, hb⟩ := get_some (show i < x.high.length by omega)
    exact (key i _ b (List.getElem?_eq_getElem hi) hb).1
  · obtain ⟨i, hi, rfl⟩ := List.mem_iff_getElem.1 hn
    obtain ⟨a, ha⟩ := get_some (show i < x.low.length by omega)
    exact (key i a _ ha (List.getElem?_eq_getElem hi)).2
def topK (x y : Bx) : Int := max x.k y.k
def upK (x y : Bx) : Nat := (max x.k y.k - x.k).toNat
theorem align_c {x y : Bx} {b1 o1 b2 o2 : Nat} {h : Heap} {Q : Value → Heap → Prop} (hp : At h b1 o1 x) (hq : At h b2 o2 y) (hx : boxM x = true) (hy : boxM y = true)
    (hQ : ∀ v1 v2 v3 v4 h', Sep h h' [ownA 3 (upL x.low (upK x y)) v1, ownA 3 (upL x.high (upK x y)) v2, ownA 3 (upL y.low (upK y x)) v3, ownA 3 (upL y.high (upK y x)) v4] →
      Q (.tuple #[.int .i64 (topK x y), .agg #[.int .i64 (topK x y), v1, v2], .agg #[.int .i64 (topK x y), v3, v4]]) h') :
    CallsV Try.prog 86 [.pointer (some ⟨b1, o1, none⟩), .pointer (some ⟨b2, o2, none⟩)] h Q := by
  obtain ⟨x1, x2, X0, X1, X2, fx, rx1, rx2, _⟩ := at_Bx hp
  obtain ⟨y1, y2, Y0, Y1, Y2, fy, ry1, ry2, _⟩ := at_Bx hq
  obtain ⟨kx, lx, lx3, ex, bx1, bx2⟩ := box_k hx
  obtain ⟨ky, ly, ly3, ey, by1, by2⟩ := box_k hy
  refine CallsV.start Try.func86 rfl (by rw [Try.results86]) (by kernel_rfl) (by rw [Try.ntmps86]; simp) ?_
  have s := Sep.blk2 h [.int .i64 0, .slice none 0 0, .slice none 0 0] [.int .i64 0, .slice none 0 0, .slice none 0 0] 42 42 true true
  have hM : max x.k y.k = topK x y := rfl
  have hux : topK x y - x.k = ((upK x y : Nat) : Int) := by unfold topK upK; omega
  have huy : topK x y - y.k = ((upK y x : Nat) : Int) := by unfold topK upK; omega
  have hkx : upK x y ≤ 8 := by unfold upK; omega
  have hky : upK y x ≤ 8 := by unfold upK; omega
  have hK : inI64 (topK x y) := by unfold topK; exact ⟨by omega, by omega⟩
  have hK2 := hK
  unfold inI64 at hK2
  have g0 := s.ext.keepC X0
  have g1 := s.ext.keepC Y0
  simp (disch := omega) only [VW, VY, VZ, VA, VB, VC, VE, TY, ↓reduceIte, Nat.reduceEqDiff, Nat.reduceAdd, Nat.reduceMul, Nat.reduceSub, Nat.reduceLeDiff, List.length_cons, List.length_nil, List.length_append, List.append_assoc, List.take_succ_cons, List.take_zero, List.drop_succ_cons, List.drop_zero, List.set_cons_zero, List.set_cons_succ, true_or, or_true, and_self, Bool.false_eq_true, Nat.le_refl, Option.bind_some, Option.map_some, Option.getD_some, Option.isSome_some, List.map_cons, List.map_nil, List.cons_append, List.nil_append, List.append_nil, List.getElem?_cons_zero, List.getElem?_cons_succ, eq_self, Int.reduceLT, Int.reduceLE, Int.reduceNeg, Int.reduceEq]
  refine draw_ord [0, 1, 2, 3, 4, 5, 6, 7, 8, 9] (by kernel_rfl) (by simp only [List.filterMap_cons, List.filterMap_nil, List.getElem?_cons_zero, List.getElem?_cons_succ]; rfl) ?_
  simp (disch := omega) only [VW, VY, VZ, VA, VB, VC, VE, TY, ↓reduceIte, Nat.reduceEqDiff, Nat.reduceAdd, Nat.reduceMul, Nat.reduceSub, Nat.reduceLeDiff, List.length_cons, List.length_nil, List.length_append, List.append_assoc, List.take_succ_cons, List.take_zero, List.drop_succ_cons, List.drop_zero, List.set_cons_zero, List.set_cons_succ, true_or, or_true, and_self, Bool.false_eq_true, Nat.le_refl, Option.bind_some, Option.map_some, Option.getD_some, Option.isSome_some, List.map_cons, List.map_nil, List.cons_append, List.nil_append, List.append_nil, List.getElem?_cons_zero, List.getElem?_cons_succ, eq_self, Int.reduceLT, Int.reduceLE, Int.reduceNeg, Int.reduceEq, g0, g1, hM]
  have wx : IntKind.i64.wrap ((upK x y : Nat) : Int) = ((upK x y : Nat) : Int) := wrap_in _ (by omega)
  have wy : IntKind.i64.wrap ((upK y x : Nat) : Int) = ((upK y x : Nat) : Int) := wrap_in _ (by omega)
  refine draw_post (fun e' h' => ∃ (b : Nat) (u1 u2 : Value), e' 0 = .pointer (some ⟨b1, o1, none⟩) ∧ e' 1 = .pointer (some ⟨b2, o2, none⟩) ∧ e' 5 = .pointer (some ⟨h.length, 0, none⟩) ∧ e' 6 = .pointer (some ⟨h.length + 1, 0, none⟩) ∧ e' 7 = .int .i64 (topK x y) ∧ e' 8 = .pointer (some ⟨b, 0, none⟩) ∧ Sep h h' [blkA b [.int .i64 (topK x y), u1, u2] 42, ownA 3 (upL x.low (upK x y)) u1, ownA 3 (upL x.high (upK x y)) u2, blkA (h.length + 1) [.int .i64 0, .slice none 0 0, .slice none 0 0] 42, blkA h.length [.int .i64 0, .slice none 0 0, .slice none 0 0] 42]) ?_ ?_
  · skip
    have g0 := s.ext.keepC X0
    have g1 := s.ext.keepC X1
    have g2 := s.ext.keepC X2
    refine draw_tail [0, 1, 2, 3, 4, 5, 6, 7, 8, 9, 10, 12, 13, 14, 15, 16, 17, 18, 19, 20, 21] [11, 22, 23, 24, 25] (by kernel_rfl) (by simp only [List.filterMap_cons, List.filterMap_nil, List.getElem?_cons_zero, List.getElem?_cons_succ]; rfl) ?_
    simp (disch := omega) only [VW, VY, VZ, VA, VB, VC, VE, TY, ↓reduceIte, Nat.reduceEqDiff, Nat.reduceAdd, Nat.reduceMul, Nat.reduceSub, Nat.reduceLeDiff, List.length_cons, List.length_nil, List.length_append, List.append_assoc, List.take_succ_cons, List.take_zero, List.drop_succ_cons, List.drop_zero, List.set_cons_zero, List.set_cons_succ, true_or, or_true, and_self, Bool.false_eq_true, Nat.le_refl, Option.bind_some, Option.map_some, Option.getD_some, Option.isSome_some, List.map_cons, List.map_nil, List.cons_append, List.nil_append, List.append_nil, List.getElem?_cons_zero, List.getElem?_cons_succ, eq_self, Int.reduceLT, Int.reduceLE, Int.reduceNeg, Int.reduceEq, g0, g1, g2, hux, wx]
    refine tail_step [(11, [], [22, 23, 24, 25], false), (24, [], [11, 22, 23, 25], false)] (by kernel_rfl) (by kernel_rfl) (a_cons (by simp only [List.filterMap_cons, List.filterMap_nil, List.getElem?_cons_zero, List.getElem?_cons_succ]; rfl) (by kernel_rfl) ?_ (a_cons (by simp only [List.filterMap_cons, List.filterMap_nil, List.getElem?_cons_zero, List.getElem?_cons_succ]; rfl) (by kernel_rfl) ?_ trivial))
    · simp (disch := omega) only [VW, VY, VZ, VA, VB, VC, VE, TY, ↓reduceIte, Nat.reduceEqDiff, Nat.reduceAdd, Nat.reduceMul, Nat.reduceSub, Nat.reduceLeDiff, List.length_cons, List.length_nil, List.length_append, List.append_assoc, List.take_succ_cons, List.take_zero, List.drop_succ_cons, List.drop_zero, List.set_cons_zero, List.set_cons_succ, true_or, or_true, and_self, Bool.false_eq_true, Nat.le_refl, Option.bind_some, Option.map_some, Option.getD_some, Option.isSome_some, List.map_cons, List.map_nil, List.cons_append, List.nil_append, List.append_nil, List.getElem?_cons_zero, List.getElem?_cons_succ, eq_self, Int.reduceLT, Int.reduceLE, Int.reduceNeg, Int.reduceEq, g0, g1, g2, hux, wx]
      refine .inl ⟨by kernel_rfl, ?_⟩; refine scaled_c (k := upK x y) (rx1.mono s.ext) hkx bx1 (by omega) fun v1 hA s1 => ?_
      have s := s.add s1
      have c1 := s1.row.isRow.cells
      have g0 := s.ext.keepC X0
      have g1 := s.ext.keepC X1
      have g2 := s.ext.keepC X2
      simp (disch := omega) only [VW, VY, VZ, VA, VB, VC, VE, TY, ↓reduceIte, Nat.reduceEqDiff, Nat.reduceAdd, Nat.reduceMul, Nat.reduceSub, Nat.reduceLeDiff, List.length_cons, List.length_nil, List.length_append, List.append_assoc, List.take_succ_cons, List.take_zero, List.drop_succ_cons, List.drop_zero, List.set_cons_zero, List.set_cons_succ, true_or, or_true, and_self, Bool.false_eq_true, Nat.le_refl, Option.bind_some, Option.map_some, Option.getD_some, Option.isSome_some, List.map_cons, List.map_nil, List.cons_append, List.nil_append, List.append_nil, List.getElem?_cons_zero, List.getElem?_cons_succ, eq_self, Int.reduceLT, Int.reduceLE, Int.reduceNeg, Int.reduceEq, g0, g1, g2, hux, wx]
      refine tail_step [(22, [23], [24, 25], false), (24, [], [22, 23, 25], false)] (by kernel_rfl) (by kernel_rfl) (a_cons (by simp only [List.filterMap_cons, List.filterMap_nil, List.getElem?_cons_zero, List.getElem?_cons_succ]; rfl) (by kernel_rfl) ?_ (a_cons (by simp only [List.filterMap_cons, List.filterMap_nil, List.getElem?_cons_zero, List.getElem?_cons_succ]; rfl) (by kernel_rfl) ?_ trivial))
      · simp (disch := omega) only [VW, VY, VZ, VA, VB, VC, VE, TY, ↓reduceIte, Nat.reduceEqDiff, Nat.reduceAdd, Nat.reduceMul, Nat.reduceSub, Nat.reduceLeDiff, List.length_cons, List.length_nil, List.length_append, List.append_assoc, List.take_succ_cons, List.take_zero, List.drop_succ_cons, List.drop_zero, List.set_cons_zero, List.set_cons_succ, true_or, or_true, and_self, Bool.false_eq_true, Nat.le_refl, Option.bind_some, Option.map_some, Option.getD_some, Option.isSome_some, List.map_cons, List.map_nil, List.cons_append, List.nil_append, List.append_nil, List.getElem?_cons_zero, List.getElem?_cons_succ, eq_self, Int.reduceLT, Int.reduceLE, Int.reduceNeg, Int.reduceEq, g0, g1, g2, hux, wx]
        refine .inl ⟨by kernel_rfl, ?_⟩; refine scaled_c (k := upK x y) (rx2.mono s.ext) hkx bx2 (by omega) fun v2 hB s2 => ?_
        have s := s.add s2
        have c2 := s2.row.isRow.cells
        have g0 := s.ext.keepC X0
        have g1 := s.ext.keepC X1
        have g2 := s.ext.keepC X2
        simp (disch := omega) only [VW, VY, VZ, VA, VB, VC, VE, TY, ↓reduceIte, Nat.reduceEqDiff, Nat.reduceAdd, Nat.reduceMul, Nat.reduceSub, Nat.reduceLeDiff, List.length_cons, List.length_nil, List.length_append, List.append_assoc, List.take_succ_cons, List.take_zero, List.drop_succ_cons, List.drop_zero, List.set_cons_zero, List.set_cons_succ, true_or, or_true, and_self, Bool.false_eq_true, Nat.le_refl, Option.bind_some, Option.map_some, Option.getD_some, Option.isSome_some, List.map_cons, List.map_nil, List.cons_append, List.nil_append, List.append_nil, List.getElem?_cons_zero, List.getElem?_cons_succ, eq_self, Int.reduceLT, Int.reduceLE, Int.reduceNeg, Int.reduceEq, g0, g1, g2, hux, wx, c1, c2]
        refine tail_step [(24, [], [25], false)] (by kernel_rfl) (by kernel_rfl) (a_cons (by simp only [List.filterMap_cons, List.filterMap_nil, List.getElem?_cons_zero, List.getElem?_cons_succ]; rfl) (by kernel_rfl) ?_ trivial)
        have sz := s.newBlk [.int .i64 0, .slice none 0 0, .slice none 0 0] 42 true
        have z0 := sz.ext.keepC X0
        have z1 := sz.ext.keepC X1
        have z2 := sz.ext.keepC X2
        simp (disch := omega) only [VW, VY, VZ, VA, VB, VC, VE, TY, ↓reduceIte, Nat.reduceEqDiff, Nat.reduceAdd, Nat.reduceMul, Nat.reduceSub, Nat.reduceLeDiff, List.length_cons, List.length_nil, List.length_append, List.append_assoc, List.take_succ_cons, List.take_zero, List.drop_succ_cons, List.drop_zero, List.set_cons_zero, List.set_cons_succ, true_or, or_true, and_self, Bool.false_eq_true, Nat.le_refl, Option.bind_some, Option.map_some, Option.getD_some, Option.isSome_some, List.map_cons, List.map_nil, List.cons_append, List.nil_append, List.append_nil, List.getElem?_cons_zero, List.getElem?_cons_succ, eq_self, Int.reduceLT, Int.reduceLE, Int.reduceNeg, Int.reduceEq, g0, g1, g2, hux, wx, c1, c2, z0, z1, z2]
        refine tail_step [(25, [], [], true)] (by kernel_rfl) (by kernel_rfl) (a_cut (by simp only [List.filterMap_cons, List.filterMap_nil, List.getElem?_cons_zero, List.getElem?_cons_succ]; rfl) (by kernel_rfl) ?_ trivial)
        have s := s.newBlk [.int .i64 (topK x y), v1, v2] 42 true
        have q0 := s.ext.keepC X0
        have q1 := s.ext.keepC X1
        have q2 := s.ext.keepC X2
        simp (disch := omega) only [VW, VY, VZ, VA, VB, VC, VE, TY, ↓reduceIte, Nat.reduceEqDiff, Nat.reduceAdd, Nat.reduceMul, Nat.reduceSub, Nat.reduceLeDiff, List.length_cons, List.length_nil, List.length_append, List.append_assoc, List.take_succ_cons, List.take_zero, List.drop_succ_cons, List.drop_zero, List.set_cons_zero, List.set_cons_succ, true_or, or_true, and_self, Bool.false_eq_true, Nat.le_refl, Option.bind_some, Option.map_some, Option.getD_some, Option.isSome_some, List.map_cons, List.map_nil, List.cons_append, List.nil_append, List.append_nil, List.getElem?_cons_zero, List.getElem?_cons_succ, eq_self, Int.reduceLT, Int.reduceLE, Int.reduceNeg, Int.reduceEq, g0, g1, g2, hux, wx, c1, c2, z0, z1, z2, q0, q1, q2]
        unfold Post
        exact ⟨_, _, _, rfl, rfl, rfl, rfl, rfl, rfl, (s.pull 2 rfl).swap⟩
      · have s := s.newBlk [.int .i64 0, .slice none 0 0, .slice none 0 0] 42 true
        have g0 := s.ext.keepC X0
        have g1 := s.ext.keepC X1
        have g2 := s.ext.keepC X2
        simp (disch := omega) only [VW, VY, VZ, VA, VB, VC, VE, TY, ↓reduceIte, Nat.reduceEqDiff, Nat.reduceAdd, Nat.reduceMul, Nat.reduceSub, Nat.reduceLeDiff, List.length_cons, List.length_nil, List.length_append, List.append_assoc, List.take_succ_cons, List.take_zero, List.drop_succ_cons, List.drop_zero, List.set_cons_zero, List.set_cons_succ, true_or, or_true, and_self, Bool.false_eq_true, Nat.le_refl, Option.bind_some, Option.map_some, Option.getD_some, Option.isSome_some, List.map_cons, List.map_nil, List.cons_append, List.nil_append, List.append_nil, List.getElem?_cons_zero, List.getElem?_cons_succ, eq_self, Int.reduceLT, Int.reduceLE, Int.reduceNeg, Int.reduceEq, g0, g1, g2, hux, wx]
        refine tail_step [(22, [23], [25], false)] (by kernel_rfl) (by kernel_rfl) (a_cons (by simp only [List.filterMap_cons, List.filterMap_nil, List.getElem?_cons_zero, List.getElem?_cons_succ]; rfl) (by kernel_rfl) ?_ trivial)
        simp (disch := omega) only [VW, VY, VZ, VA, VB, VC, VE, TY, ↓reduceIte, Nat.reduceEqDiff, Nat.reduceAdd, Nat.reduceMul, Nat.reduceSub, Nat.reduceLeDiff, List.length_cons, List.length_nil, List.length_append, List.append_assoc, List.take_succ_cons, List.take_zero, List.drop_succ_cons, List.drop_zero, List.set_cons_zero, List.set_cons_succ, true_or, or_true, and_self, Bool.false_eq_true, Nat.le_refl, Option.bind_some, Option.map_some, Option.getD_some, Option.isSome_some, List.map_cons, List.map_nil, List.cons_append, List.nil_append, List.append_nil, List.getElem?_cons_zero, List.getElem?_cons_succ, eq_self, Int.reduceLT, Int.reduceLE, Int.reduceNeg, Int.reduceEq, g0, g1, g2, hux, wx]
        refine .inl ⟨by kernel_rfl, ?_⟩; refine scaled_c (k := upK x y) (rx2.mono s.ext) hkx bx2 (by omega) fun v2 hB s2 => ?_
        have s := s.add s2
        have c2 := s2.row.isRow.cells
        have g0 := s.ext.keepC X0
        have g1 := s.ext.keepC X1
        have g2 := s.ext.keepC X2
        simp (disch := omega) only [VW, VY, VZ, VA, VB, VC, VE, TY, ↓reduceIte, Nat.reduceEqDiff, Nat.reduceAdd, Nat.reduceMul, Nat.reduceSub, Nat.reduceLeDiff, List.length_cons, List.length_nil, List.length_append, List.append_assoc, List.take_succ_cons, List.take_zero, List.drop_succ_cons, List.drop_zero, List.set_cons_zero, List.set_cons_succ, true_or, or_true, and_self, Bool.false_eq_true, Nat.le_refl, Option.bind_some, Option.map_some, Option.getD_some, Option.isSome_some, List.map_cons, List.map_nil, List.cons_append, List.nil_append, List.append_nil, List.getElem?_cons_zero, List.getElem?_cons_succ, eq_self, Int.reduceLT, Int.reduceLE, Int.reduceNeg, Int.reduceEq, g0, g1, g2, hux, wx, c1, c2]
        refine tail_step [(25, [], [], true)] (by kernel_rfl) (by kernel_rfl) (a_cut (by simp only [List.filterMap_cons, List.filterMap_nil, List.getElem?_cons_zero, List.getElem?_cons_succ]; rfl) (by kernel_rfl) ?_ trivial)
        simp (disch := omega) only [VW, VY, VZ, VA, VB, VC, VE, TY, ↓reduceIte, Nat.reduceEqDiff, Nat.reduceAdd, Nat.reduceMul, Nat.reduceSub, Nat.reduceLeDiff, List.length_cons, List.length_nil, List.length_append, List.append_assoc, List.take_succ_cons, List.take_zero, List.drop_succ_cons, List.drop_zero, List.set_cons_zero, List.set_cons_succ, true_or, or_true, and_self, Bool.false_eq_true, Nat.le_refl, Option.bind_some, Option.map_some, Option.getD_some, Option.isSome_some, List.map_cons, List.map_nil, List.cons_append, List.nil_append, List.append_nil, List.getElem?_cons_zero, List.getElem?_cons_succ, eq_self, Int.reduceLT, Int.reduceLE, Int.reduceNeg, Int.reduceEq, g0, g1, g2, hux, wx, c1, c2]
        refine sep_store (s.pull 1 rfl) (by simp) fun h9 s => ?_
        have s := s.as (ds := [.int .i64 (topK x y), v1, v2]) (by simp [t_put])
        have g0 := s.ext.keepC X0
        have g1 := s.ext.keepC X1
        have g2 := s.ext.keepC X2
        simp (disch := omega) only [VW, VY, VZ, VA, VB, VC, VE, TY, ↓reduceIte, Nat.reduceEqDiff, Nat.reduceAdd, Nat.reduceMul, Nat.reduceSub, Nat.reduceLeDiff, List.length_cons, List.length_nil, List.length_append, List.append_assoc, List.take_succ_cons, List.take_zero, List.drop_succ_cons, List.drop_zero, List.set_cons_zero, List.set_cons_succ, true_or, or_true, and_self, Bool.false_eq_true, Nat.le_refl, Option.bind_some, Option.map_some, Option.getD_some, Option.isSome_some, List.map_cons, List.map_nil, List.cons_append, List.nil_append, List.append_nil, List.getElem?_cons_zero, List.getElem?_cons_succ, eq_self, Int.reduceLT, Int.reduceLE, Int.reduceNeg, Int.reduceEq, g0, g1, g2, hux, wx, c1, c2]
        unfold Post
        exact ⟨_, _, _, rfl, rfl, rfl, rfl, rfl, rfl, (s.pull 2 rfl).swap⟩
    · have s := s.newBlk [.int .i64 0, .slice none 0 0, .slice none 0 0] 42 true
      try simp only [List.append_assoc, List.cons_append, List.nil_append, List.length_append, List.length_cons, List.length_nil, Nat.reduceAdd] at s
      have g0 := s.ext.keepC X0
      have g1 := s.ext.keepC X1
      have g2 := s.ext.keepC X2
      simp (disch := omega) only [VW, VY, VZ, VA, VB, VC, VE, TY, ↓reduceIte, Nat.reduceEqDiff, Nat.reduceAdd, Nat.reduceMul, Nat.reduceSub, Nat.reduceLeDiff, List.length_cons, List.length_nil, List.length_append, List.append_assoc, List.take_succ_cons, List.take_zero, List.drop_succ_cons, List.drop_zero, List.set_cons_zero, List.set_cons_succ, true_or, or_true, and_self, Bool.false_eq_true, Nat.le_refl, Option.bind_some, Option.map_some, Option.getD_some, Option.isSome_some, List.map_cons, List.map_nil, List.cons_append, List.nil_append, List.append_nil, List.getElem?_cons_zero, List.getElem?_cons_succ, eq_self, Int.reduceLT, Int.reduceLE, Int.reduceNeg, Int.reduceEq, g0, g1, g2, hux, wx]
      refine tail_step [(11, [], [22, 23, 25], false)] (by kernel_rfl) (by kernel_rfl) (a_cons (by simp only [List.filterMap_cons, List.filterMap_nil, List.getElem?_cons_zero, List.getElem?_cons_succ]; rfl) (by kernel_rfl) ?_ trivial)
      simp (disch := omega) only [VW, VY, VZ, VA, VB, VC, VE, TY, ↓reduceIte, Nat.reduceEqDiff, Nat.reduceAdd, Nat.reduceMul, Nat.reduceSub, Nat.reduceLeDiff, List.length_cons, List.length_nil, List.length_append, List.append_assoc, List.take_succ_cons, List.take_zero, List.drop_succ_cons, List.drop_zero, List.set_cons_zero, List.set_cons_succ, true_or, or_true, and_self, Bool.false_eq_true, Nat.le_refl, Option.bind_some, Option.map_some, Option.getD_some, Option.isSome_some, List.map_cons, List.map_nil, List.cons_append, List.nil_append, List.append_nil, List.getElem?_cons_zero, List.getElem?_cons_succ, eq_self, Int.reduceLT, Int.reduceLE, Int.reduceNeg, Int.reduceEq, g0, g1, g2, hux, wx]
      refine .inl ⟨by kernel_rfl, ?_⟩; refine scaled_c (k := upK x y) (rx1.mono s.ext) hkx bx1 (by omega) fun v1 hA s1 => ?_
      have s := s.add s1
      have c1 := s1.row.isRow.cells
      have g0 := s.ext.keepC X0
      have g1 := s.ext.keepC X1
      have g2 := s.ext.keepC X2
      simp (disch := omega) only [VW, VY, VZ, VA, VB, VC, VE, TY, ↓reduceIte, Nat.reduceEqDiff, Nat.reduceAdd, Nat.reduceMul, Nat.reduceSub, Nat.reduceLeDiff, List.length_cons, List.length_nil, List.length_append, List.append_assoc, List.take_succ_cons, List.take_zero, List.drop_succ_cons, List.drop_zero, List.set_cons_zero, List.set_cons_succ, true_or, or_true, and_self, Bool.false_eq_true, Nat.le_refl, Option.bind_some, Option.map_some, Option.getD_some, Option.isSome_some, List.map_cons, List.map_nil, List.cons_append, List.nil_append, List.append_nil, List.getElem?_cons_zero, List.getElem?_cons_succ, eq_self, Int.reduceLT, Int.reduceLE, Int.reduceNeg, Int.reduceEq, g0, g1, g2, hux, wx]
      refine tail_step [(22, [23], [25], false)] (by kernel_rfl) (by kernel_rfl) (a_cons (by simp only [List.filterMap_cons, List.filterMap_nil, List.getElem?_cons_zero, List.getElem?_cons_succ]; rfl) (by kernel_rfl) ?_ trivial)
      simp (disch := omega) only [VW, VY, VZ, VA, VB, VC, VE, TY, ↓reduceIte, Nat.reduceEqDiff, Nat.reduceAdd, Nat.reduceMul, Nat.reduceSub, Nat.reduceLeDiff, List.length_cons, List.length_nil, List.length_append, List.append_assoc, List.take_succ_cons, List.take_zero, List.drop_succ_cons, List.drop_zero, List.set_cons_zero, List.set_cons_succ, true_or, or_true, and_self, Bool.false_eq_true, Nat.le_refl, Option.bind_some, Option.map_some, Option.getD_some, Option.isSome_some, List.map_cons, List.map_nil, List.cons_append, List.nil_append, List.append_nil, List.getElem?_cons_zero, List.getElem?_cons_succ, eq_self, Int.reduceLT, Int.reduceLE, Int.reduceNeg, Int.reduceEq, g0, g1, g2, hux, wx]
      refine .inl ⟨by kernel_rfl, ?_⟩; refine scaled_c (k := upK x y) (rx2.mono s.ext) hkx bx2 (by omega) fun v2 hB s2 => ?_
      have s := s.add s2
      have c2 := s2.row.isRow.cells
      have g0 := s.ext.keepC X0
      have g1 := s.ext.keepC X1
      have g2 := s.ext.keepC X2
      simp (disch := omega) only [VW, VY, VZ, VA, VB, VC, VE, TY, ↓reduceIte, Nat.reduceEqDiff, Nat.reduceAdd, Nat.reduceMul, Nat.reduceSub, Nat.reduceLeDiff, List.length_cons, List.length_nil, List.length_append, List.append_assoc, List.take_succ_cons, List.take_zero, List.drop_succ_cons, List.drop_zero, List.set_cons_zero, List.set_cons_succ, true_or, or_true, and_self, Bool.false_eq_true, Nat.le_refl, Option.bind_some, Option.map_some, Option.getD_some, Option.isSome_some, List.map_cons, List.map_nil, List.cons_append, List.nil_append, List.append_nil, List.getElem?_cons_zero, List.getElem?_cons_succ, eq_self, Int.reduceLT, Int.reduceLE, Int.reduceNeg, Int.reduceEq, g0, g1, g2, hux, wx, c1, c2]
      refine tail_step [(25, [], [], true)] (by kernel_rfl) (by kernel_rfl) (a_cut (by simp only [List.filterMap_cons, List.filterMap_nil, List.getElem?_cons_zero, List.getElem?_cons_succ]; rfl) (by kernel_rfl) ?_ trivial)
      simp (disch := omega) only [VW, VY, VZ, VA, VB, VC, VE, TY, ↓reduceIte, Nat.reduceEqDiff, Nat.reduceAdd, Nat.reduceMul, Nat.reduceSub, Nat.reduceLeDiff, List.length_cons, List.length_nil, List.length_append, List.append_assoc, List.take_succ_cons, List.take_zero, List.drop_succ_cons, List.drop_zero, List.set_cons_zero, List.set_cons_succ, true_or, or_true, and_self, Bool.false_eq_true, Nat.le_refl, Option.bind_some, Option.map_some, Option.getD_some, Option.isSome_some, List.map_cons, List.map_nil, List.cons_append, List.nil_append, List.append_nil, List.getElem?_cons_zero, List.getElem?_cons_succ, eq_self, Int.reduceLT, Int.reduceLE, Int.reduceNeg, Int.reduceEq, g0, g1, g2, hux, wx, c1, c2]
      refine sep_store (s.pull 2 rfl) (by simp) fun h9 s => ?_
      have s := s.as (ds := [.int .i64 (topK x y), v1, v2]) (by simp [t_put])
      have g0 := s.ext.keepC X0
      have g1 := s.ext.keepC X1
      have g2 := s.ext.keepC X2
      simp (disch := omega) only [VW, VY, VZ, VA, VB, VC, VE, TY, ↓reduceIte, Nat.reduceEqDiff, Nat.reduceAdd, Nat.reduceMul, Nat.reduceSub, Nat.reduceLeDiff, List.length_cons, List.length_nil, List.length_append, List.append_assoc, List.take_succ_cons, List.take_zero, List.drop_succ_cons, List.drop_zero, List.set_cons_zero, List.set_cons_succ, true_or, or_true, and_self, Bool.false_eq_true, Nat.le_refl, Option.bind_some, Option.map_some, Option.getD_some, Option.isSome_some, List.map_cons, List.map_nil, List.cons_append, List.nil_append, List.append_nil, List.getElem?_cons_zero, List.getElem?_cons_succ, eq_self, Int.reduceLT, Int.reduceLE, Int.reduceNeg, Int.reduceEq, g0, g1, g2, hux, wx, c1, c2]
      unfold Post
      exact ⟨_, _, _, rfl, rfl, rfl, rfl, rfl, rfl, (s.pull 2 rfl).swap⟩
  rintro e H2 ⟨bx, v1, v2, e0, e1, e5, e6, e7, e8, s⟩
  simp (disch := omega) only [VW, VY, VZ, VA, VB, VC, VE, TY, ↓reduceIte, Nat.reduceEqDiff, Nat.reduceAdd, Nat.reduceMul, Nat.reduceSub, Nat.reduceLeDiff, List.length_cons, List.length_nil, List.length_append, List.append_assoc, List.take_succ_cons, List.take_zero, List.drop_succ_cons, List.drop_zero, List.set_cons_zero, List.set_cons_succ, true_or, or_true, and_self, Bool.false_eq_true, Nat.le_refl, Option.bind_some, Option.map_some, Option.getD_some, Option.isSome_some, List.map_cons, List.map_nil, List.cons_append, List.nil_append, List.append_nil, List.getElem?_cons_zero, List.getElem?_cons_succ, eq_self, Int.reduceLT, Int.reduceLE, Int.reduceNeg, Int.reduceEq, e0, e1, e5, e6, e7, e8]
  refine draw_post (fun e' h' => ∃ (b : Nat) (u1 u2 : Value), e' 0 = .pointer (some ⟨b1, o1, none⟩) ∧ e' 1 = .pointer (some ⟨b2, o2, none⟩) ∧ e' 5 = .pointer (some ⟨h.length, 0, none⟩) ∧ e' 6 = .pointer (some ⟨h.length + 1, 0, none⟩) ∧ e' 7 = .int .i64 (topK x y) ∧ e' 8 = .pointer (some ⟨bx, 0, none⟩) ∧ e' 9 = .pointer (some ⟨b, 0, none⟩) ∧ Sep h h' [blkA b [.int .i64 (topK x y), u1, u2] 42, ownA 3 (upL y.low (upK y x)) u1, ownA 3 (upL y.high (upK y x)) u2, blkA bx [.int .i64 (topK x y), v1, v2] 42, ownA 3 (upL x.low (upK x y)) v1, ownA 3 (upL x.high (upK x y)) v2, blkA (h.length + 1) [.int .i64 0, .slice none 0 0, .slice none 0 0] 42, blkA h.length [.int .i64 0, .slice none 0 0, .slice none 0 0] 42]) ?_ ?_
  · skip
    have g0 := s.ext.keepC Y0
    have g1 := s.ext.keepC Y1
    have g2 := s.ext.keepC Y2
    refine draw_tail [0, 1, 2, 3, 4, 5, 6, 7, 8, 9, 10, 12, 13, 14, 15, 16, 17, 18, 19, 20, 21] [11, 22, 23, 24, 25] (by kernel_rfl) (by simp only [List.filterMap_cons, List.filterMap_nil, List.getElem?_cons_zero, List.getElem?_cons_succ]; rfl) ?_
    simp (disch := omega) only [VW, VY, VZ, VA, VB, VC, VE, TY, ↓reduceIte, Nat.reduceEqDiff, Nat.reduceAdd, Nat.reduceMul, Nat.reduceSub, Nat.reduceLeDiff, List.length_cons, List.length_nil, List.length_append, List.append_assoc, List.take_succ_cons, List.take_zero, List.drop_succ_cons, List.drop_zero, List.set_cons_zero, List.set_cons_succ, true_or, or_true, and_self, Bool.false_eq_true, Nat.le_refl, Option.bind_some, Option.map_some, Option.getD_some, Option.isSome_some, List.map_cons, List.map_nil, List.cons_append, List.nil_append, List.append_nil, List.getElem?_cons_zero, List.getElem?_cons_succ, eq_self, Int.reduceLT, Int.reduceLE, Int.reduceNeg, Int.reduceEq, e0, e1, e5, e6, e7, e8, g0, g1, g2, huy, wy]
    refine tail_step [(11, [], [22, 23, 24, 25], false), (24, [], [11, 22, 23, 25], false)] (by kernel_rfl) (by kernel_rfl) (a_cons (by simp only [List.filterMap_cons, List.filterMap_nil, List.getElem?_cons_zero, List.getElem?_cons_succ]; rfl) (by kernel_rfl) ?_ (a_cons (by simp only [List.filterMap_cons, List.filterMap_nil, List.getElem?_cons_zero, List.getElem?_cons_succ]; rfl) (by kernel_rfl) ?_ trivial))
    · simp (disch := omega) only [VW, VY, VZ, VA, VB, VC, VE, TY, ↓reduceIte, Nat.reduceEqDiff, Nat.reduceAdd, Nat.reduceMul, Nat.reduceSub, Nat.reduceLeDiff, List.length_cons, List.length_nil, List.length_append, List.append_assoc, List.take_succ_cons, List.take_zero, List.drop_succ_cons, List.drop_zero, List.set_cons_zero, List.set_cons_succ, true_or, or_true, and_self, Bool.false_eq_true, Nat.le_refl, Option.bind_some, Option.map_some, Option.getD_some, Option.isSome_some, List.map_cons, List.map_nil, List.cons_append, List.nil_append, List.append_nil, List.getElem?_cons_zero, List.getElem?_cons_succ, eq_self, Int.reduceLT, Int.reduceLE, Int.reduceNeg, Int.reduceEq, e0, e1, e5, e6, e7, e8, g0, g1, g2, huy, wy]
      refine .inl ⟨by kernel_rfl, ?_⟩; refine scaled_c (k := upK y x) (ry1.mono s.ext) hky by1 (by omega) fun v1 hA s1 => ?_
      have s := s.add s1
      have c1 := s1.row.isRow.cells
      have g0 := s.ext.keepC Y0
      have g1 := s.ext.keepC Y1
      have g2 := s.ext.keepC Y2
      simp (disch := omega) only [VW, VY, VZ, VA, VB, VC, VE, TY, ↓reduceIte, Nat.reduceEqDiff, Nat.reduceAdd, Nat.reduceMul, Nat.reduceSub, Nat.reduceLeDiff, List.length_cons, List.length_nil, List.length_append, List.append_assoc, List.take_succ_cons, List.take_zero, List.drop_succ_cons, List.drop_zero, List.set_cons_zero, List.set_cons_succ, true_or, or_true, and_self, Bool.false_eq_true, Nat.le_refl, Option.bind_some, Option.map_some, Option.getD_some, Option.isSome_some, List.map_cons, List.map_nil, List.cons_append, List.nil_append, List.append_nil, List.getElem?_cons_zero, List.getElem?_cons_succ, eq_self, Int.reduceLT, Int.reduceLE, Int.reduceNeg, Int.reduceEq, e0, e1, e5, e6, e7, e8, g0, g1, g2, huy, wy]
      refine tail_step [(22, [23], [24, 25], false), (24, [], [22, 23, 25], false)] (by kernel_rfl) (by kernel_rfl) (a_cons (by simp only [List.filterMap_cons, List.filterMap_nil, List.getElem?_cons_zero, List.getElem?_cons_succ]; rfl) (by kernel_rfl) ?_ (a_cons (by simp only [List.filterMap_cons, List.filterMap_nil, List.getElem?_cons_zero, List.getElem?_cons_succ]; rfl) (by kernel_rfl) ?_ trivial))
      · simp (disch := omega) only [VW, VY, VZ, VA, VB, VC, VE, TY, ↓reduceIte, Nat.reduceEqDiff, Nat.reduceAdd, Nat.reduceMul, Nat.reduceSub, Nat.reduceLeDiff, List.length_cons, List.length_nil, List.length_append, List.append_assoc, List.take_succ_cons, List.take_zero, List.drop_succ_cons, List.drop_zero, List.set_cons_zero, List.set_cons_succ, true_or, or_true, and_self, Bool.false_eq_true, Nat.le_refl, Option.bind_some, Option.map_some, Option.getD_some, Option.isSome_some, List.map_cons, List.map_nil, List.cons_append, List.nil_append, List.append_nil, List.getElem?_cons_zero, List.getElem?_cons_succ, eq_self, Int.reduceLT, Int.reduceLE, Int.reduceNeg, Int.reduceEq, e0, e1, e5, e6, e7, e8, g0, g1, g2, huy, wy]
        refine .inl ⟨by kernel_rfl, ?_⟩; refine scaled_c (k := upK y x) (ry2.mono s.ext) hky by2 (by omega) fun v2 hB s2 => ?_
        have s := s.add s2
        have c2 := s2.row.isRow.cells
        have g0 := s.ext.keepC Y0
        have g1 := s.ext.keepC Y1
        have g2 := s.ext.keepC Y2
        simp (disch := omega) only [VW, VY, VZ, VA, VB, VC, VE, TY, ↓reduceIte, Nat.reduceEqDiff, Nat.reduceAdd, Nat.reduceMul, Nat.reduceSub, Nat.reduceLeDiff, List.length_cons, List.length_nil, List.length_append, List.append_assoc, List.take_succ_cons, List.take_zero, List.drop_succ_cons, List.drop_zero, List.set_cons_zero, List.set_cons_succ, true_or, or_true, and_self, Bool.false_eq_true, Nat.le_refl, Option.bind_some, Option.map_some, Option.getD_some, Option.isSome_some, List.map_cons, List.map_nil, List.cons_append, List.nil_append, List.append_nil, List.getElem?_cons_zero, List.getElem?_cons_succ, eq_self, Int.reduceLT, Int.reduceLE, Int.reduceNeg, Int.reduceEq, e0, e1, e5, e6, e7, e8, g0, g1, g2, huy, wy, c1, c2]
        refine tail_step [(24, [], [25], false)] (by kernel_rfl) (by kernel_rfl) (a_cons (by simp only [List.filterMap_cons, List.filterMap_nil, List.getElem?_cons_zero, List.getElem?_cons_succ]; rfl) (by kernel_rfl) ?_ trivial)
        have sz := s.newBlk [.int .i64 0, .slice none 0 0, .slice none 0 0] 42 true
        have z0 := sz.ext.keepC Y0
        have z1 := sz.ext.keepC Y1
        have z2 := sz.ext.keepC Y2
        simp (disch := omega) only [VW, VY, VZ, VA, VB, VC, VE, TY, ↓reduceIte, Nat.reduceEqDiff, Nat.reduceAdd, Nat.reduceMul, Nat.reduceSub, Nat.reduceLeDiff, List.length_cons, List.length_nil, List.length_append, List.append_assoc, List.take_succ_cons, List.take_zero, List.drop_succ_cons, List.drop_zero, List.set_cons_zero, List.set_cons_succ, true_or, or_true, and_self, Bool.false_eq_true, Nat.le_refl, Option.bind_some, Option.map_some, Option.getD_some, Option.isSome_some, List.map_cons, List.map_nil, List.cons_append, List.nil_append, List.append_nil, List.getElem?_cons_zero, List.getElem?_cons_succ, eq_self, Int.reduceLT, Int.reduceLE, Int.reduceNeg, Int.reduceEq, e0, e1, e5, e6, e7, e8, g0, g1, g2, huy, wy, c1, c2, z0, z1, z2]
        refine tail_step [(25, [], [], true)] (by kernel_rfl) (by kernel_rfl) (a_cut (by simp only [List.filterMap_cons, List.filterMap_nil, List.getElem?_cons_zero, List.getElem?_cons_succ]; rfl) (by kernel_rfl) ?_ trivial)
        have s := s.newBlk [.int .i64 (topK x y), v1, v2] 42 true
        have q0 := s.ext.keepC Y0
        have q1 := s.ext.keepC Y1
        have q2 := s.ext.keepC Y2
        simp (disch := omega) only [VW, VY, VZ, VA, VB, VC, VE, TY, ↓reduceIte, Nat.reduceEqDiff, Nat.reduceAdd, Nat.reduceMul, Nat.reduceSub, Nat.reduceLeDiff, List.length_cons, List.length_nil, List.length_append, List.append_assoc, List.take_succ_cons, List.take_zero, List.drop_succ_cons, List.drop_zero, List.set_cons_zero, List.set_cons_succ, true_or, or_true, and_self, Bool.false_eq_true, Nat.le_refl, Option.bind_some, Option.map_some, Option.getD_some, Option.isSome_some, List.map_cons, List.map_nil, List.cons_append, List.nil_append, List.append_nil, List.getElem?_cons_zero, List.getElem?_cons_succ, eq_self, Int.reduceLT, Int.reduceLE, Int.reduceNeg, Int.reduceEq, e0, e1, e5, e6, e7, e8, g0, g1, g2, huy, wy, c1, c2, z0, z1, z2, q0, q1, q2]
        unfold Post
        exact ⟨_, _, _, e0, e1, e5, e6, e7, e8, rfl, (s.pull 2 rfl).swap⟩
      · have s := s.newBlk [.int .i64 0, .slice none 0 0, .slice none 0 0] 42 true
        have g0 := s.ext.keepC Y0
        have g1 := s.ext.keepC Y1
        have g2 := s.ext.keepC Y2
        simp (disch := omega) only [VW, VY, VZ, VA, VB, VC, VE, TY, ↓reduceIte, Nat.reduceEqDiff, Nat.reduceAdd, Nat.reduceMul, Nat.reduceSub, Nat.reduceLeDiff, List.length_cons, List.length_nil, List.length_append, List.append_assoc, List.take_succ_cons, List.take_zero, List.drop_succ_cons, List.drop_zero, List.set_cons_zero, List.set_cons_succ, true_or, or_true, and_self, Bool.false_eq_true, Nat.le_refl, Option.bind_some, Option.map_some, Option.getD_some, Option.isSome_some, List.map_cons, List.map_nil, List.cons_append, List.nil_append, List.append_nil, List.getElem?_cons_zero, List.getElem?_cons_succ, eq_self, Int.reduceLT, Int.reduceLE, Int.reduceNeg, Int.reduceEq, e0, e1, e5, e6, e7, e8, g0, g1, g2, huy, wy]
        refine tail_step [(22, [23], [25], false)] (by kernel_rfl) (by kernel_rfl) (a_cons (by simp only [List.filterMap_cons, List.filterMap_nil, List.getElem?_cons_zero, List.getElem?_cons_succ]; rfl) (by kernel_rfl) ?_ trivial)
        simp (disch := omega) only [VW, VY, VZ, VA, VB, VC, VE, TY, ↓reduceIte, Nat.reduceEqDiff, Nat.reduceAdd, Nat.reduceMul, Nat.reduceSub, Nat.reduceLeDiff, List.length_cons, List.length_nil, List.length_append, List.append_assoc, List.take_succ_cons, List.take_zero, List.drop_succ_cons, List.drop_zero, List.set_cons_zero, List.set_cons_succ, true_or, or_true, and_self, Bool.false_eq_true, Nat.le_refl, Option.bind_some, Option.map_some, Option.getD_some, Option.isSome_some, List.map_cons, List.map_nil, List.cons_append, List.nil_append, List.append_nil, List.getElem?_cons_zero, List.getElem?_cons_succ, eq_self, Int.reduceLT, Int.reduceLE, Int.reduceNeg, Int.reduceEq, e0, e1, e5, e6, e7, e8, g0, g1, g2, huy, wy]
        refine .inl ⟨by kernel_rfl, ?_⟩; refine scaled_c (k := upK y x) (ry2.mono s.ext) hky by2 (by omega) fun v2 hB s2 => ?_
        have s := s.add s2
        have c2 := s2.row.isRow.cells
        have g0 := s.ext.keepC Y0
        have g1 := s.ext.keepC Y1
        have g2 := s.ext.keepC Y2
        simp (disch := omega) only [VW, VY, VZ, VA, VB, VC, VE, TY, ↓reduceIte, Nat.reduceEqDiff, Nat.reduceAdd, Nat.reduceMul, Nat.reduceSub, Nat.reduceLeDiff, List.length_cons, List.length_nil, List.length_append, List.append_assoc, List.take_succ_cons, List.take_zero, List.drop_succ_cons, List.drop_zero, List.set_cons_zero, List.set_cons_succ, true_or, or_true, and_self, Bool.false_eq_true, Nat.le_refl, Option.bind_some, Option.map_some, Option.getD_some, Option.isSome_some, List.map_cons, List.map_nil, List.cons_append, List.nil_append, List.append_nil, List.getElem?_cons_zero, List.getElem?_cons_succ, eq_self, Int.reduceLT, Int.reduceLE, Int.reduceNeg, Int.reduceEq, e0, e1, e5, e6, e7, e8, g0, g1, g2, huy, wy, c1, c2]
        refine tail_step [(25, [], [], true)] (by kernel_rfl) (by kernel_rfl) (a_cut (by simp only [List.filterMap_cons, List.filterMap_nil, List.getElem?_cons_zero, List.getElem?_cons_succ]; rfl) (by kernel_rfl) ?_ trivial)
        simp (disch := omega) only [VW, VY, VZ, VA, VB, VC, VE, TY, ↓reduceIte, Nat.reduceEqDiff, Nat.reduceAdd, Nat.reduceMul, Nat.reduceSub, Nat.reduceLeDiff, List.length_cons, List.length_nil, List.length_append, List.append_assoc, List.take_succ_cons, List.take_zero, List.drop_succ_cons, List.drop_zero, List.set_cons_zero, List.set_cons_succ, true_or, or_true, and_self, Bool.false_eq_true, Nat.le_refl, Option.bind_some, Option.map_some, Option.getD_some, Option.isSome_some, List.map_cons, List.map_nil, List.cons_append, List.nil_append, List.append_nil, List.getElem?_cons_zero, List.getElem?_cons_succ, eq_self, Int.reduceLT, Int.reduceLE, Int.reduceNeg, Int.reduceEq, e0, e1, e5, e6, e7, e8, g0, g1, g2, huy, wy, c1, c2]
        refine sep_store (s.pull 1 rfl) (by simp) fun h9 s => ?_
        have s := s.as (ds := [.int .i64 (topK x y), v1, v2]) (by simp [t_put])
        have g0 := s.ext.keepC Y0
        have g1 := s.ext.keepC Y1
        have g2 := s.ext.keepC Y2
        simp (disch := omega) only [VW, VY, VZ, VA, VB, VC, VE, TY, ↓reduceIte, Nat.reduceEqDiff, Nat.reduceAdd, Nat.reduceMul, Nat.reduceSub, Nat.reduceLeDiff, List.length_cons, List.length_nil, List.length_append, List.append_assoc, List.take_succ_cons, List.take_zero, List.drop_succ_cons, List.drop_zero, List.set_cons_zero, List.set_cons_succ, true_or, or_true, and_self, Bool.false_eq_true, Nat.le_refl, Option.bind_some, Option.map_some, Option.getD_some, Option.isSome_some, List.map_cons, List.map_nil, List.cons_append, List.nil_append, List.append_nil, List.getElem?_cons_zero, List.getElem?_cons_succ, eq_self, Int.reduceLT, Int.reduceLE, Int.reduceNeg, Int.reduceEq, e0, e1, e5, e6, e7, e8, g0, g1, g2, huy, wy, c1, c2]
        unfold Post
        exact ⟨_, _, _, e0, e1, e5, e6, e7, e8, rfl, (s.pull 2 rfl).swap⟩
    · have s := s.newBlk [.int .i64 0, .slice none 0 0, .slice none 0 0] 42 true
      try simp only [List.append_assoc, List.cons_append, List.nil_append, List.length_append, List.length_cons, List.length_nil, Nat.reduceAdd] at s
      have g0 := s.ext.keepC Y0
      have g1 := s.ext.keepC Y1
      have g2 := s.ext.keepC Y2
      simp (disch := omega) only [VW, VY, VZ, VA, VB, VC, VE, TY, ↓reduceIte, Nat.reduceEqDiff, Nat.reduceAdd, Nat.reduceMul, Nat.reduceSub, Nat.reduceLeDiff, List.length_cons, List.length_nil, List.length_append, List.append_assoc, List.take_succ_cons, List.take_zero, List.drop_succ_cons, List.drop_zero, List.set_cons_zero, List.set_cons_succ, true_or, or_true, and_self, Bool.false_eq_true, Nat.le_refl, Option.bind_some, Option.map_some, Option.getD_some, Option.isSome_some, List.map_cons, List.map_nil, List.cons_append, List.nil_append, List.append_nil, List.getElem?_cons_zero, List.getElem?_cons_succ, eq_self, Int.reduceLT, Int.reduceLE, Int.reduceNeg, Int.reduceEq, e0, e1, e5, e6, e7, e8, g0, g1, g2, huy, wy]
      refine tail_step [(11, [], [22, 23, 25], false)] (by kernel_rfl) (by kernel_rfl) (a_cons (by simp only [List.filterMap_cons, List.filterMap_nil, List.getElem?_cons_zero, List.getElem?_cons_succ]; rfl) (by kernel_rfl) ?_ trivial)
      simp (disch := omega) only [VW, VY, VZ, VA, VB, VC, VE, TY, ↓reduceIte, Nat.reduceEqDiff, Nat.reduceAdd, Nat.reduceMul, Nat.reduceSub, Nat.reduceLeDiff, List.length_cons, List.length_nil, List.length_append, List.append_assoc, List.take_succ_cons, List.take_zero, List.drop_succ_cons, List.drop_zero, List.set_cons_zero, List.set_cons_succ, true_or, or_true, and_self, Bool.false_eq_true, Nat.le_refl, Option.bind_some, Option.map_some, Option.getD_some, Option.isSome_some, List.map_cons, List.map_nil, List.cons_append, List.nil_append, List.append_nil, List.getElem?_cons_zero, List.getElem?_cons_succ, eq_self, Int.reduceLT, Int.reduceLE, Int.reduceNeg, Int.reduceEq, e0, e1, e5, e6, e7, e8, g0, g1, g2, huy, wy]
      refine .inl ⟨by kernel_rfl, ?_⟩; refine scaled_c (k := upK y x) (ry1.mono s.ext) hky by1 (by omega) fun v1 hA s1 => ?_
      have s := s.add s1
      have c1 := s1.row.isRow.cells
      have g0 := s.ext.keepC Y0
      have g1 := s.ext.keepC Y1
      have g2 := s.ext.keepC Y2
      simp (disch := omega) only [VW, VY, VZ, VA, VB, VC, VE, TY, ↓reduceIte, Nat.reduceEqDiff, Nat.reduceAdd, Nat.reduceMul, Nat.reduceSub, Nat.reduceLeDiff, List.length_cons, List.length_nil, List.length_append, List.append_assoc, List.take_succ_cons, List.take_zero, List.drop_succ_cons, List.drop_zero, List.set_cons_zero, List.set_cons_succ, true_or, or_true, and_self, Bool.false_eq_true, Nat.le_refl, Option.bind_some, Option.map_some, Option.getD_some, Option.isSome_some, List.map_cons, List.map_nil, List.cons_append, List.nil_append, List.append_nil, List.getElem?_cons_zero, List.getElem?_cons_succ, eq_self, Int.reduceLT, Int.reduceLE, Int.reduceNeg, Int.reduceEq, e0, e1, e5, e6, e7, e8, g0, g1, g2, huy, wy]
      refine tail_step [(22, [23], [25], false)] (by kernel_rfl) (by kernel_rfl) (a_cons (by simp only [List.filterMap_cons, List.filterMap_nil, List.getElem?_cons_zero, List.getElem?_cons_succ]; rfl) (by kernel_rfl) ?_ trivial)
      simp (disch := omega) only [VW, VY, VZ, VA, VB, VC, VE, TY, ↓reduceIte, Nat.reduceEqDiff, Nat.reduceAdd, Nat.reduceMul, Nat.reduceSub, Nat.reduceLeDiff, List.length_cons, List.length_nil, List.length_append, List.append_assoc, List.take_succ_cons, List.take_zero, List.drop_succ_cons, List.drop_zero, List.set_cons_zero, List.set_cons_succ, true_or, or_true, and_self, Bool.false_eq_true, Nat.le_refl, Option.bind_some, Option.map_some, Option.getD_some, Option.isSome_some, List.map_cons, List.map_nil, List.cons_append, List.nil_append, List.append_nil, List.getElem?_cons_zero, List.getElem?_cons_succ, eq_self, Int.reduceLT, Int.reduceLE, Int.reduceNeg, Int.reduceEq, e0, e1, e5, e6, e7, e8, g0, g1, g2, huy, wy]
      refine .inl ⟨by kernel_rfl, ?_⟩; refine scaled_c (k := upK y x) (ry2.mono s.ext) hky by2 (by omega) fun v2 hB s2 => ?_
      have s := s.add s2
      have c2 := s2.row.isRow.cells
      have g0 := s.ext.keepC Y0
      have g1 := s.ext.keepC Y1
      have g2 := s.ext.keepC Y2
      simp (disch := omega) only [VW, VY, VZ, VA, VB, VC, VE, TY, ↓reduceIte, Nat.reduceEqDiff, Nat.reduceAdd, Nat.reduceMul, Nat.reduceSub, Nat.reduceLeDiff, List.length_cons, List.length_nil, List.length_append, List.append_assoc, List.take_succ_cons, List.take_zero, List.drop_succ_cons, List.drop_zero, List.set_cons_zero, List.set_cons_succ, true_or, or_true, and_self, Bool.false_eq_true, Nat.le_refl, Option.bind_some, Option.map_some, Option.getD_some, Option.isSome_some, List.map_cons, List.map_nil, List.cons_append, List.nil_append, List.append_nil, List.getElem?_cons_zero, List.getElem?_cons_succ, eq_self, Int.reduceLT, Int.reduceLE, Int.reduceNeg, Int.reduceEq, e0, e1, e5, e6, e7, e8, g0, g1, g2, huy, wy, c1, c2]
      refine tail_step [(25, [], [], true)] (by kernel_rfl) (by kernel_rfl) (a_cut (by simp only [List.filterMap_cons, List.filterMap_nil, List.getElem?_cons_zero, List.getElem?_cons_succ]; rfl) (by kernel_rfl) ?_ trivial)
      simp (disch := omega) only [VW, VY, VZ, VA, VB, VC, VE, TY, ↓reduceIte, Nat.reduceEqDiff, Nat.reduceAdd, Nat.reduceMul, Nat.reduceSub, Nat.reduceLeDiff, List.length_cons, List.length_nil, List.length_append, List.append_assoc, List.take_succ_cons, List.take_zero, List.drop_succ_cons, List.drop_zero, List.set_cons_zero, List.set_cons_succ, true_or, or_true, and_self, Bool.false_eq_true, Nat.le_refl, Option.bind_some, Option.map_some, Option.getD_some, Option.isSome_some, List.map_cons, List.map_nil, List.cons_append, List.nil_append, List.append_nil, List.getElem?_cons_zero, List.getElem?_cons_succ, eq_self, Int.reduceLT, Int.reduceLE, Int.reduceNeg, Int.reduceEq, e0, e1, e5, e6, e7, e8, g0, g1, g2, huy, wy, c1, c2]
      refine sep_store (s.pull 2 rfl) (by simp) fun h9 s => ?_
      have s := s.as (ds := [.int .i64 (topK x y), v1, v2]) (by simp [t_put])
      have g0 := s.ext.keepC Y0
      have g1 := s.ext.keepC Y1
      have g2 := s.ext.keepC Y2
      simp (disch := omega) only [VW, VY, VZ, VA, VB, VC, VE, TY, ↓reduceIte, Nat.reduceEqDiff, Nat.reduceAdd, Nat.reduceMul, Nat.reduceSub, Nat.reduceLeDiff, List.length_cons, List.length_nil, List.length_append, List.append_assoc, List.take_succ_cons, List.take_zero, List.drop_succ_cons, List.drop_zero, List.set_cons_zero, List.set_cons_succ, true_or, or_true, and_self, Bool.false_eq_true, Nat.le_refl, Option.bind_some, Option.map_some, Option.getD_some, Option.isSome_some, List.map_cons, List.map_nil, List.cons_append, List.nil_append, List.append_nil, List.getElem?_cons_zero, List.getElem?_cons_succ, eq_self, Int.reduceLT, Int.reduceLE, Int.reduceNeg, Int.reduceEq, e0, e1, e5, e6, e7, e8, g0, g1, g2, huy, wy, c1, c2]
      unfold Post
      exact ⟨_, _, _, e0, e1, e5, e6, e7, e8, rfl, (s.pull 2 rfl).swap⟩
  rintro e H3 ⟨by_, v3, v4, e0, e1, e5, e6, e7, e8, e9, s⟩
  simp (disch := omega) only [VW, VY, VZ, VA, VB, VC, VE, TY, ↓reduceIte, Nat.reduceEqDiff, Nat.reduceAdd, Nat.reduceMul, Nat.reduceSub, Nat.reduceLeDiff, List.length_cons, List.length_nil, List.length_append, List.append_assoc, List.take_succ_cons, List.take_zero, List.drop_succ_cons, List.drop_zero, List.set_cons_zero, List.set_cons_succ, true_or, or_true, and_self, Bool.false_eq_true, Nat.le_refl, Option.bind_some, Option.map_some, Option.getD_some, Option.isSome_some, List.map_cons, List.map_nil, List.cons_append, List.nil_append, List.append_nil, List.getElem?_cons_zero, List.getElem?_cons_succ, eq_self, Int.reduceLT, Int.reduceLE, Int.reduceNeg, Int.reduceEq, e0, e1, e5, e6, e7, e8, e9]
  have c1 := (s.pull 4 rfl).row.isRow.cells
  have c2 := (s.pull 5 rfl).row.isRow.cells
  have c3 := (s.pull 1 rfl).row.isRow.cells
  have c4 := (s.pull 2 rfl).row.isRow.cells
  have p1 := (s.pull 4 rfl).row.isRow.plain
  have p2 := (s.pull 5 rfl).row.isRow.plain
  have p3 := (s.pull 1 rfl).row.isRow.plain
  have p4 := (s.pull 2 rfl).row.isRow.plain
  have ga := (s.pull 3 rfl).rdAll (n := 3) rfl
  have gb := s.rdAll (n := 3) rfl
  refine draw_tail [0, 1, 2, 3] [4, 5] (by kernel_rfl) (by simp only [List.filterMap_cons, List.filterMap_nil, List.getElem?_cons_zero, List.getElem?_cons_succ]; rfl) ?_
  simp (disch := omega) only [VW, VY, VZ, VA, VB, VC, VE, TY, ↓reduceIte, Nat.reduceEqDiff, Nat.reduceAdd, Nat.reduceMul, Nat.reduceSub, Nat.reduceLeDiff, List.length_cons, List.length_nil, List.length_append, List.append_assoc, List.take_succ_cons, List.take_zero, List.drop_succ_cons, List.drop_zero, List.set_cons_zero, List.set_cons_succ, true_or, or_true, and_self, Bool.false_eq_true, Nat.le_refl, Option.bind_some, Option.map_some, Option.getD_some, Option.isSome_some, List.map_cons, List.map_nil, List.cons_append, List.nil_append, List.append_nil, List.getElem?_cons_zero, List.getElem?_cons_succ, eq_self, Int.reduceLT, Int.reduceLE, Int.reduceNeg, Int.reduceEq, e0, e1, e5, e6, e7, e8, e9, ga, gb]
  refine tail_step [(4, [], [5], false)] (by kernel_rfl) (by kernel_rfl) (a_cons (by simp only [List.filterMap_cons, List.filterMap_nil, List.getElem?_cons_zero, List.getElem?_cons_succ]; rfl) (by kernel_rfl) ?_ trivial)
  simp (disch := omega) only [VW, VY, VZ, VA, VB, VC, VE, TY, ↓reduceIte, Nat.reduceEqDiff, Nat.reduceAdd, Nat.reduceMul, Nat.reduceSub, Nat.reduceLeDiff, List.length_cons, List.length_nil, List.length_append, List.append_assoc, List.take_succ_cons, List.take_zero, List.drop_succ_cons, List.drop_zero, List.set_cons_zero, List.set_cons_succ, true_or, or_true, and_self, Bool.false_eq_true, Nat.le_refl, Option.bind_some, Option.map_some, Option.getD_some, Option.isSome_some, List.map_cons, List.map_nil, List.cons_append, List.nil_append, List.append_nil, List.getElem?_cons_zero, List.getElem?_cons_succ, eq_self, Int.reduceLT, Int.reduceLE, Int.reduceNeg, Int.reduceEq, e0, e1, e5, e6, e7, e8, e9, ga, gb]
  refine sep_store (s.pull 7 rfl) (by simp) fun h9 s => ?_
  have s := s.as (ds := [.int .i64 (topK x y), v1, v2]) (by simp [t_put])
  have ga := (s.pull 4 rfl).rdAll (n := 3) rfl
  have gb := (s.pull 1 rfl).rdAll (n := 3) rfl
  simp (disch := omega) only [VW, VY, VZ, VA, VB, VC, VE, TY, ↓reduceIte, Nat.reduceEqDiff, Nat.reduceAdd, Nat.reduceMul, Nat.reduceSub, Nat.reduceLeDiff, List.length_cons, List.length_nil, List.length_append, List.append_assoc, List.take_succ_cons, List.take_zero, List.drop_succ_cons, List.drop_zero, List.set_cons_zero, List.set_cons_succ, true_or, or_true, and_self, Bool.false_eq_true, Nat.le_refl, Option.bind_some, Option.map_some, Option.getD_some, Option.isSome_some, List.map_cons, List.map_nil, List.cons_append, List.nil_append, List.append_nil, List.getElem?_cons_zero, List.getElem?_cons_succ, eq_self, Int.reduceLT, Int.reduceLE, Int.reduceNeg, Int.reduceEq, e0, e1, e5, e6, e7, e8, e9, ga, gb]
  refine tail_step [(5, [], [], true)] (by kernel_rfl) (by kernel_rfl) (a_cut (by simp only [List.filterMap_cons, List.filterMap_nil, List.getElem?_cons_zero, List.getElem?_cons_succ]; rfl) (by kernel_rfl) ?_ trivial)
  simp (disch := omega) only [VW, VY, VZ, VA, VB, VC, VE, TY, ↓reduceIte, Nat.reduceEqDiff, Nat.reduceAdd, Nat.reduceMul, Nat.reduceSub, Nat.reduceLeDiff, List.length_cons, List.length_nil, List.length_append, List.append_assoc, List.take_succ_cons, List.take_zero, List.drop_succ_cons, List.drop_zero, List.set_cons_zero, List.set_cons_succ, true_or, or_true, and_self, Bool.false_eq_true, Nat.le_refl, Option.bind_some, Option.map_some, Option.getD_some, Option.isSome_some, List.map_cons, List.map_nil, List.cons_append, List.nil_append, List.append_nil, List.getElem?_cons_zero, List.getElem?_cons_succ, eq_self, Int.reduceLT, Int.reduceLE, Int.reduceNeg, Int.reduceEq, e0, e1, e5, e6, e7, e8, e9, ga, gb]
  refine sep_store (s.pull 7 rfl) (by simp) fun h10 s => ?_
  have s := s.as (ds := [.int .i64 (topK x y), v3, v4]) (by simp [t_put])
  have ga := (s.pull 5 rfl).rdAll (n := 3) rfl
  have gb := (s.pull 2 rfl).rdAll (n := 3) rfl
  have r1 := s.rdAll (n := 3) rfl
  have r2 := (s.pull 1 rfl).rdAll (n := 3) rfl
  simp (disch := omega) only [VW, VY, VZ, VA, VB, VC, VE, TY, ↓reduceIte, Nat.reduceEqDiff, Nat.reduceAdd, Nat.reduceMul, Nat.reduceSub, Nat.reduceLeDiff, List.length_cons, List.length_nil, List.length_append, List.append_assoc, List.take_succ_cons, List.take_zero, List.drop_succ_cons, List.drop_zero, List.set_cons_zero, List.set_cons_succ, true_or, or_true, and_self, Bool.false_eq_true, Nat.le_refl, Option.bind_some, Option.map_some, Option.getD_some, Option.isSome_some, List.map_cons, List.map_nil, List.cons_append, List.nil_append, List.append_nil, List.getElem?_cons_zero, List.getElem?_cons_succ, eq_self, Int.reduceLT, Int.reduceLE, Int.reduceNeg, Int.reduceEq, e0, e1, e5, e6, e7, e8, e9, ga, gb, r1, r2, p1, p2, p3, p4]
  rw [r3_gen]
  simp only [resultV]
  simp (disch := omega) only [VW, VY, VZ, VA, VB, VC, VE, TY, ↓reduceIte, Nat.reduceEqDiff, Nat.reduceAdd, Nat.reduceMul, Nat.reduceSub, Nat.reduceLeDiff, List.length_cons, List.length_nil, List.length_append, List.append_assoc, List.take_succ_cons, List.take_zero, List.drop_succ_cons, List.drop_zero, List.set_cons_zero, List.set_cons_succ, true_or, or_true, and_self, Bool.false_eq_true, Nat.le_refl, Option.bind_some, Option.map_some, Option.getD_some, Option.isSome_some, List.map_cons, List.map_nil, List.cons_append, List.nil_append, List.append_nil, List.getElem?_cons_zero, List.getElem?_cons_succ, eq_self, Int.reduceLT, Int.reduceLE, Int.reduceNeg, Int.reduceEq, e5, e6, r1, r2, p1, p2, p3, p4]
  refine hQ _ _ _ _ _ ?_
  have s := s.tail.tail.tail
  have s := (s.pull 2 rfl).tail
  exact Sep.keep (L := [_, _, _, _]) (M := []) ((s.pull 3 rfl).pull 3 rfl)
end Go.Proofs
