/- Contracts of functions, facts of types, or the plain law behind one statement (own work): YO. Conditions: those told in each theorem. -/
import Derived.Test.YtiiolloielppeaaYN
set_option linter.all false
set_option linter.unusedSimpArgs false
set_option linter.unusedVariables false
set_option maxRecDepth 4000
namespace Go.Proofs
open Go Go.V
theorem dy_if (b : Bool) {d : Dy} (g : DyG d) : DyG (if b = true then d else ⟨0, 0⟩) := by
  cases b with
  | true => exact g
  | false => exact good0
theorem sumL_o (p : Bool) (l : List Bx) : (sumL (if p = true then some ⟨0, 0⟩ else none) l).isSome = (p && okL l) := by
  cases p with
  | true => simp [okL]
  | false => simp [sumL_none]
theorem workVolumes_o {x : Wk} {t : Int} {b off : Nat} {h : Heap} {Q : Value → Heap → Prop} (hp : At h b off x) (hw : workM x t = true)
    (hQ : ∀ v h', Sep h h' [ownA 39 (volsR (lists x)).1 v] → Q (.tuple #[v, .bool (volsR (lists x)).2]) h') :
    CallsV Try.prog 55 [.pointer (some ⟨b, off, none⟩)] h Q := by
  obtain ⟨v1, v2, v3, v4, g0, g1, g2, g3, g4, r1, r2, r3, r4, f5, ga⟩ := at_Wk hp
  refine CallsV.start Try.func55 rfl (by rw [Try.results55]) (by kernel_rfl) (by rw [Try.ntmps55]; simp) ?_
  have c1 := r1.isRow.cells
  have c2 := r2.isRow.cells
  have c3 := r3.isRow.cells
  have c4 := r4.isRow.cells
  have s := Sep.blk2 h [.bool true] [v1, v2, v3, v4] 93 28 true true
  have E1 := Ext.one h (some ⟨[.bool true], 93, false, true⟩)
  simp (disch := omega) only [VW, VY, VZ, VA, VB, VC, VE, TY, ↓reduceIte, Nat.reduceEqDiff, Nat.reduceAdd, Nat.reduceMul, Nat.reduceSub, Nat.reduceLeDiff, List.length_cons, List.length_nil, List.length_append, List.append_assoc, List.take_succ_cons, List.take_zero, List.drop_succ_cons, List.drop_zero, List.set_cons_zero, List.set_cons_succ, true_or, or_true, and_self, Bool.false_eq_true, Nat.le_refl, Option.bind_some, Option.map_some, Option.getD_some, Option.isSome_some, List.map_cons, List.map_nil, List.cons_append, List.nil_append, List.append_nil, List.getElem?_cons_zero, List.getElem?_cons_succ, eq_self, Int.reduceLT, Int.reduceLE, Int.reduceNeg, Int.reduceEq]
  refine draw_ord [0, 1, 2, 3, 4, 5, 6, 7, 8, 9, 10, 11, 12, 13, 14, 15, 18, 16, 17] (by kernel_rfl) (by simp only [List.filterMap_cons, List.filterMap_nil, List.getElem?_cons_zero, List.getElem?_cons_succ]; rfl) ?_
  simp (disch := omega) only [VW, VY, VZ, VA, VB, VC, VE, TY, ↓reduceIte, Nat.reduceEqDiff, Nat.reduceAdd, Nat.reduceMul, Nat.reduceSub, Nat.reduceLeDiff, List.length_cons, List.length_nil, List.length_append, List.append_assoc, List.take_succ_cons, List.take_zero, List.drop_succ_cons, List.drop_zero, List.set_cons_zero, List.set_cons_succ, true_or, or_true, and_self, Bool.false_eq_true, Nat.le_refl, Option.bind_some, Option.map_some, Option.getD_some, Option.isSome_some, List.map_cons, List.map_nil, List.cons_append, List.nil_append, List.append_nil, List.getElem?_cons_zero, List.getElem?_cons_succ, eq_self, Int.reduceLT, Int.reduceLE, Int.reduceNeg, Int.reduceEq, E1.keepC g0, E1.keepC g1, E1.keepC g2, E1.keepC g3, c1, c2, c3, c4, s.ext.keepC g0, s.ext.keepC g1, s.ext.keepC g2, s.ext.keepC g3]
  have hl4 : (lists x).length = 4 := rfl
  have mkrow : ∀ h2, Ext h h2 → cellsAt h2 (h.length + 1) 0 4 = some [v1, v2, v3, v4] → Row h2 (lists x) (.slice (some ⟨h.length + 1, 0, none⟩) 4 4) := fun h2 E hc =>
    Row.ofBlk (cs := [v1, v2, v3, v4]) hc (.cons (mk_list (r1.mono E)) (.cons (mk_list (r2.mono E)) (.cons (mk_list (r3.mono E)) (.cons (mk_list (r4.mono E)) .nil)))) rfl (by decide)
  refine loop_rule (fun n e h' => ∃ (j : Nat) (vo : Value) (D : List Dy) (p : Bool), e 4 = .pointer (some ⟨h.length, 0, none⟩) ∧ e 28 = .slice (some ⟨h.length + 1, 0, none⟩) 4 4 ∧ e 29 = .int .i64 (4 : Nat) ∧ e 30 = .int .i64 j ∧ e 5 = vo ∧ j ≤ 4 ∧ n = 4 - j ∧ D.length = j ∧ ((lists x).take j).all okL = p ∧ (p = true → D = ((lists x).take j).map valL) ∧
      Sep h h' [blkA h.length [.bool p] 93, blkA (h.length + 1) [v1, v2, v3, v4] 28, ownA 39 D vo]) ?_ 4 _ _
    ⟨0, .slice none 0 0, [], true, rfl, rfl, rfl, rfl, rfl, by omega, rfl, rfl, rfl, fun _ => rfl, ((s.nilA 39).pull 1 rfl).pull 2 rfl⟩
  rintro n e h' ⟨j, vo, D, p, e4, e28, e29, e30, e5, hj, rfl, hD, hp2, hDm, so⟩
  have rl := mkrow h' so.ext ((so.pull 1 rfl).rdAll (n := 4) rfl)
  simp (disch := omega) only [VW, VY, VZ, VA, VB, VC, VE, TY, ↓reduceIte, Nat.reduceEqDiff, Nat.reduceAdd, Nat.reduceMul, Nat.reduceSub, Nat.reduceLeDiff, List.length_cons, List.length_nil, List.length_append, List.append_assoc, List.take_succ_cons, List.take_zero, List.drop_succ_cons, List.drop_zero, List.set_cons_zero, List.set_cons_succ, true_or, or_true, and_self, Bool.false_eq_true, Nat.le_refl, Option.bind_some, Option.map_some, Option.getD_some, Option.isSome_some, List.map_cons, List.map_nil, List.cons_append, List.nil_append, List.append_nil, List.getElem?_cons_zero, List.getElem?_cons_succ, eq_self, Int.reduceLT, Int.reduceLE, Int.reduceNeg, Int.reduceEq, e29, e30]
  by_cases hlt : j < 4
  · obtain ⟨l, hl⟩ := get_some (show j < (lists x).length by omega)
    obtain ⟨v, x3, rv⟩ := row_list rl hl
    have q1 : (j : Int) < ((4 : Nat) : Int) := by omega
    have q1' : (j : Int) < 4 := by omega
    have ix := rl.isRow.ix Try.prog
    rw [hl4] at ix
    have hle := rv.le
    simp (disch := omega) only [VW, VY, VZ, VA, VB, VC, VE, TY, ↓reduceIte, Nat.reduceEqDiff, Nat.reduceAdd, Nat.reduceMul, Nat.reduceSub, Nat.reduceLeDiff, List.length_cons, List.length_nil, List.length_append, List.append_assoc, List.take_succ_cons, List.take_zero, List.drop_succ_cons, List.drop_zero, List.set_cons_zero, List.set_cons_succ, true_or, or_true, and_self, Bool.false_eq_true, Nat.le_refl, Option.bind_some, Option.map_some, Option.getD_some, Option.isSome_some, List.map_cons, List.map_nil, List.cons_append, List.nil_append, List.append_nil, List.getElem?_cons_zero, List.getElem?_cons_succ, eq_self, Int.reduceLT, Int.reduceLE, Int.reduceNeg, Int.reduceEq, e28, e29, e30, q1, q1', ix, x3, rv.isRow.len]
    have s2 := so.newBlk [.int .i64 0, .int .i64 0] 39 true
    have hp0 : (sumL (if p = true then some ⟨0, 0⟩ else none) (l.take 0)).isSome = p := by cases p <;> rfl
    have hd0 : (sumL (if p = true then some ⟨0, 0⟩ else none) (l.take 0)).getD ⟨0, 0⟩ = ⟨0, 0⟩ := by cases p <;> rfl
    have hgo : GoodO (if p = true then some ⟨0, 0⟩ else none) := by
      cases p with
      | true => exact good00
      | false => intro y hy; cases hy
    have hps := sumL_o p l
    refine loop_rule (fun n e h2 => ∃ (i : Nat), e 4 = .pointer (some ⟨h.length, 0, none⟩) ∧ e 28 = .slice (some ⟨h.length + 1, 0, none⟩) 4 4 ∧ e 29 = .int .i64 (4 : Nat) ∧ e 30 = .int .i64 j ∧ e 5 = vo ∧ e 7 = v ∧ e 8 = .pointer (some ⟨h'.length, 0, none⟩) ∧ e 36 = .int .i64 l.length ∧ e 37 = .int .i64 i ∧ i ≤ l.length ∧ n = l.length - i ∧
      Sep h h2 [blkA h'.length (dyC ((sumL (if p = true then some ⟨0, 0⟩ else none) (l.take i)).getD ⟨0, 0⟩)) 39, blkA h.length [.bool (sumL (if p = true then some ⟨0, 0⟩ else none) (l.take i)).isSome] 93, blkA (h.length + 1) [v1, v2, v3, v4] 28, ownA 39 D vo]) ?_ l.length _ _
      ⟨0, e4, e28, e29, e30, e5, rfl, rfl, rfl, rfl, by omega, rfl, by rw [hp0, hd0]; exact s2⟩
    rintro n e h2 ⟨i, e4, e28, e29, e30, e5, e7, e8, e36, e37, hi, rfl, s2⟩
    have rl := mkrow h2 s2.ext ((s2.pull 2 rfl).rdAll (n := 4) rfl)
    simp (disch := omega) only [VW, VY, VZ, VA, VB, VC, VE, TY, ↓reduceIte, Nat.reduceEqDiff, Nat.reduceAdd, Nat.reduceMul, Nat.reduceSub, Nat.reduceLeDiff, List.length_cons, List.length_nil, List.length_append, List.append_assoc, List.take_succ_cons, List.take_zero, List.drop_succ_cons, List.drop_zero, List.set_cons_zero, List.set_cons_succ, true_or, or_true, and_self, Bool.false_eq_true, Nat.le_refl, Option.bind_some, Option.map_some, Option.getD_some, Option.isSome_some, List.map_cons, List.map_nil, List.cons_append, List.nil_append, List.append_nil, List.getElem?_cons_zero, List.getElem?_cons_succ, eq_self, Int.reduceLT, Int.reduceLE, Int.reduceNeg, Int.reduceEq, e36, e37]
    by_cases hlt2 : i < l.length
    · obtain ⟨y, hy⟩ := get_some hlt2
      have q2 : (i : Int) < (l.length : Int) := by omega
      obtain ⟨v', x3', rv2⟩ := row_list rl hl
      have hby := (work_box' hw l (List.mem_of_getElem? hl)) y (List.mem_of_getElem? hy)
      have ev : v' = v := by
        have a1 := (so.pull 1 rfl).rd j
        have a2 := (s2.pull 2 rfl).rd j
        have b1 : getC h' (h.length + 1) (0 + j) = some v := x3
        have b2 : getC h2 (h.length + 1) (0 + j) = some v' := x3'
        rw [Nat.zero_add] at b1 b2
        rw [b1] at a1
        rw [b2] at a2
        exact Option.some.inj (a2.trans a1.symm)
      subst ev
      have rv := rv2
      have py := rv2.ptr hy
      rw [Bx.sz] at py
      have hgd := (sumL_good hgo l i).get
      have hvg := (volM_eq hby).2
      simp (disch := omega) only [VW, VY, VZ, VA, VB, VC, VE, TY, ↓reduceIte, Nat.reduceEqDiff, Nat.reduceAdd, Nat.reduceMul, Nat.reduceSub, Nat.reduceLeDiff, List.length_cons, List.length_nil, List.length_append, List.append_assoc, List.take_succ_cons, List.take_zero, List.drop_succ_cons, List.drop_zero, List.set_cons_zero, List.set_cons_succ, true_or, or_true, and_self, Bool.false_eq_true, Nat.le_refl, Option.bind_some, Option.map_some, Option.getD_some, Option.isSome_some, List.map_cons, List.map_nil, List.cons_append, List.nil_append, List.append_nil, List.getElem?_cons_zero, List.getElem?_cons_succ, eq_self, Int.reduceLT, Int.reduceLE, Int.reduceNeg, Int.reduceEq, q2, e37]
      refine draw_tail [0, 1, 2, 3, 4, 5] [6, 7, 8, 9, 10, 11] (by kernel_rfl) (by simp only [List.filterMap_cons, List.filterMap_nil, List.getElem?_cons_zero, List.getElem?_cons_succ]; rfl) ?_
      have gd := s2.rdAll (n := 2) rfl
      simp (disch := omega) only [VW, VY, VZ, VA, VB, VC, VE, TY, ↓reduceIte, Nat.reduceEqDiff, Nat.reduceAdd, Nat.reduceMul, Nat.reduceSub, Nat.reduceLeDiff, List.length_cons, List.length_nil, List.length_append, List.append_assoc, List.take_succ_cons, List.take_zero, List.drop_succ_cons, List.drop_zero, List.set_cons_zero, List.set_cons_succ, true_or, or_true, and_self, Bool.false_eq_true, Nat.le_refl, Option.bind_some, Option.map_some, Option.getD_some, Option.isSome_some, List.map_cons, List.map_nil, List.cons_append, List.nil_append, List.append_nil, List.getElem?_cons_zero, List.getElem?_cons_succ, eq_self, Int.reduceLT, Int.reduceLE, Int.reduceNeg, Int.reduceEq, e4, e7, e8, gd, rv.isRow.ix, q2]
      refine tail_step [(6, [7, 8], [9, 10, 11], false)] (by kernel_rfl) (by kernel_rfl) (a_cons (by simp only [List.filterMap_cons, List.filterMap_nil, List.getElem?_cons_zero, List.getElem?_cons_succ]; rfl) (by kernel_rfl) ?_ trivial)
      simp (disch := omega) only [VW, VY, VZ, VA, VB, VC, VE, TY, ↓reduceIte, Nat.reduceEqDiff, Nat.reduceAdd, Nat.reduceMul, Nat.reduceSub, Nat.reduceLeDiff, List.length_cons, List.length_nil, List.length_append, List.append_assoc, List.take_succ_cons, List.take_zero, List.drop_succ_cons, List.drop_zero, List.set_cons_zero, List.set_cons_succ, true_or, or_true, and_self, Bool.false_eq_true, Nat.le_refl, Option.bind_some, Option.map_some, Option.getD_some, Option.isSome_some, List.map_cons, List.map_nil, List.cons_append, List.nil_append, List.append_nil, List.getElem?_cons_zero, List.getElem?_cons_succ, eq_self, Int.reduceLT, Int.reduceLE, Int.reduceNeg, Int.reduceEq, e4, e7, e8, gd, rv.isRow.ix, q2]
      refine .inl ⟨by kernel_rfl, ?_⟩; refine volume_c py hby fun h3 E3 => ?_
      have s3 := s2.mono E3
      have gd := s3.rdAll (n := 2) rfl
      simp (disch := omega) only [VW, VY, VZ, VA, VB, VC, VE, TY, ↓reduceIte, Nat.reduceEqDiff, Nat.reduceAdd, Nat.reduceMul, Nat.reduceSub, Nat.reduceLeDiff, List.length_cons, List.length_nil, List.length_append, List.append_assoc, List.take_succ_cons, List.take_zero, List.drop_succ_cons, List.drop_zero, List.set_cons_zero, List.set_cons_succ, true_or, or_true, and_self, Bool.false_eq_true, Nat.le_refl, Option.bind_some, Option.map_some, Option.getD_some, Option.isSome_some, List.map_cons, List.map_nil, List.cons_append, List.nil_append, List.append_nil, List.getElem?_cons_zero, List.getElem?_cons_succ, eq_self, Int.reduceLT, Int.reduceLE, Int.reduceNeg, Int.reduceEq, gd]
      refine tail_step [(9, [], [10, 11], false)] (by kernel_rfl) (by kernel_rfl) (a_cons (by simp only [List.filterMap_cons, List.filterMap_nil, List.getElem?_cons_zero, List.getElem?_cons_succ]; rfl) (by kernel_rfl) ?_ trivial)
      simp (disch := omega) only [VW, VY, VZ, VA, VB, VC, VE, TY, ↓reduceIte, Nat.reduceEqDiff, Nat.reduceAdd, Nat.reduceMul, Nat.reduceSub, Nat.reduceLeDiff, List.length_cons, List.length_nil, List.length_append, List.append_assoc, List.take_succ_cons, List.take_zero, List.drop_succ_cons, List.drop_zero, List.set_cons_zero, List.set_cons_succ, true_or, or_true, and_self, Bool.false_eq_true, Nat.le_refl, Option.bind_some, Option.map_some, Option.getD_some, Option.isSome_some, List.map_cons, List.map_nil, List.cons_append, List.nil_append, List.append_nil, List.getElem?_cons_zero, List.getElem?_cons_succ, eq_self, Int.reduceLT, Int.reduceLE, Int.reduceNeg, Int.reduceEq, gd]
      refine .inl ⟨by kernel_rfl, ?_⟩; refine keep_c (s3.pull 1 rfl) fun h4 s4 => ?_
      rw [Bool.and_true] at s4 ⊢
      have gd := (s4.pull 1 rfl).rdAll (n := 2) rfl
      simp (disch := omega) only [VW, VY, VZ, VA, VB, VC, VE, TY, ↓reduceIte, Nat.reduceEqDiff, Nat.reduceAdd, Nat.reduceMul, Nat.reduceSub, Nat.reduceLeDiff, List.length_cons, List.length_nil, List.length_append, List.append_assoc, List.take_succ_cons, List.take_zero, List.drop_succ_cons, List.drop_zero, List.set_cons_zero, List.set_cons_succ, true_or, or_true, and_self, Bool.false_eq_true, Nat.le_refl, Option.bind_some, Option.map_some, Option.getD_some, Option.isSome_some, List.map_cons, List.map_nil, List.cons_append, List.nil_append, List.append_nil, List.getElem?_cons_zero, List.getElem?_cons_succ, eq_self, Int.reduceLT, Int.reduceLE, Int.reduceNeg, Int.reduceEq, gd]
      refine tail_step [(10, [], [11], true)] (by kernel_rfl) (by kernel_rfl) (a_cut (by simp only [List.filterMap_cons, List.filterMap_nil, List.getElem?_cons_zero, List.getElem?_cons_succ]; rfl) (by kernel_rfl) ?_ trivial)
      simp (disch := omega) only [VW, VY, VZ, VA, VB, VC, VE, TY, ↓reduceIte, Nat.reduceEqDiff, Nat.reduceAdd, Nat.reduceMul, Nat.reduceSub, Nat.reduceLeDiff, List.length_cons, List.length_nil, List.length_append, List.append_assoc, List.take_succ_cons, List.take_zero, List.drop_succ_cons, List.drop_zero, List.set_cons_zero, List.set_cons_succ, true_or, or_true, and_self, Bool.false_eq_true, Nat.le_refl, Option.bind_some, Option.map_some, Option.getD_some, Option.isSome_some, List.map_cons, List.map_nil, List.cons_append, List.nil_append, List.append_nil, List.getElem?_cons_zero, List.getElem?_cons_succ, eq_self, Int.reduceLT, Int.reduceLE, Int.reduceNeg, Int.reduceEq, gd]
      have hvg2 : DyG (if (sumL (if p = true then some ⟨0, 0⟩ else none) (l.take i)).isSome = true then volM y else ⟨0, 0⟩) := dy_if _ hvg
      refine .inl ⟨by kernel_rfl, ?_⟩; refine rsum_c s4 (sumL_good hgo l i) hvg2 fun h5 s5 => ?_
      rw [accM_keep] at s5 ⊢
      rw [← sumL_take hy] at s5 ⊢
      have gd := (s5.pull 1 rfl).rdAll (n := 2) rfl
      simp (disch := omega) only [VW, VY, VZ, VA, VB, VC, VE, TY, ↓reduceIte, Nat.reduceEqDiff, Nat.reduceAdd, Nat.reduceMul, Nat.reduceSub, Nat.reduceLeDiff, List.length_cons, List.length_nil, List.length_append, List.append_assoc, List.take_succ_cons, List.take_zero, List.drop_succ_cons, List.drop_zero, List.set_cons_zero, List.set_cons_succ, true_or, or_true, and_self, Bool.false_eq_true, Nat.le_refl, Option.bind_some, Option.map_some, Option.getD_some, Option.isSome_some, List.map_cons, List.map_nil, List.cons_append, List.nil_append, List.append_nil, List.getElem?_cons_zero, List.getElem?_cons_succ, eq_self, Int.reduceLT, Int.reduceLE, Int.reduceNeg, Int.reduceEq, gd, e8]
      refine tail_step [(11, [], [], true)] (by kernel_rfl) (by kernel_rfl) (a_cut (by simp only [List.filterMap_cons, List.filterMap_nil, List.getElem?_cons_zero, List.getElem?_cons_succ]; rfl) (by kernel_rfl) ?_ trivial)
      simp (disch := omega) only [VW, VY, VZ, VA, VB, VC, VE, TY, ↓reduceIte, Nat.reduceEqDiff, Nat.reduceAdd, Nat.reduceMul, Nat.reduceSub, Nat.reduceLeDiff, List.length_cons, List.length_nil, List.length_append, List.append_assoc, List.take_succ_cons, List.take_zero, List.drop_succ_cons, List.drop_zero, List.set_cons_zero, List.set_cons_succ, true_or, or_true, and_self, Bool.false_eq_true, Nat.le_refl, Option.bind_some, Option.map_some, Option.getD_some, Option.isSome_some, List.map_cons, List.map_nil, List.cons_append, List.nil_append, List.append_nil, List.getElem?_cons_zero, List.getElem?_cons_succ, eq_self, Int.reduceLT, Int.reduceLE, Int.reduceNeg, Int.reduceEq, gd, e8]
      refine sep_store (s5.pull 1 rfl) (by simp) fun h6 s6 => ?_
      have s6 := s6.as (ds := dyC ((sumL (if p = true then some ⟨0, 0⟩ else none) (l.take (i + 1))).getD ⟨0, 0⟩)) (by simp [t_put])
      simp (disch := omega) only [VW, VY, VZ, VA, VB, VC, VE, TY, ↓reduceIte, Nat.reduceEqDiff, Nat.reduceAdd, Nat.reduceMul, Nat.reduceSub, Nat.reduceLeDiff, List.length_cons, List.length_nil, List.length_append, List.append_assoc, List.take_succ_cons, List.take_zero, List.drop_succ_cons, List.drop_zero, List.set_cons_zero, List.set_cons_succ, true_or, or_true, and_self, Bool.false_eq_true, Nat.le_refl, Option.bind_some, Option.map_some, Option.getD_some, Option.isSome_some, List.map_cons, List.map_nil, List.cons_append, List.nil_append, List.append_nil, List.getElem?_cons_zero, List.getElem?_cons_succ, eq_self, Int.reduceLT, Int.reduceLE, Int.reduceNeg, Int.reduceEq, e4, e28, e29, e30, e5, e7, e8, e36, e37, wrap_in]
      exact ⟨_, by omega, i + 1, by simp, by omega, rfl, s6⟩
    · obtain rfl : i = l.length := by omega
      have q2 : ¬ (l.length : Int) < (l.length : Int) := by omega
      rw [List.take_length] at s2
      have gd := s2.rdAll (n := 2) rfl
      have hgL : DyG ((sumL (if p = true then some ⟨0, 0⟩ else none) l).getD ⟨0, 0⟩) := by
        have := (sumL_good hgo l l.length).get
        rw [List.take_length] at this
        exact this
      simp (disch := omega) only [VW, VY, VZ, VA, VB, VC, VE, TY, ↓reduceIte, Nat.reduceEqDiff, Nat.reduceAdd, Nat.reduceMul, Nat.reduceSub, Nat.reduceLeDiff, List.length_cons, List.length_nil, List.length_append, List.append_assoc, List.take_succ_cons, List.take_zero, List.drop_succ_cons, List.drop_zero, List.set_cons_zero, List.set_cons_succ, true_or, or_true, and_self, Bool.false_eq_true, Nat.le_refl, Option.bind_some, Option.map_some, Option.getD_some, Option.isSome_some, List.map_cons, List.map_nil, List.cons_append, List.nil_append, List.append_nil, List.getElem?_cons_zero, List.getElem?_cons_succ, eq_self, Int.reduceLT, Int.reduceLE, Int.reduceNeg, Int.reduceEq, e4, e5, e8, e28, e29, e30, q2, gd]
      have sq := (((s2.pull 3 rfl).rep0 (Dy_rep hgL h2)).swap)
      refine sep_append (y := (sumL (if p = true then some ⟨0, 0⟩ else none) l).getD ⟨0, 0⟩) sq rfl rfl te47 tk39 rfl (by decide) (by rw [hD]; simp only []; omega) fun v5 h5 sp => ?_
      simp (disch := omega) only [VW, VY, VZ, VA, VB, VC, VE, TY, ↓reduceIte, Nat.reduceEqDiff, Nat.reduceAdd, Nat.reduceMul, Nat.reduceSub, Nat.reduceLeDiff, List.length_cons, List.length_nil, List.length_append, List.append_assoc, List.take_succ_cons, List.take_zero, List.drop_succ_cons, List.drop_zero, List.set_cons_zero, List.set_cons_succ, true_or, or_true, and_self, Bool.false_eq_true, Nat.le_refl, Option.bind_some, Option.map_some, Option.getD_some, Option.isSome_some, List.map_cons, List.map_nil, List.cons_append, List.nil_append, List.append_nil, List.getElem?_cons_zero, List.getElem?_cons_succ, eq_self, Int.reduceLT, Int.reduceLE, Int.reduceNeg, Int.reduceEq, e4, e28, e29, e30, wrap_in]
      rw [hps] at sp
      refine ⟨_, by omega, j + 1, v5, D ++ [(sumL (if p = true then some ⟨0, 0⟩ else none) l).getD ⟨0, 0⟩], p && okL l, by simp, rfl, by omega, rfl, by rw [List.length_append, hD]; rfl, ?_, ?_, ((sp.pull 1 rfl).tail.pull 0 rfl) |> fun _ => ?_⟩
      · rw [List.take_add_one, hl, List.all_append, hp2]
        simp
      · intro hpk
        simp only [Bool.and_eq_true] at hpk
        rw [hDm hpk.1, List.take_add_one, hl, List.map_append, hpk.1]
        rfl
      · exact ((sp.swap.tail).pull 2 rfl).pull 2 rfl
  · obtain rfl : j = 4 := by omega
    have q4 : ¬ ((4 : Nat) : Int) < ((4 : Nat) : Int) := by decide
    have q5 : ¬ ((4 : Nat) : Int) < 4 := by decide
    have hall : (lists x).all okL = p := by rw [← hp2]; rfl
    have gr := so.rd
    unfold volsR at hQ
    cases p with
    | true =>
      rw [if_pos hall] at hQ
      have so := so.tail.tail
      rw [hDm rfl] at so
      have so : Sep h h' [ownA 39 ((lists x).map valL) vo] := so
      have pl := so.row.isRow.plain
      simp (disch := omega) only [VW, VY, VZ, VA, VB, VC, VE, TY, ↓reduceIte, Nat.reduceEqDiff, Nat.reduceAdd, Nat.reduceMul, Nat.reduceSub, Nat.reduceLeDiff, List.length_cons, List.length_nil, List.length_append, List.append_assoc, List.take_succ_cons, List.take_zero, List.drop_succ_cons, List.drop_zero, List.set_cons_zero, List.set_cons_succ, true_or, or_true, and_self, Bool.false_eq_true, Nat.le_refl, Option.bind_some, Option.map_some, Option.getD_some, Option.isSome_some, List.map_cons, List.map_nil, List.cons_append, List.nil_append, List.append_nil, List.getElem?_cons_zero, List.getElem?_cons_succ, eq_self, Int.reduceLT, Int.reduceLE, Int.reduceNeg, Int.reduceEq, q4, q5, e4, e5, gr, pl]
      exact hQ _ _ so
    | false =>
      rw [if_neg (by rw [hall]; decide)] at hQ
      simp (disch := omega) only [VW, VY, VZ, VA, VB, VC, VE, TY, ↓reduceIte, Nat.reduceEqDiff, Nat.reduceAdd, Nat.reduceMul, Nat.reduceSub, Nat.reduceLeDiff, List.length_cons, List.length_nil, List.length_append, List.append_assoc, List.take_succ_cons, List.take_zero, List.drop_succ_cons, List.drop_zero, List.set_cons_zero, List.set_cons_succ, true_or, or_true, and_self, Bool.false_eq_true, Nat.le_refl, Option.bind_some, Option.map_some, Option.getD_some, Option.isSome_some, List.map_cons, List.map_nil, List.cons_append, List.nil_append, List.append_nil, List.getElem?_cons_zero, List.getElem?_cons_succ, eq_self, Int.reduceLT, Int.reduceLE, Int.reduceNeg, Int.reduceEq, q4, q5, e4, e5, gr]
      exact hQ _ _ ((Sep.nil so.ext).nilA _)
theorem workVolumes_c {x : Wk} {t : Int} {b off : Nat} {h : Heap} {Q : Value → Heap → Prop} (hp : At h b off x) (hw : workM x t = true)
    (hQ : ∀ v h', Sep h h' [repA (volsR (lists x)).1 [v]] → Q (.tuple #[v, .bool (volsR (lists x)).2]) h') :
    CallsV Try.prog 55 [.pointer (some ⟨b, off, none⟩)] h Q := workVolumes_o hp hw fun v h' s => hQ v h' s.toRep
end Go.Proofs
