/- Contracts of functions, facts of types, or the plain law behind one statement (own work): YN. Conditions: those told in each theorem. -/
import Derived.Test.YtiiolloielppeaaYM
set_option linter.all false
set_option linter.unusedSimpArgs false
set_option linter.unusedVariables false
set_option maxRecDepth 4000
namespace Go.Proofs
open Go Go.V
/- The volumes of a work's lists. -/
def sumL (o : Option Dy) (l : List Bx) : Option Dy := l.foldl (fun o x => accM o (volM x)) o
def okL (l : List Bx) : Bool := (sumL (some ⟨0, 0⟩) l).isSome
def valL (l : List Bx) : Dy := (sumL (some ⟨0, 0⟩) l).getD ⟨0, 0⟩
def volsR (ls : List (List Bx)) : List Dy × Bool := if ls.all okL = true then (ls.map valL, true) else ([], false)
theorem sumL_none (l : List Bx) : sumL none l = none := by
  induction l with
  | nil => rfl
  | cons x l ih => exact ih
theorem sumL_take {o : Option Dy} {l : List Bx} {i : Nat} {x : Bx} (h : l[i]? = some x) : sumL o (l.take (i + 1)) = accM (sumL o (l.take i)) (volM x) := by
  unfold sumL
  rw [List.take_add_one, h, List.foldl_append]
  rfl
theorem sumL_stop {o : Option Dy} {l : List Bx} {i : Nat} (h : sumL o (l.take i) = none) : sumL o l = none := by
  have e : l = l.take i ++ l.drop i := (List.take_append_drop i l).symm
  have : sumL o l = sumL (sumL o (l.take i)) (l.drop i) := by
    unfold sumL
    rw [← List.foldl_append, ← e]
  rw [this, h, sumL_none]
theorem sumL_good {o : Option Dy} (ho : GoodO o) (l : List Bx) (i : Nat) : GoodO (sumL o (l.take i)) := by
  induction i with
  | zero => rw [List.take_zero]; exact ho
  | succ i ih =>
    by_cases c : i < l.length
    · obtain ⟨x, hx⟩ := get_some c
      rw [sumL_take hx]
      exact accM_good
    · rw [List.take_of_length_le (by omega)] at ih ⊢
      exact ih
theorem good00 : GoodO (some ⟨0, 0⟩) := by intro x hx; cases hx; exact good0
theorem Dy_rep {d : Dy} (g : DyG d) (h : Heap) : Rep.rep h d (dyC d) [] := by
  have := g.n0; have := g.n1; have := g.k0; have := g.k1
  exact rep_Dy ⟨by omega, by omega⟩ ⟨by omega, by omega⟩
theorem work_box' {w : Wk} {s : Int} (h : workM w s = true) : ∀ l ∈ lists w, ∀ x ∈ l, boxM x = true := by
  intro l hl x hx
  unfold workM at h
  simp only [Bool.and_eq_true] at h
  have := List.all_eq_true.1 h.1 l hl
  unfold listOk at this
  simp only [Bool.and_eq_true] at this
  have := List.all_eq_true.1 this.2 x hx
  unfold boxOk at this
  simp only [Bool.and_eq_true] at this
  exact this.1
theorem makeM_good0 {l : List Bx} {i : Nat} {d : Dy} (h : sumL (some ⟨0, 0⟩) (l.take i) = some d) : DyG d := sumL_good good00 l i d h
theorem makeM_goodL {l : List Bx} {d : Dy} (h : sumL (some ⟨0, 0⟩) l = some d) : DyG d := by
  rw [← List.take_length (l := l)] at h
  exact makeM_good0 h
theorem brVolumes_o {x : Wk} {t : Int} {cs : List Value} {h : Heap} {Q : Value → Heap → Prop} (hx : Here h x cs) (hw : workM x t = true)
    (hQ : ∀ v h', Sep h h' [ownA 39 (volsR (lists x)).1 v] → Q (.tuple #[v, .bool (volsR (lists x)).2]) h') :
    CallsV Try.prog 49 [.agg cs.toArray] h Q := by
  have hxx := hx
  obtain ⟨v1, v2, v3, v4, rfl, r1, r2, r3, r4, f5⟩ := here_Wk hx
  refine CallsV.start Try.func49 rfl (by rw [Try.results49]) (by kernel_rfl) (by rw [Try.ntmps49]; simp) ?_
  have s := Sep.blk1 h [v1, v2, v3, v4, .int .i64 x.steps] 30 true
  have ga := s.rdAll (n := 5) rfl
  simp (disch := omega) only [VW, VY, VZ, VA, VB, VC, VE, TY, ↓reduceIte, Nat.reduceEqDiff, Nat.reduceAdd, Nat.reduceMul, Nat.reduceSub, Nat.reduceLeDiff, List.length_cons, List.length_nil, List.length_append, List.append_assoc, List.take_succ_cons, List.take_zero, List.drop_succ_cons, List.drop_zero, List.set_cons_zero, List.set_cons_succ, true_or, or_true, and_self, Bool.false_eq_true, Nat.le_refl, Option.bind_some, Option.map_some, Option.getD_some, Option.isSome_some, List.map_cons, List.map_nil, List.cons_append, List.nil_append, List.append_nil, List.getElem?_cons_zero, List.getElem?_cons_succ, eq_self, Int.reduceLT, Int.reduceLE, Int.reduceNeg, Int.reduceEq, ga]
  refine .inl ⟨by kernel_rfl, ?_⟩; refine brLists_c (hxx.mono s.ext) fun vl H E2 rl => ?_
  have s := s.mono E2
  have hl4 : (lists x).length = 4 := rfl
  have len := rl.isRow.len Try.prog
  rw [hl4] at len
  simp (disch := omega) only [VW, VY, VZ, VA, VB, VC, VE, TY, ↓reduceIte, Nat.reduceEqDiff, Nat.reduceAdd, Nat.reduceMul, Nat.reduceSub, Nat.reduceLeDiff, List.length_cons, List.length_nil, List.length_append, List.append_assoc, List.take_succ_cons, List.take_zero, List.drop_succ_cons, List.drop_zero, List.set_cons_zero, List.set_cons_succ, true_or, or_true, and_self, Bool.false_eq_true, Nat.le_refl, Option.bind_some, Option.map_some, Option.getD_some, Option.isSome_some, List.map_cons, List.map_nil, List.cons_append, List.nil_append, List.append_nil, List.getElem?_cons_zero, List.getElem?_cons_succ, eq_self, Int.reduceLT, Int.reduceLE, Int.reduceNeg, Int.reduceEq, len]
  refine loop_rule (fun n e h' => ∃ (j : Nat) (vo : Value), e 13 = vl ∧ e 14 = .int .i64 (4 : Nat) ∧ e 15 = .int .i64 j ∧ e 4 = vo ∧ j ≤ 4 ∧ n = 4 - j ∧ ((lists x).take j).all okL = true ∧ Sep H h' [ownA 39 (((lists x).take j).map valL) vo]) ?_ 4 _ _
    ⟨0, _, rfl, rfl, rfl, rfl, by omega, rfl, by simp, (Sep.nil (.refl H)).nilA _⟩
  rintro n e h' ⟨j, vo, e13, e14, e15, e4, hj, rfl, hok, so⟩
  have rlH := rl
  have rl := rl.mono so.ext
  simp (disch := omega) only [VW, VY, VZ, VA, VB, VC, VE, TY, ↓reduceIte, Nat.reduceEqDiff, Nat.reduceAdd, Nat.reduceMul, Nat.reduceSub, Nat.reduceLeDiff, List.length_cons, List.length_nil, List.length_append, List.append_assoc, List.take_succ_cons, List.take_zero, List.drop_succ_cons, List.drop_zero, List.set_cons_zero, List.set_cons_succ, true_or, or_true, and_self, Bool.false_eq_true, Nat.le_refl, Option.bind_some, Option.map_some, Option.getD_some, Option.isSome_some, List.map_cons, List.map_nil, List.cons_append, List.nil_append, List.append_nil, List.getElem?_cons_zero, List.getElem?_cons_succ, eq_self, Int.reduceLT, Int.reduceLE, Int.reduceNeg, Int.reduceEq, e13, e14, e15]
  by_cases hlt : j < 4
  · obtain ⟨l, hl⟩ := get_some (show j < (lists x).length by omega)
    obtain ⟨v, x3H, rvH⟩ := row_list rlH hl
    have x3 := so.ext.keepC x3H
    have rv := rvH.mono so.ext
    have q1 : (j : Int) < ((4 : Nat) : Int) := by omega
    have q1' : (j : Int) < 4 := by omega
    have ix := rl.isRow.ix Try.prog
    rw [hl4] at ix
    have hle := rv.le
    simp (disch := omega) only [VW, VY, VZ, VA, VB, VC, VE, TY, ↓reduceIte, Nat.reduceEqDiff, Nat.reduceAdd, Nat.reduceMul, Nat.reduceSub, Nat.reduceLeDiff, List.length_cons, List.length_nil, List.length_append, List.append_assoc, List.take_succ_cons, List.take_zero, List.drop_succ_cons, List.drop_zero, List.set_cons_zero, List.set_cons_succ, true_or, or_true, and_self, Bool.false_eq_true, Nat.le_refl, Option.bind_some, Option.map_some, Option.getD_some, Option.isSome_some, List.map_cons, List.map_nil, List.cons_append, List.nil_append, List.append_nil, List.getElem?_cons_zero, List.getElem?_cons_succ, eq_self, Int.reduceLT, Int.reduceLE, Int.reduceNeg, Int.reduceEq, e13, e14, e15, q1, q1', ix, x3, rv.isRow.len]
    have so := so.newBlk [.int .i64 0, .int .i64 0] 39 true
    refine loop_rule (fun n e h2 => ∃ (i : Nat) (d : Dy), e 13 = vl ∧ e 14 = .int .i64 (4 : Nat) ∧ e 15 = .int .i64 j ∧ e 4 = vo ∧ e 7 = .pointer (some ⟨h'.length, 0, none⟩) ∧ e 20 = v ∧ e 21 = .int .i64 l.length ∧ e 22 = .int .i64 i ∧ i ≤ l.length ∧ n = l.length - i ∧
      sumL (some ⟨0, 0⟩) (l.take i) = some d ∧ Sep H h2 [blkA h'.length (dyC d) 39, ownA 39 (((lists x).take j).map valL) vo]) ?_ l.length _ _
      ⟨0, ⟨0, 0⟩, e13, e14, e15, e4, rfl, rfl, rfl, rfl, by omega, rfl, rfl, so⟩
    rintro n e h2 ⟨i, d, e13, e14, e15, e4, e7, e20, e21, e22, hi, rfl, hd, s2⟩
    have rv := rvH.mono s2.ext
    simp (disch := omega) only [VW, VY, VZ, VA, VB, VC, VE, TY, ↓reduceIte, Nat.reduceEqDiff, Nat.reduceAdd, Nat.reduceMul, Nat.reduceSub, Nat.reduceLeDiff, List.length_cons, List.length_nil, List.length_append, List.append_assoc, List.take_succ_cons, List.take_zero, List.drop_succ_cons, List.drop_zero, List.set_cons_zero, List.set_cons_succ, true_or, or_true, and_self, Bool.false_eq_true, Nat.le_refl, Option.bind_some, Option.map_some, Option.getD_some, Option.isSome_some, List.map_cons, List.map_nil, List.cons_append, List.nil_append, List.append_nil, List.getElem?_cons_zero, List.getElem?_cons_succ, eq_self, Int.reduceLT, Int.reduceLE, Int.reduceNeg, Int.reduceEq, e21, e22]
    by_cases hlt2 : i < l.length
    · obtain ⟨y, hy⟩ := get_some hlt2
      have q2 : (i : Int) < (l.length : Int) := by omega
      have hby := (work_box' hw l (List.mem_of_getElem? hl)) y (List.mem_of_getElem? hy)
      have py := rv.ptr hy
      rw [Bx.sz] at py
      obtain ⟨w1, w2, y0, y1, y2, t1, t2, t3, ya⟩ := at_Bx py
      have hyh : Here h2 y [.int .i64 y.k, w1, w2] := mk_Bx t1 t2 t3
      simp (disch := omega) only [VW, VY, VZ, VA, VB, VC, VE, TY, ↓reduceIte, Nat.reduceEqDiff, Nat.reduceAdd, Nat.reduceMul, Nat.reduceSub, Nat.reduceLeDiff, List.length_cons, List.length_nil, List.length_append, List.append_assoc, List.take_succ_cons, List.take_zero, List.drop_succ_cons, List.drop_zero, List.set_cons_zero, List.set_cons_succ, true_or, or_true, and_self, Bool.false_eq_true, Nat.le_refl, Option.bind_some, Option.map_some, Option.getD_some, Option.isSome_some, List.map_cons, List.map_nil, List.cons_append, List.nil_append, List.append_nil, List.getElem?_cons_zero, List.getElem?_cons_succ, eq_self, Int.reduceLT, Int.reduceLE, Int.reduceNeg, Int.reduceEq, e20, e22, q2, rv.isRow.ix, ya]
      have s2 := s2.newBlk [.int .i64 y.k, w1, w2] 42 true
      have gd := (s2.pull 1 rfl).rdAll (n := 2) rfl
      have gy := (s2.pull 0 rfl).rdAll (n := 3) rfl
      have hyh2 := hyh.mono (Ext.one h2 (some ⟨[.int .i64 y.k, w1, w2], 42, false, true⟩))
      have hgd := makeM_good0 hd
      have hvg := (volM_eq hby).2
      refine draw_tail [0, 1] [2, 3, 4, 5, 6, 7, 8, 9] (by kernel_rfl) (by simp only [List.filterMap_cons, List.filterMap_nil, List.getElem?_cons_zero, List.getElem?_cons_succ]; rfl) ?_
      simp (disch := omega) only [VW, VY, VZ, VA, VB, VC, VE, TY, ↓reduceIte, Nat.reduceEqDiff, Nat.reduceAdd, Nat.reduceMul, Nat.reduceSub, Nat.reduceLeDiff, List.length_cons, List.length_nil, List.length_append, List.append_assoc, List.take_succ_cons, List.take_zero, List.drop_succ_cons, List.drop_zero, List.set_cons_zero, List.set_cons_succ, true_or, or_true, and_self, Bool.false_eq_true, Nat.le_refl, Option.bind_some, Option.map_some, Option.getD_some, Option.isSome_some, List.map_cons, List.map_nil, List.cons_append, List.nil_append, List.append_nil, List.getElem?_cons_zero, List.getElem?_cons_succ, eq_self, Int.reduceLT, Int.reduceLE, Int.reduceNeg, Int.reduceEq, e7, gd, gy]
      refine tail_step [(2, [], [3, 4, 5, 6, 7, 8, 9], false), (7, [], [2, 3, 4, 5, 6, 8, 9], false)] (by kernel_rfl) (by kernel_rfl) (a_cons (by simp only [List.filterMap_cons, List.filterMap_nil, List.getElem?_cons_zero, List.getElem?_cons_succ]; rfl) (by kernel_rfl) ?_ (a_cons (by simp only [List.filterMap_cons, List.filterMap_nil, List.getElem?_cons_zero, List.getElem?_cons_succ]; rfl) (by kernel_rfl) ?_ trivial))
      · simp (disch := omega) only [VW, VY, VZ, VA, VB, VC, VE, TY, ↓reduceIte, Nat.reduceEqDiff, Nat.reduceAdd, Nat.reduceMul, Nat.reduceSub, Nat.reduceLeDiff, List.length_cons, List.length_nil, List.length_append, List.append_assoc, List.take_succ_cons, List.take_zero, List.drop_succ_cons, List.drop_zero, List.set_cons_zero, List.set_cons_succ, true_or, or_true, and_self, Bool.false_eq_true, Nat.le_refl, Option.bind_some, Option.map_some, Option.getD_some, Option.isSome_some, List.map_cons, List.map_nil, List.cons_append, List.nil_append, List.append_nil, List.getElem?_cons_zero, List.getElem?_cons_succ, eq_self, Int.reduceLT, Int.reduceLE, Int.reduceNeg, Int.reduceEq, gd, gy]
        refine .inl ⟨by kernel_rfl, ?_⟩; refine bxVolume_c hyh2 hby fun h3 E3 => ?_
        have s3 := s2.mono E3
        have gd := (s3.pull 1 rfl).rdAll (n := 2) rfl
        have gy := (s3.pull 0 rfl).rdAll (n := 3) rfl
        simp (disch := omega) only [VW, VY, VZ, VA, VB, VC, VE, TY, ↓reduceIte, Nat.reduceEqDiff, Nat.reduceAdd, Nat.reduceMul, Nat.reduceSub, Nat.reduceLeDiff, List.length_cons, List.length_nil, List.length_append, List.append_assoc, List.take_succ_cons, List.take_zero, List.drop_succ_cons, List.drop_zero, List.set_cons_zero, List.set_cons_succ, true_or, or_true, and_self, Bool.false_eq_true, Nat.le_refl, Option.bind_some, Option.map_some, Option.getD_some, Option.isSome_some, List.map_cons, List.map_nil, List.cons_append, List.nil_append, List.append_nil, List.getElem?_cons_zero, List.getElem?_cons_succ, eq_self, Int.reduceLT, Int.reduceLE, Int.reduceNeg, Int.reduceEq, gd, gy]
        refine tail_step [(3, [4, 5, 6], [7, 8, 9], true), (7, [], [3, 4, 5, 6, 8, 9], false)] (by kernel_rfl) (by kernel_rfl) (a_cut (by simp only [List.filterMap_cons, List.filterMap_nil, List.getElem?_cons_zero, List.getElem?_cons_succ]; rfl) (by kernel_rfl) ?_ (a_cons (by simp only [List.filterMap_cons, List.filterMap_nil, List.getElem?_cons_zero, List.getElem?_cons_succ]; rfl) (by kernel_rfl) ?_ trivial))
        · simp (disch := omega) only [VW, VY, VZ, VA, VB, VC, VE, TY, ↓reduceIte, Nat.reduceEqDiff, Nat.reduceAdd, Nat.reduceMul, Nat.reduceSub, Nat.reduceLeDiff, List.length_cons, List.length_nil, List.length_append, List.append_assoc, List.take_succ_cons, List.take_zero, List.drop_succ_cons, List.drop_zero, List.set_cons_zero, List.set_cons_succ, true_or, or_true, and_self, Bool.false_eq_true, Nat.le_refl, Option.bind_some, Option.map_some, Option.getD_some, Option.isSome_some, List.map_cons, List.map_nil, List.cons_append, List.nil_append, List.append_nil, List.getElem?_cons_zero, List.getElem?_cons_succ, eq_self, Int.reduceLT, Int.reduceLE, Int.reduceNeg, Int.reduceEq, gd, gy]
          refine .inl ⟨by kernel_rfl, ?_⟩; refine dyAdd_c hgd hvg fun h4 E4 => ?_
          have s4 := s3.mono E4
          cases hac : sumM' d (volM y) with
          | none =>
            have hst : sumL (some ⟨0, 0⟩) (l.take (i + 1)) = none := by rw [sumL_take hy, hd]; exact hac
            have hno : ¬ (lists x).all okL = true := by
              intro hall
              have := List.all_eq_true.1 hall l (List.mem_of_getElem? hl)
              unfold okL at this
              rw [sumL_stop hst] at this
              cases this
            unfold volsR at hQ
            rw [if_neg hno] at hQ
            rw [show optV none = .tuple #[.agg (dyC ⟨0, 0⟩).toArray, .bool false] from rfl]
            simp (disch := omega) only [VW, VY, VZ, VA, VB, VC, VE, TY, ↓reduceIte, Nat.reduceEqDiff, Nat.reduceAdd, Nat.reduceMul, Nat.reduceSub, Nat.reduceLeDiff, List.length_cons, List.length_nil, List.length_append, List.append_assoc, List.take_succ_cons, List.take_zero, List.drop_succ_cons, List.drop_zero, List.set_cons_zero, List.set_cons_succ, true_or, or_true, and_self, Bool.false_eq_true, Nat.le_refl, Option.bind_some, Option.map_some, Option.getD_some, Option.isSome_some, List.map_cons, List.map_nil, List.cons_append, List.nil_append, List.append_nil, List.getElem?_cons_zero, List.getElem?_cons_succ, eq_self, Int.reduceLT, Int.reduceLE, Int.reduceNeg, Int.reduceEq]
            refine tail_step [(7, [], [8, 9], false)] (by kernel_rfl) (by kernel_rfl) (a_cons (by simp only [List.filterMap_cons, List.filterMap_nil, List.getElem?_cons_zero, List.getElem?_cons_succ]; rfl) (by kernel_rfl) ?_ trivial)
            simp (disch := omega) only [VW, VY, VZ, VA, VB, VC, VE, TY, ↓reduceIte, Nat.reduceEqDiff, Nat.reduceAdd, Nat.reduceMul, Nat.reduceSub, Nat.reduceLeDiff, List.length_cons, List.length_nil, List.length_append, List.append_assoc, List.take_succ_cons, List.take_zero, List.drop_succ_cons, List.drop_zero, List.set_cons_zero, List.set_cons_succ, true_or, or_true, and_self, Bool.false_eq_true, Nat.le_refl, Option.bind_some, Option.map_some, Option.getD_some, Option.isSome_some, List.map_cons, List.map_nil, List.cons_append, List.nil_append, List.append_nil, List.getElem?_cons_zero, List.getElem?_cons_succ, eq_self, Int.reduceLT, Int.reduceLE, Int.reduceNeg, Int.reduceEq]
            refine tail_step [(8, [9], [], false)] (by kernel_rfl) (by kernel_rfl) (a_cons (by simp only [List.filterMap_cons, List.filterMap_nil, List.getElem?_cons_zero, List.getElem?_cons_succ]; rfl) (by kernel_rfl) ?_ trivial)
            simp (disch := omega) only [VW, VY, VZ, VA, VB, VC, VE, TY, ↓reduceIte, Nat.reduceEqDiff, Nat.reduceAdd, Nat.reduceMul, Nat.reduceSub, Nat.reduceLeDiff, List.length_cons, List.length_nil, List.length_append, List.append_assoc, List.take_succ_cons, List.take_zero, List.drop_succ_cons, List.drop_zero, List.set_cons_zero, List.set_cons_succ, true_or, or_true, and_self, Bool.false_eq_true, Nat.le_refl, Option.bind_some, Option.map_some, Option.getD_some, Option.isSome_some, List.map_cons, List.map_nil, List.cons_append, List.nil_append, List.append_nil, List.getElem?_cons_zero, List.getElem?_cons_succ, eq_self, Int.reduceLT, Int.reduceLE, Int.reduceNeg, Int.reduceEq]
            exact hQ _ _ ((Sep.nil ((s.ext.trans s4.ext).trans (.one _ _))).nilA _)
          | some d' =>
            have hst : sumL (some ⟨0, 0⟩) (l.take (i + 1)) = some d' := by rw [sumL_take hy, hd]; exact hac
            rw [show optV (some d') = .tuple #[.agg (dyC d').toArray, .bool true] from rfl]
            simp (disch := omega) only [VW, VY, VZ, VA, VB, VC, VE, TY, ↓reduceIte, Nat.reduceEqDiff, Nat.reduceAdd, Nat.reduceMul, Nat.reduceSub, Nat.reduceLeDiff, List.length_cons, List.length_nil, List.length_append, List.append_assoc, List.take_succ_cons, List.take_zero, List.drop_succ_cons, List.drop_zero, List.set_cons_zero, List.set_cons_succ, true_or, or_true, and_self, Bool.false_eq_true, Nat.le_refl, Option.bind_some, Option.map_some, Option.getD_some, Option.isSome_some, List.map_cons, List.map_nil, List.cons_append, List.nil_append, List.append_nil, List.getElem?_cons_zero, List.getElem?_cons_succ, eq_self, Int.reduceLT, Int.reduceLE, Int.reduceNeg, Int.reduceEq]
            refine tail_step [(7, [], [8, 9], false)] (by kernel_rfl) (by kernel_rfl) (a_cons (by simp only [List.filterMap_cons, List.filterMap_nil, List.getElem?_cons_zero, List.getElem?_cons_succ]; rfl) (by kernel_rfl) ?_ trivial)
            simp (disch := omega) only [VW, VY, VZ, VA, VB, VC, VE, TY, ↓reduceIte, Nat.reduceEqDiff, Nat.reduceAdd, Nat.reduceMul, Nat.reduceSub, Nat.reduceLeDiff, List.length_cons, List.length_nil, List.length_append, List.append_assoc, List.take_succ_cons, List.take_zero, List.drop_succ_cons, List.drop_zero, List.set_cons_zero, List.set_cons_succ, true_or, or_true, and_self, Bool.false_eq_true, Nat.le_refl, Option.bind_some, Option.map_some, Option.getD_some, Option.isSome_some, List.map_cons, List.map_nil, List.cons_append, List.nil_append, List.append_nil, List.getElem?_cons_zero, List.getElem?_cons_succ, eq_self, Int.reduceLT, Int.reduceLE, Int.reduceNeg, Int.reduceEq]
            refine tail_step [(8, [9], [], false)] (by kernel_rfl) (by kernel_rfl) (a_cons (by simp only [List.filterMap_cons, List.filterMap_nil, List.getElem?_cons_zero, List.getElem?_cons_succ]; rfl) (by kernel_rfl) ?_ trivial)
            simp (disch := omega) only [VW, VY, VZ, VA, VB, VC, VE, TY, ↓reduceIte, Nat.reduceEqDiff, Nat.reduceAdd, Nat.reduceMul, Nat.reduceSub, Nat.reduceLeDiff, List.length_cons, List.length_nil, List.length_append, List.append_assoc, List.take_succ_cons, List.take_zero, List.drop_succ_cons, List.drop_zero, List.set_cons_zero, List.set_cons_succ, true_or, or_true, and_self, Bool.false_eq_true, Nat.le_refl, Option.bind_some, Option.map_some, Option.getD_some, Option.isSome_some, List.map_cons, List.map_nil, List.cons_append, List.nil_append, List.append_nil, List.getElem?_cons_zero, List.getElem?_cons_succ, eq_self, Int.reduceLT, Int.reduceLE, Int.reduceNeg, Int.reduceEq]
            have s5 := s4.newBlk (dyC d') 39 true
            have gn := (s5.pull 0 rfl).rdAll (n := 2) rfl
            simp (disch := omega) only [VW, VY, VZ, VA, VB, VC, VE, TY, ↓reduceIte, Nat.reduceEqDiff, Nat.reduceAdd, Nat.reduceMul, Nat.reduceSub, Nat.reduceLeDiff, List.length_cons, List.length_nil, List.length_append, List.append_assoc, List.take_succ_cons, List.take_zero, List.drop_succ_cons, List.drop_zero, List.set_cons_zero, List.set_cons_succ, true_or, or_true, and_self, Bool.false_eq_true, Nat.le_refl, Option.bind_some, Option.map_some, Option.getD_some, Option.isSome_some, List.map_cons, List.map_nil, List.cons_append, List.nil_append, List.append_nil, List.getElem?_cons_zero, List.getElem?_cons_succ, eq_self, Int.reduceLT, Int.reduceLE, Int.reduceNeg, Int.reduceEq, gn, e7]
            refine sep_store (s5.pull 2 rfl) (by simp) fun h6 s6 => ?_
            have s6 := s6.as (ds := dyC d') (by simp [t_put])
            simp (disch := omega) only [VW, VY, VZ, VA, VB, VC, VE, TY, ↓reduceIte, Nat.reduceEqDiff, Nat.reduceAdd, Nat.reduceMul, Nat.reduceSub, Nat.reduceLeDiff, List.length_cons, List.length_nil, List.length_append, List.append_assoc, List.take_succ_cons, List.take_zero, List.drop_succ_cons, List.drop_zero, List.set_cons_zero, List.set_cons_succ, true_or, or_true, and_self, Bool.false_eq_true, Nat.le_refl, Option.bind_some, Option.map_some, Option.getD_some, Option.isSome_some, List.map_cons, List.map_nil, List.cons_append, List.nil_append, List.append_nil, List.getElem?_cons_zero, List.getElem?_cons_succ, eq_self, Int.reduceLT, Int.reduceLE, Int.reduceNeg, Int.reduceEq, e13, e14, e15, e4, e7, e20, e21, e22, wrap_in]
            exact ⟨_, by omega, i + 1, d', by simp, by omega, rfl, hst, s6.swap.tail.swap.tail⟩
        · have s3z := s3.newBlk [.int .i64 0, .int .i64 0] 39 true
          have gdz := (s3z.pull 2 rfl).rdAll (n := 2) rfl
          have gyz := (s3z.pull 1 rfl).rdAll (n := 3) rfl
          simp (disch := omega) only [VW, VY, VZ, VA, VB, VC, VE, TY, ↓reduceIte, Nat.reduceEqDiff, Nat.reduceAdd, Nat.reduceMul, Nat.reduceSub, Nat.reduceLeDiff, List.length_cons, List.length_nil, List.length_append, List.append_assoc, List.take_succ_cons, List.take_zero, List.drop_succ_cons, List.drop_zero, List.set_cons_zero, List.set_cons_succ, true_or, or_true, and_self, Bool.false_eq_true, Nat.le_refl, Option.bind_some, Option.map_some, Option.getD_some, Option.isSome_some, List.map_cons, List.map_nil, List.cons_append, List.nil_append, List.append_nil, List.getElem?_cons_zero, List.getElem?_cons_succ, eq_self, Int.reduceLT, Int.reduceLE, Int.reduceNeg, Int.reduceEq, gd, gy, gdz, gyz]
          refine tail_step [(3, [4, 5, 6], [8, 9], false)] (by kernel_rfl) (by kernel_rfl) (a_cons (by simp only [List.filterMap_cons, List.filterMap_nil, List.getElem?_cons_zero, List.getElem?_cons_succ]; rfl) (by kernel_rfl) ?_ trivial)
          simp (disch := omega) only [VW, VY, VZ, VA, VB, VC, VE, TY, ↓reduceIte, Nat.reduceEqDiff, Nat.reduceAdd, Nat.reduceMul, Nat.reduceSub, Nat.reduceLeDiff, List.length_cons, List.length_nil, List.length_append, List.append_assoc, List.take_succ_cons, List.take_zero, List.drop_succ_cons, List.drop_zero, List.set_cons_zero, List.set_cons_succ, true_or, or_true, and_self, Bool.false_eq_true, Nat.le_refl, Option.bind_some, Option.map_some, Option.getD_some, Option.isSome_some, List.map_cons, List.map_nil, List.cons_append, List.nil_append, List.append_nil, List.getElem?_cons_zero, List.getElem?_cons_succ, eq_self, Int.reduceLT, Int.reduceLE, Int.reduceNeg, Int.reduceEq, gd, gy, gdz, gyz]
          refine .inl ⟨by kernel_rfl, ?_⟩; refine dyAdd_c hgd hvg fun h4 E4 => ?_
          have s4 := s3z.mono E4
          have g4d := (s4.pull 2 rfl).rdAll (n := 2) rfl
          have g4y := (s4.pull 1 rfl).rdAll (n := 3) rfl
          cases hac : sumM' d (volM y) with
          | none =>
            have hst : sumL (some ⟨0, 0⟩) (l.take (i + 1)) = none := by rw [sumL_take hy, hd]; exact hac
            have hno : ¬ (lists x).all okL = true := by
              intro hall
              have := List.all_eq_true.1 hall l (List.mem_of_getElem? hl)
              unfold okL at this
              rw [sumL_stop hst] at this
              cases this
            unfold volsR at hQ
            rw [if_neg hno] at hQ
            rw [show optV none = .tuple #[.agg (dyC ⟨0, 0⟩).toArray, .bool false] from rfl]
            simp (disch := omega) only [VW, VY, VZ, VA, VB, VC, VE, TY, ↓reduceIte, Nat.reduceEqDiff, Nat.reduceAdd, Nat.reduceMul, Nat.reduceSub, Nat.reduceLeDiff, List.length_cons, List.length_nil, List.length_append, List.append_assoc, List.take_succ_cons, List.take_zero, List.drop_succ_cons, List.drop_zero, List.set_cons_zero, List.set_cons_succ, true_or, or_true, and_self, Bool.false_eq_true, Nat.le_refl, Option.bind_some, Option.map_some, Option.getD_some, Option.isSome_some, List.map_cons, List.map_nil, List.cons_append, List.nil_append, List.append_nil, List.getElem?_cons_zero, List.getElem?_cons_succ, eq_self, Int.reduceLT, Int.reduceLE, Int.reduceNeg, Int.reduceEq, g4d, g4y]
            refine tail_step [(8, [9], [], false)] (by kernel_rfl) (by kernel_rfl) (a_cons (by simp only [List.filterMap_cons, List.filterMap_nil, List.getElem?_cons_zero, List.getElem?_cons_succ]; rfl) (by kernel_rfl) ?_ trivial)
            simp (disch := omega) only [VW, VY, VZ, VA, VB, VC, VE, TY, ↓reduceIte, Nat.reduceEqDiff, Nat.reduceAdd, Nat.reduceMul, Nat.reduceSub, Nat.reduceLeDiff, List.length_cons, List.length_nil, List.length_append, List.append_assoc, List.take_succ_cons, List.take_zero, List.drop_succ_cons, List.drop_zero, List.set_cons_zero, List.set_cons_succ, true_or, or_true, and_self, Bool.false_eq_true, Nat.le_refl, Option.bind_some, Option.map_some, Option.getD_some, Option.isSome_some, List.map_cons, List.map_nil, List.cons_append, List.nil_append, List.append_nil, List.getElem?_cons_zero, List.getElem?_cons_succ, eq_self, Int.reduceLT, Int.reduceLE, Int.reduceNeg, Int.reduceEq, g4d, g4y]
            refine sep_store s4 (by simp) fun h5 s5 => ?_
            have s5 := s5.as (ds := dyC ⟨0, 0⟩) (by simp [t_put])
            have g5d := (s5.pull 2 rfl).rdAll (n := 2) rfl
            have g5y := (s5.pull 1 rfl).rdAll (n := 3) rfl
            simp (disch := omega) only [VW, VY, VZ, VA, VB, VC, VE, TY, ↓reduceIte, Nat.reduceEqDiff, Nat.reduceAdd, Nat.reduceMul, Nat.reduceSub, Nat.reduceLeDiff, List.length_cons, List.length_nil, List.length_append, List.append_assoc, List.take_succ_cons, List.take_zero, List.drop_succ_cons, List.drop_zero, List.set_cons_zero, List.set_cons_succ, true_or, or_true, and_self, Bool.false_eq_true, Nat.le_refl, Option.bind_some, Option.map_some, Option.getD_some, Option.isSome_some, List.map_cons, List.map_nil, List.cons_append, List.nil_append, List.append_nil, List.getElem?_cons_zero, List.getElem?_cons_succ, eq_self, Int.reduceLT, Int.reduceLE, Int.reduceNeg, Int.reduceEq, g5d, g5y]
            exact hQ _ _ ((Sep.nil (s.ext.trans s5.ext)).nilA _)
          | some d' =>
            have hst : sumL (some ⟨0, 0⟩) (l.take (i + 1)) = some d' := by rw [sumL_take hy, hd]; exact hac
            rw [show optV (some d') = .tuple #[.agg (dyC d').toArray, .bool true] from rfl]
            simp (disch := omega) only [VW, VY, VZ, VA, VB, VC, VE, TY, ↓reduceIte, Nat.reduceEqDiff, Nat.reduceAdd, Nat.reduceMul, Nat.reduceSub, Nat.reduceLeDiff, List.length_cons, List.length_nil, List.length_append, List.append_assoc, List.take_succ_cons, List.take_zero, List.drop_succ_cons, List.drop_zero, List.set_cons_zero, List.set_cons_succ, true_or, or_true, and_self, Bool.false_eq_true, Nat.le_refl, Option.bind_some, Option.map_some, Option.getD_some, Option.isSome_some, List.map_cons, List.map_nil, List.cons_append, List.nil_append, List.append_nil, List.getElem?_cons_zero, List.getElem?_cons_succ, eq_self, Int.reduceLT, Int.reduceLE, Int.reduceNeg, Int.reduceEq, g4d, g4y]
            refine tail_step [(8, [9], [], false)] (by kernel_rfl) (by kernel_rfl) (a_cons (by simp only [List.filterMap_cons, List.filterMap_nil, List.getElem?_cons_zero, List.getElem?_cons_succ]; rfl) (by kernel_rfl) ?_ trivial)
            simp (disch := omega) only [VW, VY, VZ, VA, VB, VC, VE, TY, ↓reduceIte, Nat.reduceEqDiff, Nat.reduceAdd, Nat.reduceMul, Nat.reduceSub, Nat.reduceLeDiff, List.length_cons, List.length_nil, List.length_append, List.append_assoc, List.take_succ_cons, List.take_zero, List.drop_succ_cons, List.drop_zero, List.set_cons_zero, List.set_cons_succ, true_or, or_true, and_self, Bool.false_eq_true, Nat.le_refl, Option.bind_some, Option.map_some, Option.getD_some, Option.isSome_some, List.map_cons, List.map_nil, List.cons_append, List.nil_append, List.append_nil, List.getElem?_cons_zero, List.getElem?_cons_succ, eq_self, Int.reduceLT, Int.reduceLE, Int.reduceNeg, Int.reduceEq, g4d, g4y]
            refine sep_store s4 (by simp) fun h5 s5 => ?_
            have s5 := s5.as (ds := dyC d') (by simp [t_put])
            have g5d := (s5.pull 2 rfl).rdAll (n := 2) rfl
            have g5y := (s5.pull 1 rfl).rdAll (n := 3) rfl
            simp (disch := omega) only [VW, VY, VZ, VA, VB, VC, VE, TY, ↓reduceIte, Nat.reduceEqDiff, Nat.reduceAdd, Nat.reduceMul, Nat.reduceSub, Nat.reduceLeDiff, List.length_cons, List.length_nil, List.length_append, List.append_assoc, List.take_succ_cons, List.take_zero, List.drop_succ_cons, List.drop_zero, List.set_cons_zero, List.set_cons_succ, true_or, or_true, and_self, Bool.false_eq_true, Nat.le_refl, Option.bind_some, Option.map_some, Option.getD_some, Option.isSome_some, List.map_cons, List.map_nil, List.cons_append, List.nil_append, List.append_nil, List.getElem?_cons_zero, List.getElem?_cons_succ, eq_self, Int.reduceLT, Int.reduceLE, Int.reduceNeg, Int.reduceEq, g5d, g5y]
            have gn := (s5.pull 0 rfl).rdAll (n := 2) rfl
            simp (disch := omega) only [VW, VY, VZ, VA, VB, VC, VE, TY, ↓reduceIte, Nat.reduceEqDiff, Nat.reduceAdd, Nat.reduceMul, Nat.reduceSub, Nat.reduceLeDiff, List.length_cons, List.length_nil, List.length_append, List.append_assoc, List.take_succ_cons, List.take_zero, List.drop_succ_cons, List.drop_zero, List.set_cons_zero, List.set_cons_succ, true_or, or_true, and_self, Bool.false_eq_true, Nat.le_refl, Option.bind_some, Option.map_some, Option.getD_some, Option.isSome_some, List.map_cons, List.map_nil, List.cons_append, List.nil_append, List.append_nil, List.getElem?_cons_zero, List.getElem?_cons_succ, eq_self, Int.reduceLT, Int.reduceLE, Int.reduceNeg, Int.reduceEq, gn, e7]
            refine sep_store (s5.pull 2 rfl) (by simp) fun h6 s6 => ?_
            have s6 := s6.as (ds := dyC d') (by simp [t_put])
            simp (disch := omega) only [VW, VY, VZ, VA, VB, VC, VE, TY, ↓reduceIte, Nat.reduceEqDiff, Nat.reduceAdd, Nat.reduceMul, Nat.reduceSub, Nat.reduceLeDiff, List.length_cons, List.length_nil, List.length_append, List.append_assoc, List.take_succ_cons, List.take_zero, List.drop_succ_cons, List.drop_zero, List.set_cons_zero, List.set_cons_succ, true_or, or_true, and_self, Bool.false_eq_true, Nat.le_refl, Option.bind_some, Option.map_some, Option.getD_some, Option.isSome_some, List.map_cons, List.map_nil, List.cons_append, List.nil_append, List.append_nil, List.getElem?_cons_zero, List.getElem?_cons_succ, eq_self, Int.reduceLT, Int.reduceLE, Int.reduceNeg, Int.reduceEq, e13, e14, e15, e4, e7, e20, e21, e22, wrap_in]
            exact ⟨_, by omega, i + 1, d', by simp, by omega, rfl, hst, s6.swap.tail.swap.tail⟩
      · have s2z := s2.newBlk [.int .i64 0, .int .i64 0] 39 true
        have e1 : (h2 ++ [some (⟨[.int .i64 y.k, w1, w2], 42, false, true⟩ : Blk)]) ++ [some ⟨[.int .i64 0, .int .i64 0], 39, false, true⟩] = h2 ++ [some ⟨[.int .i64 y.k, w1, w2], 42, false, true⟩, some ⟨[.int .i64 0, .int .i64 0], 39, false, true⟩] := by simp
        have e2 : (h2 ++ [some (⟨[.int .i64 y.k, w1, w2], 42, false, true⟩ : Blk)]).length = h2.length + 1 := by simp
        rw [e1, e2] at s2z
        have gd2 := (s2z.pull 2 rfl).rdAll (n := 2) rfl
        have gy2 := (s2z.pull 1 rfl).rdAll (n := 3) rfl
        have hyh3 := hyh.mono (Ext.app h2 [some ⟨[.int .i64 y.k, w1, w2], 42, false, true⟩, some ⟨[.int .i64 0, .int .i64 0], 39, false, true⟩])
        simp (disch := omega) only [VW, VY, VZ, VA, VB, VC, VE, TY, ↓reduceIte, Nat.reduceEqDiff, Nat.reduceAdd, Nat.reduceMul, Nat.reduceSub, Nat.reduceLeDiff, List.length_cons, List.length_nil, List.length_append, List.append_assoc, List.take_succ_cons, List.take_zero, List.drop_succ_cons, List.drop_zero, List.set_cons_zero, List.set_cons_succ, true_or, or_true, and_self, Bool.false_eq_true, Nat.le_refl, Option.bind_some, Option.map_some, Option.getD_some, Option.isSome_some, List.map_cons, List.map_nil, List.cons_append, List.nil_append, List.append_nil, List.getElem?_cons_zero, List.getElem?_cons_succ, eq_self, Int.reduceLT, Int.reduceLE, Int.reduceNeg, Int.reduceEq, gd, gy, gd2, gy2]
        refine tail_step [(2, [], [3, 4, 5, 6, 8, 9], false)] (by kernel_rfl) (by kernel_rfl) (a_cons (by simp only [List.filterMap_cons, List.filterMap_nil, List.getElem?_cons_zero, List.getElem?_cons_succ]; rfl) (by kernel_rfl) ?_ trivial)
        simp (disch := omega) only [VW, VY, VZ, VA, VB, VC, VE, TY, ↓reduceIte, Nat.reduceEqDiff, Nat.reduceAdd, Nat.reduceMul, Nat.reduceSub, Nat.reduceLeDiff, List.length_cons, List.length_nil, List.length_append, List.append_assoc, List.take_succ_cons, List.take_zero, List.drop_succ_cons, List.drop_zero, List.set_cons_zero, List.set_cons_succ, true_or, or_true, and_self, Bool.false_eq_true, Nat.le_refl, Option.bind_some, Option.map_some, Option.getD_some, Option.isSome_some, List.map_cons, List.map_nil, List.cons_append, List.nil_append, List.append_nil, List.getElem?_cons_zero, List.getElem?_cons_succ, eq_self, Int.reduceLT, Int.reduceLE, Int.reduceNeg, Int.reduceEq, gd, gy, gd2, gy2]
        refine .inl ⟨by kernel_rfl, ?_⟩; refine bxVolume_c hyh3 hby fun h3 E3 => ?_
        have s3 := s2z.mono E3
        have gd3 := (s3.pull 2 rfl).rdAll (n := 2) rfl
        have gy3 := (s3.pull 1 rfl).rdAll (n := 3) rfl
        simp (disch := omega) only [VW, VY, VZ, VA, VB, VC, VE, TY, ↓reduceIte, Nat.reduceEqDiff, Nat.reduceAdd, Nat.reduceMul, Nat.reduceSub, Nat.reduceLeDiff, List.length_cons, List.length_nil, List.length_append, List.append_assoc, List.take_succ_cons, List.take_zero, List.drop_succ_cons, List.drop_zero, List.set_cons_zero, List.set_cons_succ, true_or, or_true, and_self, Bool.false_eq_true, Nat.le_refl, Option.bind_some, Option.map_some, Option.getD_some, Option.isSome_some, List.map_cons, List.map_nil, List.cons_append, List.nil_append, List.append_nil, List.getElem?_cons_zero, List.getElem?_cons_succ, eq_self, Int.reduceLT, Int.reduceLE, Int.reduceNeg, Int.reduceEq, gd3, gy3]
        refine tail_step [(3, [4, 5, 6], [8, 9], false)] (by kernel_rfl) (by kernel_rfl) (a_cons (by simp only [List.filterMap_cons, List.filterMap_nil, List.getElem?_cons_zero, List.getElem?_cons_succ]; rfl) (by kernel_rfl) ?_ trivial)
        simp (disch := omega) only [VW, VY, VZ, VA, VB, VC, VE, TY, ↓reduceIte, Nat.reduceEqDiff, Nat.reduceAdd, Nat.reduceMul, Nat.reduceSub, Nat.reduceLeDiff, List.length_cons, List.length_nil, List.length_append, List.append_assoc, List.take_succ_cons, List.take_zero, List.drop_succ_cons, List.drop_zero, List.set_cons_zero, List.set_cons_succ, true_or, or_true, and_self, Bool.false_eq_true, Nat.le_refl, Option.bind_some, Option.map_some, Option.getD_some, Option.isSome_some, List.map_cons, List.map_nil, List.cons_append, List.nil_append, List.append_nil, List.getElem?_cons_zero, List.getElem?_cons_succ, eq_self, Int.reduceLT, Int.reduceLE, Int.reduceNeg, Int.reduceEq, gd3, gy3]
        refine .inl ⟨by kernel_rfl, ?_⟩; refine dyAdd_c hgd hvg fun h4 E4 => ?_
        have s4 := s3.mono E4
        have g4d := (s4.pull 2 rfl).rdAll (n := 2) rfl
        have g4y := (s4.pull 1 rfl).rdAll (n := 3) rfl
        cases hac : sumM' d (volM y) with
        | none =>
          have hst : sumL (some ⟨0, 0⟩) (l.take (i + 1)) = none := by rw [sumL_take hy, hd]; exact hac
          have hno : ¬ (lists x).all okL = true := by
            intro hall
            have := List.all_eq_true.1 hall l (List.mem_of_getElem? hl)
            unfold okL at this
            rw [sumL_stop hst] at this
            cases this
          unfold volsR at hQ
          rw [if_neg hno] at hQ
          rw [show optV none = .tuple #[.agg (dyC ⟨0, 0⟩).toArray, .bool false] from rfl]
          simp (disch := omega) only [VW, VY, VZ, VA, VB, VC, VE, TY, ↓reduceIte, Nat.reduceEqDiff, Nat.reduceAdd, Nat.reduceMul, Nat.reduceSub, Nat.reduceLeDiff, List.length_cons, List.length_nil, List.length_append, List.append_assoc, List.take_succ_cons, List.take_zero, List.drop_succ_cons, List.drop_zero, List.set_cons_zero, List.set_cons_succ, true_or, or_true, and_self, Bool.false_eq_true, Nat.le_refl, Option.bind_some, Option.map_some, Option.getD_some, Option.isSome_some, List.map_cons, List.map_nil, List.cons_append, List.nil_append, List.append_nil, List.getElem?_cons_zero, List.getElem?_cons_succ, eq_self, Int.reduceLT, Int.reduceLE, Int.reduceNeg, Int.reduceEq, g4d, g4y]
          refine tail_step [(8, [9], [], false)] (by kernel_rfl) (by kernel_rfl) (a_cons (by simp only [List.filterMap_cons, List.filterMap_nil, List.getElem?_cons_zero, List.getElem?_cons_succ]; rfl) (by kernel_rfl) ?_ trivial)
          simp (disch := omega) only [VW, VY, VZ, VA, VB, VC, VE, TY, ↓reduceIte, Nat.reduceEqDiff, Nat.reduceAdd, Nat.reduceMul, Nat.reduceSub, Nat.reduceLeDiff, List.length_cons, List.length_nil, List.length_append, List.append_assoc, List.take_succ_cons, List.take_zero, List.drop_succ_cons, List.drop_zero, List.set_cons_zero, List.set_cons_succ, true_or, or_true, and_self, Bool.false_eq_true, Nat.le_refl, Option.bind_some, Option.map_some, Option.getD_some, Option.isSome_some, List.map_cons, List.map_nil, List.cons_append, List.nil_append, List.append_nil, List.getElem?_cons_zero, List.getElem?_cons_succ, eq_self, Int.reduceLT, Int.reduceLE, Int.reduceNeg, Int.reduceEq, g4d, g4y]
          refine sep_store s4 (by simp) fun h5 s5 => ?_
          have s5 := s5.as (ds := dyC ⟨0, 0⟩) (by simp [t_put])
          have g5d := (s5.pull 2 rfl).rdAll (n := 2) rfl
          have g5y := (s5.pull 1 rfl).rdAll (n := 3) rfl
          simp (disch := omega) only [VW, VY, VZ, VA, VB, VC, VE, TY, ↓reduceIte, Nat.reduceEqDiff, Nat.reduceAdd, Nat.reduceMul, Nat.reduceSub, Nat.reduceLeDiff, List.length_cons, List.length_nil, List.length_append, List.append_assoc, List.take_succ_cons, List.take_zero, List.drop_succ_cons, List.drop_zero, List.set_cons_zero, List.set_cons_succ, true_or, or_true, and_self, Bool.false_eq_true, Nat.le_refl, Option.bind_some, Option.map_some, Option.getD_some, Option.isSome_some, List.map_cons, List.map_nil, List.cons_append, List.nil_append, List.append_nil, List.getElem?_cons_zero, List.getElem?_cons_succ, eq_self, Int.reduceLT, Int.reduceLE, Int.reduceNeg, Int.reduceEq, g5d, g5y]
          exact hQ _ _ ((Sep.nil (s.ext.trans s5.ext)).nilA _)
        | some d' =>
          have hst : sumL (some ⟨0, 0⟩) (l.take (i + 1)) = some d' := by rw [sumL_take hy, hd]; exact hac
          rw [show optV (some d') = .tuple #[.agg (dyC d').toArray, .bool true] from rfl]
          simp (disch := omega) only [VW, VY, VZ, VA, VB, VC, VE, TY, ↓reduceIte, Nat.reduceEqDiff, Nat.reduceAdd, Nat.reduceMul, Nat.reduceSub, Nat.reduceLeDiff, List.length_cons, List.length_nil, List.length_append, List.append_assoc, List.take_succ_cons, List.take_zero, List.drop_succ_cons, List.drop_zero, List.set_cons_zero, List.set_cons_succ, true_or, or_true, and_self, Bool.false_eq_true, Nat.le_refl, Option.bind_some, Option.map_some, Option.getD_some, Option.isSome_some, List.map_cons, List.map_nil, List.cons_append, List.nil_append, List.append_nil, List.getElem?_cons_zero, List.getElem?_cons_succ, eq_self, Int.reduceLT, Int.reduceLE, Int.reduceNeg, Int.reduceEq, g4d, g4y]
          refine tail_step [(8, [9], [], false)] (by kernel_rfl) (by kernel_rfl) (a_cons (by simp only [List.filterMap_cons, List.filterMap_nil, List.getElem?_cons_zero, List.getElem?_cons_succ]; rfl) (by kernel_rfl) ?_ trivial)
          simp (disch := omega) only [VW, VY, VZ, VA, VB, VC, VE, TY, ↓reduceIte, Nat.reduceEqDiff, Nat.reduceAdd, Nat.reduceMul, Nat.reduceSub, Nat.reduceLeDiff, List.length_cons, List.length_nil, List.length_append, List.append_assoc, List.take_succ_cons, List.take_zero, List.drop_succ_cons, List.drop_zero, List.set_cons_zero, List.set_cons_succ, true_or, or_true, and_self, Bool.false_eq_true, Nat.le_refl, Option.bind_some, Option.map_some, Option.getD_some, Option.isSome_some, List.map_cons, List.map_nil, List.cons_append, List.nil_append, List.append_nil, List.getElem?_cons_zero, List.getElem?_cons_succ, eq_self, Int.reduceLT, Int.reduceLE, Int.reduceNeg, Int.reduceEq, g4d, g4y]
          refine sep_store s4 (by simp) fun h5 s5 => ?_
          have s5 := s5.as (ds := dyC d') (by simp [t_put])
          have g5d := (s5.pull 2 rfl).rdAll (n := 2) rfl
          have g5y := (s5.pull 1 rfl).rdAll (n := 3) rfl
          simp (disch := omega) only [VW, VY, VZ, VA, VB, VC, VE, TY, ↓reduceIte, Nat.reduceEqDiff, Nat.reduceAdd, Nat.reduceMul, Nat.reduceSub, Nat.reduceLeDiff, List.length_cons, List.length_nil, List.length_append, List.append_assoc, List.take_succ_cons, List.take_zero, List.drop_succ_cons, List.drop_zero, List.set_cons_zero, List.set_cons_succ, true_or, or_true, and_self, Bool.false_eq_true, Nat.le_refl, Option.bind_some, Option.map_some, Option.getD_some, Option.isSome_some, List.map_cons, List.map_nil, List.cons_append, List.nil_append, List.append_nil, List.getElem?_cons_zero, List.getElem?_cons_succ, eq_self, Int.reduceLT, Int.reduceLE, Int.reduceNeg, Int.reduceEq, g5d, g5y]
          have gn := (s5.pull 0 rfl).rdAll (n := 2) rfl
          simp (disch := omega) only [VW, VY, VZ, VA, VB, VC, VE, TY, ↓reduceIte, Nat.reduceEqDiff, Nat.reduceAdd, Nat.reduceMul, Nat.reduceSub, Nat.reduceLeDiff, List.length_cons, List.length_nil, List.length_append, List.append_assoc, List.take_succ_cons, List.take_zero, List.drop_succ_cons, List.drop_zero, List.set_cons_zero, List.set_cons_succ, true_or, or_true, and_self, Bool.false_eq_true, Nat.le_refl, Option.bind_some, Option.map_some, Option.getD_some, Option.isSome_some, List.map_cons, List.map_nil, List.cons_append, List.nil_append, List.append_nil, List.getElem?_cons_zero, List.getElem?_cons_succ, eq_self, Int.reduceLT, Int.reduceLE, Int.reduceNeg, Int.reduceEq, gn, e7]
          refine sep_store (s5.pull 2 rfl) (by simp) fun h6 s6 => ?_
          have s6 := s6.as (ds := dyC d') (by simp [t_put])
          simp (disch := omega) only [VW, VY, VZ, VA, VB, VC, VE, TY, ↓reduceIte, Nat.reduceEqDiff, Nat.reduceAdd, Nat.reduceMul, Nat.reduceSub, Nat.reduceLeDiff, List.length_cons, List.length_nil, List.length_append, List.append_assoc, List.take_succ_cons, List.take_zero, List.drop_succ_cons, List.drop_zero, List.set_cons_zero, List.set_cons_succ, true_or, or_true, and_self, Bool.false_eq_true, Nat.le_refl, Option.bind_some, Option.map_some, Option.getD_some, Option.isSome_some, List.map_cons, List.map_nil, List.cons_append, List.nil_append, List.append_nil, List.getElem?_cons_zero, List.getElem?_cons_succ, eq_self, Int.reduceLT, Int.reduceLE, Int.reduceNeg, Int.reduceEq, e13, e14, e15, e4, e7, e20, e21, e22, wrap_in]
          exact ⟨_, by omega, i + 1, d', by simp, by omega, rfl, hst, s6.swap.tail.swap.tail⟩
    · obtain rfl : i = l.length := by omega
      have q2 : ¬ (l.length : Int) < (l.length : Int) := by omega
      rw [List.take_length] at hd
      have gd := s2.rdAll (n := 2) rfl
      simp (disch := omega) only [VW, VY, VZ, VA, VB, VC, VE, TY, ↓reduceIte, Nat.reduceEqDiff, Nat.reduceAdd, Nat.reduceMul, Nat.reduceSub, Nat.reduceLeDiff, List.length_cons, List.length_nil, List.length_append, List.append_assoc, List.take_succ_cons, List.take_zero, List.drop_succ_cons, List.drop_zero, List.set_cons_zero, List.set_cons_succ, true_or, or_true, and_self, Bool.false_eq_true, Nat.le_refl, Option.bind_some, Option.map_some, Option.getD_some, Option.isSome_some, List.map_cons, List.map_nil, List.cons_append, List.nil_append, List.append_nil, List.getElem?_cons_zero, List.getElem?_cons_succ, eq_self, Int.reduceLT, Int.reduceLE, Int.reduceNeg, Int.reduceEq, e4, e7, e13, e14, e15, q2, gd]
      have sq := (s2.swap.rep0 (Dy_rep (makeM_goodL hd) h2)).swap
      have hvl : valL l = d := by unfold valL; rw [hd]; rfl
      have hok2 : okL l = true := by unfold okL; rw [hd]; rfl
      have hln : (((lists x).take j).map valL).length = j := by rw [List.length_map, List.length_take, hl4]; omega
      refine sep_append (y := d) sq rfl rfl te47 tk39 rfl (by decide) (by rw [hln]; simp only []; omega) fun v5 h5 sp => ?_
      simp (disch := omega) only [VW, VY, VZ, VA, VB, VC, VE, TY, ↓reduceIte, Nat.reduceEqDiff, Nat.reduceAdd, Nat.reduceMul, Nat.reduceSub, Nat.reduceLeDiff, List.length_cons, List.length_nil, List.length_append, List.append_assoc, List.take_succ_cons, List.take_zero, List.drop_succ_cons, List.drop_zero, List.set_cons_zero, List.set_cons_succ, true_or, or_true, and_self, Bool.false_eq_true, Nat.le_refl, Option.bind_some, Option.map_some, Option.getD_some, Option.isSome_some, List.map_cons, List.map_nil, List.cons_append, List.nil_append, List.append_nil, List.getElem?_cons_zero, List.getElem?_cons_succ, eq_self, Int.reduceLT, Int.reduceLE, Int.reduceNeg, Int.reduceEq, e13, e14, e15, wrap_in]
      refine ⟨_, by omega, j + 1, v5, by simp, rfl, by omega, rfl, ?_, ?_⟩
      · rw [List.take_add_one, hl, List.all_append, hok]
        simpa using hok2
      · rw [List.take_add_one, hl, List.map_append]
        have e : (some l).toList.map valL = [d] := by show [valL l] = [d]; rw [hvl]
        rw [e]
        exact sp.head
  · obtain rfl : j = 4 := by omega
    have q4 : ¬ ((4 : Nat) : Int) < ((4 : Nat) : Int) := by decide
    have q5 : ¬ ((4 : Nat) : Int) < 4 := by decide
    have hall : (lists x).all okL = true := by rw [← hok]; rfl
    unfold volsR at hQ
    rw [if_pos hall] at hQ
    have so : Sep H h' [ownA 39 ((lists x).map valL) vo] := so
    have pl := so.row.isRow.plain
    simp (disch := omega) only [VW, VY, VZ, VA, VB, VC, VE, TY, ↓reduceIte, Nat.reduceEqDiff, Nat.reduceAdd, Nat.reduceMul, Nat.reduceSub, Nat.reduceLeDiff, List.length_cons, List.length_nil, List.length_append, List.append_assoc, List.take_succ_cons, List.take_zero, List.drop_succ_cons, List.drop_zero, List.set_cons_zero, List.set_cons_succ, true_or, or_true, and_self, Bool.false_eq_true, Nat.le_refl, Option.bind_some, Option.map_some, Option.getD_some, Option.isSome_some, List.map_cons, List.map_nil, List.cons_append, List.nil_append, List.append_nil, List.getElem?_cons_zero, List.getElem?_cons_succ, eq_self, Int.reduceLT, Int.reduceLE, Int.reduceNeg, Int.reduceEq, q4, q5, e4, pl]
    exact hQ _ _ (so.back s.ext)
theorem brVolumes_c {x : Wk} {t : Int} {cs : List Value} {h : Heap} {Q : Value → Heap → Prop} (hx : Here h x cs) (hw : workM x t = true)
    (hQ : ∀ v h', Sep h h' [repA (volsR (lists x)).1 [v]] → Q (.tuple #[v, .bool (volsR (lists x)).2]) h') :
    CallsV Try.prog 49 [.agg cs.toArray] h Q := brVolumes_o hx hw fun v h' s => hQ v h' s.toRep
end Go.Proofs
