/- Contracts of functions, facts of types, or the plain law behind one statement (own work): XN. Conditions: those told in each theorem. -/
import Derived.Test.YtiiolloielppeaaXJ
import Derived.Test.YtiiolloielppeaaXM
set_option linter.all false
set_option linter.unusedSimpArgs false
set_option linter.unusedVariables false
set_option maxRecDepth 4000
namespace Go.Proofs
open Go Go.V
/- Are all boxes of the work apart? -/
def apartL : List Bx → Bool
  | [] => true
  | x :: l => l.all (fun y => !comM x y) && apartL l
def allB (w : Wk) : List Bx := (lists w).flatten
def apartM (w : Wk) (s : Int) : Bool × Bool := if workM w s then (apartL (allB w), true) else (false, false)
theorem apart_drop {l : List Bx} {i : Nat} {x : Bx} (h : l[i]? = some x) : apartL (l.drop i) = ((l.drop (i + 1)).all (fun y => !comM x y) && apartL (l.drop (i + 1))) := by
  have hlt : i < l.length := by
    rcases Nat.lt_or_ge i l.length with k | k
    · exact k
    · rw [List.getElem?_eq_none k] at h; cases h
  rw [List.drop_eq_getElem_cons hlt]
  rw [List.getElem?_eq_getElem hlt] at h
  rw [Option.some.inj h]; rfl
theorem work_all {w : Wk} {s : Int} (h : workM w s = true) : (∀ l ∈ lists w, l.length ≤ 40) ∧ (∀ x ∈ allB w, boxM x = true ∧ (x.low.length : Int) = s) ∧ (allB w).length ≤ 160 := by
  unfold workM at h
  rw [Bool.and_eq_true] at h
  have h1 : ∀ l ∈ lists w, l.length ≤ 40 ∧ ∀ x ∈ l, boxM x = true ∧ (x.low.length : Int) = s := fun l hl => by
    have := List.all_eq_true.1 h.1 l hl
    unfold listOk at this
    simp only [Bool.and_eq_true, decide_eq_true_eq, List.all_eq_true] at this
    refine ⟨this.1, fun x hx => ?_⟩
    have := this.2 x hx
    unfold boxOk at this
    simpa using this
  refine ⟨fun l hl => (h1 l hl).1, fun x hx => ?_, ?_⟩
  · obtain ⟨l, hl, hx⟩ := List.mem_flatten.1 hx
    exact (h1 l hl).2 x hx
  · have a1 := (h1 w.opened (by simp [lists])).1
    have a2 := (h1 w.free (by simp [lists])).1
    have a3 := (h1 w.holds (by simp [lists])).1
    have a4 := (h1 w.kept (by simp [lists])).1
    unfold allB lists
    simp only [List.flatten_cons, List.flatten_nil, List.length_append, List.length_nil]
    omega
theorem drop_cut {α : Type} (l : List α) (i : Nat) : (l.take l.length).drop i = l.drop i := by rw [List.take_length]
theorem AreWorkApart_i {x : Wk} {s : Int} {cs : List Value} {h : Heap} {Q : Value → Heap → Prop} (hx : Here h x cs) (hQ : ∀ h', Ext h h' → Q (.tuple #[.bool (apartM x s).1, .bool (apartM x s).2]) h') :
    CallsV Try.prog 12 [.agg cs.toArray, .int .i64 s] h Q := by
  obtain ⟨v1, v2, v3, v4, rfl, r1, r2, r3, r4, f5⟩ := here_Wk hx
  refine CallsV.start Try.func12 rfl (by rw [Try.results12]) (by kernel_rfl) (by rw [Try.ntmps12]; simp) ?_
  unfold apartM at hQ
  have sp := Sep.blk1 h [v1, v2, v3, v4, .int .i64 x.steps] 30 true
  simp (disch := omega) only [VW, VY, VZ, VA, VB, VC, VE, TY, ↓reduceIte, Nat.reduceEqDiff, Nat.reduceAdd, Nat.reduceMul, Nat.reduceSub, Nat.reduceLeDiff, List.length_cons, List.length_nil, List.length_append, List.append_assoc, List.take_succ_cons, List.take_zero, List.drop_succ_cons, List.drop_zero, List.set_cons_zero, List.set_cons_succ, true_or, or_true, and_self, Bool.false_eq_true, Nat.le_refl, Option.bind_some, Option.map_some, Option.getD_some, Option.isSome_some, List.map_cons, List.map_nil, List.cons_append, List.nil_append, List.append_nil, List.getElem?_cons_zero, List.getElem?_cons_succ, eq_self, Int.reduceLT, Int.reduceLE, Int.reduceNeg, Int.reduceEq]
  refine .inl ⟨by kernel_rfl, ?_⟩; refine isWork_c (sp.ptr (hx.mono sp.ext)) fun h1 E1 => ?_
  have sp := sp.mono E1
  cases hw : workM x s with
  | false =>
    rw [hw, if_neg (by decide)] at hQ
    simp (disch := omega) only [VW, VY, VZ, VA, VB, VC, VE, TY, ↓reduceIte, Nat.reduceEqDiff, Nat.reduceAdd, Nat.reduceMul, Nat.reduceSub, Nat.reduceLeDiff, List.length_cons, List.length_nil, List.length_append, List.append_assoc, List.take_succ_cons, List.take_zero, List.drop_succ_cons, List.drop_zero, List.set_cons_zero, List.set_cons_succ, true_or, or_true, and_self, Bool.false_eq_true, Nat.le_refl, Option.bind_some, Option.map_some, Option.getD_some, Option.isSome_some, List.map_cons, List.map_nil, List.cons_append, List.nil_append, List.append_nil, List.getElem?_cons_zero, List.getElem?_cons_succ, eq_self, Int.reduceLT, Int.reduceLE, Int.reduceNeg, Int.reduceEq]
    exact hQ _ sp.ext
  | true =>
    rw [hw, if_pos rfl] at hQ
    obtain ⟨hl40, hgood, hlen⟩ := work_all hw
    have g := sp.rd
    have c1 := r1.isRow.cells
    have c2 := r2.isRow.cells
    have c3 := r3.isRow.cells
    have c4 := r4.isRow.cells
    simp (disch := omega) only [VW, VY, VZ, VA, VB, VC, VE, TY, ↓reduceIte, Nat.reduceEqDiff, Nat.reduceAdd, Nat.reduceMul, Nat.reduceSub, Nat.reduceLeDiff, List.length_cons, List.length_nil, List.length_append, List.append_assoc, List.take_succ_cons, List.take_zero, List.drop_succ_cons, List.drop_zero, List.set_cons_zero, List.set_cons_succ, true_or, or_true, and_self, Bool.false_eq_true, Nat.le_refl, Option.bind_some, Option.map_some, Option.getD_some, Option.isSome_some, List.map_cons, List.map_nil, List.cons_append, List.nil_append, List.append_nil, List.getElem?_cons_zero, List.getElem?_cons_succ, eq_self, Int.reduceLT, Int.reduceLE, Int.reduceNeg, Int.reduceEq, g, c1, c2, c3, c4]
    have E2 := sp.ext.snoc (some ⟨[v1, v2, v3, v4], 28, false, true⟩)
    have rl : Row (h1 ++ [some ⟨[v1, v2, v3, v4], 28, false, true⟩]) (lists x) (.slice (some ⟨h1.length, 0, none⟩) 4 4) := Row.ofBlk (cs := [v1, v2, v3, v4]) (by simp (disch := omega) only [VW, VY, VZ, VA, VB, VC, VE, TY, ↓reduceIte, Nat.reduceEqDiff, Nat.reduceAdd, Nat.reduceMul, Nat.reduceSub, Nat.reduceLeDiff, List.length_cons, List.length_nil, List.length_append, List.append_assoc, List.take_succ_cons, List.take_zero, List.drop_succ_cons, List.drop_zero, List.set_cons_zero, List.set_cons_succ, true_or, or_true, and_self, Bool.false_eq_true, Nat.le_refl, Option.bind_some, Option.map_some, Option.getD_some, Option.isSome_some, List.map_cons, List.map_nil, List.cons_append, List.nil_append, List.append_nil, List.getElem?_cons_zero, List.getElem?_cons_succ, eq_self, Int.reduceLT, Int.reduceLE, Int.reduceNeg, Int.reduceEq])
      (.cons (mk_list (r1.mono E2)) (.cons (mk_list (r2.mono E2)) (.cons (mk_list (r3.mono E2)) (.cons (mk_list (r4.mono E2)) .nil)))) rfl (by decide)
    refine .inl ⟨by kernel_rfl, ?_⟩; refine concatB_c rl (by show 4 ≤ 10; decide) (by show (allB x).length ≤ _; omega) fun v H E3 r => ?_
    have EH := E2.trans E3
    change Row H (allB x) v at r
    generalize allB x = l at *
    simp (disch := omega) only [VW, VY, VZ, VA, VB, VC, VE, TY, ↓reduceIte, Nat.reduceEqDiff, Nat.reduceAdd, Nat.reduceMul, Nat.reduceSub, Nat.reduceLeDiff, List.length_cons, List.length_nil, List.length_append, List.append_assoc, List.take_succ_cons, List.take_zero, List.drop_succ_cons, List.drop_zero, List.set_cons_zero, List.set_cons_succ, true_or, or_true, and_self, Bool.false_eq_true, Nat.le_refl, Option.bind_some, Option.map_some, Option.getD_some, Option.isSome_some, List.map_cons, List.map_nil, List.cons_append, List.nil_append, List.append_nil, List.getElem?_cons_zero, List.getElem?_cons_succ, eq_self, Int.reduceLT, Int.reduceLE, Int.reduceNeg, Int.reduceEq, r.isRow.len]
    refine loop_rule (fun n e h' => ∃ (i : Nat), e 6 = v ∧ e 26 = v ∧ e 27 = .int .i64 (l.length : Int) ∧ e 28 = .int .i64 (i : Int) ∧ i ≤ l.length ∧ n = l.length - i ∧ apartL l = apartL (l.drop i) ∧ Ext H h') ?_ l.length _ _
      ⟨0, rfl, rfl, rfl, rfl, Nat.zero_le _, rfl, by rw [List.drop_zero], .refl H⟩
    rintro n e h2 ⟨i, e6, e26, e27, e28, hi, rfl, hap, E4⟩
    have r4 := r.mono E4
    simp (disch := omega) only [VW, VY, VZ, VA, VB, VC, VE, TY, ↓reduceIte, Nat.reduceEqDiff, Nat.reduceAdd, Nat.reduceMul, Nat.reduceSub, Nat.reduceLeDiff, List.length_cons, List.length_nil, List.length_append, List.append_assoc, List.take_succ_cons, List.take_zero, List.drop_succ_cons, List.drop_zero, List.set_cons_zero, List.set_cons_succ, true_or, or_true, and_self, Bool.false_eq_true, Nat.le_refl, Option.bind_some, Option.map_some, Option.getD_some, Option.isSome_some, List.map_cons, List.map_nil, List.cons_append, List.nil_append, List.append_nil, List.getElem?_cons_zero, List.getElem?_cons_succ, eq_self, Int.reduceLT, Int.reduceLE, Int.reduceNeg, Int.reduceEq, e27, e28]
    by_cases hlt : i < l.length
    · obtain ⟨a, ha⟩ := get_some hlt
      have q1 : (i : Int) < (l.length : Int) := by omega
      have ga := hgood a (List.mem_of_getElem? ha)
      rw [apart_drop ha] at hap
      obtain ⟨xs, x3, x4⟩ := r4.at ha
      rw [Bx.sz] at x3
      obtain ⟨wa1, wa2, rfl, f1, ra1, ra2⟩ := here_Bx x4
      have hcut := r4.cut (lo := i + 1) (m := l.length) (by omega) (Nat.le_refl _)
      rw [drop_cut, Bx.sz] at hcut
      have dl : (l.drop (i + 1)).length = l.length - (i + 1) := List.length_drop
      have k1 : (0 : Int) ≤ (((i + 1 : Nat)) : Int) := by omega
      have k2 : ((i + 1 : Nat) : Int) ≤ (l.length : Int) := by omega
      have k3 : ((i : Int) + 1) = ((i + 1 : Nat) : Int) := by omega
      have k4 : (((i + 1 : Nat)) : Int).toNat = i + 1 := rfl
      have cap := r4.isRow.cap
      simp (disch := omega) only [VW, VY, VZ, VA, VB, VC, VE, TY, ↓reduceIte, Nat.reduceEqDiff, Nat.reduceAdd, Nat.reduceMul, Nat.reduceSub, Nat.reduceLeDiff, List.length_cons, List.length_nil, List.length_append, List.append_assoc, List.take_succ_cons, List.take_zero, List.drop_succ_cons, List.drop_zero, List.set_cons_zero, List.set_cons_succ, true_or, or_true, and_self, Bool.false_eq_true, Nat.le_refl, Option.bind_some, Option.map_some, Option.getD_some, Option.isSome_some, List.map_cons, List.map_nil, List.cons_append, List.nil_append, List.append_nil, List.getElem?_cons_zero, List.getElem?_cons_succ, eq_self, Int.reduceLT, Int.reduceLE, Int.reduceNeg, Int.reduceEq, e6, e26, e28, q1, r4.isRow.ix, x3, wrap_in, k3, r4.isRow.sl, k1, k2, k4, hcut.isRow.len]
      have E5 := Ext.one h2 (some ⟨[.int .i64 a.k, wa1, wa2], 42, false, true⟩)
      have gA : cellsAt (h2 ++ [some ⟨[.int .i64 a.k, wa1, wa2], 42, false, true⟩]) h2.length 0 3 = some [.int .i64 a.k, wa1, wa2] := (Sep.blk1 h2 [.int .i64 a.k, wa1, wa2] 42 true).rdAll (n := 3) rfl
      have x4 := x4.mono E5
      have hcut := hcut.mono E5
      generalize h2 ++ [some ⟨[.int .i64 a.k, wa1, wa2], 42, false, true⟩] = H5 at *
      refine loop_rule (fun n e h' => ∃ (j : Nat), e 6 = v ∧ e 26 = v ∧ e 27 = .int .i64 (l.length : Int) ∧ e 28 = .int .i64 (i : Int) ∧ e 8 = .pointer (some ⟨h2.length, 0, none⟩) ∧ e 36 = cutV v 3 (i + 1) l.length ∧ e 37 = .int .i64 ((l.drop (i + 1)).length : Nat) ∧ e 38 = .int .i64 (j : Int) ∧ j ≤ (l.drop (i + 1)).length ∧ n = (l.drop (i + 1)).length - j ∧ ((l.drop (i + 1)).take j).all (fun y => !comM a y) = true ∧ Ext H5 h') ?_ (l.drop (i + 1)).length _ _
        ⟨0, e6, e26, e27, e28, rfl, rfl, rfl, rfl, Nat.zero_le _, rfl, by simp, .refl H5⟩
      rintro n e h6 ⟨j, e6, e26, e27, e28, e8, e36, e37, e38, hj, rfl, hall, E6⟩
      have rc := hcut.mono E6
      have gA6 := E6.keepA gA
      simp (disch := omega) only [VW, VY, VZ, VA, VB, VC, VE, TY, ↓reduceIte, Nat.reduceEqDiff, Nat.reduceAdd, Nat.reduceMul, Nat.reduceSub, Nat.reduceLeDiff, List.length_cons, List.length_nil, List.length_append, List.append_assoc, List.take_succ_cons, List.take_zero, List.drop_succ_cons, List.drop_zero, List.set_cons_zero, List.set_cons_succ, true_or, or_true, and_self, Bool.false_eq_true, Nat.le_refl, Option.bind_some, Option.map_some, Option.getD_some, Option.isSome_some, List.map_cons, List.map_nil, List.cons_append, List.nil_append, List.append_nil, List.getElem?_cons_zero, List.getElem?_cons_succ, eq_self, Int.reduceLT, Int.reduceLE, Int.reduceNeg, Int.reduceEq, e37, e38]
      by_cases hlt2 : j < (l.drop (i + 1)).length
      · obtain ⟨b, hb⟩ := get_some hlt2
        have q2 : (j : Int) < (((l.drop (i + 1)).length : Nat) : Int) := by omega
        have gb := hgood b (List.mem_of_mem_drop (List.mem_of_getElem? hb))
        obtain ⟨ys, y3, y4⟩ := rc.at hb
        rw [Bx.sz] at y3
        obtain ⟨wb1, wb2, rfl, f2, rb1, rb2⟩ := here_Bx y4
        have E7 := Ext.one h6 (some ⟨[.int .i64 b.k, wb1, wb2], 42, false, true⟩)
        have gB : cellsAt (h6 ++ [some ⟨[.int .i64 b.k, wb1, wb2], 42, false, true⟩]) h6.length 0 3 = some [.int .i64 b.k, wb1, wb2] := (Sep.blk1 h6 [.int .i64 b.k, wb1, wb2] 42 true).rdAll (n := 3) rfl
        have gA7 := E7.keepA gA6
        simp (disch := omega) only [VW, VY, VZ, VA, VB, VC, VE, TY, ↓reduceIte, Nat.reduceEqDiff, Nat.reduceAdd, Nat.reduceMul, Nat.reduceSub, Nat.reduceLeDiff, List.length_cons, List.length_nil, List.length_append, List.append_assoc, List.take_succ_cons, List.take_zero, List.drop_succ_cons, List.drop_zero, List.set_cons_zero, List.set_cons_succ, true_or, or_true, and_self, Bool.false_eq_true, Nat.le_refl, Option.bind_some, Option.map_some, Option.getD_some, Option.isSome_some, List.map_cons, List.map_nil, List.cons_append, List.nil_append, List.append_nil, List.getElem?_cons_zero, List.getElem?_cons_succ, eq_self, Int.reduceLT, Int.reduceLE, Int.reduceNeg, Int.reduceEq, e8, e36, e38, q2, rc.isRow.ix, y3, gB, gA7]
        refine .inl ⟨by kernel_rfl, ?_⟩; refine commonBox_c (x4.mono (E6.trans E7)) (y4.mono E7) ga.1 gb.1 (by omega) fun cs h8 h3 E8 => ?_
        obtain ⟨d0, d1, d2, rfl⟩ : ∃ d0 d1 d2, cs = [d0, d1, d2] := by
          match cs, h3 with
          | [d0, d1, d2], _ => exact ⟨_, _, _, rfl⟩
        have hat := all_take (fun y => !comM a y) hb
        rw [hall, Bool.true_and] at hat
        cases hc : comM a b with
        | true =>
          have hf : (l.drop (i + 1)).all (fun y => !comM a y) = false := all_false hb (by rw [hc]; rfl)
          rw [hap, hf] at hQ
          simp (disch := omega) only [VW, VY, VZ, VA, VB, VC, VE, TY, ↓reduceIte, Nat.reduceEqDiff, Nat.reduceAdd, Nat.reduceMul, Nat.reduceSub, Nat.reduceLeDiff, List.length_cons, List.length_nil, List.length_append, List.append_assoc, List.take_succ_cons, List.take_zero, List.drop_succ_cons, List.drop_zero, List.set_cons_zero, List.set_cons_succ, true_or, or_true, and_self, Bool.false_eq_true, Nat.le_refl, Option.bind_some, Option.map_some, Option.getD_some, Option.isSome_some, List.map_cons, List.map_nil, List.cons_append, List.nil_append, List.append_nil, List.getElem?_cons_zero, List.getElem?_cons_succ, eq_self, Int.reduceLT, Int.reduceLE, Int.reduceNeg, Int.reduceEq]
          exact hQ _ (EH.trans (E4.trans (E5.trans (E6.trans (E7.trans (E8.trans (.one _ _)))))))
        | false =>
          rw [hc] at hat
          simp (disch := omega) only [VW, VY, VZ, VA, VB, VC, VE, TY, ↓reduceIte, Nat.reduceEqDiff, Nat.reduceAdd, Nat.reduceMul, Nat.reduceSub, Nat.reduceLeDiff, List.length_cons, List.length_nil, List.length_append, List.append_assoc, List.take_succ_cons, List.take_zero, List.drop_succ_cons, List.drop_zero, List.set_cons_zero, List.set_cons_succ, true_or, or_true, and_self, Bool.false_eq_true, Nat.le_refl, Option.bind_some, Option.map_some, Option.getD_some, Option.isSome_some, List.map_cons, List.map_nil, List.cons_append, List.nil_append, List.append_nil, List.getElem?_cons_zero, List.getElem?_cons_succ, eq_self, Int.reduceLT, Int.reduceLE, Int.reduceNeg, Int.reduceEq, e6, e26, e27, e28, e8, e36, e38, e37, wrap_in]
          exact ⟨_, by omega, j + 1, by simp, by omega, rfl, hat, E6.trans (E7.trans (E8.trans (.one _ _)))⟩
      · obtain rfl : j = (l.drop (i + 1)).length := by omega
        have q2 : ¬ (((l.drop (i + 1)).length : Nat) : Int) < (((l.drop (i + 1)).length : Nat) : Int) := by omega
        rw [List.take_length] at hall
        simp (disch := omega) only [VW, VY, VZ, VA, VB, VC, VE, TY, ↓reduceIte, Nat.reduceEqDiff, Nat.reduceAdd, Nat.reduceMul, Nat.reduceSub, Nat.reduceLeDiff, List.length_cons, List.length_nil, List.length_append, List.append_assoc, List.take_succ_cons, List.take_zero, List.drop_succ_cons, List.drop_zero, List.set_cons_zero, List.set_cons_succ, true_or, or_true, and_self, Bool.false_eq_true, Nat.le_refl, Option.bind_some, Option.map_some, Option.getD_some, Option.isSome_some, List.map_cons, List.map_nil, List.cons_append, List.nil_append, List.append_nil, List.getElem?_cons_zero, List.getElem?_cons_succ, eq_self, Int.reduceLT, Int.reduceLE, Int.reduceNeg, Int.reduceEq, q2, e6, e26, e28, e27, wrap_in]
        exact ⟨_, by omega, i + 1, by simp, by omega, rfl, by rw [hap, hall, Bool.true_and], E4.trans (E5.trans E6)⟩
    · obtain rfl : i = l.length := by omega
      have q1 : ¬ (l.length : Int) < (l.length : Int) := by omega
      rw [List.drop_length] at hap
      rw [hap] at hQ
      simp (disch := omega) only [VW, VY, VZ, VA, VB, VC, VE, TY, ↓reduceIte, Nat.reduceEqDiff, Nat.reduceAdd, Nat.reduceMul, Nat.reduceSub, Nat.reduceLeDiff, List.length_cons, List.length_nil, List.length_append, List.append_assoc, List.take_succ_cons, List.take_zero, List.drop_succ_cons, List.drop_zero, List.set_cons_zero, List.set_cons_succ, true_or, or_true, and_self, Bool.false_eq_true, Nat.le_refl, Option.bind_some, Option.map_some, Option.getD_some, Option.isSome_some, List.map_cons, List.map_nil, List.cons_append, List.nil_append, List.append_nil, List.getElem?_cons_zero, List.getElem?_cons_succ, eq_self, Int.reduceLT, Int.reduceLE, Int.reduceNeg, Int.reduceEq, q1]
      exact hQ _ (EH.trans E4)
end Go.Proofs
