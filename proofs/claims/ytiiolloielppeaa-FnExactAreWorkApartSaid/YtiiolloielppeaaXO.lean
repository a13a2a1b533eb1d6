/- Contracts of functions, facts of types, or the plain law behind one statement (own work): XO. Conditions: those told in each theorem. -/
import Derived.Test.YtiiolloielppeaaXN
set_option linter.all false
set_option linter.unusedSimpArgs false
set_option linter.unusedVariables false
set_option maxRecDepth 4000
namespace Go.Proofs
open Go Go.V
theorem AreWorkApart_s {x : Wk} {s : Int} {cs : List Value} {h : Heap} {Q : Value → Heap → Prop} (hx : Here h x cs) (hQ : ∀ h', Ext h h' → Q (.tuple #[.bool (apartM x s).1, .bool (apartM x s).2]) h') :
    CallsV Try.prog 10 [.agg cs.toArray, .int .i64 s] h Q := by
  obtain ⟨v1, v2, v3, v4, rfl, r1, r2, r3, r4, f5⟩ := here_Wk hx
  refine CallsV.start Try.func10 rfl (by rw [Try.results10]) (by kernel_rfl) (by rw [Try.ntmps10]; simp) ?_
  unfold apartM at hQ
  have sp := Sep.blk1 h [v1, v2, v3, v4, .int .i64 x.steps] 30 true
  have g := sp.rdAll (n := 5) rfl
  simp (disch := omega) only [VW, VY, VZ, VA, VB, VC, VE, TY, ↓reduceIte, Nat.reduceEqDiff, Nat.reduceAdd, Nat.reduceMul, Nat.reduceSub, Nat.reduceLeDiff, List.length_cons, List.length_nil, List.length_append, List.append_assoc, List.take_succ_cons, List.take_zero, List.drop_succ_cons, List.drop_zero, List.set_cons_zero, List.set_cons_succ, true_or, or_true, and_self, Bool.false_eq_true, Nat.le_refl, Option.bind_some, Option.map_some, Option.getD_some, Option.isSome_some, List.map_cons, List.map_nil, List.cons_append, List.nil_append, List.append_nil, List.getElem?_cons_zero, List.getElem?_cons_succ, eq_self, Int.reduceLT, Int.reduceLE, Int.reduceNeg, Int.reduceEq, g]
  refine .inl ⟨by kernel_rfl, ?_⟩; refine brGood_c (hx.mono sp.ext) fun h1 E1 => ?_
  have sp := sp.mono E1
  cases hw : workM x s with
  | false =>
    rw [hw, if_neg (by decide)] at hQ
    simp (disch := omega) only [VW, VY, VZ, VA, VB, VC, VE, TY, ↓reduceIte, Nat.reduceEqDiff, Nat.reduceAdd, Nat.reduceMul, Nat.reduceSub, Nat.reduceLeDiff, List.length_cons, List.length_nil, List.length_append, List.append_assoc, List.take_succ_cons, List.take_zero, List.drop_succ_cons, List.drop_zero, List.set_cons_zero, List.set_cons_succ, true_or, or_true, and_self, Bool.false_eq_true, Nat.le_refl, Option.bind_some, Option.map_some, Option.getD_some, Option.isSome_some, List.map_cons, List.map_nil, List.cons_append, List.nil_append, List.append_nil, List.getElem?_cons_zero, List.getElem?_cons_succ, eq_self, Int.reduceLT, Int.reduceLE, Int.reduceNeg, Int.reduceEq]
    exact hQ _ sp.ext
  | true =>
    rw [hw, if_pos rfl] at hQ
    obtain ⟨hl40, hgood, hlen⟩ := work_all hw
    have g := sp.rdAll (n := 5) rfl
    simp (disch := omega) only [VW, VY, VZ, VA, VB, VC, VE, TY, ↓reduceIte, Nat.reduceEqDiff, Nat.reduceAdd, Nat.reduceMul, Nat.reduceSub, Nat.reduceLeDiff, List.length_cons, List.length_nil, List.length_append, List.append_assoc, List.take_succ_cons, List.take_zero, List.drop_succ_cons, List.drop_zero, List.set_cons_zero, List.set_cons_succ, true_or, or_true, and_self, Bool.false_eq_true, Nat.le_refl, Option.bind_some, Option.map_some, Option.getD_some, Option.isSome_some, List.map_cons, List.map_nil, List.cons_append, List.nil_append, List.append_nil, List.getElem?_cons_zero, List.getElem?_cons_succ, eq_self, Int.reduceLT, Int.reduceLE, Int.reduceNeg, Int.reduceEq, g]
    refine .inl ⟨by kernel_rfl, ?_⟩; refine brLists_c (hx.mono sp.ext) fun vl h2 E2 rl => ?_
    have e4 : (lists x).length = 4 := rfl
    have hfl : allB x = (lists x).flatten := rfl
    rw [hfl] at hQ hgood hlen
    have EH0 := sp.ext.trans E2
    generalize lists x = L at *
    simp (disch := omega) only [VW, VY, VZ, VA, VB, VC, VE, TY, ↓reduceIte, Nat.reduceEqDiff, Nat.reduceAdd, Nat.reduceMul, Nat.reduceSub, Nat.reduceLeDiff, List.length_cons, List.length_nil, List.length_append, List.append_assoc, List.take_succ_cons, List.take_zero, List.drop_succ_cons, List.drop_zero, List.set_cons_zero, List.set_cons_succ, true_or, or_true, and_self, Bool.false_eq_true, Nat.le_refl, Option.bind_some, Option.map_some, Option.getD_some, Option.isSome_some, List.map_cons, List.map_nil, List.cons_append, List.nil_append, List.append_nil, List.getElem?_cons_zero, List.getElem?_cons_succ, eq_self, Int.reduceLT, Int.reduceLE, Int.reduceNeg, Int.reduceEq, rl.isRow.len]
    refine loop_rule (fun n e h' => ∃ (i : Nat) (vo : Value) (m : List Raw3), e 6 = vo ∧ e 20 = vl ∧ e 21 = .int .i64 (L.length : Int) ∧ e 22 = .int .i64 (i : Int) ∧ i ≤ L.length ∧ n = L.length - i ∧ RelB h2 (L.take i).flatten m ∧ Sep h2 h' [ownA (α := Raw3) 42 m vo]) ?_ L.length _ _
      ⟨0, .slice none 0 0, [], rfl, rfl, rfl, rfl, Nat.zero_le _, rfl, trivial, (Sep.nil (.refl h2)).nilA _⟩
    rintro n e h3 ⟨i, vo, m, e6, e20, e21, e22, hi, rfl, hm, u⟩
    have r2 := rl.mono u.ext
    simp (disch := omega) only [VW, VY, VZ, VA, VB, VC, VE, TY, ↓reduceIte, Nat.reduceEqDiff, Nat.reduceAdd, Nat.reduceMul, Nat.reduceSub, Nat.reduceLeDiff, List.length_cons, List.length_nil, List.length_append, List.append_assoc, List.take_succ_cons, List.take_zero, List.drop_succ_cons, List.drop_zero, List.set_cons_zero, List.set_cons_succ, true_or, or_true, and_self, Bool.false_eq_true, Nat.le_refl, Option.bind_some, Option.map_some, Option.getD_some, Option.isSome_some, List.map_cons, List.map_nil, List.cons_append, List.nil_append, List.append_nil, List.getElem?_cons_zero, List.getElem?_cons_succ, eq_self, Int.reduceLT, Int.reduceLE, Int.reduceNeg, Int.reduceEq, e21, e22]
    by_cases hlt : i < L.length
    · obtain ⟨l, hx⟩ := get_some hlt
      obtain ⟨vl', x3h, rvh⟩ := row_list rl hx
      have x3 := u.ext.keepC x3h
      have q1 : (i : Int) < (L.length : Int) := by omega
      obtain ⟨f1, f2⟩ := flat_take L hx
      simp (disch := omega) only [VW, VY, VZ, VA, VB, VC, VE, TY, ↓reduceIte, Nat.reduceEqDiff, Nat.reduceAdd, Nat.reduceMul, Nat.reduceSub, Nat.reduceLeDiff, List.length_cons, List.length_nil, List.length_append, List.append_assoc, List.take_succ_cons, List.take_zero, List.drop_succ_cons, List.drop_zero, List.set_cons_zero, List.set_cons_succ, true_or, or_true, and_self, Bool.false_eq_true, Nat.le_refl, Option.bind_some, Option.map_some, Option.getD_some, Option.isSome_some, List.map_cons, List.map_nil, List.cons_append, List.nil_append, List.append_nil, List.getElem?_cons_zero, List.getElem?_cons_succ, eq_self, Int.reduceLT, Int.reduceLE, Int.reduceNeg, Int.reduceEq, e6, e20, e22, q1, r2.isRow.ix, x3]
      obtain ⟨m2, hm2, rmh⟩ := Row.raw rvh
      have rm := rmh.mono u.ext
      have k1 := hm.len
      have k2 := hm2.len
      refine sep_appendRow u rm te28 tk42 rfl (by decide) (by simp only []; omega) fun vo' h5 s5 => ?_
      simp (disch := omega) only [VW, VY, VZ, VA, VB, VC, VE, TY, ↓reduceIte, Nat.reduceEqDiff, Nat.reduceAdd, Nat.reduceMul, Nat.reduceSub, Nat.reduceLeDiff, List.length_cons, List.length_nil, List.length_append, List.append_assoc, List.take_succ_cons, List.take_zero, List.drop_succ_cons, List.drop_zero, List.set_cons_zero, List.set_cons_succ, true_or, or_true, and_self, Bool.false_eq_true, Nat.le_refl, Option.bind_some, Option.map_some, Option.getD_some, Option.isSome_some, List.map_cons, List.map_nil, List.cons_append, List.nil_append, List.append_nil, List.getElem?_cons_zero, List.getElem?_cons_succ, eq_self, Int.reduceLT, Int.reduceLE, Int.reduceNeg, Int.reduceEq, e20, e21, e22, wrap_in]
      refine ⟨_, by omega, i + 1, vo', m ++ m2, rfl, by simp, by omega, rfl, ?_, s5⟩
      rw [List.take_add_one, hx, List.flatten_append]
      simpa using hm.app hm2
    obtain rfl : i = L.length := by omega
    have q1 : ¬ (L.length : Int) < (L.length : Int) := by omega
    rw [List.take_length] at hm
    have r := Row.unraw (hm.mono u.ext) u.row
    have EH := EH0.trans u.ext
    generalize L.flatten = l at *
    clear f5
    obtain ⟨v, hv⟩ : ∃ v, v = vo := ⟨_, rfl⟩
    subst hv
    generalize h3 = H at *
    simp (disch := omega) only [VW, VY, VZ, VA, VB, VC, VE, TY, ↓reduceIte, Nat.reduceEqDiff, Nat.reduceAdd, Nat.reduceMul, Nat.reduceSub, Nat.reduceLeDiff, List.length_cons, List.length_nil, List.length_append, List.append_assoc, List.take_succ_cons, List.take_zero, List.drop_succ_cons, List.drop_zero, List.set_cons_zero, List.set_cons_succ, true_or, or_true, and_self, Bool.false_eq_true, Nat.le_refl, Option.bind_some, Option.map_some, Option.getD_some, Option.isSome_some, List.map_cons, List.map_nil, List.cons_append, List.nil_append, List.append_nil, List.getElem?_cons_zero, List.getElem?_cons_succ, eq_self, Int.reduceLT, Int.reduceLE, Int.reduceNeg, Int.reduceEq, e21, e22, q1, e6]
    simp (disch := omega) only [VW, VY, VZ, VA, VB, VC, VE, TY, ↓reduceIte, Nat.reduceEqDiff, Nat.reduceAdd, Nat.reduceMul, Nat.reduceSub, Nat.reduceLeDiff, List.length_cons, List.length_nil, List.length_append, List.append_assoc, List.take_succ_cons, List.take_zero, List.drop_succ_cons, List.drop_zero, List.set_cons_zero, List.set_cons_succ, true_or, or_true, and_self, Bool.false_eq_true, Nat.le_refl, Option.bind_some, Option.map_some, Option.getD_some, Option.isSome_some, List.map_cons, List.map_nil, List.cons_append, List.nil_append, List.append_nil, List.getElem?_cons_zero, List.getElem?_cons_succ, eq_self, Int.reduceLT, Int.reduceLE, Int.reduceNeg, Int.reduceEq, r.isRow.len]
    refine loop_rule (fun n e h' => ∃ (i : Nat), e 6 = v ∧ e 30 = v ∧ e 31 = .int .i64 (l.length : Int) ∧ e 32 = .int .i64 (i : Int) ∧ i ≤ l.length ∧ n = l.length - i ∧ apartL l = apartL (l.drop i) ∧ Ext H h') ?_ l.length _ _
      ⟨0, e6, rfl, rfl, rfl, Nat.zero_le _, rfl, by rw [List.drop_zero], .refl H⟩
    rintro n e h2 ⟨i, e6, e30, e31, e32, hi, rfl, hap, E4⟩
    have r4 := r.mono E4
    simp (disch := omega) only [VW, VY, VZ, VA, VB, VC, VE, TY, ↓reduceIte, Nat.reduceEqDiff, Nat.reduceAdd, Nat.reduceMul, Nat.reduceSub, Nat.reduceLeDiff, List.length_cons, List.length_nil, List.length_append, List.append_assoc, List.take_succ_cons, List.take_zero, List.drop_succ_cons, List.drop_zero, List.set_cons_zero, List.set_cons_succ, true_or, or_true, and_self, Bool.false_eq_true, Nat.le_refl, Option.bind_some, Option.map_some, Option.getD_some, Option.isSome_some, List.map_cons, List.map_nil, List.cons_append, List.nil_append, List.append_nil, List.getElem?_cons_zero, List.getElem?_cons_succ, eq_self, Int.reduceLT, Int.reduceLE, Int.reduceNeg, Int.reduceEq, e31, e32]
    by_cases hlt : i < l.length
    · obtain ⟨a, ha⟩ := get_some hlt
      have q1 : (i : Int) < (l.length : Int) := by omega
      have ga := hgood a (List.mem_of_getElem? ha)
      rw [apart_drop ha] at hap
      obtain ⟨xs, x3, x4⟩ := r4.at ha
      rw [Bx.sz] at x3
      obtain ⟨wa1, wa2, rfl, f1, ra1, ra2⟩ := here_Bx x4
      have hcut := r4.cut (lo := i + 1) (m := l.length) (by omega) (Nat.le_refl _)
      rw [drop_cut, Bx.sz] at hcut
      have dl : (l.drop (i + 1)).length = l.length - (i + 1) := List.length_drop
      have k1 : (0 : Int) ≤ (((i + 1 : Nat)) : Int) := by omega
      have k2 : ((i + 1 : Nat) : Int) ≤ (l.length : Int) := by omega
      have k3 : ((i : Int) + 1) = ((i + 1 : Nat) : Int) := by omega
      have k4 : (((i + 1 : Nat)) : Int).toNat = i + 1 := rfl
      have cap := r4.isRow.cap
      simp (disch := omega) only [VW, VY, VZ, VA, VB, VC, VE, TY, ↓reduceIte, Nat.reduceEqDiff, Nat.reduceAdd, Nat.reduceMul, Nat.reduceSub, Nat.reduceLeDiff, List.length_cons, List.length_nil, List.length_append, List.append_assoc, List.take_succ_cons, List.take_zero, List.drop_succ_cons, List.drop_zero, List.set_cons_zero, List.set_cons_succ, true_or, or_true, and_self, Bool.false_eq_true, Nat.le_refl, Option.bind_some, Option.map_some, Option.getD_some, Option.isSome_some, List.map_cons, List.map_nil, List.cons_append, List.nil_append, List.append_nil, List.getElem?_cons_zero, List.getElem?_cons_succ, eq_self, Int.reduceLT, Int.reduceLE, Int.reduceNeg, Int.reduceEq, e6, e30, e32, q1, r4.isRow.ix, x3, wrap_in, k3, r4.isRow.sl, k1, k2, k4, hcut.isRow.len]
      have E5 := Ext.one h2 (some ⟨[.int .i64 a.k, wa1, wa2], 42, false, true⟩)
      have gA : cellsAt (h2 ++ [some ⟨[.int .i64 a.k, wa1, wa2], 42, false, true⟩]) h2.length 0 3 = some [.int .i64 a.k, wa1, wa2] := (Sep.blk1 h2 [.int .i64 a.k, wa1, wa2] 42 true).rdAll (n := 3) rfl
      have x4 := x4.mono E5
      have hcut := hcut.mono E5
      generalize h2 ++ [some ⟨[.int .i64 a.k, wa1, wa2], 42, false, true⟩] = H5 at *
      refine loop_rule (fun n e h' => ∃ (j : Nat), e 6 = v ∧ e 30 = v ∧ e 31 = .int .i64 (l.length : Int) ∧ e 32 = .int .i64 (i : Int) ∧ e 10 = .pointer (some ⟨h2.length, 0, none⟩) ∧ e 40 = cutV v 3 (i + 1) l.length ∧ e 41 = .int .i64 ((l.drop (i + 1)).length : Nat) ∧ e 42 = .int .i64 (j : Int) ∧ j ≤ (l.drop (i + 1)).length ∧ n = (l.drop (i + 1)).length - j ∧ ((l.drop (i + 1)).take j).all (fun y => !comM a y) = true ∧ Ext H5 h') ?_ (l.drop (i + 1)).length _ _
        ⟨0, e6, e30, e31, e32, rfl, rfl, rfl, rfl, Nat.zero_le _, rfl, by simp, .refl H5⟩
      rintro n e h6 ⟨j, e6, e30, e31, e32, e10, e40, e41, e42, hj, rfl, hall, E6⟩
      have rc := hcut.mono E6
      have gA6 := E6.keepA gA
      simp (disch := omega) only [VW, VY, VZ, VA, VB, VC, VE, TY, ↓reduceIte, Nat.reduceEqDiff, Nat.reduceAdd, Nat.reduceMul, Nat.reduceSub, Nat.reduceLeDiff, List.length_cons, List.length_nil, List.length_append, List.append_assoc, List.take_succ_cons, List.take_zero, List.drop_succ_cons, List.drop_zero, List.set_cons_zero, List.set_cons_succ, true_or, or_true, and_self, Bool.false_eq_true, Nat.le_refl, Option.bind_some, Option.map_some, Option.getD_some, Option.isSome_some, List.map_cons, List.map_nil, List.cons_append, List.nil_append, List.append_nil, List.getElem?_cons_zero, List.getElem?_cons_succ, eq_self, Int.reduceLT, Int.reduceLE, Int.reduceNeg, Int.reduceEq, e41, e42]
      by_cases hlt2 : j < (l.drop (i + 1)).length
      · obtain ⟨b, hb⟩ := get_some hlt2
        have q2 : (j : Int) < (((l.drop (i + 1)).length : Nat) : Int) := by omega
        have gb := hgood b (List.mem_of_mem_drop (List.mem_of_getElem? hb))
        obtain ⟨ys, y3, y4⟩ := rc.at hb
        rw [Bx.sz] at y3
        obtain ⟨wb1, wb2, rfl, f2, rb1, rb2⟩ := here_Bx y4
        have E7 := Ext.one h6 (some ⟨[.int .i64 b.k, wb1, wb2], 42, false, true⟩)
        have gB : cellsAt (h6 ++ [some ⟨[.int .i64 b.k, wb1, wb2], 42, false, true⟩]) h6.length 0 3 = some [.int .i64 b.k, wb1, wb2] := (Sep.blk1 h6 [.int .i64 b.k, wb1, wb2] 42 true).rdAll (n := 3) rfl
        have gA7 := E7.keepA gA6
        simp (disch := omega) only [VW, VY, VZ, VA, VB, VC, VE, TY, ↓reduceIte, Nat.reduceEqDiff, Nat.reduceAdd, Nat.reduceMul, Nat.reduceSub, Nat.reduceLeDiff, List.length_cons, List.length_nil, List.length_append, List.append_assoc, List.take_succ_cons, List.take_zero, List.drop_succ_cons, List.drop_zero, List.set_cons_zero, List.set_cons_succ, true_or, or_true, and_self, Bool.false_eq_true, Nat.le_refl, Option.bind_some, Option.map_some, Option.getD_some, Option.isSome_some, List.map_cons, List.map_nil, List.cons_append, List.nil_append, List.append_nil, List.getElem?_cons_zero, List.getElem?_cons_succ, eq_self, Int.reduceLT, Int.reduceLE, Int.reduceNeg, Int.reduceEq, e10, e40, e42, q2, rc.isRow.ix, y3, gB, gA7]
        refine .inl ⟨by kernel_rfl, ?_⟩; refine bxCommon_c (x4.mono (E6.trans E7)) (y4.mono E7) ga.1 gb.1 (by omega) fun cs h8 h3 E8 => ?_
        obtain ⟨d0, d1, d2, rfl⟩ : ∃ d0 d1 d2, cs = [d0, d1, d2] := by
          match cs, h3 with
          | [d0, d1, d2], _ => exact ⟨_, _, _, rfl⟩
        have hat := all_take (fun y => !comM a y) hb
        rw [hall, Bool.true_and] at hat
        cases hc : comM a b with
        | true =>
          have hf : (l.drop (i + 1)).all (fun y => !comM a y) = false := all_false hb (by rw [hc]; rfl)
          rw [hap, hf] at hQ
          simp (disch := omega) only [VW, VY, VZ, VA, VB, VC, VE, TY, ↓reduceIte, Nat.reduceEqDiff, Nat.reduceAdd, Nat.reduceMul, Nat.reduceSub, Nat.reduceLeDiff, List.length_cons, List.length_nil, List.length_append, List.append_assoc, List.take_succ_cons, List.take_zero, List.drop_succ_cons, List.drop_zero, List.set_cons_zero, List.set_cons_succ, true_or, or_true, and_self, Bool.false_eq_true, Nat.le_refl, Option.bind_some, Option.map_some, Option.getD_some, Option.isSome_some, List.map_cons, List.map_nil, List.cons_append, List.nil_append, List.append_nil, List.getElem?_cons_zero, List.getElem?_cons_succ, eq_self, Int.reduceLT, Int.reduceLE, Int.reduceNeg, Int.reduceEq]
          exact hQ _ (EH.trans (E4.trans (E5.trans (E6.trans (E7.trans (E8.trans (.one _ _)))))))
        | false =>
          rw [hc] at hat
          simp (disch := omega) only [VW, VY, VZ, VA, VB, VC, VE, TY, ↓reduceIte, Nat.reduceEqDiff, Nat.reduceAdd, Nat.reduceMul, Nat.reduceSub, Nat.reduceLeDiff, List.length_cons, List.length_nil, List.length_append, List.append_assoc, List.take_succ_cons, List.take_zero, List.drop_succ_cons, List.drop_zero, List.set_cons_zero, List.set_cons_succ, true_or, or_true, and_self, Bool.false_eq_true, Nat.le_refl, Option.bind_some, Option.map_some, Option.getD_some, Option.isSome_some, List.map_cons, List.map_nil, List.cons_append, List.nil_append, List.append_nil, List.getElem?_cons_zero, List.getElem?_cons_succ, eq_self, Int.reduceLT, Int.reduceLE, Int.reduceNeg, Int.reduceEq, e6, e30, e31, e32, e10, e40, e42, e41, wrap_in]
          exact ⟨_, by omega, j + 1, by simp, by omega, rfl, hat, E6.trans (E7.trans (E8.trans (.one _ _)))⟩
      · obtain rfl : j = (l.drop (i + 1)).length := by omega
        have q2 : ¬ (((l.drop (i + 1)).length : Nat) : Int) < (((l.drop (i + 1)).length : Nat) : Int) := by omega
        rw [List.take_length] at hall
        simp (disch := omega) only [VW, VY, VZ, VA, VB, VC, VE, TY, ↓reduceIte, Nat.reduceEqDiff, Nat.reduceAdd, Nat.reduceMul, Nat.reduceSub, Nat.reduceLeDiff, List.length_cons, List.length_nil, List.length_append, List.append_assoc, List.take_succ_cons, List.take_zero, List.drop_succ_cons, List.drop_zero, List.set_cons_zero, List.set_cons_succ, true_or, or_true, and_self, Bool.false_eq_true, Nat.le_refl, Option.bind_some, Option.map_some, Option.getD_some, Option.isSome_some, List.map_cons, List.map_nil, List.cons_append, List.nil_append, List.append_nil, List.getElem?_cons_zero, List.getElem?_cons_succ, eq_self, Int.reduceLT, Int.reduceLE, Int.reduceNeg, Int.reduceEq, q2, e6, e30, e32, e31, wrap_in]
        exact ⟨_, by omega, i + 1, by simp, by omega, rfl, by rw [hap, hall, Bool.true_and], E4.trans (E5.trans E6)⟩
    · obtain rfl : i = l.length := by omega
      have q1 : ¬ (l.length : Int) < (l.length : Int) := by omega
      rw [List.drop_length] at hap
      rw [hap] at hQ
      simp (disch := omega) only [VW, VY, VZ, VA, VB, VC, VE, TY, ↓reduceIte, Nat.reduceEqDiff, Nat.reduceAdd, Nat.reduceMul, Nat.reduceSub, Nat.reduceLeDiff, List.length_cons, List.length_nil, List.length_append, List.append_assoc, List.take_succ_cons, List.take_zero, List.drop_succ_cons, List.drop_zero, List.set_cons_zero, List.set_cons_succ, true_or, or_true, and_self, Bool.false_eq_true, Nat.le_refl, Option.bind_some, Option.map_some, Option.getD_some, Option.isSome_some, List.map_cons, List.map_nil, List.cons_append, List.nil_append, List.append_nil, List.getElem?_cons_zero, List.getElem?_cons_succ, eq_self, Int.reduceLT, Int.reduceLE, Int.reduceNeg, Int.reduceEq, q1]
      exact hQ _ (EH.trans E4)
end Go.Proofs
