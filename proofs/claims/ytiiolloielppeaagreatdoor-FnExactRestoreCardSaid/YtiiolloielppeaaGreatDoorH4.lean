/- Contracts of functions, facts of types, or the plain law behind one statement (own work): H4. Conditions: those told in each theorem. -/
import Derived.Test.YtiiolloielppeaaGreatDoorH3
set_option linter.all false
set_option linter.unusedSimpArgs false
set_option linter.unusedVariables false
set_option maxRecDepth 4000
namespace Go.Proofs
open Go Go.V
structure Wk where
  opened : (List Bx)
  free : (List Bx)
  holds : (List Bx)
  kept : (List Bx)
  steps : Int
  deriving DecidableEq, Inhabited
instance : Rep Wk := Rep.iso (α := (List Bx) × (List Bx) × (List Bx) × (List Bx) × Int) fun x => (x.opened, x.free, x.holds, x.kept, x.steps)
theorem Wk.sz : Rep.sz Wk = 5 := rfl
instance : Giv Wk := Giv.iso (α := (List Bx) × (List Bx) × (List Bx) × (List Bx) × Int) (fun (x : Wk) => (x.opened, x.free, x.holds, x.kept, x.steps)) (⟨[⟨(-7000000000000000101), [(-7000000000000000101)], [(-7000000000000000101)]⟩], [⟨(-7000000000000000101), [(-7000000000000000101)], [(-7000000000000000101)]⟩], [⟨(-7000000000000000101), [(-7000000000000000101)], [(-7000000000000000101)]⟩], [⟨(-7000000000000000101), [(-7000000000000000101)], [(-7000000000000000101)]⟩], (-7000000000000000101)⟩ : Wk)
instance : Siz Wk := ⟨fun x => Siz.siz x.opened + Siz.siz x.free + Siz.siz x.holds + Siz.siz x.kept + Siz.siz x.steps⟩
theorem here_Wk {h : Heap} {x : Wk} {cs : List Value} (hr : Here h x cs) : ∃ v1 v2 v3 v4, cs = [v1, v2, v3, v4, .int .i64 x.steps] ∧ Row h x.opened v1 ∧ Row h x.free v2 ∧ Row h x.holds v3 ∧ Row h x.kept v4 ∧ inI64 x.steps := by
  have hrp : Here (α := (List Bx) × (List Bx) × (List Bx) × (List Bx) × Int) h (x.opened, x.free, x.holds, x.kept, x.steps) _ := hr
  obtain ⟨c1, d1, rfl, q1, r1⟩ := here_pair hrp
  obtain ⟨w2, rfl, f2⟩ := here_list q1
  obtain ⟨c3, d3, rfl, q3, r3⟩ := here_pair r1
  obtain ⟨w4, rfl, f4⟩ := here_list q3
  obtain ⟨c5, d5, rfl, q5, r5⟩ := here_pair r3
  obtain ⟨w6, rfl, f6⟩ := here_list q5
  obtain ⟨c7, d7, rfl, q7, r7⟩ := here_pair r5
  obtain ⟨w8, rfl, f8⟩ := here_list q7
  obtain ⟨rfl, f9⟩ := here_int r7
  exact ⟨w2, w4, w6, w8, rfl, f2, f4, f6, f8, f9⟩
theorem giv_Wk {h : Heap} {x : Wk} {cs : List Value} (hr : GivH h x cs) : ∃ v1 v2 v3 v4, cs = [v1, v2, v3, v4, .int .i64 x.steps] ∧ GivH h x.opened [v1] ∧ GivH h x.free [v2] ∧ GivH h x.holds [v3] ∧ GivH h x.kept [v4] ∧ inI64 x.steps := by
  have hrp : GivH (α := (List Bx) × (List Bx) × (List Bx) × (List Bx) × Int) h (x.opened, x.free, x.holds, x.kept, x.steps) _ := hr
  obtain ⟨c1, d1, rfl, q1, r1⟩ := giv_pair hrp
  obtain ⟨w2, rfl, f2⟩ := giv_list q1
  obtain ⟨c3, d3, rfl, q3, r3⟩ := giv_pair r1
  obtain ⟨w4, rfl, f4⟩ := giv_list q3
  obtain ⟨c5, d5, rfl, q5, r5⟩ := giv_pair r3
  obtain ⟨w6, rfl, f6⟩ := giv_list q5
  obtain ⟨c7, d7, rfl, q7, r7⟩ := giv_pair r5
  obtain ⟨w8, rfl, f8⟩ := giv_list q7
  obtain ⟨rfl, f9⟩ := giv_int r7
  exact ⟨w2, w4, w6, w8, rfl, f2, f4, f6, f8, f9⟩
theorem mk_Wk {h : Heap} {x : Wk} {v1 v2 v3 v4 : Value} (h1 : Row h x.opened v1) (h2 : Row h x.free v2) (h3 : Row h x.holds v3) (h4 : Row h x.kept v4) (h5 : inI64 x.steps) : Here h x [v1, v2, v3, v4, .int .i64 x.steps] := (mk_pair (p := (x.opened, (x.free, (x.holds, (x.kept, x.steps))))) (mk_list h1) (mk_pair (p := (x.free, (x.holds, (x.kept, x.steps)))) (mk_list h2) (mk_pair (p := (x.holds, (x.kept, x.steps))) (mk_list h3) (mk_pair (p := (x.kept, x.steps)) (mk_list h4) (mk_int h5)))))
theorem mkg_Wk {h : Heap} {x : Wk} {v1 v2 v3 v4 : Value} (h1 : GivH h x.opened [v1]) (h2 : GivH h x.free [v2]) (h3 : GivH h x.holds [v3]) (h4 : GivH h x.kept [v4]) (h5 : inI64 x.steps) : GivH h x [v1, v2, v3, v4, .int .i64 x.steps] := (mkg_pair (p := (x.opened, (x.free, (x.holds, (x.kept, x.steps))))) h1 (mkg_pair (p := (x.free, (x.holds, (x.kept, x.steps)))) h2 (mkg_pair (p := (x.holds, (x.kept, x.steps))) h3 (mkg_pair (p := (x.kept, x.steps)) h4 (mkg_int h5)))))
theorem at_Wk {h : Heap} {b off : Nat} {x : Wk} (hp : At h b off x) : ∃ v1 v2 v3 v4, getC h b off = some (v1) ∧ getC h b (off + 1) = some (v2) ∧ getC h b (off + 2) = some (v3) ∧ getC h b (off + 3) = some (v4) ∧ getC h b (off + 4) = some (.int .i64 x.steps) ∧ Row h x.opened v1 ∧ Row h x.free v2 ∧ Row h x.holds v3 ∧ Row h x.kept v4 ∧ inI64 x.steps ∧ cellsAt h b off 5 = some [v1, v2, v3, v4, .int .i64 x.steps] := by
  obtain ⟨cs, hc, hr⟩ := hp
  rw [Wk.sz] at hc
  obtain ⟨w1, w2, w3, w4, rfl, f1, f2, f3, f4, f5⟩ := here_Wk hr
  exact ⟨w1, w2, w3, w4, cellsAt_getC hc 0 (by decide), cellsAt_getC hc 1 (by decide), cellsAt_getC hc 2 (by decide), cellsAt_getC hc 3 (by decide), cellsAt_getC hc 4 (by decide), f1, f2, f3, f4, f5, hc⟩
theorem zero_Wk (h : Heap) : Rep.rep h (⟨[], [], [], [], 0⟩ : Wk) [.slice none 0 0, .slice none 0 0, .slice none 0 0, .slice none 0 0, .int .i64 0] [] := (rep_pair0 (p := (([], ([], ([], ([], 0)))) : ((List Bx) × ((List Bx) × ((List Bx) × ((List Bx) × Int)))))) (rep_nil (h := h)) (rep_pair0 (p := (([], ([], ([], 0))) : ((List Bx) × ((List Bx) × ((List Bx) × Int))))) (rep_nil (h := h)) (rep_pair0 (p := (([], ([], 0)) : ((List Bx) × ((List Bx) × Int)))) (rep_nil (h := h)) (rep_pair0 (p := (([], 0) : ((List Bx) × Int))) (rep_nil (h := h)) (rep_int (h := h) ⟨by decide, by decide⟩)))))
theorem eqWork_c {x y : Wk} {cs ds : List Value} {h : Heap} {Q : Value → Heap → Prop} (hx : Here h x cs) (hy : Here h y ds)
    (hQ : ∀ h', Ext h h' → Q (.bool (decide (x = y))) h') : CallsV Tryz.prog 6 [.agg cs.toArray, .agg ds.toArray] h Q := by
  obtain ⟨v1, v2, v3, v4, rfl, vf1, vf2, vf3, vf4, vf5⟩ := here_Wk hx
  obtain ⟨u1, u2, u3, u4, rfl, uf1, uf2, uf3, uf4, uf5⟩ := here_Wk hy
  refine CallsV.start Tryz.func6 rfl (by rw [Tryz.results6]) (by kernel_rfl) (by rw [Tryz.ntmps6]; simp) ?_
  have s := Sep.blk2 h [v1, v2, v3, v4, .int .i64 x.steps] [u1, u2, u3, u4, .int .i64 y.steps] 24 24 true true
  have he : (x = y) ↔ (x.opened = y.opened ∧ x.free = y.free ∧ x.holds = y.holds ∧ x.kept = y.kept ∧ x.steps = y.steps) := by cases x; cases y; simp
  simp (disch := omega) only [VW, VY, VZ, VA, VB, VC, VE, TY, ↓reduceIte, Nat.reduceEqDiff, Nat.reduceAdd, Nat.reduceMul, Nat.reduceSub, Nat.reduceLeDiff, List.length_cons, List.length_nil, List.length_append, List.append_assoc, List.take_succ_cons, List.take_zero, List.drop_succ_cons, List.drop_zero, List.set_cons_zero, List.set_cons_succ, true_or, or_true, and_self, Bool.false_eq_true, Nat.le_refl, Option.bind_some, Option.map_some, Option.getD_some, Option.isSome_some, List.map_cons, List.map_nil, List.cons_append, List.nil_append, List.append_nil, List.getElem?_cons_zero, List.getElem?_cons_succ, eq_self, Int.reduceLT, Int.reduceLE, Int.reduceNeg, Int.reduceEq]
  refine .inl ⟨by kernel_rfl, ?_⟩; refine eqBoxS_c (vf1.mono s.ext) (uf1.mono s.ext) fun h1 E1 => ?_
  have s := s.mono E1
  have g1 := s.rd
  have g2 := s.tail.rd
  by_cases c1 : ¬ x.opened = y.opened
  · simp (disch := omega) only [VW, VY, VZ, VA, VB, VC, VE, TY, ↓reduceIte, Nat.reduceEqDiff, Nat.reduceAdd, Nat.reduceMul, Nat.reduceSub, Nat.reduceLeDiff, List.length_cons, List.length_nil, List.length_append, List.append_assoc, List.take_succ_cons, List.take_zero, List.drop_succ_cons, List.drop_zero, List.set_cons_zero, List.set_cons_succ, true_or, or_true, and_self, Bool.false_eq_true, Nat.le_refl, Option.bind_some, Option.map_some, Option.getD_some, Option.isSome_some, List.map_cons, List.map_nil, List.cons_append, List.nil_append, List.append_nil, List.getElem?_cons_zero, List.getElem?_cons_succ, eq_self, Int.reduceLT, Int.reduceLE, Int.reduceNeg, Int.reduceEq, c1]
    simpa [he, c1] using hQ _ s.ext
  have c1 := Decidable.not_not.1 c1
  have d1 := decide_eq_true c1
  simp (disch := omega) only [VW, VY, VZ, VA, VB, VC, VE, TY, ↓reduceIte, Nat.reduceEqDiff, Nat.reduceAdd, Nat.reduceMul, Nat.reduceSub, Nat.reduceLeDiff, List.length_cons, List.length_nil, List.length_append, List.append_assoc, List.take_succ_cons, List.take_zero, List.drop_succ_cons, List.drop_zero, List.set_cons_zero, List.set_cons_succ, true_or, or_true, and_self, Bool.false_eq_true, Nat.le_refl, Option.bind_some, Option.map_some, Option.getD_some, Option.isSome_some, List.map_cons, List.map_nil, List.cons_append, List.nil_append, List.append_nil, List.getElem?_cons_zero, List.getElem?_cons_succ, eq_self, Int.reduceLT, Int.reduceLE, Int.reduceNeg, Int.reduceEq, d1, g1, g2]
  refine .inl ⟨by kernel_rfl, ?_⟩; refine eqBoxS_c (vf2.mono s.ext) (uf2.mono s.ext) fun h2 E2 => ?_
  have s := s.mono E2
  have g1 := s.rd
  have g2 := s.tail.rd
  by_cases c2 : ¬ x.free = y.free
  · simp (disch := omega) only [VW, VY, VZ, VA, VB, VC, VE, TY, ↓reduceIte, Nat.reduceEqDiff, Nat.reduceAdd, Nat.reduceMul, Nat.reduceSub, Nat.reduceLeDiff, List.length_cons, List.length_nil, List.length_append, List.append_assoc, List.take_succ_cons, List.take_zero, List.drop_succ_cons, List.drop_zero, List.set_cons_zero, List.set_cons_succ, true_or, or_true, and_self, Bool.false_eq_true, Nat.le_refl, Option.bind_some, Option.map_some, Option.getD_some, Option.isSome_some, List.map_cons, List.map_nil, List.cons_append, List.nil_append, List.append_nil, List.getElem?_cons_zero, List.getElem?_cons_succ, eq_self, Int.reduceLT, Int.reduceLE, Int.reduceNeg, Int.reduceEq, c2]
    simpa [he, c1, c2] using hQ _ s.ext
  have c2 := Decidable.not_not.1 c2
  have d2 := decide_eq_true c2
  simp (disch := omega) only [VW, VY, VZ, VA, VB, VC, VE, TY, ↓reduceIte, Nat.reduceEqDiff, Nat.reduceAdd, Nat.reduceMul, Nat.reduceSub, Nat.reduceLeDiff, List.length_cons, List.length_nil, List.length_append, List.append_assoc, List.take_succ_cons, List.take_zero, List.drop_succ_cons, List.drop_zero, List.set_cons_zero, List.set_cons_succ, true_or, or_true, and_self, Bool.false_eq_true, Nat.le_refl, Option.bind_some, Option.map_some, Option.getD_some, Option.isSome_some, List.map_cons, List.map_nil, List.cons_append, List.nil_append, List.append_nil, List.getElem?_cons_zero, List.getElem?_cons_succ, eq_self, Int.reduceLT, Int.reduceLE, Int.reduceNeg, Int.reduceEq, d2, g1, g2]
  refine .inl ⟨by kernel_rfl, ?_⟩; refine eqBoxS_c (vf3.mono s.ext) (uf3.mono s.ext) fun h3 E3 => ?_
  have s := s.mono E3
  have g1 := s.rd
  have g2 := s.tail.rd
  by_cases c3 : ¬ x.holds = y.holds
  · simp (disch := omega) only [VW, VY, VZ, VA, VB, VC, VE, TY, ↓reduceIte, Nat.reduceEqDiff, Nat.reduceAdd, Nat.reduceMul, Nat.reduceSub, Nat.reduceLeDiff, List.length_cons, List.length_nil, List.length_append, List.append_assoc, List.take_succ_cons, List.take_zero, List.drop_succ_cons, List.drop_zero, List.set_cons_zero, List.set_cons_succ, true_or, or_true, and_self, Bool.false_eq_true, Nat.le_refl, Option.bind_some, Option.map_some, Option.getD_some, Option.isSome_some, List.map_cons, List.map_nil, List.cons_append, List.nil_append, List.append_nil, List.getElem?_cons_zero, List.getElem?_cons_succ, eq_self, Int.reduceLT, Int.reduceLE, Int.reduceNeg, Int.reduceEq, c3]
    simpa [he, c1, c2, c3] using hQ _ s.ext
  have c3 := Decidable.not_not.1 c3
  have d3 := decide_eq_true c3
  simp (disch := omega) only [VW, VY, VZ, VA, VB, VC, VE, TY, ↓reduceIte, Nat.reduceEqDiff, Nat.reduceAdd, Nat.reduceMul, Nat.reduceSub, Nat.reduceLeDiff, List.length_cons, List.length_nil, List.length_append, List.append_assoc, List.take_succ_cons, List.take_zero, List.drop_succ_cons, List.drop_zero, List.set_cons_zero, List.set_cons_succ, true_or, or_true, and_self, Bool.false_eq_true, Nat.le_refl, Option.bind_some, Option.map_some, Option.getD_some, Option.isSome_some, List.map_cons, List.map_nil, List.cons_append, List.nil_append, List.append_nil, List.getElem?_cons_zero, List.getElem?_cons_succ, eq_self, Int.reduceLT, Int.reduceLE, Int.reduceNeg, Int.reduceEq, d3, g1, g2]
  refine .inl ⟨by kernel_rfl, ?_⟩; refine eqBoxS_c (vf4.mono s.ext) (uf4.mono s.ext) fun h4 E4 => ?_
  have s := s.mono E4
  have g1 := s.rd
  have g2 := s.tail.rd
  by_cases c4 : ¬ x.kept = y.kept
  · simp (disch := omega) only [VW, VY, VZ, VA, VB, VC, VE, TY, ↓reduceIte, Nat.reduceEqDiff, Nat.reduceAdd, Nat.reduceMul, Nat.reduceSub, Nat.reduceLeDiff, List.length_cons, List.length_nil, List.length_append, List.append_assoc, List.take_succ_cons, List.take_zero, List.drop_succ_cons, List.drop_zero, List.set_cons_zero, List.set_cons_succ, true_or, or_true, and_self, Bool.false_eq_true, Nat.le_refl, Option.bind_some, Option.map_some, Option.getD_some, Option.isSome_some, List.map_cons, List.map_nil, List.cons_append, List.nil_append, List.append_nil, List.getElem?_cons_zero, List.getElem?_cons_succ, eq_self, Int.reduceLT, Int.reduceLE, Int.reduceNeg, Int.reduceEq, c4]
    simpa [he, c1, c2, c3, c4] using hQ _ s.ext
  have c4 := Decidable.not_not.1 c4
  have d4 := decide_eq_true c4
  simp (disch := omega) only [VW, VY, VZ, VA, VB, VC, VE, TY, ↓reduceIte, Nat.reduceEqDiff, Nat.reduceAdd, Nat.reduceMul, Nat.reduceSub, Nat.reduceLeDiff, List.length_cons, List.length_nil, List.length_append, List.append_assoc, List.take_succ_cons, List.take_zero, List.drop_succ_cons, List.drop_zero, List.set_cons_zero, List.set_cons_succ, true_or, or_true, and_self, Bool.false_eq_true, Nat.le_refl, Option.bind_some, Option.map_some, Option.getD_some, Option.isSome_some, List.map_cons, List.map_nil, List.cons_append, List.nil_append, List.append_nil, List.getElem?_cons_zero, List.getElem?_cons_succ, eq_self, Int.reduceLT, Int.reduceLE, Int.reduceNeg, Int.reduceEq, d4, g1, g2]
  by_cases c5 : ¬ x.steps = y.steps
  · simp (disch := omega) only [VW, VY, VZ, VA, VB, VC, VE, TY, ↓reduceIte, Nat.reduceEqDiff, Nat.reduceAdd, Nat.reduceMul, Nat.reduceSub, Nat.reduceLeDiff, List.length_cons, List.length_nil, List.length_append, List.append_assoc, List.take_succ_cons, List.take_zero, List.drop_succ_cons, List.drop_zero, List.set_cons_zero, List.set_cons_succ, true_or, or_true, and_self, Bool.false_eq_true, Nat.le_refl, Option.bind_some, Option.map_some, Option.getD_some, Option.isSome_some, List.map_cons, List.map_nil, List.cons_append, List.nil_append, List.append_nil, List.getElem?_cons_zero, List.getElem?_cons_succ, eq_self, Int.reduceLT, Int.reduceLE, Int.reduceNeg, Int.reduceEq, c5]
    simpa [he, c1, c2, c3, c4, c5] using hQ _ s.ext
  have c5 := Decidable.not_not.1 c5
  have d5 := decide_eq_true c5
  simp (disch := omega) only [VW, VY, VZ, VA, VB, VC, VE, TY, ↓reduceIte, Nat.reduceEqDiff, Nat.reduceAdd, Nat.reduceMul, Nat.reduceSub, Nat.reduceLeDiff, List.length_cons, List.length_nil, List.length_append, List.append_assoc, List.take_succ_cons, List.take_zero, List.drop_succ_cons, List.drop_zero, List.set_cons_zero, List.set_cons_succ, true_or, or_true, and_self, Bool.false_eq_true, Nat.le_refl, Option.bind_some, Option.map_some, Option.getD_some, Option.isSome_some, List.map_cons, List.map_nil, List.cons_append, List.nil_append, List.append_nil, List.getElem?_cons_zero, List.getElem?_cons_succ, eq_self, Int.reduceLT, Int.reduceLE, Int.reduceNeg, Int.reduceEq, d5, g1, g2]
  simpa [he, c1, c2, c3, c4, c5] using hQ _ s.ext
end Go.Proofs
