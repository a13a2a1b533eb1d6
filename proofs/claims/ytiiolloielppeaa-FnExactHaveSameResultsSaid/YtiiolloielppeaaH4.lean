/- Contracts of functions, facts of types, or the plain law behind one statement (own work): H4. Conditions: those told in each theorem. -/
import Derived.Test.YtiiolloielppeaaH3
set_option linter.all false
set_option linter.unusedSimpArgs false
set_option linter.unusedVariables false
set_option maxRecDepth 4000
namespace Go.Proofs
open Go Go.V
structure Wk where
  opened : (List Bx)
  free : (List Bx)
  holds : (List Bx)
  kept : (List Bx)
  steps : Int
  deriving DecidableEq, Inhabited
instance : Rep Wk := Rep.iso (α := (List Bx) × (List Bx) × (List Bx) × (List Bx) × Int) fun x => (x.opened, x.free, x.holds, x.kept, x.steps)
theorem Wk.sz : Rep.sz Wk = 5 := rfl
instance : Giv Wk := Giv.iso (α := (List Bx) × (List Bx) × (List Bx) × (List Bx) × Int) (fun (x : Wk) => (x.opened, x.free, x.holds, x.kept, x.steps)) (⟨[⟨(-7000000000000000101), [(-7000000000000000101)], [(-7000000000000000101)]⟩], [⟨(-7000000000000000101), [(-7000000000000000101)], [(-7000000000000000101)]⟩], [⟨(-7000000000000000101), [(-7000000000000000101)], [(-7000000000000000101)]⟩], [⟨(-7000000000000000101), [(-7000000000000000101)], [(-7000000000000000101)]⟩], (-7000000000000000101)⟩ : Wk)
instance : Siz Wk := ⟨fun x => Siz.siz x.opened + Siz.siz x.free + Siz.siz x.holds + Siz.siz x.kept + Siz.siz x.steps⟩
theorem here_Wk {h : Heap} {x : Wk} {cs : List Value} (hr : Here h x cs) : ∃ v1 v2 v3 v4, cs = [v1, v2, v3, v4, .int .i64 x.steps] ∧ Row h x.opened v1 ∧ Row h x.free v2 ∧ Row h x.holds v3 ∧ Row h x.kept v4 ∧ inI64 x.steps := by
  have hrp : Here (α := (List Bx) × (List Bx) × (List Bx) × (List Bx) × Int) h (x.opened, x.free, x.holds, x.kept, x.steps) _ := hr
  obtain ⟨c1, d1, rfl, q1, r1⟩ := here_pair hrp
  obtain ⟨w2, rfl, f2⟩ := here_list q1
  obtain ⟨c3, d3, rfl, q3, r3⟩ := here_pair r1
  obtain ⟨w4, rfl, f4⟩ := here_list q3
  obtain ⟨c5, d5, rfl, q5, r5⟩ := here_pair r3
  obtain ⟨w6, rfl, f6⟩ := here_list q5
  obtain ⟨c7, d7, rfl, q7, r7⟩ := here_pair r5
  obtain ⟨w8, rfl, f8⟩ := here_list q7
  obtain ⟨rfl, f9⟩ := here_int r7
  exact ⟨w2, w4, w6, w8, rfl, f2, f4, f6, f8, f9⟩
theorem giv_Wk {h : Heap} {x : Wk} {cs : List Value} (hr : GivH h x cs) : ∃ v1 v2 v3 v4, cs = [v1, v2, v3, v4, .int .i64 x.steps] ∧ GivH h x.opened [v1] ∧ GivH h x.free [v2] ∧ GivH h x.holds [v3] ∧ GivH h x.kept [v4] ∧ inI64 x.steps := by
  have hrp : GivH (α := (List Bx) × (List Bx) × (List Bx) × (List Bx) × Int) h (x.opened, x.free, x.holds, x.kept, x.steps) _ := hr
  obtain ⟨c1, d1, rfl, q1, r1⟩ := giv_pair hrp
  obtain ⟨w2, rfl, f2⟩ := giv_list q1
  obtain ⟨c3, d3, rfl, q3, r3⟩ := giv_pair r1
  obtain ⟨w4, rfl, f4⟩ := giv_list q3
  obtain ⟨c5, d5, rfl, q5, r5⟩ := giv_pair r3
  obtain ⟨w6, rfl, f6⟩ := giv_list q5
  obtain ⟨c7, d7, rfl, q7, r7⟩ := giv_pair r5
  obtain ⟨w8, rfl, f8⟩ := giv_list q7
  obtain ⟨rfl, f9⟩ := giv_int r7
  exact ⟨w2, w4, w6, w8, rfl, f2, f4, f6, f8, f9⟩
theorem mk_Wk {h : Heap} {x : Wk} {v1 v2 v3 v4 : Value} (h1 : Row h x.opened v1) (h2 : Row h x.free v2) (h3 : Row h x.holds v3) (h4 : Row h x.kept v4) (h5 : inI64 x.steps) : Here h x [v1, v2, v3, v4, .int .i64 x.steps] := (mk_pair (p := (x.opened, (x.free, (x.holds, (x.kept, x.steps))))) (mk_list h1) (mk_pair (p := (x.free, (x.holds, (x.kept, x.steps)))) (mk_list h2) (mk_pair (p := (x.holds, (x.kept, x.steps))) (mk_list h3) (mk_pair (p := (x.kept, x.steps)) (mk_list h4) (mk_int h5)))))
theorem mkg_Wk {h : Heap} {x : Wk} {v1 v2 v3 v4 : Value} (h1 : GivH h x.opened [v1]) (h2 : GivH h x.free [v2]) (h3 : GivH h x.holds [v3]) (h4 : GivH h x.kept [v4]) (h5 : inI64 x.steps) : GivH h x [v1, v2, v3, v4, .int .i64 x.steps] := (mkg_pair (p := (x.opened, (x.free, (x.holds, (x.kept, x.steps))))) h1 (mkg_pair (p := (x.free, (x.holds, (x.kept, x.steps)))) h2 (mkg_pair (p := (x.holds, (x.kept, x.steps))) h3 (mkg_pair (p := (x.kept, x.steps)) h4 (mkg_int h5)))))
theorem at_Wk {h : Heap} {b off : Nat} {x : Wk} (hp : At h b off x) : ∃ v1 v2 v3 v4, getC h b off = some (v1) ∧ getC h b (off + 1) = some (v2) ∧ getC h b (off + 2) = some (v3) ∧ getC h b (off + 3) = some (v4) ∧ getC h b (off + 4) = some (.int .i64 x.steps) ∧ Row h x.opened v1 ∧ Row h x.free v2 ∧ Row h x.holds v3 ∧ Row h x.kept v4 ∧ inI64 x.steps ∧ cellsAt h b off 5 = some [v1, v2, v3, v4, .int .i64 x.steps] := by
  obtain ⟨cs, hc, hr⟩ := hp
  rw [Wk.sz] at hc
  obtain ⟨w1, w2, w3, w4, rfl, f1, f2, f3, f4, f5⟩ := here_Wk hr
  exact ⟨w1, w2, w3, w4, cellsAt_getC hc 0 (by decide), cellsAt_getC hc 1 (by decide), cellsAt_getC hc 2 (by decide), cellsAt_getC hc 3 (by decide), cellsAt_getC hc 4 (by decide), f1, f2, f3, f4, f5, hc⟩
theorem zero_Wk (h : Heap) : Rep.rep h (⟨[], [], [], [], 0⟩ : Wk) [.slice none 0 0, .slice none 0 0, .slice none 0 0, .slice none 0 0, .int .i64 0] [] := (rep_pair0 (p := (([], ([], ([], ([], 0)))) : ((List Bx) × ((List Bx) × ((List Bx) × ((List Bx) × Int)))))) (rep_nil (h := h)) (rep_pair0 (p := (([], ([], ([], 0))) : ((List Bx) × ((List Bx) × ((List Bx) × Int))))) (rep_nil (h := h)) (rep_pair0 (p := (([], ([], 0)) : ((List Bx) × ((List Bx) × Int)))) (rep_nil (h := h)) (rep_pair0 (p := (([], 0) : ((List Bx) × Int))) (rep_nil (h := h)) (rep_int (h := h) ⟨by decide, by decide⟩)))))
theorem szWork_c {x : Wk} {cs : List Value} {left : Int} {h : Heap} {Q : Value → Heap → Prop} (hx : Here h x cs) (h0 : 0 ≤ left) (h1 : left ≤ 1000000)
    (hQ : ∀ h', Ext h h' → Q (.int .i64 (szR left (Siz.siz x))) h') : CallsV Try.prog 9 [.agg cs.toArray, .int .i64 left] h Q := by
  have hs : Siz.siz x = Siz.siz x.opened + Siz.siz x.free + Siz.siz x.holds + Siz.siz x.kept + Siz.siz x.steps := rfl
  have zSteps : Siz.siz x.steps = 0 := rfl
  obtain ⟨v1, v2, v3, v4, rfl, vf1, vf2, vf3, vf4, vf5⟩ := here_Wk hx
  refine CallsV.start Try.func9 rfl (by rw [Try.results9]) (by kernel_rfl) (by rw [Try.ntmps9]; simp) ?_
  have s := Sep.blk1 h [v1, v2, v3, v4, .int .i64 x.steps] 24 true
  simp (disch := omega) only [VW, VY, VZ, VA, VB, VC, VE, TY, ↓reduceIte, Nat.reduceEqDiff, Nat.reduceAdd, Nat.reduceMul, Nat.reduceSub, Nat.reduceLeDiff, List.length_cons, List.length_nil, List.length_append, List.append_assoc, List.take_succ_cons, List.take_zero, List.drop_succ_cons, List.drop_zero, List.set_cons_zero, List.set_cons_succ, true_or, or_true, and_self, Bool.false_eq_true, Nat.le_refl, Option.bind_some, Option.map_some, Option.getD_some, Option.isSome_some, List.map_cons, List.map_nil, List.cons_append, List.nil_append, List.append_nil, List.getElem?_cons_zero, List.getElem?_cons_succ, eq_self, Int.reduceLT, Int.reduceLE, Int.reduceNeg, Int.reduceEq]
  refine .inl ⟨by kernel_rfl, ?_⟩; refine szBoxS_c (vf1.mono s.ext) (by omega) (by omega) fun h1 E1 => ?_
  have s := s.mono E1
  have g := s.rd
  by_cases c1 : left < (Siz.siz x.opened : Int)
  · rw [szR_lt c1]
    simp (disch := omega) only [VW, VY, VZ, VA, VB, VC, VE, TY, ↓reduceIte, Nat.reduceEqDiff, Nat.reduceAdd, Nat.reduceMul, Nat.reduceSub, Nat.reduceLeDiff, List.length_cons, List.length_nil, List.length_append, List.append_assoc, List.take_succ_cons, List.take_zero, List.drop_succ_cons, List.drop_zero, List.set_cons_zero, List.set_cons_succ, true_or, or_true, and_self, Bool.false_eq_true, Nat.le_refl, Option.bind_some, Option.map_some, Option.getD_some, Option.isSome_some, List.map_cons, List.map_nil, List.cons_append, List.nil_append, List.append_nil, List.getElem?_cons_zero, List.getElem?_cons_succ, eq_self, Int.reduceLT, Int.reduceLE, Int.reduceNeg, Int.reduceEq]
    rw [szR_lt (by omega)] at hQ
    exact hQ _ s.ext
  · rw [szR_ge c1]
    have c' : ¬ left - (Siz.siz x.opened : Int) < 0 := by omega
    simp (disch := omega) only [VW, VY, VZ, VA, VB, VC, VE, TY, ↓reduceIte, Nat.reduceEqDiff, Nat.reduceAdd, Nat.reduceMul, Nat.reduceSub, Nat.reduceLeDiff, List.length_cons, List.length_nil, List.length_append, List.append_assoc, List.take_succ_cons, List.take_zero, List.drop_succ_cons, List.drop_zero, List.set_cons_zero, List.set_cons_succ, true_or, or_true, and_self, Bool.false_eq_true, Nat.le_refl, Option.bind_some, Option.map_some, Option.getD_some, Option.isSome_some, List.map_cons, List.map_nil, List.cons_append, List.nil_append, List.append_nil, List.getElem?_cons_zero, List.getElem?_cons_succ, eq_self, Int.reduceLT, Int.reduceLE, Int.reduceNeg, Int.reduceEq, c', g]
    refine .inl ⟨by kernel_rfl, ?_⟩; refine szBoxS_c (vf2.mono s.ext) (by omega) (by omega) fun h2 E2 => ?_
    have s := s.mono E2
    have g := s.rd
    by_cases c2 : left - (Siz.siz x.opened : Int) < (Siz.siz x.free : Int)
    · rw [szR_lt c2]
      simp (disch := omega) only [VW, VY, VZ, VA, VB, VC, VE, TY, ↓reduceIte, Nat.reduceEqDiff, Nat.reduceAdd, Nat.reduceMul, Nat.reduceSub, Nat.reduceLeDiff, List.length_cons, List.length_nil, List.length_append, List.append_assoc, List.take_succ_cons, List.take_zero, List.drop_succ_cons, List.drop_zero, List.set_cons_zero, List.set_cons_succ, true_or, or_true, and_self, Bool.false_eq_true, Nat.le_refl, Option.bind_some, Option.map_some, Option.getD_some, Option.isSome_some, List.map_cons, List.map_nil, List.cons_append, List.nil_append, List.append_nil, List.getElem?_cons_zero, List.getElem?_cons_succ, eq_self, Int.reduceLT, Int.reduceLE, Int.reduceNeg, Int.reduceEq]
      rw [szR_lt (by omega)] at hQ
      exact hQ _ s.ext
    · rw [szR_ge c2]
      have c' : ¬ left - (Siz.siz x.opened : Int) - (Siz.siz x.free : Int) < 0 := by omega
      simp (disch := omega) only [VW, VY, VZ, VA, VB, VC, VE, TY, ↓reduceIte, Nat.reduceEqDiff, Nat.reduceAdd, Nat.reduceMul, Nat.reduceSub, Nat.reduceLeDiff, List.length_cons, List.length_nil, List.length_append, List.append_assoc, List.take_succ_cons, List.take_zero, List.drop_succ_cons, List.drop_zero, List.set_cons_zero, List.set_cons_succ, true_or, or_true, and_self, Bool.false_eq_true, Nat.le_refl, Option.bind_some, Option.map_some, Option.getD_some, Option.isSome_some, List.map_cons, List.map_nil, List.cons_append, List.nil_append, List.append_nil, List.getElem?_cons_zero, List.getElem?_cons_succ, eq_self, Int.reduceLT, Int.reduceLE, Int.reduceNeg, Int.reduceEq, c', g]
      refine .inl ⟨by kernel_rfl, ?_⟩; refine szBoxS_c (vf3.mono s.ext) (by omega) (by omega) fun h3 E3 => ?_
      have s := s.mono E3
      have g := s.rd
      by_cases c3 : left - (Siz.siz x.opened : Int) - (Siz.siz x.free : Int) < (Siz.siz x.holds : Int)
      · rw [szR_lt c3]
        simp (disch := omega) only [VW, VY, VZ, VA, VB, VC, VE, TY, ↓reduceIte, Nat.reduceEqDiff, Nat.reduceAdd, Nat.reduceMul, Nat.reduceSub, Nat.reduceLeDiff, List.length_cons, List.length_nil, List.length_append, List.append_assoc, List.take_succ_cons, List.take_zero, List.drop_succ_cons, List.drop_zero, List.set_cons_zero, List.set_cons_succ, true_or, or_true, and_self, Bool.false_eq_true, Nat.le_refl, Option.bind_some, Option.map_some, Option.getD_some, Option.isSome_some, List.map_cons, List.map_nil, List.cons_append, List.nil_append, List.append_nil, List.getElem?_cons_zero, List.getElem?_cons_succ, eq_self, Int.reduceLT, Int.reduceLE, Int.reduceNeg, Int.reduceEq]
        rw [szR_lt (by omega)] at hQ
        exact hQ _ s.ext
      · rw [szR_ge c3]
        have c' : ¬ left - (Siz.siz x.opened : Int) - (Siz.siz x.free : Int) - (Siz.siz x.holds : Int) < 0 := by omega
        simp (disch := omega) only [VW, VY, VZ, VA, VB, VC, VE, TY, ↓reduceIte, Nat.reduceEqDiff, Nat.reduceAdd, Nat.reduceMul, Nat.reduceSub, Nat.reduceLeDiff, List.length_cons, List.length_nil, List.length_append, List.append_assoc, List.take_succ_cons, List.take_zero, List.drop_succ_cons, List.drop_zero, List.set_cons_zero, List.set_cons_succ, true_or, or_true, and_self, Bool.false_eq_true, Nat.le_refl, Option.bind_some, Option.map_some, Option.getD_some, Option.isSome_some, List.map_cons, List.map_nil, List.cons_append, List.nil_append, List.append_nil, List.getElem?_cons_zero, List.getElem?_cons_succ, eq_self, Int.reduceLT, Int.reduceLE, Int.reduceNeg, Int.reduceEq, c', g]
        refine .inl ⟨by kernel_rfl, ?_⟩; refine szBoxS_c (vf4.mono s.ext) (by omega) (by omega) fun h4 E4 => ?_
        have s := s.mono E4
        have g := s.rd
        by_cases c4 : left - (Siz.siz x.opened : Int) - (Siz.siz x.free : Int) - (Siz.siz x.holds : Int) < (Siz.siz x.kept : Int)
        · rw [szR_lt c4]
          simp (disch := omega) only [VW, VY, VZ, VA, VB, VC, VE, TY, ↓reduceIte, Nat.reduceEqDiff, Nat.reduceAdd, Nat.reduceMul, Nat.reduceSub, Nat.reduceLeDiff, List.length_cons, List.length_nil, List.length_append, List.append_assoc, List.take_succ_cons, List.take_zero, List.drop_succ_cons, List.drop_zero, List.set_cons_zero, List.set_cons_succ, true_or, or_true, and_self, Bool.false_eq_true, Nat.le_refl, Option.bind_some, Option.map_some, Option.getD_some, Option.isSome_some, List.map_cons, List.map_nil, List.cons_append, List.nil_append, List.append_nil, List.getElem?_cons_zero, List.getElem?_cons_succ, eq_self, Int.reduceLT, Int.reduceLE, Int.reduceNeg, Int.reduceEq]
          rw [szR_lt (by omega)] at hQ
          exact hQ _ s.ext
        · rw [szR_ge c4]
          have c' : ¬ left - (Siz.siz x.opened : Int) - (Siz.siz x.free : Int) - (Siz.siz x.holds : Int) - (Siz.siz x.kept : Int) < 0 := by omega
          simp (disch := omega) only [VW, VY, VZ, VA, VB, VC, VE, TY, ↓reduceIte, Nat.reduceEqDiff, Nat.reduceAdd, Nat.reduceMul, Nat.reduceSub, Nat.reduceLeDiff, List.length_cons, List.length_nil, List.length_append, List.append_assoc, List.take_succ_cons, List.take_zero, List.drop_succ_cons, List.drop_zero, List.set_cons_zero, List.set_cons_succ, true_or, or_true, and_self, Bool.false_eq_true, Nat.le_refl, Option.bind_some, Option.map_some, Option.getD_some, Option.isSome_some, List.map_cons, List.map_nil, List.cons_append, List.nil_append, List.append_nil, List.getElem?_cons_zero, List.getElem?_cons_succ, eq_self, Int.reduceLT, Int.reduceLE, Int.reduceNeg, Int.reduceEq, c', g]
          rw [szR_ge (by omega)] at hQ
          have e : left - (Siz.siz x : Int) = left - (Siz.siz x.opened : Int) - (Siz.siz x.free : Int) - (Siz.siz x.holds : Int) - (Siz.siz x.kept : Int) := by omega
          rw [e] at hQ
          exact hQ _ s.ext
theorem toWork_c {x : Wk} {b : Bool} {cs : List Value} {h : Heap} {Q : Value → Heap → Prop} (hx : Here h x cs) (hn : Siz.siz x ≤ 1000000)
    (hQ : ∀ cs' h', Sep h h' [givA b x cs'] → Q (.agg cs'.toArray) h') : CallsV Try.prog 11 [.agg cs.toArray, .bool b] h Q := by
  have hs : Siz.siz x = Siz.siz x.opened + Siz.siz x.free + Siz.siz x.holds + Siz.siz x.kept + Siz.siz x.steps := rfl
  obtain ⟨v1, v2, v3, v4, rfl, vf1, vf2, vf3, vf4, vf5⟩ := here_Wk hx
  refine CallsV.start Try.func11 rfl (by rw [Try.results11]) (by kernel_rfl) (by rw [Try.ntmps11]; simp) ?_
  simp (disch := omega) only [VW, VY, VZ, VA, VB, VC, VE, TY, ↓reduceIte, Nat.reduceEqDiff, Nat.reduceAdd, Nat.reduceMul, Nat.reduceSub, Nat.reduceLeDiff, List.length_cons, List.length_nil, List.length_append, List.append_assoc, List.take_succ_cons, List.take_zero, List.drop_succ_cons, List.drop_zero, List.set_cons_zero, List.set_cons_succ, true_or, or_true, and_self, Bool.false_eq_true, Nat.le_refl, Option.bind_some, Option.map_some, Option.getD_some, Option.isSome_some, List.map_cons, List.map_nil, List.cons_append, List.nil_append, List.append_nil, List.getElem?_cons_zero, List.getElem?_cons_succ, eq_self, Int.reduceLT, Int.reduceLE, Int.reduceNeg, Int.reduceEq]
  have s := Sep.blk3 h [v1, v2, v3, v4, .int .i64 x.steps] [.slice none 0 0, .slice none 0 0, .slice none 0 0, .slice none 0 0, .int .i64 0] [.slice none 0 0, .slice none 0 0, .slice none 0 0, .slice none 0 0, .int .i64 0] 24 30 30 true true true
  refine .inl ⟨by kernel_rfl, ?_⟩; refine toBoxS_c (vf1.mono s.ext) (by omega) fun w1 h1 s1 => ?_
  have l1 := s1.gRep.rowR.isRow.cells
  have s := s.add s1
  simp (disch := omega) only [VW, VY, VZ, VA, VB, VC, VE, TY, ↓reduceIte, Nat.reduceEqDiff, Nat.reduceAdd, Nat.reduceMul, Nat.reduceSub, Nat.reduceLeDiff, List.length_cons, List.length_nil, List.length_append, List.append_assoc, List.take_succ_cons, List.take_zero, List.drop_succ_cons, List.drop_zero, List.set_cons_zero, List.set_cons_succ, true_or, or_true, and_self, Bool.false_eq_true, Nat.le_refl, Option.bind_some, Option.map_some, Option.getD_some, Option.isSome_some, List.map_cons, List.map_nil, List.cons_append, List.nil_append, List.append_nil, List.getElem?_cons_zero, List.getElem?_cons_succ, eq_self, Int.reduceLT, Int.reduceLE, Int.reduceNeg, Int.reduceEq, l1]
  refine sep_store (s.pull 1 rfl) (by simp [l1]) fun h1' s => ?_
  have s := s.as (ds := [w1, .slice none 0 0, .slice none 0 0, .slice none 0 0, .int .i64 0]) (by simp [t_put, l1])
  have g := (s.pull 3 rfl).rd
  simp (disch := omega) only [VW, VY, VZ, VA, VB, VC, VE, TY, ↓reduceIte, Nat.reduceEqDiff, Nat.reduceAdd, Nat.reduceMul, Nat.reduceSub, Nat.reduceLeDiff, List.length_cons, List.length_nil, List.length_append, List.append_assoc, List.take_succ_cons, List.take_zero, List.drop_succ_cons, List.drop_zero, List.set_cons_zero, List.set_cons_succ, true_or, or_true, and_self, Bool.false_eq_true, Nat.le_refl, Option.bind_some, Option.map_some, Option.getD_some, Option.isSome_some, List.map_cons, List.map_nil, List.cons_append, List.nil_append, List.append_nil, List.getElem?_cons_zero, List.getElem?_cons_succ, eq_self, Int.reduceLT, Int.reduceLE, Int.reduceNeg, Int.reduceEq, g, l1]
  refine .inl ⟨by kernel_rfl, ?_⟩; refine toBoxS_c (vf2.mono s.ext) (by omega) fun w2 h2 s2 => ?_
  have l2 := s2.gRep.rowR.isRow.cells
  have s := s.add s2
  simp (disch := omega) only [VW, VY, VZ, VA, VB, VC, VE, TY, ↓reduceIte, Nat.reduceEqDiff, Nat.reduceAdd, Nat.reduceMul, Nat.reduceSub, Nat.reduceLeDiff, List.length_cons, List.length_nil, List.length_append, List.append_assoc, List.take_succ_cons, List.take_zero, List.drop_succ_cons, List.drop_zero, List.set_cons_zero, List.set_cons_succ, true_or, or_true, and_self, Bool.false_eq_true, Nat.le_refl, Option.bind_some, Option.map_some, Option.getD_some, Option.isSome_some, List.map_cons, List.map_nil, List.cons_append, List.nil_append, List.append_nil, List.getElem?_cons_zero, List.getElem?_cons_succ, eq_self, Int.reduceLT, Int.reduceLE, Int.reduceNeg, Int.reduceEq, g, l1, l2]
  refine sep_store (s.pull 1 rfl) (by simp [l1, l2]) fun h2' s => ?_
  have s := s.as (ds := [w1, w2, .slice none 0 0, .slice none 0 0, .int .i64 0]) (by simp [t_put, l1, l2])
  have g := (s.pull 4 rfl).rd
  simp (disch := omega) only [VW, VY, VZ, VA, VB, VC, VE, TY, ↓reduceIte, Nat.reduceEqDiff, Nat.reduceAdd, Nat.reduceMul, Nat.reduceSub, Nat.reduceLeDiff, List.length_cons, List.length_nil, List.length_append, List.append_assoc, List.take_succ_cons, List.take_zero, List.drop_succ_cons, List.drop_zero, List.set_cons_zero, List.set_cons_succ, true_or, or_true, and_self, Bool.false_eq_true, Nat.le_refl, Option.bind_some, Option.map_some, Option.getD_some, Option.isSome_some, List.map_cons, List.map_nil, List.cons_append, List.nil_append, List.append_nil, List.getElem?_cons_zero, List.getElem?_cons_succ, eq_self, Int.reduceLT, Int.reduceLE, Int.reduceNeg, Int.reduceEq, g, l1, l2]
  refine .inl ⟨by kernel_rfl, ?_⟩; refine toBoxS_c (vf3.mono s.ext) (by omega) fun w3 h3 s3 => ?_
  have l3 := s3.gRep.rowR.isRow.cells
  have s := s.add s3
  simp (disch := omega) only [VW, VY, VZ, VA, VB, VC, VE, TY, ↓reduceIte, Nat.reduceEqDiff, Nat.reduceAdd, Nat.reduceMul, Nat.reduceSub, Nat.reduceLeDiff, List.length_cons, List.length_nil, List.length_append, List.append_assoc, List.take_succ_cons, List.take_zero, List.drop_succ_cons, List.drop_zero, List.set_cons_zero, List.set_cons_succ, true_or, or_true, and_self, Bool.false_eq_true, Nat.le_refl, Option.bind_some, Option.map_some, Option.getD_some, Option.isSome_some, List.map_cons, List.map_nil, List.cons_append, List.nil_append, List.append_nil, List.getElem?_cons_zero, List.getElem?_cons_succ, eq_self, Int.reduceLT, Int.reduceLE, Int.reduceNeg, Int.reduceEq, g, l1, l2, l3]
  refine sep_store (s.pull 1 rfl) (by simp [l1, l2, l3]) fun h3' s => ?_
  have s := s.as (ds := [w1, w2, w3, .slice none 0 0, .int .i64 0]) (by simp [t_put, l1, l2, l3])
  have g := (s.pull 5 rfl).rd
  simp (disch := omega) only [VW, VY, VZ, VA, VB, VC, VE, TY, ↓reduceIte, Nat.reduceEqDiff, Nat.reduceAdd, Nat.reduceMul, Nat.reduceSub, Nat.reduceLeDiff, List.length_cons, List.length_nil, List.length_append, List.append_assoc, List.take_succ_cons, List.take_zero, List.drop_succ_cons, List.drop_zero, List.set_cons_zero, List.set_cons_succ, true_or, or_true, and_self, Bool.false_eq_true, Nat.le_refl, Option.bind_some, Option.map_some, Option.getD_some, Option.isSome_some, List.map_cons, List.map_nil, List.cons_append, List.nil_append, List.append_nil, List.getElem?_cons_zero, List.getElem?_cons_succ, eq_self, Int.reduceLT, Int.reduceLE, Int.reduceNeg, Int.reduceEq, g, l1, l2, l3]
  refine .inl ⟨by kernel_rfl, ?_⟩; refine toBoxS_c (vf4.mono s.ext) (by omega) fun w4 h4 s4 => ?_
  have l4 := s4.gRep.rowR.isRow.cells
  have s := s.add s4
  simp (disch := omega) only [VW, VY, VZ, VA, VB, VC, VE, TY, ↓reduceIte, Nat.reduceEqDiff, Nat.reduceAdd, Nat.reduceMul, Nat.reduceSub, Nat.reduceLeDiff, List.length_cons, List.length_nil, List.length_append, List.append_assoc, List.take_succ_cons, List.take_zero, List.drop_succ_cons, List.drop_zero, List.set_cons_zero, List.set_cons_succ, true_or, or_true, and_self, Bool.false_eq_true, Nat.le_refl, Option.bind_some, Option.map_some, Option.getD_some, Option.isSome_some, List.map_cons, List.map_nil, List.cons_append, List.nil_append, List.append_nil, List.getElem?_cons_zero, List.getElem?_cons_succ, eq_self, Int.reduceLT, Int.reduceLE, Int.reduceNeg, Int.reduceEq, g, l1, l2, l3, l4]
  refine sep_store (s.pull 1 rfl) (by simp [l1, l2, l3, l4]) fun h4' s => ?_
  have s := s.as (ds := [w1, w2, w3, w4, .int .i64 0]) (by simp [t_put, l1, l2, l3, l4])
  have g := (s.pull 6 rfl).rd
  simp (disch := omega) only [VW, VY, VZ, VA, VB, VC, VE, TY, ↓reduceIte, Nat.reduceEqDiff, Nat.reduceAdd, Nat.reduceMul, Nat.reduceSub, Nat.reduceLeDiff, List.length_cons, List.length_nil, List.length_append, List.append_assoc, List.take_succ_cons, List.take_zero, List.drop_succ_cons, List.drop_zero, List.set_cons_zero, List.set_cons_succ, true_or, or_true, and_self, Bool.false_eq_true, Nat.le_refl, Option.bind_some, Option.map_some, Option.getD_some, Option.isSome_some, List.map_cons, List.map_nil, List.cons_append, List.nil_append, List.append_nil, List.getElem?_cons_zero, List.getElem?_cons_succ, eq_self, Int.reduceLT, Int.reduceLE, Int.reduceNeg, Int.reduceEq, g, l1, l2, l3, l4]
  refine sep_store (s.pull 0 rfl) (by simp [l1, l2, l3, l4]) fun h4bSteps s => ?_
  have s := s.as (ds := [w1, w2, w3, w4, .int .i64 x.steps]) (by simp [t_put, l1, l2, l3, l4])
  have g := (s.pull 6 rfl).rd
  have ga := s.rdAll (n := 5) (by simp [l1, l2, l3, l4])
  simp (disch := omega) only [VW, VY, VZ, VA, VB, VC, VE, TY, ↓reduceIte, Nat.reduceEqDiff, Nat.reduceAdd, Nat.reduceMul, Nat.reduceSub, Nat.reduceLeDiff, List.length_cons, List.length_nil, List.length_append, List.append_assoc, List.take_succ_cons, List.take_zero, List.drop_succ_cons, List.drop_zero, List.set_cons_zero, List.set_cons_succ, true_or, or_true, and_self, Bool.false_eq_true, Nat.le_refl, Option.bind_some, Option.map_some, Option.getD_some, Option.isSome_some, List.map_cons, List.map_nil, List.cons_append, List.nil_append, List.append_nil, List.getElem?_cons_zero, List.getElem?_cons_succ, eq_self, Int.reduceLT, Int.reduceLE, Int.reduceNeg, Int.reduceEq, ga, l1, l2, l3, l4]
  refine sep_store (s.pull 5 rfl) (by simp [l1, l2, l3, l4]) fun hz s => ?_
  have s := s.as (ds := [w1, w2, w3, w4, .int .i64 x.steps]) (by simp [t_put, l1, l2, l3, l4])
  have ga := s.rdAll (n := 5) (by simp [l1, l2, l3, l4])
  simp (disch := omega) only [VW, VY, VZ, VA, VB, VC, VE, TY, ↓reduceIte, Nat.reduceEqDiff, Nat.reduceAdd, Nat.reduceMul, Nat.reduceSub, Nat.reduceLeDiff, List.length_cons, List.length_nil, List.length_append, List.append_assoc, List.take_succ_cons, List.take_zero, List.drop_succ_cons, List.drop_zero, List.set_cons_zero, List.set_cons_succ, true_or, or_true, and_self, Bool.false_eq_true, Nat.le_refl, Option.bind_some, Option.map_some, Option.getD_some, Option.isSome_some, List.map_cons, List.map_nil, List.cons_append, List.nil_append, List.append_nil, List.getElem?_cons_zero, List.getElem?_cons_succ, eq_self, Int.reduceLT, Int.reduceLE, Int.reduceNeg, Int.reduceEq, ga]
  have s := s.tail.tail
  have s := Sep.flat (x := givA b x.steps _) s (rep_int vf5)
  have s := Sep.gpair (Sep.swap s)
  have s := Sep.gpair (Sep.swap s)
  have s := Sep.gpair (Sep.swap s)
  have s := Sep.gpair (Sep.swap s)
  exact hQ _ _ s.head
theorem intactWork_c {x : Wk} {cs ds : List Value} {h : Heap} {Q : Value → Heap → Prop} (hx : GivH h x cs) (hy : GivH h x ds) (hn : Siz.siz x ≤ 1000000)
    (hQ : ∀ h', Ext h h' → Q (.bool true) h') : CallsV Try.prog 13 [.agg cs.toArray, .agg ds.toArray] h Q := by
  have hs : Siz.siz x = Siz.siz x.opened + Siz.siz x.free + Siz.siz x.holds + Siz.siz x.kept + Siz.siz x.steps := rfl
  obtain ⟨v1, v2, v3, v4, rfl, vf1, vf2, vf3, vf4, vf5⟩ := giv_Wk hx
  obtain ⟨u1, u2, u3, u4, rfl, uf1, uf2, uf3, uf4, uf5⟩ := giv_Wk hy
  refine CallsV.start Try.func13 rfl (by rw [Try.results13]) (by kernel_rfl) (by rw [Try.ntmps13]; simp) ?_
  have s := Sep.blk2 h [v1, v2, v3, v4, .int .i64 x.steps] [u1, u2, u3, u4, .int .i64 x.steps] 30 30 true true
  simp (disch := omega) only [VW, VY, VZ, VA, VB, VC, VE, TY, ↓reduceIte, Nat.reduceEqDiff, Nat.reduceAdd, Nat.reduceMul, Nat.reduceSub, Nat.reduceLeDiff, List.length_cons, List.length_nil, List.length_append, List.append_assoc, List.take_succ_cons, List.take_zero, List.drop_succ_cons, List.drop_zero, List.set_cons_zero, List.set_cons_succ, true_or, or_true, and_self, Bool.false_eq_true, Nat.le_refl, Option.bind_some, Option.map_some, Option.getD_some, Option.isSome_some, List.map_cons, List.map_nil, List.cons_append, List.nil_append, List.append_nil, List.getElem?_cons_zero, List.getElem?_cons_succ, eq_self, Int.reduceLT, Int.reduceLE, Int.reduceNeg, Int.reduceEq]
  refine .inl ⟨by kernel_rfl, ?_⟩; refine intactBoxS_c (vf1.mono s.ext) (uf1.mono s.ext) (by omega) fun h1 E1 => ?_
  have s := s.mono E1
  have g1 := s.rd
  have g2 := s.tail.rd
  simp (disch := omega) only [VW, VY, VZ, VA, VB, VC, VE, TY, ↓reduceIte, Nat.reduceEqDiff, Nat.reduceAdd, Nat.reduceMul, Nat.reduceSub, Nat.reduceLeDiff, List.length_cons, List.length_nil, List.length_append, List.append_assoc, List.take_succ_cons, List.take_zero, List.drop_succ_cons, List.drop_zero, List.set_cons_zero, List.set_cons_succ, true_or, or_true, and_self, Bool.false_eq_true, Nat.le_refl, Option.bind_some, Option.map_some, Option.getD_some, Option.isSome_some, List.map_cons, List.map_nil, List.cons_append, List.nil_append, List.append_nil, List.getElem?_cons_zero, List.getElem?_cons_succ, eq_self, Int.reduceLT, Int.reduceLE, Int.reduceNeg, Int.reduceEq, g1, g2]
  refine .inl ⟨by kernel_rfl, ?_⟩; refine intactBoxS_c (vf2.mono s.ext) (uf2.mono s.ext) (by omega) fun h2 E2 => ?_
  have s := s.mono E2
  have g1 := s.rd
  have g2 := s.tail.rd
  simp (disch := omega) only [VW, VY, VZ, VA, VB, VC, VE, TY, ↓reduceIte, Nat.reduceEqDiff, Nat.reduceAdd, Nat.reduceMul, Nat.reduceSub, Nat.reduceLeDiff, List.length_cons, List.length_nil, List.length_append, List.append_assoc, List.take_succ_cons, List.take_zero, List.drop_succ_cons, List.drop_zero, List.set_cons_zero, List.set_cons_succ, true_or, or_true, and_self, Bool.false_eq_true, Nat.le_refl, Option.bind_some, Option.map_some, Option.getD_some, Option.isSome_some, List.map_cons, List.map_nil, List.cons_append, List.nil_append, List.append_nil, List.getElem?_cons_zero, List.getElem?_cons_succ, eq_self, Int.reduceLT, Int.reduceLE, Int.reduceNeg, Int.reduceEq, g1, g2]
  refine .inl ⟨by kernel_rfl, ?_⟩; refine intactBoxS_c (vf3.mono s.ext) (uf3.mono s.ext) (by omega) fun h3 E3 => ?_
  have s := s.mono E3
  have g1 := s.rd
  have g2 := s.tail.rd
  simp (disch := omega) only [VW, VY, VZ, VA, VB, VC, VE, TY, ↓reduceIte, Nat.reduceEqDiff, Nat.reduceAdd, Nat.reduceMul, Nat.reduceSub, Nat.reduceLeDiff, List.length_cons, List.length_nil, List.length_append, List.append_assoc, List.take_succ_cons, List.take_zero, List.drop_succ_cons, List.drop_zero, List.set_cons_zero, List.set_cons_succ, true_or, or_true, and_self, Bool.false_eq_true, Nat.le_refl, Option.bind_some, Option.map_some, Option.getD_some, Option.isSome_some, List.map_cons, List.map_nil, List.cons_append, List.nil_append, List.append_nil, List.getElem?_cons_zero, List.getElem?_cons_succ, eq_self, Int.reduceLT, Int.reduceLE, Int.reduceNeg, Int.reduceEq, g1, g2]
  refine .inl ⟨by kernel_rfl, ?_⟩; refine intactBoxS_c (vf4.mono s.ext) (uf4.mono s.ext) (by omega) fun h4 E4 => ?_
  have s := s.mono E4
  have g1 := s.rd
  have g2 := s.tail.rd
  simp (disch := omega) only [VW, VY, VZ, VA, VB, VC, VE, TY, ↓reduceIte, Nat.reduceEqDiff, Nat.reduceAdd, Nat.reduceMul, Nat.reduceSub, Nat.reduceLeDiff, List.length_cons, List.length_nil, List.length_append, List.append_assoc, List.take_succ_cons, List.take_zero, List.drop_succ_cons, List.drop_zero, List.set_cons_zero, List.set_cons_succ, true_or, or_true, and_self, Bool.false_eq_true, Nat.le_refl, Option.bind_some, Option.map_some, Option.getD_some, Option.isSome_some, List.map_cons, List.map_nil, List.cons_append, List.nil_append, List.append_nil, List.getElem?_cons_zero, List.getElem?_cons_succ, eq_self, Int.reduceLT, Int.reduceLE, Int.reduceNeg, Int.reduceEq, g1, g2]
  exact hQ _ s.ext
end Go.Proofs
