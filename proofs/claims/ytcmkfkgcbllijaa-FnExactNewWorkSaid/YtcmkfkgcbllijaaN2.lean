/- Contracts of functions, facts of types, or the plain law behind one statement (own work): N2. Conditions: those told in each theorem. -/
import Derived.Test.YtcmkfkgcbllijaaN1
set_option linter.all false
set_option linter.unusedSimpArgs false
set_option linter.unusedVariables false
set_option maxRecDepth 4000
namespace Go.Proofs
open Go Go.V

def newWorkM (x : Bx) : Wk × Bool := if boxM x = true then (⟨[x], [], [], [], 0⟩, true) else (⟨[], [], [], [], 0⟩, false)
theorem boxM_len {x : Bx} (h : boxM x = true) : x.low.length ≤ 3 ∧ x.high.length ≤ 3 := by
  simp only [boxM, Bool.and_eq_true, decide_eq_true_eq] at h
  omega
theorem wk_one {a h : Heap} {L : List Asr} {l : List Bx} {w : Value} (s : Sep a h (repA l [w] :: L)) : Sep a h (repA (⟨l, [], [], [], 0⟩ : Wk) [w, .slice none 0 0, .slice none 0 0, .slice none 0 0, .int .i64 0] :: L) := by
  have s1 := Sep.rep0 (x := (([], [], [], 0) : List Bx × List Bx × List Bx × Int)) s (rep_pair0 (p := (([], [], [], 0) : List Bx × List Bx × List Bx × Int)) rep_nil (rep_pair0 (p := (([], [], 0) : List Bx × List Bx × Int)) rep_nil (rep_pair0 (p := (([], 0) : List Bx × Int)) rep_nil (rep_int ⟨by decide, by decide⟩))))
  exact s1.swap.pair

theorem NewWork_i {x : Bx} {cs : List Value} {h : Heap} {Q : Value → Heap → Prop} (hx : Here h x cs) (hQ : ∀ ds h', Sep h h' [repA (newWorkM x).1 ds] → Q (.tuple #[.agg ds.toArray, .bool (newWorkM x).2]) h') :
    CallsV Try.prog 28 [.agg cs.toArray] h Q := by
  have hxx := hx
  obtain ⟨v1, v2, rfl, f1, r1, r2⟩ := here_Bx hx
  refine CallsV.start Try.func28 rfl (by rw [Try.results28]) (by kernel_rfl) (by rw [Try.ntmps28]; simp) ?_
  have E := Ext.app h [some ⟨[.int .i64 x.k, v1, v2], 53, false, true⟩, some ⟨[.slice none 0 0, .slice none 0 0, .slice none 0 0, .slice none 0 0, .int .i64 0], 43, false, true⟩]
  have s := Sep.blk2 h [.int .i64 x.k, v1, v2] [.slice none 0 0, .slice none 0 0, .slice none 0 0, .slice none 0 0, .int .i64 0] 53 43 true true
  unfold newWorkM at hQ
  simp (disch := omega) only [VW, VY, VZ, VA, VB, TY, ↓reduceIte, Nat.reduceEqDiff, Nat.reduceAdd, Nat.reduceMul, Nat.reduceSub, Nat.reduceLeDiff, List.length_cons, List.length_nil, List.length_append, List.append_assoc, List.take_succ_cons, List.take_zero, List.drop_succ_cons, List.drop_zero, List.set_cons_zero, List.set_cons_succ, true_or, or_true, and_self, Bool.false_eq_true, Nat.le_refl, Option.bind_some, Option.map_some, Option.getD_some, Option.isSome_some, List.map_cons, List.map_nil, List.cons_append, List.nil_append, List.append_nil, List.getElem?_cons_zero, List.getElem?_cons_succ, eq_self, Int.reduceLT, Int.reduceLE, Int.reduceNeg, Int.reduceEq]
  refine .inl ⟨by kernel_rfl, ?_⟩; refine isBox_c ((s.pull 1 rfl).ptr (hxx.mono E)) ?_
  cases hb : boxM x with
  | false =>
    rw [hb] at hQ
    simp (disch := omega) only [VW, VY, VZ, VA, VB, TY, ↓reduceIte, Nat.reduceEqDiff, Nat.reduceAdd, Nat.reduceMul, Nat.reduceSub, Nat.reduceLeDiff, List.length_cons, List.length_nil, List.length_append, List.append_assoc, List.take_succ_cons, List.take_zero, List.drop_succ_cons, List.drop_zero, List.set_cons_zero, List.set_cons_succ, true_or, or_true, and_self, Bool.false_eq_true, Nat.le_refl, Option.bind_some, Option.map_some, Option.getD_some, Option.isSome_some, List.map_cons, List.map_nil, List.cons_append, List.nil_append, List.append_nil, List.getElem?_cons_zero, List.getElem?_cons_succ, eq_self, Int.reduceLT, Int.reduceLE, Int.reduceNeg, Int.reduceEq]
    exact hQ _ _ (wk_one ((Sep.nil (.app _ _)).rep0 rep_nil))
  | true =>
    rw [hb] at hQ
    have hl := boxM_len hb
    simp (disch := omega) only [VW, VY, VZ, VA, VB, TY, ↓reduceIte, Nat.reduceEqDiff, Nat.reduceAdd, Nat.reduceMul, Nat.reduceSub, Nat.reduceLeDiff, List.length_cons, List.length_nil, List.length_append, List.append_assoc, List.take_succ_cons, List.take_zero, List.drop_succ_cons, List.drop_zero, List.set_cons_zero, List.set_cons_succ, true_or, or_true, and_self, Bool.false_eq_true, Nat.le_refl, Option.bind_some, Option.map_some, Option.getD_some, Option.isSome_some, List.map_cons, List.map_nil, List.cons_append, List.nil_append, List.append_nil, List.getElem?_cons_zero, List.getElem?_cons_succ, eq_self, Int.reduceLT, Int.reduceLE, Int.reduceNeg, Int.reduceEq]
    have s := s.newBlk [.int .i64 x.k, v1, v2] 53 true
    simp only [List.append_assoc, List.cons_append, List.nil_append, List.length_append, List.length_cons, List.length_nil] at s
    have E2 := s.ext
    refine .inl ⟨by kernel_rfl, ?_⟩; refine copyBoxes_c (l := [x]) (Row.ofBlk (cs := [.int .i64 x.k, v1, v2]) (by simp (disch := omega) only [VW, VY, VZ, VA, VB, TY, ↓reduceIte, Nat.reduceEqDiff, Nat.reduceAdd, Nat.reduceMul, Nat.reduceSub, Nat.reduceLeDiff, List.length_cons, List.length_nil, List.length_append, List.append_assoc, List.take_succ_cons, List.take_zero, List.drop_succ_cons, List.drop_zero, List.set_cons_zero, List.set_cons_succ, true_or, or_true, and_self, Bool.false_eq_true, Nat.le_refl, Option.bind_some, Option.map_some, Option.getD_some, Option.isSome_some, List.map_cons, List.map_nil, List.cons_append, List.nil_append, List.append_nil, List.getElem?_cons_zero, List.getElem?_cons_succ, eq_self, Int.reduceLT, Int.reduceLE, Int.reduceNeg, Int.reduceEq]) (.cons (cs := [.int .i64 x.k, v1, v2]) (hxx.mono E2) .nil) rfl (by decide)) (by simp) (by simp; omega) fun w h2 s2 => ?_
    have q := s2.row.isRow.cells
    have s := s.add s2
    simp (disch := omega) only [VW, VY, VZ, VA, VB, TY, ↓reduceIte, Nat.reduceEqDiff, Nat.reduceAdd, Nat.reduceMul, Nat.reduceSub, Nat.reduceLeDiff, List.length_cons, List.length_nil, List.length_append, List.append_assoc, List.take_succ_cons, List.take_zero, List.drop_succ_cons, List.drop_zero, List.set_cons_zero, List.set_cons_succ, true_or, or_true, and_self, Bool.false_eq_true, Nat.le_refl, Option.bind_some, Option.map_some, Option.getD_some, Option.isSome_some, List.map_cons, List.map_nil, List.cons_append, List.nil_append, List.append_nil, List.getElem?_cons_zero, List.getElem?_cons_succ, eq_self, Int.reduceLT, Int.reduceLE, Int.reduceNeg, Int.reduceEq, q]
    refine sep_store (s.pull 2 rfl) (by simp) fun h3 s => ?_
    have s := s.as (ds := [w, .slice none 0 0, .slice none 0 0, .slice none 0 0, .int .i64 0]) (by simp [t_put])
    have ga := s.rdAll (n := 5) rfl
    simp (disch := omega) only [VW, VY, VZ, VA, VB, TY, ↓reduceIte, Nat.reduceEqDiff, Nat.reduceAdd, Nat.reduceMul, Nat.reduceSub, Nat.reduceLeDiff, List.length_cons, List.length_nil, List.length_append, List.append_assoc, List.take_succ_cons, List.take_zero, List.drop_succ_cons, List.drop_zero, List.set_cons_zero, List.set_cons_succ, true_or, or_true, and_self, Bool.false_eq_true, Nat.le_refl, Option.bind_some, Option.map_some, Option.getD_some, Option.isSome_some, List.map_cons, List.map_nil, List.cons_append, List.nil_append, List.append_nil, List.getElem?_cons_zero, List.getElem?_cons_succ, eq_self, Int.reduceLT, Int.reduceLE, Int.reduceNeg, Int.reduceEq, ga]
    exact hQ _ _ (wk_one s.tail.toRep).head

theorem NewWork_s {x : Bx} {cs : List Value} {h : Heap} {Q : Value → Heap → Prop} (hx : Here h x cs) (hQ : ∀ ds h', Sep h h' [repA (newWorkM x).1 ds] → Q (.tuple #[.agg ds.toArray, .bool (newWorkM x).2]) h') :
    CallsV Try.prog 26 [.agg cs.toArray] h Q := by
  have hxx := hx
  obtain ⟨v1, v2, rfl, f1, r1, r2⟩ := here_Bx hx
  refine CallsV.start Try.func26 rfl (by rw [Try.results26]) (by kernel_rfl) (by rw [Try.ntmps26]; simp) ?_
  have E := Ext.app h [some ⟨[.int .i64 x.k, v1, v2], 53, false, true⟩, some ⟨[.slice none 0 0, .slice none 0 0, .slice none 0 0, .slice none 0 0, .int .i64 0], 43, false, true⟩]
  have s := Sep.blk2 h [.int .i64 x.k, v1, v2] [.slice none 0 0, .slice none 0 0, .slice none 0 0, .slice none 0 0, .int .i64 0] 53 43 true true
  unfold newWorkM at hQ
  simp (disch := omega) only [VW, VY, VZ, VA, VB, TY, ↓reduceIte, Nat.reduceEqDiff, Nat.reduceAdd, Nat.reduceMul, Nat.reduceSub, Nat.reduceLeDiff, List.length_cons, List.length_nil, List.length_append, List.append_assoc, List.take_succ_cons, List.take_zero, List.drop_succ_cons, List.drop_zero, List.set_cons_zero, List.set_cons_succ, true_or, or_true, and_self, Bool.false_eq_true, Nat.le_refl, Option.bind_some, Option.map_some, Option.getD_some, Option.isSome_some, List.map_cons, List.map_nil, List.cons_append, List.nil_append, List.append_nil, List.getElem?_cons_zero, List.getElem?_cons_succ, eq_self, Int.reduceLT, Int.reduceLE, Int.reduceNeg, Int.reduceEq]
  refine .inl ⟨by kernel_rfl, ?_⟩; refine bxGood_c (hxx.mono E) fun h1 E1 => ?_
  have s := s.mono E1
  cases hb : boxM x with
  | false =>
    rw [hb] at hQ
    simp (disch := omega) only [VW, VY, VZ, VA, VB, TY, ↓reduceIte, Nat.reduceEqDiff, Nat.reduceAdd, Nat.reduceMul, Nat.reduceSub, Nat.reduceLeDiff, List.length_cons, List.length_nil, List.length_append, List.append_assoc, List.take_succ_cons, List.take_zero, List.drop_succ_cons, List.drop_zero, List.set_cons_zero, List.set_cons_succ, true_or, or_true, and_self, Bool.false_eq_true, Nat.le_refl, Option.bind_some, Option.map_some, Option.getD_some, Option.isSome_some, List.map_cons, List.map_nil, List.cons_append, List.nil_append, List.append_nil, List.getElem?_cons_zero, List.getElem?_cons_succ, eq_self, Int.reduceLT, Int.reduceLE, Int.reduceNeg, Int.reduceEq]
    refine sep_store (s.pull 0 rfl) (by simp) fun h3 s => ?_
    have s := s.as (ds := [.slice none 0 0, .slice none 0 0, .slice none 0 0, .slice none 0 0, .int .i64 0]) (by simp [t_put])
    have ga := s.rdAll (n := 5) rfl
    simp (disch := omega) only [VW, VY, VZ, VA, VB, TY, ↓reduceIte, Nat.reduceEqDiff, Nat.reduceAdd, Nat.reduceMul, Nat.reduceSub, Nat.reduceLeDiff, List.length_cons, List.length_nil, List.length_append, List.append_assoc, List.take_succ_cons, List.take_zero, List.drop_succ_cons, List.drop_zero, List.set_cons_zero, List.set_cons_succ, true_or, or_true, and_self, Bool.false_eq_true, Nat.le_refl, Option.bind_some, Option.map_some, Option.getD_some, Option.isSome_some, List.map_cons, List.map_nil, List.cons_append, List.nil_append, List.append_nil, List.getElem?_cons_zero, List.getElem?_cons_succ, eq_self, Int.reduceLT, Int.reduceLE, Int.reduceNeg, Int.reduceEq, ga]
    exact hQ _ _ (wk_one ((Sep.nil s.ext).rep0 rep_nil))
  | true =>
    rw [hb] at hQ
    have hl := boxM_len hb
    have ga := s.tail.rdAll (n := 3) rfl
    simp (disch := omega) only [VW, VY, VZ, VA, VB, TY, ↓reduceIte, Nat.reduceEqDiff, Nat.reduceAdd, Nat.reduceMul, Nat.reduceSub, Nat.reduceLeDiff, List.length_cons, List.length_nil, List.length_append, List.append_assoc, List.take_succ_cons, List.take_zero, List.drop_succ_cons, List.drop_zero, List.set_cons_zero, List.set_cons_succ, true_or, or_true, and_self, Bool.false_eq_true, Nat.le_refl, Option.bind_some, Option.map_some, Option.getD_some, Option.isSome_some, List.map_cons, List.map_nil, List.cons_append, List.nil_append, List.append_nil, List.getElem?_cons_zero, List.getElem?_cons_succ, eq_self, Int.reduceLT, Int.reduceLE, Int.reduceNeg, Int.reduceEq, ga]
    have s := s.newBlk [.int .i64 x.k, v1, v2] 53 true
    have E2 := s.ext
    refine .inl ⟨by kernel_rfl, ?_⟩; refine brOwn_c (l := [x]) (Row.ofBlk (cs := [.int .i64 x.k, v1, v2]) (by simp (disch := omega) only [VW, VY, VZ, VA, VB, TY, ↓reduceIte, Nat.reduceEqDiff, Nat.reduceAdd, Nat.reduceMul, Nat.reduceSub, Nat.reduceLeDiff, List.length_cons, List.length_nil, List.length_append, List.append_assoc, List.take_succ_cons, List.take_zero, List.drop_succ_cons, List.drop_zero, List.set_cons_zero, List.set_cons_succ, true_or, or_true, and_self, Bool.false_eq_true, Nat.le_refl, Option.bind_some, Option.map_some, Option.getD_some, Option.isSome_some, List.map_cons, List.map_nil, List.cons_append, List.nil_append, List.append_nil, List.getElem?_cons_zero, List.getElem?_cons_succ, eq_self, Int.reduceLT, Int.reduceLE, Int.reduceNeg, Int.reduceEq]) (.cons (cs := [.int .i64 x.k, v1, v2]) (hxx.mono E2) .nil) rfl (by decide)) (by simp) (by simp; omega) fun w h2 s2 => ?_
    have q := s2.row.isRow.cells
    have s := s.add s2
    simp (disch := omega) only [VW, VY, VZ, VA, VB, TY, ↓reduceIte, Nat.reduceEqDiff, Nat.reduceAdd, Nat.reduceMul, Nat.reduceSub, Nat.reduceLeDiff, List.length_cons, List.length_nil, List.length_append, List.append_assoc, List.take_succ_cons, List.take_zero, List.drop_succ_cons, List.drop_zero, List.set_cons_zero, List.set_cons_succ, true_or, or_true, and_self, Bool.false_eq_true, Nat.le_refl, Option.bind_some, Option.map_some, Option.getD_some, Option.isSome_some, List.map_cons, List.map_nil, List.cons_append, List.nil_append, List.append_nil, List.getElem?_cons_zero, List.getElem?_cons_succ, eq_self, Int.reduceLT, Int.reduceLE, Int.reduceNeg, Int.reduceEq, q]
    refine sep_store (s.pull 2 rfl) (by simp) fun h3 s => ?_
    have s := s.as (ds := [w, .slice none 0 0, .slice none 0 0, .slice none 0 0, .int .i64 0]) (by simp [t_put])
    have ga := s.rdAll (n := 5) rfl
    simp (disch := omega) only [VW, VY, VZ, VA, VB, TY, ↓reduceIte, Nat.reduceEqDiff, Nat.reduceAdd, Nat.reduceMul, Nat.reduceSub, Nat.reduceLeDiff, List.length_cons, List.length_nil, List.length_append, List.append_assoc, List.take_succ_cons, List.take_zero, List.drop_succ_cons, List.drop_zero, List.set_cons_zero, List.set_cons_succ, true_or, or_true, and_self, Bool.false_eq_true, Nat.le_refl, Option.bind_some, Option.map_some, Option.getD_some, Option.isSome_some, List.map_cons, List.map_nil, List.cons_append, List.nil_append, List.append_nil, List.getElem?_cons_zero, List.getElem?_cons_succ, eq_self, Int.reduceLT, Int.reduceLE, Int.reduceNeg, Int.reduceEq, ga]
    exact hQ _ _ (wk_one s.tail.toRep).head
theorem newWork_cnt (x : Bx) : Mrk.cnt (newWorkM x).1 ≤ 100 := by
  unfold newWorkM
  cases hb : boxM x with
  | false =>
    have : Mrk.cnt (⟨[], [], [], [], 0⟩ : Wk) ≤ 100 := by decide
    simpa using this
  | true =>
    have hl := boxM_len hb
    have e : Mrk.cnt (⟨[x], [], [], [], 0⟩ : Wk) = (1 + x.low.length + x.high.length) := by
      show (cntL [x] + cntL ([] : List Bx) + cntL ([] : List Bx) + cntL ([] : List Bx)) = _
      have c1 : ∀ l : List Int, cntL l = l.length := fun l => by
        induction l with
        | nil => rfl
        | cons y l ih => have : cntL (y :: l) = 1 + cntL l := rfl; simp [this, ih]; omega
      have : cntL [x] = (1 + cntL x.low + cntL x.high) + 0 := rfl
      rw [this, c1, c1]; rfl
    simp only [if_true]
    rw [e]; omega
end Go.Proofs
