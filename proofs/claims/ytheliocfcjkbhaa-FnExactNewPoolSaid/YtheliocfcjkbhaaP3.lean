/- Contracts of functions, facts of types, or the plain law behind one statement (own work): P3. Conditions: those told in each theorem. -/
import Derived.Test.YtheliocfcjkbhaaP2
import Derived.Test.YtheliocfcjkbhaaN1
set_option linter.all false
set_option linter.unusedSimpArgs false
set_option linter.unusedVariables false
set_option maxRecDepth 4000
namespace Go.Proofs
open Go Go.V

/-- Lists that are not long. -/
def WorkB (x : Wk) : Prop := ∀ l ∈ lists x, l.length ≤ 1000 ∧ ∀ b ∈ l, b.low.length ≤ 3 ∧ b.high.length ≤ 3
theorem workM_b {x : Wk} {s : Int} (h : workM x s = true) : WorkB x := by
  simp only [workM, Bool.and_eq_true, List.all_eq_true] at h
  intro l hl
  have h1 := h.1 l hl
  simp only [listOk, Bool.and_eq_true, decide_eq_true_eq, List.all_eq_true] at h1
  refine ⟨by omega, fun b hb => ?_⟩
  have h2 := h1.2 b hb
  simp only [boxOk, boxM, Bool.and_eq_true, decide_eq_true_eq] at h2
  omega
theorem WorkB.one {x : Wk} (h : WorkB x) {l : List Bx} (hl : l ∈ lists x) : l.length ≤ 1000000000 ∧ ∀ b ∈ l, b.low.length ≤ 1000000000 ∧ b.high.length ≤ 1000000000 :=
  ⟨by have := (h l hl).1; omega, fun b hb => by have := (h l hl).2 b hb; omega⟩
theorem wk_join {a h : Heap} {L : List Asr} {x : Wk} {w1 w2 w3 w4 : Value} {t : TypeId} (hs : inI64 x.steps)
    (s : Sep a h (ownA t x.kept w4 :: ownA t x.holds w3 :: ownA t x.free w2 :: ownA t x.opened w1 :: L)) : Sep a h (repA x [w1, w2, w3, w4, .int .i64 x.steps] :: L) := by
  have s := (Sep.rep0 (x := x.steps) s.toRep (rep_int hs)).swap.pair
  have s := s.swap.toRep.pair
  have s := s.swap.toRep.pair
  exact s.swap.toRep.pair

theorem wkWork_c {x : Wk} {cs : List Value} {h : Heap} {Q : Value → Heap → Prop} (hx : Here h x cs) (hb : WorkB x) (hQ : ∀ ds h', Sep h h' [repA x ds] → Q (.agg ds.toArray) h') :
    CallsV Try.prog 86 [.agg cs.toArray] h Q := by
  obtain ⟨v1, v2, v3, v4, rfl, r1, r2, r3, r4, f5⟩ := here_Wk hx
  obtain ⟨b1, b1'⟩ := hb.one (l := x.opened) (by simp [lists])
  obtain ⟨b2, b2'⟩ := hb.one (l := x.free) (by simp [lists])
  obtain ⟨b3, b3'⟩ := hb.one (l := x.holds) (by simp [lists])
  obtain ⟨b4, b4'⟩ := hb.one (l := x.kept) (by simp [lists])
  refine CallsV.start Try.func86 rfl (by rw [Try.results86]) (by kernel_rfl) (by rw [Try.ntmps86]; simp) ?_
  have s := Sep.blk2 h [v1, v2, v3, v4, .int .i64 x.steps] [.slice none 0 0, .slice none 0 0, .slice none 0 0, .slice none 0 0, .int .i64 0] 44 44 true true
  simp (disch := omega) only [VW, VY, VZ, VA, VB, TY, ↓reduceIte, Nat.reduceEqDiff, Nat.reduceAdd, Nat.reduceMul, Nat.reduceSub, Nat.reduceLeDiff, List.length_cons, List.length_nil, List.length_append, List.append_assoc, List.take_succ_cons, List.take_zero, List.drop_succ_cons, List.drop_zero, List.set_cons_zero, List.set_cons_succ, true_or, or_true, and_self, Bool.false_eq_true, Nat.le_refl, Option.bind_some, Option.map_some, Option.getD_some, Option.isSome_some, List.map_cons, List.map_nil, List.cons_append, List.nil_append, List.append_nil, List.getElem?_cons_zero, List.getElem?_cons_succ, eq_self, Int.reduceLT, Int.reduceLE, Int.reduceNeg, Int.reduceEq]
  refine draw_ord [0, 1, 3, 4, 6, 7, 9, 10, 12, 13, 2, 5, 8, 11, 14, 15] (by kernel_rfl) (by simp only [List.filterMap_cons, List.filterMap_nil, List.getElem?_cons_zero, List.getElem?_cons_succ]; rfl) ?_
  simp (disch := omega) only [VW, VY, VZ, VA, VB, TY, ↓reduceIte, Nat.reduceEqDiff, Nat.reduceAdd, Nat.reduceMul, Nat.reduceSub, Nat.reduceLeDiff, List.length_cons, List.length_nil, List.length_append, List.append_assoc, List.take_succ_cons, List.take_zero, List.drop_succ_cons, List.drop_zero, List.set_cons_zero, List.set_cons_succ, true_or, or_true, and_self, Bool.false_eq_true, Nat.le_refl, Option.bind_some, Option.map_some, Option.getD_some, Option.isSome_some, List.map_cons, List.map_nil, List.cons_append, List.nil_append, List.append_nil, List.getElem?_cons_zero, List.getElem?_cons_succ, eq_self, Int.reduceLT, Int.reduceLE, Int.reduceNeg, Int.reduceEq]
  refine .inl ⟨by kernel_rfl, ?_⟩; refine brOwn_c (r1.mono s.ext) b1 b1' fun w1 h1 s1 => ?_
  have q1 := s1.row.isRow.cells
  have s := s.add s1
  have g := (s.pull 2 rfl).rd
  simp (disch := omega) only [VW, VY, VZ, VA, VB, TY, ↓reduceIte, Nat.reduceEqDiff, Nat.reduceAdd, Nat.reduceMul, Nat.reduceSub, Nat.reduceLeDiff, List.length_cons, List.length_nil, List.length_append, List.append_assoc, List.take_succ_cons, List.take_zero, List.drop_succ_cons, List.drop_zero, List.set_cons_zero, List.set_cons_succ, true_or, or_true, and_self, Bool.false_eq_true, Nat.le_refl, Option.bind_some, Option.map_some, Option.getD_some, Option.isSome_some, List.map_cons, List.map_nil, List.cons_append, List.nil_append, List.append_nil, List.getElem?_cons_zero, List.getElem?_cons_succ, eq_self, Int.reduceLT, Int.reduceLE, Int.reduceNeg, Int.reduceEq, g]
  refine .inl ⟨by kernel_rfl, ?_⟩; refine brOwn_c (r2.mono s.ext) b2 b2' fun w2 h2 s2 => ?_
  have q2 := s2.row.isRow.cells
  have s := s.add s2
  have g := (s.pull 3 rfl).rd
  simp (disch := omega) only [VW, VY, VZ, VA, VB, TY, ↓reduceIte, Nat.reduceEqDiff, Nat.reduceAdd, Nat.reduceMul, Nat.reduceSub, Nat.reduceLeDiff, List.length_cons, List.length_nil, List.length_append, List.append_assoc, List.take_succ_cons, List.take_zero, List.drop_succ_cons, List.drop_zero, List.set_cons_zero, List.set_cons_succ, true_or, or_true, and_self, Bool.false_eq_true, Nat.le_refl, Option.bind_some, Option.map_some, Option.getD_some, Option.isSome_some, List.map_cons, List.map_nil, List.cons_append, List.nil_append, List.append_nil, List.getElem?_cons_zero, List.getElem?_cons_succ, eq_self, Int.reduceLT, Int.reduceLE, Int.reduceNeg, Int.reduceEq, g]
  refine .inl ⟨by kernel_rfl, ?_⟩; refine brOwn_c (r3.mono s.ext) b3 b3' fun w3 h3 s3 => ?_
  have q3 := s3.row.isRow.cells
  have s := s.add s3
  have g := (s.pull 4 rfl).rd
  simp (disch := omega) only [VW, VY, VZ, VA, VB, TY, ↓reduceIte, Nat.reduceEqDiff, Nat.reduceAdd, Nat.reduceMul, Nat.reduceSub, Nat.reduceLeDiff, List.length_cons, List.length_nil, List.length_append, List.append_assoc, List.take_succ_cons, List.take_zero, List.drop_succ_cons, List.drop_zero, List.set_cons_zero, List.set_cons_succ, true_or, or_true, and_self, Bool.false_eq_true, Nat.le_refl, Option.bind_some, Option.map_some, Option.getD_some, Option.isSome_some, List.map_cons, List.map_nil, List.cons_append, List.nil_append, List.append_nil, List.getElem?_cons_zero, List.getElem?_cons_succ, eq_self, Int.reduceLT, Int.reduceLE, Int.reduceNeg, Int.reduceEq, g]
  refine .inl ⟨by kernel_rfl, ?_⟩; refine brOwn_c (r4.mono s.ext) b4 b4' fun w4 h4 s4 => ?_
  have q4 := s4.row.isRow.cells
  have s := s.add s4
  have g := (s.pull 5 rfl).rd
  simp (disch := omega) only [VW, VY, VZ, VA, VB, TY, ↓reduceIte, Nat.reduceEqDiff, Nat.reduceAdd, Nat.reduceMul, Nat.reduceSub, Nat.reduceLeDiff, List.length_cons, List.length_nil, List.length_append, List.append_assoc, List.take_succ_cons, List.take_zero, List.drop_succ_cons, List.drop_zero, List.set_cons_zero, List.set_cons_succ, true_or, or_true, and_self, Bool.false_eq_true, Nat.le_refl, Option.bind_some, Option.map_some, Option.getD_some, Option.isSome_some, List.map_cons, List.map_nil, List.cons_append, List.nil_append, List.append_nil, List.getElem?_cons_zero, List.getElem?_cons_succ, eq_self, Int.reduceLT, Int.reduceLE, Int.reduceNeg, Int.reduceEq, g, q1, q2, q3, q4]
  refine sep_store (s.pull 4 rfl) (by simp) fun h5 s => ?_
  have s := s.as (ds := [w1, w2, w3, w4, .int .i64 x.steps]) (by simp [t_put])
  have g := (s.pull 5 rfl).rd
  have ga := s.rdAll (n := 5) rfl
  simp (disch := omega) only [VW, VY, VZ, VA, VB, TY, ↓reduceIte, Nat.reduceEqDiff, Nat.reduceAdd, Nat.reduceMul, Nat.reduceSub, Nat.reduceLeDiff, List.length_cons, List.length_nil, List.length_append, List.append_assoc, List.take_succ_cons, List.take_zero, List.drop_succ_cons, List.drop_zero, List.set_cons_zero, List.set_cons_succ, true_or, or_true, and_self, Bool.false_eq_true, Nat.le_refl, Option.bind_some, Option.map_some, Option.getD_some, Option.isSome_some, List.map_cons, List.map_nil, List.cons_append, List.nil_append, List.append_nil, List.getElem?_cons_zero, List.getElem?_cons_succ, eq_self, Int.reduceLT, Int.reduceLE, Int.reduceNeg, Int.reduceEq, g, ga]
  exact hQ _ _ (wk_join f5 s.tail).head

theorem copyWork_c {x : Wk} {b off : Nat} {h : Heap} {Q : Value → Heap → Prop} (hp : At h b off x) (hb : WorkB x) (hQ : ∀ ds h', Sep h h' [repA x ds] → Q (.agg ds.toArray) h') :
    CallsV Try.prog 87 [.pointer (some ⟨b, off, none⟩)] h Q := by
  obtain ⟨v1, v2, v3, v4, p0, p1, p2, p3, p4, r1, r2, r3, r4, f5, pa⟩ := at_Wk hp
  obtain ⟨b1, b1'⟩ := hb.one (l := x.opened) (by simp [lists])
  obtain ⟨b2, b2'⟩ := hb.one (l := x.free) (by simp [lists])
  obtain ⟨b3, b3'⟩ := hb.one (l := x.holds) (by simp [lists])
  obtain ⟨b4, b4'⟩ := hb.one (l := x.kept) (by simp [lists])
  refine CallsV.start Try.func87 rfl (by rw [Try.results87]) (by kernel_rfl) (by rw [Try.ntmps87]; simp) ?_
  have s := Sep.blk1 h [.slice none 0 0, .slice none 0 0, .slice none 0 0, .slice none 0 0, .int .i64 0] 44 true
  simp (disch := omega) only [VW, VY, VZ, VA, VB, TY, ↓reduceIte, Nat.reduceEqDiff, Nat.reduceAdd, Nat.reduceMul, Nat.reduceSub, Nat.reduceLeDiff, List.length_cons, List.length_nil, List.length_append, List.append_assoc, List.take_succ_cons, List.take_zero, List.drop_succ_cons, List.drop_zero, List.set_cons_zero, List.set_cons_succ, true_or, or_true, and_self, Bool.false_eq_true, Nat.le_refl, Option.bind_some, Option.map_some, Option.getD_some, Option.isSome_some, List.map_cons, List.map_nil, List.cons_append, List.nil_append, List.append_nil, List.getElem?_cons_zero, List.getElem?_cons_succ, eq_self, Int.reduceLT, Int.reduceLE, Int.reduceNeg, Int.reduceEq]
  refine draw_ord [0, 1, 2, 3, 5, 6, 7, 8, 10, 11, 12, 13, 15, 16, 17, 18, 20, 21, 22, 23, 4, 9, 14, 19, 24, 25] (by kernel_rfl) (by simp only [List.filterMap_cons, List.filterMap_nil, List.getElem?_cons_zero, List.getElem?_cons_succ]; rfl) ?_
  simp (disch := omega) only [VW, VY, VZ, VA, VB, TY, ↓reduceIte, Nat.reduceEqDiff, Nat.reduceAdd, Nat.reduceMul, Nat.reduceSub, Nat.reduceLeDiff, List.length_cons, List.length_nil, List.length_append, List.append_assoc, List.take_succ_cons, List.take_zero, List.drop_succ_cons, List.drop_zero, List.set_cons_zero, List.set_cons_succ, true_or, or_true, and_self, Bool.false_eq_true, Nat.le_refl, Option.bind_some, Option.map_some, Option.getD_some, Option.isSome_some, List.map_cons, List.map_nil, List.cons_append, List.nil_append, List.append_nil, List.getElem?_cons_zero, List.getElem?_cons_succ, eq_self, Int.reduceLT, Int.reduceLE, Int.reduceNeg, Int.reduceEq, s.ext.keepC p0, s.ext.keepC p1, s.ext.keepC p2, s.ext.keepC p3, s.ext.keepC p4]
  refine .inl ⟨by kernel_rfl, ?_⟩; refine copyBoxes_c (r1.mono s.ext) b1 b1' fun w1 h1 s1 => ?_
  have q1 := s1.row.isRow.cells
  have s := s.add s1
  simp (disch := omega) only [VW, VY, VZ, VA, VB, TY, ↓reduceIte, Nat.reduceEqDiff, Nat.reduceAdd, Nat.reduceMul, Nat.reduceSub, Nat.reduceLeDiff, List.length_cons, List.length_nil, List.length_append, List.append_assoc, List.take_succ_cons, List.take_zero, List.drop_succ_cons, List.drop_zero, List.set_cons_zero, List.set_cons_succ, true_or, or_true, and_self, Bool.false_eq_true, Nat.le_refl, Option.bind_some, Option.map_some, Option.getD_some, Option.isSome_some, List.map_cons, List.map_nil, List.cons_append, List.nil_append, List.append_nil, List.getElem?_cons_zero, List.getElem?_cons_succ, eq_self, Int.reduceLT, Int.reduceLE, Int.reduceNeg, Int.reduceEq, s.ext.keepC p0, s.ext.keepC p1, s.ext.keepC p2, s.ext.keepC p3, s.ext.keepC p4]
  refine .inl ⟨by kernel_rfl, ?_⟩; refine copyBoxes_c (r2.mono s.ext) b2 b2' fun w2 h2 s2 => ?_
  have q2 := s2.row.isRow.cells
  have s := s.add s2
  simp (disch := omega) only [VW, VY, VZ, VA, VB, TY, ↓reduceIte, Nat.reduceEqDiff, Nat.reduceAdd, Nat.reduceMul, Nat.reduceSub, Nat.reduceLeDiff, List.length_cons, List.length_nil, List.length_append, List.append_assoc, List.take_succ_cons, List.take_zero, List.drop_succ_cons, List.drop_zero, List.set_cons_zero, List.set_cons_succ, true_or, or_true, and_self, Bool.false_eq_true, Nat.le_refl, Option.bind_some, Option.map_some, Option.getD_some, Option.isSome_some, List.map_cons, List.map_nil, List.cons_append, List.nil_append, List.append_nil, List.getElem?_cons_zero, List.getElem?_cons_succ, eq_self, Int.reduceLT, Int.reduceLE, Int.reduceNeg, Int.reduceEq, s.ext.keepC p0, s.ext.keepC p1, s.ext.keepC p2, s.ext.keepC p3, s.ext.keepC p4]
  refine .inl ⟨by kernel_rfl, ?_⟩; refine copyBoxes_c (r3.mono s.ext) b3 b3' fun w3 h3 s3 => ?_
  have q3 := s3.row.isRow.cells
  have s := s.add s3
  simp (disch := omega) only [VW, VY, VZ, VA, VB, TY, ↓reduceIte, Nat.reduceEqDiff, Nat.reduceAdd, Nat.reduceMul, Nat.reduceSub, Nat.reduceLeDiff, List.length_cons, List.length_nil, List.length_append, List.append_assoc, List.take_succ_cons, List.take_zero, List.drop_succ_cons, List.drop_zero, List.set_cons_zero, List.set_cons_succ, true_or, or_true, and_self, Bool.false_eq_true, Nat.le_refl, Option.bind_some, Option.map_some, Option.getD_some, Option.isSome_some, List.map_cons, List.map_nil, List.cons_append, List.nil_append, List.append_nil, List.getElem?_cons_zero, List.getElem?_cons_succ, eq_self, Int.reduceLT, Int.reduceLE, Int.reduceNeg, Int.reduceEq, s.ext.keepC p0, s.ext.keepC p1, s.ext.keepC p2, s.ext.keepC p3, s.ext.keepC p4]
  refine .inl ⟨by kernel_rfl, ?_⟩; refine copyBoxes_c (r4.mono s.ext) b4 b4' fun w4 h4 s4 => ?_
  have q4 := s4.row.isRow.cells
  have s := s.add s4
  simp (disch := omega) only [VW, VY, VZ, VA, VB, TY, ↓reduceIte, Nat.reduceEqDiff, Nat.reduceAdd, Nat.reduceMul, Nat.reduceSub, Nat.reduceLeDiff, List.length_cons, List.length_nil, List.length_append, List.append_assoc, List.take_succ_cons, List.take_zero, List.drop_succ_cons, List.drop_zero, List.set_cons_zero, List.set_cons_succ, true_or, or_true, and_self, Bool.false_eq_true, Nat.le_refl, Option.bind_some, Option.map_some, Option.getD_some, Option.isSome_some, List.map_cons, List.map_nil, List.cons_append, List.nil_append, List.append_nil, List.getElem?_cons_zero, List.getElem?_cons_succ, eq_self, Int.reduceLT, Int.reduceLE, Int.reduceNeg, Int.reduceEq, s.ext.keepC p0, s.ext.keepC p1, s.ext.keepC p2, s.ext.keepC p3, s.ext.keepC p4, q1, q2, q3, q4]
  refine sep_store (s.pull 4 rfl) (by simp) fun h5 s => ?_
  have s := s.as (ds := [w1, w2, w3, w4, .int .i64 x.steps]) (by simp [t_put])
  have ga := s.rdAll (n := 5) rfl
  simp (disch := omega) only [VW, VY, VZ, VA, VB, TY, ↓reduceIte, Nat.reduceEqDiff, Nat.reduceAdd, Nat.reduceMul, Nat.reduceSub, Nat.reduceLeDiff, List.length_cons, List.length_nil, List.length_append, List.append_assoc, List.take_succ_cons, List.take_zero, List.drop_succ_cons, List.drop_zero, List.set_cons_zero, List.set_cons_succ, true_or, or_true, and_self, Bool.false_eq_true, Nat.le_refl, Option.bind_some, Option.map_some, Option.getD_some, Option.isSome_some, List.map_cons, List.map_nil, List.cons_append, List.nil_append, List.append_nil, List.getElem?_cons_zero, List.getElem?_cons_succ, eq_self, Int.reduceLT, Int.reduceLE, Int.reduceNeg, Int.reduceEq, s.ext.keepC p0, s.ext.keepC p1, s.ext.keepC p2, s.ext.keepC p3, s.ext.keepC p4, ga]
  exact hQ _ _ (wk_join f5 s.tail)

def newPoolM (x : Wk) (s : Int) : Pl × Bool := if workM x s = true then (⟨x, []⟩, true) else (⟨⟨[], [], [], [], 0⟩, []⟩, false)
theorem rep_pl0 {h : Heap} : Rep.rep h (⟨⟨[], [], [], [], 0⟩, []⟩ : Pl) [.slice none 0 0, .slice none 0 0, .slice none 0 0, .slice none 0 0, .int .i64 0, .slice none 0 0] [] := zero_Pl h
theorem NewPool_i {x : Wk} {cs : List Value} {s : Int} {h : Heap} {Q : Value → Heap → Prop} (hx : Here h x cs) (hQ : ∀ ds h', Sep h h' [repA (newPoolM x s).1 ds] → Q (.tuple #[.agg ds.toArray, .bool (newPoolM x s).2]) h') :
    CallsV Try.prog 42 [.agg cs.toArray, .int .i64 s] h Q := by
  refine CallsV.start Try.func42 rfl (by rw [Try.results42]) (by kernel_rfl) (by rw [Try.ntmps42]; simp) ?_
  have hl := Here.len hx
  rw [Wk.sz] at hl
  have sp := Sep.blk2 h cs [.slice none 0 0, .slice none 0 0, .slice none 0 0, .slice none 0 0, .int .i64 0, .slice none 0 0] 44 47 true true
  unfold newPoolM at hQ
  simp (disch := omega) only [VW, VY, VZ, VA, VB, TY, ↓reduceIte, Nat.reduceEqDiff, Nat.reduceAdd, Nat.reduceMul, Nat.reduceSub, Nat.reduceLeDiff, List.length_cons, List.length_nil, List.length_append, List.append_assoc, List.take_succ_cons, List.take_zero, List.drop_succ_cons, List.drop_zero, List.set_cons_zero, List.set_cons_succ, true_or, or_true, and_self, Bool.false_eq_true, Nat.le_refl, Option.bind_some, Option.map_some, Option.getD_some, Option.isSome_some, List.map_cons, List.map_nil, List.cons_append, List.nil_append, List.append_nil, List.getElem?_cons_zero, List.getElem?_cons_succ, eq_self, Int.reduceLT, Int.reduceLE, Int.reduceNeg, Int.reduceEq, hl]
  refine .inl ⟨by kernel_rfl, ?_⟩; refine isWork_c ((sp.pull 1 rfl).ptr (hx.mono sp.ext)) fun h1 E1 => ?_
  have sp := sp.mono E1
  cases hw : workM x s with
  | false =>
    rw [hw] at hQ
    simp (disch := omega) only [VW, VY, VZ, VA, VB, TY, ↓reduceIte, Nat.reduceEqDiff, Nat.reduceAdd, Nat.reduceMul, Nat.reduceSub, Nat.reduceLeDiff, List.length_cons, List.length_nil, List.length_append, List.append_assoc, List.take_succ_cons, List.take_zero, List.drop_succ_cons, List.drop_zero, List.set_cons_zero, List.set_cons_succ, true_or, or_true, and_self, Bool.false_eq_true, Nat.le_refl, Option.bind_some, Option.map_some, Option.getD_some, Option.isSome_some, List.map_cons, List.map_nil, List.cons_append, List.nil_append, List.append_nil, List.getElem?_cons_zero, List.getElem?_cons_succ, eq_self, Int.reduceLT, Int.reduceLE, Int.reduceNeg, Int.reduceEq]
    refine sep_store (sp.pull 0 rfl) (by simp) fun h3 sp => ?_
    have sp := sp.as (ds := [.slice none 0 0, .slice none 0 0, .slice none 0 0, .slice none 0 0, .int .i64 0, .slice none 0 0]) (by simp [t_put])
    have ga := sp.rdAll (n := 6) rfl
    simp (disch := omega) only [VW, VY, VZ, VA, VB, TY, ↓reduceIte, Nat.reduceEqDiff, Nat.reduceAdd, Nat.reduceMul, Nat.reduceSub, Nat.reduceLeDiff, List.length_cons, List.length_nil, List.length_append, List.append_assoc, List.take_succ_cons, List.take_zero, List.drop_succ_cons, List.drop_zero, List.set_cons_zero, List.set_cons_succ, true_or, or_true, and_self, Bool.false_eq_true, Nat.le_refl, Option.bind_some, Option.map_some, Option.getD_some, Option.isSome_some, List.map_cons, List.map_nil, List.cons_append, List.nil_append, List.append_nil, List.getElem?_cons_zero, List.getElem?_cons_succ, eq_self, Int.reduceLT, Int.reduceLE, Int.reduceNeg, Int.reduceEq, ga]
    exact hQ _ _ ((Sep.nil sp.ext).rep0 rep_pl0)
  | true =>
    rw [hw] at hQ
    simp (disch := omega) only [VW, VY, VZ, VA, VB, TY, ↓reduceIte, Nat.reduceEqDiff, Nat.reduceAdd, Nat.reduceMul, Nat.reduceSub, Nat.reduceLeDiff, List.length_cons, List.length_nil, List.length_append, List.append_assoc, List.take_succ_cons, List.take_zero, List.drop_succ_cons, List.drop_zero, List.set_cons_zero, List.set_cons_succ, true_or, or_true, and_self, Bool.false_eq_true, Nat.le_refl, Option.bind_some, Option.map_some, Option.getD_some, Option.isSome_some, List.map_cons, List.map_nil, List.cons_append, List.nil_append, List.append_nil, List.getElem?_cons_zero, List.getElem?_cons_succ, eq_self, Int.reduceLT, Int.reduceLE, Int.reduceNeg, Int.reduceEq]
    refine .inl ⟨by kernel_rfl, ?_⟩; refine copyWork_c ((sp.pull 1 rfl).ptr (hx.mono sp.ext)) (workM_b hw) fun ds h2 s2 => ?_
    have hk := s2.rlen
    rw [Wk.sz] at hk
    have sp := sp.add s2
    simp (disch := omega) only [VW, VY, VZ, VA, VB, TY, ↓reduceIte, Nat.reduceEqDiff, Nat.reduceAdd, Nat.reduceMul, Nat.reduceSub, Nat.reduceLeDiff, List.length_cons, List.length_nil, List.length_append, List.append_assoc, List.take_succ_cons, List.take_zero, List.drop_succ_cons, List.drop_zero, List.set_cons_zero, List.set_cons_succ, true_or, or_true, and_self, Bool.false_eq_true, Nat.le_refl, Option.bind_some, Option.map_some, Option.getD_some, Option.isSome_some, List.map_cons, List.map_nil, List.cons_append, List.nil_append, List.append_nil, List.getElem?_cons_zero, List.getElem?_cons_succ, eq_self, Int.reduceLT, Int.reduceLE, Int.reduceNeg, Int.reduceEq, hk]
    refine sep_store (sp.pull 1 rfl) (by simp [hk]) fun h3 sp => ?_
    have sp := sp.as (ds := ds ++ [.slice none 0 0]) (by simp [t_put, hk])
    have ga := sp.rdAll (n := 6) (by simp [hk])
    simp (disch := omega) only [VW, VY, VZ, VA, VB, TY, ↓reduceIte, Nat.reduceEqDiff, Nat.reduceAdd, Nat.reduceMul, Nat.reduceSub, Nat.reduceLeDiff, List.length_cons, List.length_nil, List.length_append, List.append_assoc, List.take_succ_cons, List.take_zero, List.drop_succ_cons, List.drop_zero, List.set_cons_zero, List.set_cons_succ, true_or, or_true, and_self, Bool.false_eq_true, Nat.le_refl, Option.bind_some, Option.map_some, Option.getD_some, Option.isSome_some, List.map_cons, List.map_nil, List.cons_append, List.nil_append, List.append_nil, List.getElem?_cons_zero, List.getElem?_cons_succ, eq_self, Int.reduceLT, Int.reduceLE, Int.reduceNeg, Int.reduceEq, ga]
    exact hQ _ _ ((Sep.rep0 (x := ([] : List Tkn)) sp.tail rep_nil).swap.pair).head
theorem NewPool_s {x : Wk} {cs : List Value} {s : Int} {h : Heap} {Q : Value → Heap → Prop} (hx : Here h x cs) (hQ : ∀ ds h', Sep h h' [repA (newPoolM x s).1 ds] → Q (.tuple #[.agg ds.toArray, .bool (newPoolM x s).2]) h') :
    CallsV Try.prog 41 [.agg cs.toArray, .int .i64 s] h Q := by
  refine CallsV.start Try.func41 rfl (by rw [Try.results41]) (by kernel_rfl) (by rw [Try.ntmps41]; simp) ?_
  have hl := Here.len hx
  rw [Wk.sz] at hl
  have tk := List.take_of_length_le (Nat.le_of_eq hl)
  have sp := Sep.blk2 h cs [.slice none 0 0, .slice none 0 0, .slice none 0 0, .slice none 0 0, .int .i64 0, .slice none 0 0] 44 47 true true
  unfold newPoolM at hQ
  simp (disch := omega) only [VW, VY, VZ, VA, VB, TY, ↓reduceIte, Nat.reduceEqDiff, Nat.reduceAdd, Nat.reduceMul, Nat.reduceSub, Nat.reduceLeDiff, List.length_cons, List.length_nil, List.length_append, List.append_assoc, List.take_succ_cons, List.take_zero, List.drop_succ_cons, List.drop_zero, List.set_cons_zero, List.set_cons_succ, true_or, or_true, and_self, Bool.false_eq_true, Nat.le_refl, Option.bind_some, Option.map_some, Option.getD_some, Option.isSome_some, List.map_cons, List.map_nil, List.cons_append, List.nil_append, List.append_nil, List.getElem?_cons_zero, List.getElem?_cons_succ, eq_self, Int.reduceLT, Int.reduceLE, Int.reduceNeg, Int.reduceEq, hl, tk]
  refine .inl ⟨by kernel_rfl, ?_⟩; refine brGood_c (hx.mono sp.ext) fun h1 E1 => ?_
  have sp := sp.mono E1
  have ga := sp.tail.rdAll (n := 5) hl.symm
  cases hw : workM x s with
  | false =>
    rw [hw] at hQ
    simp (disch := omega) only [VW, VY, VZ, VA, VB, TY, ↓reduceIte, Nat.reduceEqDiff, Nat.reduceAdd, Nat.reduceMul, Nat.reduceSub, Nat.reduceLeDiff, List.length_cons, List.length_nil, List.length_append, List.append_assoc, List.take_succ_cons, List.take_zero, List.drop_succ_cons, List.drop_zero, List.set_cons_zero, List.set_cons_succ, true_or, or_true, and_self, Bool.false_eq_true, Nat.le_refl, Option.bind_some, Option.map_some, Option.getD_some, Option.isSome_some, List.map_cons, List.map_nil, List.cons_append, List.nil_append, List.append_nil, List.getElem?_cons_zero, List.getElem?_cons_succ, eq_self, Int.reduceLT, Int.reduceLE, Int.reduceNeg, Int.reduceEq]
    refine sep_store (sp.pull 0 rfl) (by simp) fun h3 sp => ?_
    have sp := sp.as (ds := [.slice none 0 0, .slice none 0 0, .slice none 0 0, .slice none 0 0, .int .i64 0, .slice none 0 0]) (by simp [t_put])
    have ga := sp.rdAll (n := 6) rfl
    simp (disch := omega) only [VW, VY, VZ, VA, VB, TY, ↓reduceIte, Nat.reduceEqDiff, Nat.reduceAdd, Nat.reduceMul, Nat.reduceSub, Nat.reduceLeDiff, List.length_cons, List.length_nil, List.length_append, List.append_assoc, List.take_succ_cons, List.take_zero, List.drop_succ_cons, List.drop_zero, List.set_cons_zero, List.set_cons_succ, true_or, or_true, and_self, Bool.false_eq_true, Nat.le_refl, Option.bind_some, Option.map_some, Option.getD_some, Option.isSome_some, List.map_cons, List.map_nil, List.cons_append, List.nil_append, List.append_nil, List.getElem?_cons_zero, List.getElem?_cons_succ, eq_self, Int.reduceLT, Int.reduceLE, Int.reduceNeg, Int.reduceEq, ga]
    exact hQ _ _ ((Sep.nil sp.ext).rep0 rep_pl0)
  | true =>
    rw [hw] at hQ
    simp (disch := omega) only [VW, VY, VZ, VA, VB, TY, ↓reduceIte, Nat.reduceEqDiff, Nat.reduceAdd, Nat.reduceMul, Nat.reduceSub, Nat.reduceLeDiff, List.length_cons, List.length_nil, List.length_append, List.append_assoc, List.take_succ_cons, List.take_zero, List.drop_succ_cons, List.drop_zero, List.set_cons_zero, List.set_cons_succ, true_or, or_true, and_self, Bool.false_eq_true, Nat.le_refl, Option.bind_some, Option.map_some, Option.getD_some, Option.isSome_some, List.map_cons, List.map_nil, List.cons_append, List.nil_append, List.append_nil, List.getElem?_cons_zero, List.getElem?_cons_succ, eq_self, Int.reduceLT, Int.reduceLE, Int.reduceNeg, Int.reduceEq, ga]
    refine .inl ⟨by kernel_rfl, ?_⟩; refine wkWork_c (hx.mono sp.ext) (workM_b hw) fun ds h2 s2 => ?_
    have hk := s2.rlen
    rw [Wk.sz] at hk
    have sp := sp.add s2
    simp (disch := omega) only [VW, VY, VZ, VA, VB, TY, ↓reduceIte, Nat.reduceEqDiff, Nat.reduceAdd, Nat.reduceMul, Nat.reduceSub, Nat.reduceLeDiff, List.length_cons, List.length_nil, List.length_append, List.append_assoc, List.take_succ_cons, List.take_zero, List.drop_succ_cons, List.drop_zero, List.set_cons_zero, List.set_cons_succ, true_or, or_true, and_self, Bool.false_eq_true, Nat.le_refl, Option.bind_some, Option.map_some, Option.getD_some, Option.isSome_some, List.map_cons, List.map_nil, List.cons_append, List.nil_append, List.append_nil, List.getElem?_cons_zero, List.getElem?_cons_succ, eq_self, Int.reduceLT, Int.reduceLE, Int.reduceNeg, Int.reduceEq, hk]
    refine sep_store (sp.pull 1 rfl) (by simp [hk]) fun h3 sp => ?_
    have sp := sp.as (ds := ds ++ [.slice none 0 0]) (by simp [t_put, hk])
    have ga := sp.rdAll (n := 6) (by simp [hk])
    simp (disch := omega) only [VW, VY, VZ, VA, VB, TY, ↓reduceIte, Nat.reduceEqDiff, Nat.reduceAdd, Nat.reduceMul, Nat.reduceSub, Nat.reduceLeDiff, List.length_cons, List.length_nil, List.length_append, List.append_assoc, List.take_succ_cons, List.take_zero, List.drop_succ_cons, List.drop_zero, List.set_cons_zero, List.set_cons_succ, true_or, or_true, and_self, Bool.false_eq_true, Nat.le_refl, Option.bind_some, Option.map_some, Option.getD_some, Option.isSome_some, List.map_cons, List.map_nil, List.cons_append, List.nil_append, List.append_nil, List.getElem?_cons_zero, List.getElem?_cons_succ, eq_self, Int.reduceLT, Int.reduceLE, Int.reduceNeg, Int.reduceEq, ga]
    exact hQ _ _ ((Sep.rep0 (x := ([] : List Tkn)) sp.tail rep_nil).swap.pair).head
end Go.Proofs
