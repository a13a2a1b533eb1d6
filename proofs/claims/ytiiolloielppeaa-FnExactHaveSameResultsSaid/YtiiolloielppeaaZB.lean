/- Contracts of functions, facts of types, or the plain law behind one statement (own work): ZB. Conditions: those told in each theorem. -/
import Derived.Test.YtiiolloielppeaaZA
import Derived.Test.YtiiolloielppeaaYW
set_option linter.all false
set_option linter.unusedSimpArgs false
set_option linter.unusedVariables false
set_option maxRecDepth 4000
namespace Go.Proofs
open Go Go.V
theorem isNaNi_c {n : Int} {h : Heap} {Q : Value → Heap → Prop} (hQ : Q (.bool false) h) : CallsV Try.prog 140 [.int .i64 n] h Q := by
  refine CallsV.start Try.func140 rfl (by rw [Try.results140]) (by kernel_rfl) (by rw [Try.ntmps140]; simp) ?_
  simp (disch := omega) only [VW, VY, VZ, VA, VB, VC, VE, TY, ↓reduceIte, Nat.reduceEqDiff, Nat.reduceAdd, Nat.reduceMul, Nat.reduceSub, Nat.reduceLeDiff, List.length_cons, List.length_nil, List.length_append, List.append_assoc, List.take_succ_cons, List.take_zero, List.drop_succ_cons, List.drop_zero, List.set_cons_zero, List.set_cons_succ, true_or, or_true, and_self, Bool.false_eq_true, Nat.le_refl, Option.bind_some, Option.map_some, Option.getD_some, Option.isSome_some, List.map_cons, List.map_nil, List.cons_append, List.nil_append, List.append_nil, List.getElem?_cons_zero, List.getElem?_cons_succ, eq_self, Int.reduceLT, Int.reduceLE, Int.reduceNeg, Int.reduceEq]
  exact hQ
def sgnI (a b : Int) : Int := if a < b then -1 else if b < a then 1 else 0
theorem compareI_c {a b : Int} {h : Heap} {Q : Value → Heap → Prop} (hQ : Q (.int .i64 (sgnI a b)) h) : CallsV Try.prog 136 [.int .i64 a, .int .i64 b] h Q := by
  refine CallsV.start Try.func136 rfl (by rw [Try.results136]) (by kernel_rfl) (by rw [Try.ntmps136]; simp) ?_
  unfold sgnI at hQ
  simp (disch := omega) only [VW, VY, VZ, VA, VB, VC, VE, TY, ↓reduceIte, Nat.reduceEqDiff, Nat.reduceAdd, Nat.reduceMul, Nat.reduceSub, Nat.reduceLeDiff, List.length_cons, List.length_nil, List.length_append, List.append_assoc, List.take_succ_cons, List.take_zero, List.drop_succ_cons, List.drop_zero, List.set_cons_zero, List.set_cons_succ, true_or, or_true, and_self, Bool.false_eq_true, Nat.le_refl, Option.bind_some, Option.map_some, Option.getD_some, Option.isSome_some, List.map_cons, List.map_nil, List.cons_append, List.nil_append, List.append_nil, List.getElem?_cons_zero, List.getElem?_cons_succ, eq_self, Int.reduceLT, Int.reduceLE, Int.reduceNeg, Int.reduceEq]
  refine .inl ⟨by kernel_rfl, ?_⟩; refine isNaNi_c ?_
  simp (disch := omega) only [VW, VY, VZ, VA, VB, VC, VE, TY, ↓reduceIte, Nat.reduceEqDiff, Nat.reduceAdd, Nat.reduceMul, Nat.reduceSub, Nat.reduceLeDiff, List.length_cons, List.length_nil, List.length_append, List.append_assoc, List.take_succ_cons, List.take_zero, List.drop_succ_cons, List.drop_zero, List.set_cons_zero, List.set_cons_succ, true_or, or_true, and_self, Bool.false_eq_true, Nat.le_refl, Option.bind_some, Option.map_some, Option.getD_some, Option.isSome_some, List.map_cons, List.map_nil, List.cons_append, List.nil_append, List.append_nil, List.getElem?_cons_zero, List.getElem?_cons_succ, eq_self, Int.reduceLT, Int.reduceLE, Int.reduceNeg, Int.reduceEq]
  refine .inl ⟨by kernel_rfl, ?_⟩; refine isNaNi_c ?_
  by_cases c1 : a < b
  · rw [if_pos c1] at hQ
    simp (disch := omega) only [VW, VY, VZ, VA, VB, VC, VE, TY, ↓reduceIte, Nat.reduceEqDiff, Nat.reduceAdd, Nat.reduceMul, Nat.reduceSub, Nat.reduceLeDiff, List.length_cons, List.length_nil, List.length_append, List.append_assoc, List.take_succ_cons, List.take_zero, List.drop_succ_cons, List.drop_zero, List.set_cons_zero, List.set_cons_succ, true_or, or_true, and_self, Bool.false_eq_true, Nat.le_refl, Option.bind_some, Option.map_some, Option.getD_some, Option.isSome_some, List.map_cons, List.map_nil, List.cons_append, List.nil_append, List.append_nil, List.getElem?_cons_zero, List.getElem?_cons_succ, eq_self, Int.reduceLT, Int.reduceLE, Int.reduceNeg, Int.reduceEq, c1]
    exact hQ
  · rw [if_neg c1] at hQ
    by_cases c2 : b < a
    · rw [if_pos c2] at hQ
      simp (disch := omega) only [VW, VY, VZ, VA, VB, VC, VE, TY, ↓reduceIte, Nat.reduceEqDiff, Nat.reduceAdd, Nat.reduceMul, Nat.reduceSub, Nat.reduceLeDiff, List.length_cons, List.length_nil, List.length_append, List.append_assoc, List.take_succ_cons, List.take_zero, List.drop_succ_cons, List.drop_zero, List.set_cons_zero, List.set_cons_succ, true_or, or_true, and_self, Bool.false_eq_true, Nat.le_refl, Option.bind_some, Option.map_some, Option.getD_some, Option.isSome_some, List.map_cons, List.map_nil, List.cons_append, List.nil_append, List.append_nil, List.getElem?_cons_zero, List.getElem?_cons_succ, eq_self, Int.reduceLT, Int.reduceLE, Int.reduceNeg, Int.reduceEq, c1, c2]
      exact hQ
    · rw [if_neg c2] at hQ
      simp (disch := omega) only [VW, VY, VZ, VA, VB, VC, VE, TY, ↓reduceIte, Nat.reduceEqDiff, Nat.reduceAdd, Nat.reduceMul, Nat.reduceSub, Nat.reduceLeDiff, List.length_cons, List.length_nil, List.length_append, List.append_assoc, List.take_succ_cons, List.take_zero, List.drop_succ_cons, List.drop_zero, List.set_cons_zero, List.set_cons_succ, true_or, or_true, and_self, Bool.false_eq_true, Nat.le_refl, Option.bind_some, Option.map_some, Option.getD_some, Option.isSome_some, List.map_cons, List.map_nil, List.cons_append, List.nil_append, List.append_nil, List.getElem?_cons_zero, List.getElem?_cons_succ, eq_self, Int.reduceLT, Int.reduceLE, Int.reduceNeg, Int.reduceEq, c1, c2]
      exact hQ
theorem cmpL_get : ∀ {l m : List Int} {i : Nat} {x y : Int}, m.length = l.length → l[i]? = some x → m[i]? = some y → l.take i = m.take i → cmpL l m = orI (sgnI x y) (cmpL (l.drop (i + 1)) (m.drop (i + 1)))
  | [], _, i, _, _, _, h, _, _ => by simp at h
  | _ :: _, [], _, _, _, h, _, _, _ => by simp at h
  | a :: l, b :: m, 0, x, y, hl, h1, h2, ht => by
    simp only [List.getElem?_cons_zero, Option.some.injEq] at h1 h2
    subst h1 h2
    simp only [cmpL, sgnI, List.drop_succ_cons, List.drop_zero, orI]
    split
    · rfl
    · split
      · rfl
      · rfl
  | a :: l, b :: m, i + 1, x, y, hl, h1, h2, ht => by
    simp only [List.take_succ_cons, List.cons.injEq] at ht
    simp only [List.getElem?_cons_succ] at h1 h2
    simp only [cmpL, List.drop_succ_cons]
    rw [ht.1, if_neg (by omega), if_neg (by omega)]
    exact cmpL_get (by simpa using hl) h1 h2 ht.2
theorem compareL_c {l m : List Int} {v w : Value} {h : Heap} {Q : Value → Heap → Prop} (r : Row h l v) (r' : Row h m w) (hl : m.length = l.length)
    (hQ : Q (.int .i64 (cmpL l m)) h) : CallsV Try.prog 126 [v, w] h Q := by
  refine CallsV.start Try.func126 rfl (by rw [Try.results126]) (by kernel_rfl) (by rw [Try.ntmps126]; simp) ?_
  have hle := r.le
  simp (disch := omega) only [VW, VY, VZ, VA, VB, VC, VE, TY, ↓reduceIte, Nat.reduceEqDiff, Nat.reduceAdd, Nat.reduceMul, Nat.reduceSub, Nat.reduceLeDiff, List.length_cons, List.length_nil, List.length_append, List.append_assoc, List.take_succ_cons, List.take_zero, List.drop_succ_cons, List.drop_zero, List.set_cons_zero, List.set_cons_succ, true_or, or_true, and_self, Bool.false_eq_true, Nat.le_refl, Option.bind_some, Option.map_some, Option.getD_some, Option.isSome_some, List.map_cons, List.map_nil, List.cons_append, List.nil_append, List.append_nil, List.getElem?_cons_zero, List.getElem?_cons_succ, eq_self, Int.reduceLT, Int.reduceLE, Int.reduceNeg, Int.reduceEq, r.isRow.len]
  refine loop_rule (fun n e h' => ∃ (i : Nat), e 0 = v ∧ e 1 = w ∧ e 9 = v ∧ e 10 = .int .i64 (l.length : Int) ∧ e 11 = .int .i64 (i : Int) ∧ l.take i = m.take i ∧ i ≤ l.length ∧ n = l.length - i ∧ h = h') ?_ l.length _ _
    ⟨0, rfl, rfl, rfl, rfl, rfl, by simp, Nat.zero_le _, rfl, rfl⟩
  rintro n e h1 ⟨i, e0, e1, e9, e10, e11, ha, hi, rfl, rfl⟩
  simp (disch := omega) only [VW, VY, VZ, VA, VB, VC, VE, TY, ↓reduceIte, Nat.reduceEqDiff, Nat.reduceAdd, Nat.reduceMul, Nat.reduceSub, Nat.reduceLeDiff, List.length_cons, List.length_nil, List.length_append, List.append_assoc, List.take_succ_cons, List.take_zero, List.drop_succ_cons, List.drop_zero, List.set_cons_zero, List.set_cons_succ, true_or, or_true, and_self, Bool.false_eq_true, Nat.le_refl, Option.bind_some, Option.map_some, Option.getD_some, Option.isSome_some, List.map_cons, List.map_nil, List.cons_append, List.nil_append, List.append_nil, List.getElem?_cons_zero, List.getElem?_cons_succ, eq_self, Int.reduceLT, Int.reduceLE, Int.reduceNeg, Int.reduceEq, e10, e11]
  by_cases hlt : i < l.length
  · obtain ⟨x, hx⟩ := get_some hlt
    obtain ⟨y, hy⟩ := get_some (show i < m.length by omega)
    have c1 : (i : Int) < (l.length : Int) := by omega
    have c2 : ¬ (l.length : Int) ≤ (i : Int) := by omega
    obtain ⟨x1, x2⟩ := row_int r hx
    obtain ⟨y1, y2⟩ := row_int r' hy
    have ix2 := r'.isRow.ix Try.prog
    have len2 := r'.isRow.len Try.prog
    rw [hl] at ix2 len2
    have hc := cmpL_get hl hx hy ha
    simp (disch := omega) only [VW, VY, VZ, VA, VB, VC, VE, TY, ↓reduceIte, Nat.reduceEqDiff, Nat.reduceAdd, Nat.reduceMul, Nat.reduceSub, Nat.reduceLeDiff, List.length_cons, List.length_nil, List.length_append, List.append_assoc, List.take_succ_cons, List.take_zero, List.drop_succ_cons, List.drop_zero, List.set_cons_zero, List.set_cons_succ, true_or, or_true, and_self, Bool.false_eq_true, Nat.le_refl, Option.bind_some, Option.map_some, Option.getD_some, Option.isSome_some, List.map_cons, List.map_nil, List.cons_append, List.nil_append, List.append_nil, List.getElem?_cons_zero, List.getElem?_cons_succ, eq_self, Int.reduceLT, Int.reduceLE, Int.reduceNeg, Int.reduceEq, e1, e9, e11, c1, c2, r.isRow.ix, x1, len2, ix2, y1]
    refine .inl ⟨by kernel_rfl, ?_⟩; refine compareI_c ?_
    by_cases h1 : sgnI x y = 0
    · simp (disch := omega) only [VW, VY, VZ, VA, VB, VC, VE, TY, ↓reduceIte, Nat.reduceEqDiff, Nat.reduceAdd, Nat.reduceMul, Nat.reduceSub, Nat.reduceLeDiff, List.length_cons, List.length_nil, List.length_append, List.append_assoc, List.take_succ_cons, List.take_zero, List.drop_succ_cons, List.drop_zero, List.set_cons_zero, List.set_cons_succ, true_or, or_true, and_self, Bool.false_eq_true, Nat.le_refl, Option.bind_some, Option.map_some, Option.getD_some, Option.isSome_some, List.map_cons, List.map_nil, List.cons_append, List.nil_append, List.append_nil, List.getElem?_cons_zero, List.getElem?_cons_succ, eq_self, Int.reduceLT, Int.reduceLE, Int.reduceNeg, Int.reduceEq, h1, e0, e1, e9, e10, e11, wrap_in]
      refine ⟨_, by omega, i + 1, by simp, ?_, by omega, rfl⟩
      rw [List.take_add_one, List.take_add_one, hx, hy, ha]
      congr 2
      unfold sgnI at h1
      split at h1
      · simp at h1
      · split at h1
        · simp at h1
        · congr 1; omega
    · have : orI (sgnI x y) (cmpL (l.drop (i + 1)) (m.drop (i + 1))) = sgnI x y := if_neg h1
      rw [hc, this] at hQ
      simp (disch := omega) only [VW, VY, VZ, VA, VB, VC, VE, TY, ↓reduceIte, Nat.reduceEqDiff, Nat.reduceAdd, Nat.reduceMul, Nat.reduceSub, Nat.reduceLeDiff, List.length_cons, List.length_nil, List.length_append, List.append_assoc, List.take_succ_cons, List.take_zero, List.drop_succ_cons, List.drop_zero, List.set_cons_zero, List.set_cons_succ, true_or, or_true, and_self, Bool.false_eq_true, Nat.le_refl, Option.bind_some, Option.map_some, Option.getD_some, Option.isSome_some, List.map_cons, List.map_nil, List.cons_append, List.nil_append, List.append_nil, List.getElem?_cons_zero, List.getElem?_cons_succ, eq_self, Int.reduceLT, Int.reduceLE, Int.reduceNeg, Int.reduceEq, h1]
      exact hQ
  · obtain rfl : i = l.length := by omega
    have c1 : ¬ (l.length : Int) < (l.length : Int) := by omega
    rw [List.take_length, ← hl, List.take_length] at ha
    subst ha
    rw [cmpL_self] at hQ
    simp (disch := omega) only [VW, VY, VZ, VA, VB, VC, VE, TY, ↓reduceIte, Nat.reduceEqDiff, Nat.reduceAdd, Nat.reduceMul, Nat.reduceSub, Nat.reduceLeDiff, List.length_cons, List.length_nil, List.length_append, List.append_assoc, List.take_succ_cons, List.take_zero, List.drop_succ_cons, List.drop_zero, List.set_cons_zero, List.set_cons_succ, true_or, or_true, and_self, Bool.false_eq_true, Nat.le_refl, Option.bind_some, Option.map_some, Option.getD_some, Option.isSome_some, List.map_cons, List.map_nil, List.cons_append, List.nil_append, List.append_nil, List.getElem?_cons_zero, List.getElem?_cons_succ, eq_self, Int.reduceLT, Int.reduceLE, Int.reduceNeg, Int.reduceEq, c1, e0, e1, r.isRow.len, r'.isRow.len]
    exact hQ
theorem compareBoxes_c {s : Nat} {x y : Bx} {cx cy : List Value} {h : Heap} {Q : Value → Heap → Prop} (hx : Here h x cx) (hy : Here h y cy) (gx : Gd s x) (gy : Gd s y)
    (hQ : ∀ h', Ext h h' → Q (.int .i64 (bcmp x y)) h') : CallsV Try.prog 108 [.agg cx.toArray, .agg cy.toArray] h Q := by
  obtain ⟨vx1, vx2, rfl, fx, rx1, rx2⟩ := here_Bx hx
  obtain ⟨vy1, vy2, rfl, fy, ry1, ry2⟩ := here_Bx hy
  refine CallsV.start Try.func108 rfl (by rw [Try.results108]) (by kernel_rfl) (by rw [Try.ntmps108]; simp) ?_
  have u := Sep.blk2 h [.int .i64 x.k, vx1, vx2] [.int .i64 y.k, vy1, vy2] 42 42 true true
  simp (disch := omega) only [VW, VY, VZ, VA, VB, VC, VE, TY, ↓reduceIte, Nat.reduceEqDiff, Nat.reduceAdd, Nat.reduceMul, Nat.reduceSub, Nat.reduceLeDiff, List.length_cons, List.length_nil, List.length_append, List.append_assoc, List.take_succ_cons, List.take_zero, List.drop_succ_cons, List.drop_zero, List.set_cons_zero, List.set_cons_succ, true_or, or_true, and_self, Bool.false_eq_true, Nat.le_refl, Option.bind_some, Option.map_some, Option.getD_some, Option.isSome_some, List.map_cons, List.map_nil, List.cons_append, List.nil_append, List.append_nil, List.getElem?_cons_zero, List.getElem?_cons_succ, eq_self, Int.reduceLT, Int.reduceLE, Int.reduceNeg, Int.reduceEq]
  generalize hH : h ++ [some ⟨[.int .i64 x.k, vx1, vx2], 42, false, true⟩, some ⟨[.int .i64 y.k, vy1, vy2], 42, false, true⟩] = H at *
  have px : At H h.length 0 x := ⟨_, (u.pull 1 rfl).rdAll (n := 3) rfl, hx.mono u.ext⟩
  have py : At H (h.length + 1) 0 y := ⟨_, u.rdAll (n := 3) rfl, hy.mono u.ext⟩
  refine .inl ⟨by kernel_rfl, ?_⟩; refine align_c px py gx.1 gy.1 fun v1 v2 v3 v4 h1 s1 => ?_
  have c1 := s1.row.isRow.cells
  have c2 := (s1.pull 1 rfl).row.isRow.cells
  have c3 := (s1.pull 2 rfl).row.isRow.cells
  have c4 := (s1.pull 3 rfl).row.isRow.cells
  have n1 : (upL y.low (upK y x)).length = (upL x.low (upK x y)).length := by rw [upL_len, upL_len, gx.2, gy.2]
  obtain ⟨_, _, _, ex, _⟩ := box_k gx.1
  obtain ⟨_, _, _, ey, _⟩ := box_k gy.1
  have n2 : (upL y.high (upK y x)).length = (upL x.high (upK x y)).length := by rw [upL_len, upL_len, ex, ey, gx.2, gy.2]
  have e : bcmp x y = orI (cmpL (upL x.low (upK x y)) (upL y.low (upK y x))) (cmpL (upL x.high (upK x y)) (upL y.high (upK y x))) := rfl
  rw [e] at hQ
  clear e
  have small : ∀ l m : List Int, inI64 (cmpL l m) := fun l m => by rcases cmpL_range l m with e | e | e <;> rw [e] <;> exact ⟨by decide, by decide⟩
  have hA0 := small (upL x.low (upK x y)) (upL y.low (upK y x))
  have hB0 := small (upL x.high (upK x y)) (upL y.high (upK y x))
  generalize upL x.low (upK x y) = L1 at *
  generalize upL x.high (upK x y) = L2 at *
  generalize upL y.low (upK y x) = L3 at *
  generalize upL y.high (upK y x) = L4 at *
  have s := s1.newBlk [.int .i64 (topK x y), v1, v2] 42 true
  have s := s.newBlk [.int .i64 (topK x y), v3, v4] 42 true
  simp only [List.append_assoc, List.cons_append, List.nil_append, List.length_append, List.length_cons, List.length_nil, Nat.reduceAdd] at s
  simp (disch := omega) only [VW, VY, VZ, VA, VB, VC, VE, TY, ↓reduceIte, Nat.reduceEqDiff, Nat.reduceAdd, Nat.reduceMul, Nat.reduceSub, Nat.reduceLeDiff, List.length_cons, List.length_nil, List.length_append, List.append_assoc, List.take_succ_cons, List.take_zero, List.drop_succ_cons, List.drop_zero, List.set_cons_zero, List.set_cons_succ, true_or, or_true, and_self, Bool.false_eq_true, Nat.le_refl, Option.bind_some, Option.map_some, Option.getD_some, Option.isSome_some, List.map_cons, List.map_nil, List.cons_append, List.nil_append, List.append_nil, List.getElem?_cons_zero, List.getElem?_cons_succ, eq_self, Int.reduceLT, Int.reduceLE, Int.reduceNeg, Int.reduceEq, c1, c2, c3, c4]
  have g2 := s.rd
  have g1 := (s.pull 1 rfl).rd
  have r1 := (s.pull 2 rfl).row
  have r2 := (s.pull 3 rfl).row
  have r3 := (s.pull 4 rfl).row
  have r4 := (s.pull 5 rfl).row
  generalize h1 ++ [some ⟨[.int .i64 (topK x y), v1, v2], 42, false, true⟩, some ⟨[.int .i64 (topK x y), v3, v4], 42, false, true⟩] = H2 at *
  have E := u.ext.trans s.ext
  refine draw_ord [0, 1, 2, 3, 5, 6, 7, 8, 4, 9, 10, 11, 12] (by kernel_rfl) (by simp only [List.filterMap_cons, List.filterMap_nil, List.getElem?_cons_zero, List.getElem?_cons_succ]; rfl) ?_
  simp (disch := omega) only [VW, VY, VZ, VA, VB, VC, VE, TY, ↓reduceIte, Nat.reduceEqDiff, Nat.reduceAdd, Nat.reduceMul, Nat.reduceSub, Nat.reduceLeDiff, List.length_cons, List.length_nil, List.length_append, List.append_assoc, List.take_succ_cons, List.take_zero, List.drop_succ_cons, List.drop_zero, List.set_cons_zero, List.set_cons_succ, true_or, or_true, and_self, Bool.false_eq_true, Nat.le_refl, Option.bind_some, Option.map_some, Option.getD_some, Option.isSome_some, List.map_cons, List.map_nil, List.cons_append, List.nil_append, List.append_nil, List.getElem?_cons_zero, List.getElem?_cons_succ, eq_self, Int.reduceLT, Int.reduceLE, Int.reduceNeg, Int.reduceEq, g1, g2]
  refine .inl ⟨by kernel_rfl, ?_⟩; refine compareL_c r1 r3 n1 ?_
  simp (disch := omega) only [VW, VY, VZ, VA, VB, VC, VE, TY, ↓reduceIte, Nat.reduceEqDiff, Nat.reduceAdd, Nat.reduceMul, Nat.reduceSub, Nat.reduceLeDiff, List.length_cons, List.length_nil, List.length_append, List.append_assoc, List.take_succ_cons, List.take_zero, List.drop_succ_cons, List.drop_zero, List.set_cons_zero, List.set_cons_succ, true_or, or_true, and_self, Bool.false_eq_true, Nat.le_refl, Option.bind_some, Option.map_some, Option.getD_some, Option.isSome_some, List.map_cons, List.map_nil, List.cons_append, List.nil_append, List.append_nil, List.getElem?_cons_zero, List.getElem?_cons_succ, eq_self, Int.reduceLT, Int.reduceLE, Int.reduceNeg, Int.reduceEq, g1, g2]
  refine .inl ⟨by kernel_rfl, ?_⟩; refine compareL_c r2 r4 n2 ?_
  have s5 := s.newBlk [.int .i64 (cmpL L1 L3), .int .i64 (cmpL L2 L4)] 3 true
  have k2 := (s5.pull 1 rfl).rd
  have k1 := (s5.pull 2 rfl).rd
  simp (disch := omega) only [VW, VY, VZ, VA, VB, VC, VE, TY, ↓reduceIte, Nat.reduceEqDiff, Nat.reduceAdd, Nat.reduceMul, Nat.reduceSub, Nat.reduceLeDiff, List.length_cons, List.length_nil, List.length_append, List.append_assoc, List.take_succ_cons, List.take_zero, List.drop_succ_cons, List.drop_zero, List.set_cons_zero, List.set_cons_succ, true_or, or_true, and_self, Bool.false_eq_true, Nat.le_refl, Option.bind_some, Option.map_some, Option.getD_some, Option.isSome_some, List.map_cons, List.map_nil, List.cons_append, List.nil_append, List.append_nil, List.getElem?_cons_zero, List.getElem?_cons_succ, eq_self, Int.reduceLT, Int.reduceLE, Int.reduceNeg, Int.reduceEq, g1, g2, k1, k2]
  generalize cmpL L1 L3 = A at *
  generalize cmpL L2 L4 = B at *
  have hA : inI64 A := hA0
  have hB : inI64 B := hB0
  have rc : ∀ H : Heap, cellsAt H H2.length 0 2 = some [.int .i64 A, .int .i64 B] → Row H [A, B] (.slice (some ⟨H2.length, 0, none⟩) 2 2) := fun H hc => Row.ofBlk (cs := [.int .i64 A, .int .i64 B]) hc (.cons (mk_int hA) (.cons (mk_int hB) .nil)) rfl (by decide)
  refine .inl ⟨by kernel_rfl, ?_⟩; refine or2_c (rc _ (by simp (disch := omega) only [VW, VY, VZ, VA, VB, VC, VE, TY, ↓reduceIte, Nat.reduceEqDiff, Nat.reduceAdd, Nat.reduceMul, Nat.reduceSub, Nat.reduceLeDiff, List.length_cons, List.length_nil, List.length_append, List.append_assoc, List.take_succ_cons, List.take_zero, List.drop_succ_cons, List.drop_zero, List.set_cons_zero, List.set_cons_succ, true_or, or_true, and_self, Bool.false_eq_true, Nat.le_refl, Option.bind_some, Option.map_some, Option.getD_some, Option.isSome_some, List.map_cons, List.map_nil, List.cons_append, List.nil_append, List.append_nil, List.getElem?_cons_zero, List.getElem?_cons_succ, eq_self, Int.reduceLT, Int.reduceLE, Int.reduceNeg, Int.reduceEq])) ?_
  simp (disch := omega) only [VW, VY, VZ, VA, VB, VC, VE, TY, ↓reduceIte, Nat.reduceEqDiff, Nat.reduceAdd, Nat.reduceMul, Nat.reduceSub, Nat.reduceLeDiff, List.length_cons, List.length_nil, List.length_append, List.append_assoc, List.take_succ_cons, List.take_zero, List.drop_succ_cons, List.drop_zero, List.set_cons_zero, List.set_cons_succ, true_or, or_true, and_self, Bool.false_eq_true, Nat.le_refl, Option.bind_some, Option.map_some, Option.getD_some, Option.isSome_some, List.map_cons, List.map_nil, List.cons_append, List.nil_append, List.append_nil, List.getElem?_cons_zero, List.getElem?_cons_succ, eq_self, Int.reduceLT, Int.reduceLE, Int.reduceNeg, Int.reduceEq, k1, k2]
  exact hQ _ (E.trans (.one _ _))
end Go.Proofs
