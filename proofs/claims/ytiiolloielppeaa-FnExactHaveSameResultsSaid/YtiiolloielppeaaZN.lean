/- Contracts of functions, facts of types, or the plain law behind one statement (own work): ZN. Conditions: those told in each theorem. -/
import Derived.Test.YtiiolloielppeaaZM
set_option linter.all false
set_option linter.unusedSimpArgs false
set_option linter.unusedVariables false
set_option maxRecDepth 4000
namespace Go.Proofs
open Go Go.V
theorem bxNumber_c {n : Int} {k : Nat} {h : Heap} {Q : Value → Heap → Prop} (hn : n.natAbs ≤ 1099511627776) (hk : k ≤ 24) (hQ : ∀ d h', makeM n k = some d → DyG d → Ext h h' → Q (.agg (dyC d).toArray) h') :
    CallsV Try.prog 89 [.int .i64 n, .int .i64 (k : Int)] h Q := by
  obtain ⟨d, hd, hg⟩ := make_small hn hk
  refine CallsV.start Try.func89 rfl (by rw [Try.results89]) (by kernel_rfl) (by rw [Try.ntmps89]; simp) ?_
  have u := Sep.blk1 h [.int .i64 0, .int .i64 0] 39 true
  simp (disch := omega) only [VW, VY, VZ, VA, VB, VC, VE, TY, ↓reduceIte, Nat.reduceEqDiff, Nat.reduceAdd, Nat.reduceMul, Nat.reduceSub, Nat.reduceLeDiff, List.length_cons, List.length_nil, List.length_append, List.append_assoc, List.take_succ_cons, List.take_zero, List.drop_succ_cons, List.drop_zero, List.set_cons_zero, List.set_cons_succ, true_or, or_true, and_self, Bool.false_eq_true, Nat.le_refl, Option.bind_some, Option.map_some, Option.getD_some, Option.isSome_some, List.map_cons, List.map_nil, List.cons_append, List.nil_append, List.append_nil, List.getElem?_cons_zero, List.getElem?_cons_succ, eq_self, Int.reduceLT, Int.reduceLE, Int.reduceNeg, Int.reduceEq]
  refine .inl ⟨by kernel_rfl, ?_⟩; refine dyMake_c (n := n) (k := k) ⟨by omega, by omega⟩ (by omega) fun h1 E1 => ?_
  rw [hd, optV_eq]
  simp only [Option.getD_some, Option.isSome_some]
  have u := (u.mono E1).newBlk (dyC d) 39 true
  have g := u.rdAll (n := 2) rfl
  simp (disch := omega) only [VW, VY, VZ, VA, VB, VC, VE, TY, ↓reduceIte, Nat.reduceEqDiff, Nat.reduceAdd, Nat.reduceMul, Nat.reduceSub, Nat.reduceLeDiff, List.length_cons, List.length_nil, List.length_append, List.append_assoc, List.take_succ_cons, List.take_zero, List.drop_succ_cons, List.drop_zero, List.set_cons_zero, List.set_cons_succ, true_or, or_true, and_self, Bool.false_eq_true, Nat.le_refl, Option.bind_some, Option.map_some, Option.getD_some, Option.isSome_some, List.map_cons, List.map_nil, List.cons_append, List.nil_append, List.append_nil, List.getElem?_cons_zero, List.getElem?_cons_succ, eq_self, Int.reduceLT, Int.reduceLE, Int.reduceNeg, Int.reduceEq, g]
  refine sep_store (u.pull 1 rfl) (by simp) fun h9 u => ?_
  have u := u.as (ds := dyC d) (by simp [t_put])
  have gz := u.rdAll (n := 2) rfl
  simp (disch := omega) only [VW, VY, VZ, VA, VB, VC, VE, TY, ↓reduceIte, Nat.reduceEqDiff, Nat.reduceAdd, Nat.reduceMul, Nat.reduceSub, Nat.reduceLeDiff, List.length_cons, List.length_nil, List.length_append, List.append_assoc, List.take_succ_cons, List.take_zero, List.drop_succ_cons, List.drop_zero, List.set_cons_zero, List.set_cons_succ, true_or, or_true, and_self, Bool.false_eq_true, Nat.le_refl, Option.bind_some, Option.map_some, Option.getD_some, Option.isSome_some, List.map_cons, List.map_nil, List.cons_append, List.nil_append, List.append_nil, List.getElem?_cons_zero, List.getElem?_cons_succ, eq_self, Int.reduceLT, Int.reduceLE, Int.reduceNeg, Int.reduceEq, gz]
  exact hQ _ _ hd hg u.ext
theorem sgn_sub (a b : Int) : sgn (a - b) = sgnI a b := by
  unfold sgn sgnI
  by_cases h1 : a < b
  · rw [if_neg (by omega), if_pos (by omega), if_pos h1]
  · rw [if_neg h1]
    by_cases h2 : b < a
    · rw [if_pos (by omega), if_pos h2]
    · rw [if_neg (by omega), if_neg (by omega), if_neg h2]
theorem num_cmp {x y : Int} {k m : Nat} {d e : Dy} (hk : k ≤ 8) (hm : m ≤ 8) (hd : makeM x k = some d) (he : makeM y m = some e) : cmpM d e = sgnI (x * 2 ^ (8 - k)) (y * 2 ^ (8 - m)) := by
  unfold cmpM
  rw [makeM_up (by omega) hd, makeM_up (by omega) he, show 24 - k = (8 - k) + 16 by omega, show 24 - m = (8 - m) + 16 by omega, Int.pow_add, Int.pow_add, ← Int.mul_assoc, ← Int.mul_assoc, ← Int.sub_mul, sgn_pos (Int.pow_pos (by decide)), sgn_sub]
theorem upL_get {l : List Int} {i d : Nat} {x : Int} (h : l[i]? = some x) : (upL l d)[i]? = some (x * 2 ^ d) := by
  unfold upL; rw [List.getElem?_map, h]; rfl
theorem wkBefore_c {s : Nat} {x y : Bx} {cx cy : List Value} {h : Heap} {Q : Value → Heap → Prop} (hx : Here h x cx) (hy : Here h y cy) (gx : Gd s x) (gy : Gd s y)
    (hQ : ∀ h', Ext h h' → Q (.bool (decide (bcmp x y < 0))) h') : CallsV Try.prog 104 [.agg cx.toArray, .agg cy.toArray] h Q := by
  obtain ⟨vx1, vx2, rfl, fx, rx1, rx2⟩ := here_Bx hx
  obtain ⟨vy1, vy2, rfl, fy, ry1, ry2⟩ := here_Bx hy
  obtain ⟨kx, lx, lx3, ex, bx1, bx2⟩ := box_k gx.1
  obtain ⟨ky, ly, ly3, ey, by1, by2⟩ := box_k gy.1
  obtain ⟨k, hk⟩ : ∃ k : Nat, x.k = (k : Int) := ⟨x.k.toNat, by omega⟩
  obtain ⟨m, hm⟩ : ∃ m : Nat, y.k = (m : Int) := ⟨y.k.toNat, by omega⟩
  have hb : bcmp x y = orI (cmpL (upL x.low (8 - k)) (upL y.low (8 - m))) (cmpL (upL x.high (8 - k)) (upL y.high (8 - m))) := by
    rw [← bcmp_eight kx ky]
    unfold cmpAt
    rw [show (8 - x.k).toNat = 8 - k by omega, show (8 - y.k).toNat = 8 - m by omega]
  rw [hb] at hQ
  clear hb
  have hl1 : y.low.length = x.low.length := by rw [gx.2, gy.2]
  have hl2 : y.high.length = x.high.length := by rw [ex, ey, hl1]
  have hk8 : k ≤ 8 := by omega
  have hm8 : m ≤ 8 := by omega
  refine CallsV.start Try.func104 rfl (by rw [Try.results104]) (by kernel_rfl) (by rw [Try.ntmps104]; simp) ?_
  have u := Sep.blk3 h [.int .i64 x.k, vx1, vx2] [.int .i64 y.k, vy1, vy2] [vx1, vy1] 42 42 34 true true true
  have u := u.newBlk [vx2, vy2] 34 true
  have u := u.newBlk [.slice (some ⟨h.length + 2, 0, none⟩) 2 2, .slice (some ⟨h.length + 3, 0, none⟩) 2 2] 144 true
  simp only [List.append_assoc, List.cons_append, List.nil_append, List.length_append, List.length_cons, List.length_nil, Nat.reduceAdd] at u
  have cx1 := rx1.isRow.cells
  have cx2 := rx2.isRow.cells
  have cy1 := ry1.isRow.cells
  have cy2 := ry2.isRow.cells
  simp (disch := omega) only [VW, VY, VZ, VA, VB, VC, VE, TY, ↓reduceIte, Nat.reduceEqDiff, Nat.reduceAdd, Nat.reduceMul, Nat.reduceSub, Nat.reduceLeDiff, List.length_cons, List.length_nil, List.length_append, List.append_assoc, List.take_succ_cons, List.take_zero, List.drop_succ_cons, List.drop_zero, List.set_cons_zero, List.set_cons_succ, true_or, or_true, and_self, Bool.false_eq_true, Nat.le_refl, Option.bind_some, Option.map_some, Option.getD_some, Option.isSome_some, List.map_cons, List.map_nil, List.cons_append, List.nil_append, List.append_nil, List.getElem?_cons_zero, List.getElem?_cons_succ, eq_self, Int.reduceLT, Int.reduceLE, Int.reduceNeg, Int.reduceEq, cx1, cx2, cy1, cy2]
  have E := u.ext
  have b5 := u.rd
  have b4 := (u.pull 1 rfl).rd
  have b3 := (u.pull 2 rfl).rd
  have b2 := (u.pull 3 rfl).rd
  have b1 := (u.pull 4 rfl).rd
  have a5 := u.rdAll (n := 2) rfl
  have a4 := (u.pull 1 rfl).rdAll (n := 2) rfl
  have a3 := (u.pull 2 rfl).rdAll (n := 2) rfl
  have a2 := (u.pull 3 rfl).rdAll (n := 3) rfl
  have a1 := (u.pull 4 rfl).rdAll (n := 3) rfl
  have rx1 := rx1.mono E
  have rx2 := rx2.mono E
  have ry1 := ry1.mono E
  have ry2 := ry2.mono E
  generalize hH : h ++ [some ⟨[.int .i64 x.k, vx1, vx2], 42, false, true⟩, some ⟨[.int .i64 y.k, vy1, vy2], 42, false, true⟩, some ⟨[vx1, vy1], 34, false, true⟩, some ⟨[vx2, vy2], 34, false, true⟩, some ⟨[.slice (some ⟨h.length + 2, 0, none⟩) 2 2, .slice (some ⟨h.length + 3, 0, none⟩) 2 2], 144, false, true⟩] = H at *
  refine loop_rule (fun n e h' => ∃ (j : Nat), e 2 = .pointer (some ⟨h.length, 0, none⟩) ∧ e 3 = .pointer (some ⟨h.length + 1, 0, none⟩) ∧ e 20 = .slice (some ⟨h.length + 4, 0, none⟩) 2 2 ∧ e 21 = .int .i64 2 ∧ e 22 = .int .i64 (j : Int) ∧ j ≤ 2 ∧ n = 2 - j ∧ (1 ≤ j → cmpL (upL x.low (8 - k)) (upL y.low (8 - m)) = 0) ∧ (2 ≤ j → cmpL (upL x.high (8 - k)) (upL y.high (8 - m)) = 0) ∧ Ext H h') ?_ 2 _ _
    ⟨0, rfl, rfl, rfl, rfl, rfl, by omega, rfl, by omega, by omega, .refl _⟩
  rintro n e h1 ⟨j, e2, e3, e20, e21, e22, hj, rfl, z1, z2, E1⟩
  have isr4 : ∀ b : Nat, IsRow (.slice (some ⟨b, 0, none⟩) 2 2) 2 := fun b => .inr ⟨_, _, _, rfl, Nat.le_refl _⟩
  have rix : ∀ b : Nat, _ := fun b => (isr4 b).ix Try.prog
  have rb2 : ∀ b : Nat, rowB (.slice (some ⟨b, 0, none⟩) 2 2) = b := fun b => rfl
  have ro2 : ∀ b : Nat, rowO (.slice (some ⟨b, 0, none⟩) 2 2) = 0 := fun b => rfl
  match j, hj with
  | 0, hj =>
    have q1 : ((0 : Nat) : Int) < ((2 : Nat) : Int) := by decide
    have q2 : ((0 : Nat) : Int) < 2 := by decide
    have tj : ((0 : Nat) : Int).toNat = 0 := rfl
    have q0 : (0 : Int) ≤ ((0 : Nat) : Int) := by decide
    have q3 : (0 : Int) < ((2 : Nat) : Int) := by decide
    have q4 : (1 : Int) < ((2 : Nat) : Int) := by decide
    have q5 : (0 : Int) ≤ 0 := by decide
    have q6 : (0 : Int) ≤ 1 := by decide
    have t0 : (0 : Int).toNat = 0 := rfl
    have t1 : (1 : Int).toNat = 1 := rfl
    have g5 : getC h1 (h.length + 4) 0 = some (.slice (some ⟨h.length + 2, 0, none⟩) 2 2) := E1.keepC (cellsAt_getC a5 0 (by decide))
    have g40 : getC h1 (h.length + 2) 0 = some vx1 := E1.keepC (cellsAt_getC a3 0 (by decide))
    have w1 := rx1.mono E1
    simp (disch := omega) only [VW, VY, VZ, VA, VB, VC, VE, TY, ↓reduceIte, Nat.reduceEqDiff, Nat.reduceAdd, Nat.reduceMul, Nat.reduceSub, Nat.reduceLeDiff, List.length_cons, List.length_nil, List.length_append, List.append_assoc, List.take_succ_cons, List.take_zero, List.drop_succ_cons, List.drop_zero, List.set_cons_zero, List.set_cons_succ, true_or, or_true, and_self, Bool.false_eq_true, Nat.le_refl, Option.bind_some, Option.map_some, Option.getD_some, Option.isSome_some, List.map_cons, List.map_nil, List.cons_append, List.nil_append, List.append_nil, List.getElem?_cons_zero, List.getElem?_cons_succ, eq_self, Int.reduceLT, Int.reduceLE, Int.reduceNeg, Int.reduceEq, e2, e3, e20, e21, e22, q1, q2, tj, q0, q3, q4, q5, q6, t0, t1, rix, rb2, ro2, g5, g40, w1.isRow.len]
    refine loop_rule (fun n e h' => ∃ (i : Nat), e 2 = .pointer (some ⟨h.length, 0, none⟩) ∧ e 3 = .pointer (some ⟨h.length + 1, 0, none⟩) ∧ e 6 = .slice (some ⟨h.length + 2, 0, none⟩) 2 2 ∧ e 20 = .slice (some ⟨h.length + 4, 0, none⟩) 2 2 ∧ e 21 = .int .i64 2 ∧ e 22 = .int .i64 ((0 : Nat) : Int) ∧ e 28 = vx1 ∧ e 29 = .int .i64 (x.low.length : Int) ∧ e 30 = .int .i64 (i : Int) ∧ i ≤ x.low.length ∧ n = x.low.length - i ∧ (upL x.low (8 - k)).take i = (upL y.low (8 - m)).take i ∧ Ext H h') ?_ x.low.length _ _
      ⟨0, e2, e3, rfl, e20, e21, e22, rfl, rfl, rfl, Nat.zero_le _, rfl, by simp, E1⟩
    clear e2 e3 e20 e21 e22 g5 g40 w1 E1
    rintro n e h1 ⟨i, e2, e3, e6, e20, e21, e22, e28, e29, e30, hi, rfl, heq, E1⟩
    have w1 := rx1.mono E1
    have w2 := ry1.mono E1
    have g41 : getC h1 (h.length + 2) 1 = some vy1 := E1.keepC (cellsAt_getC a3 1 (by decide))
    have gxk : getC h1 h.length 0 = some (.int .i64 x.k) := E1.keepC (cellsAt_getC a1 0 (by decide))
    have gyk : getC h1 (h.length + 1) 0 = some (.int .i64 y.k) := E1.keepC (cellsAt_getC a2 0 (by decide))
    simp (disch := omega) only [VW, VY, VZ, VA, VB, VC, VE, TY, ↓reduceIte, Nat.reduceEqDiff, Nat.reduceAdd, Nat.reduceMul, Nat.reduceSub, Nat.reduceLeDiff, List.length_cons, List.length_nil, List.length_append, List.append_assoc, List.take_succ_cons, List.take_zero, List.drop_succ_cons, List.drop_zero, List.set_cons_zero, List.set_cons_succ, true_or, or_true, and_self, Bool.false_eq_true, Nat.le_refl, Option.bind_some, Option.map_some, Option.getD_some, Option.isSome_some, List.map_cons, List.map_nil, List.cons_append, List.nil_append, List.append_nil, List.getElem?_cons_zero, List.getElem?_cons_succ, eq_self, Int.reduceLT, Int.reduceLE, Int.reduceNeg, Int.reduceEq, e29, e30]
    by_cases hlt : i < x.low.length
    · obtain ⟨p, hp⟩ := get_some hlt
      obtain ⟨q, hq⟩ := get_some (show i < y.low.length by omega)
      have qi : (i : Int) < (x.low.length : Int) := by omega
      obtain ⟨x1, _⟩ := row_int w1 hp
      obtain ⟨y1, _⟩ := row_int w2 hq
      have ix2 := w2.isRow.ix Try.prog
      rw [hl1] at ix2
      have pb := bx1 p (List.mem_of_getElem? hp)
      have qb := by1 q (List.mem_of_getElem? hq)
      simp (disch := omega) only [VW, VY, VZ, VA, VB, VC, VE, TY, ↓reduceIte, Nat.reduceEqDiff, Nat.reduceAdd, Nat.reduceMul, Nat.reduceSub, Nat.reduceLeDiff, List.length_cons, List.length_nil, List.length_append, List.append_assoc, List.take_succ_cons, List.take_zero, List.drop_succ_cons, List.drop_zero, List.set_cons_zero, List.set_cons_succ, true_or, or_true, and_self, Bool.false_eq_true, Nat.le_refl, Option.bind_some, Option.map_some, Option.getD_some, Option.isSome_some, List.map_cons, List.map_nil, List.cons_append, List.nil_append, List.append_nil, List.getElem?_cons_zero, List.getElem?_cons_succ, eq_self, Int.reduceLT, Int.reduceLE, Int.reduceNeg, Int.reduceEq, e28, e30, qi, w1.isRow.ix, x1]
      refine draw_ord [0, 1, 2, 4, 5, 6, 7, 8, 9, 10, 11, 3, 12, 13, 14] (by kernel_rfl) (by simp only [List.filterMap_cons, List.filterMap_nil, List.getElem?_cons_zero, List.getElem?_cons_succ]; rfl) ?_
      simp (disch := omega) only [VW, VY, VZ, VA, VB, VC, VE, TY, ↓reduceIte, Nat.reduceEqDiff, Nat.reduceAdd, Nat.reduceMul, Nat.reduceSub, Nat.reduceLeDiff, List.length_cons, List.length_nil, List.length_append, List.append_assoc, List.take_succ_cons, List.take_zero, List.drop_succ_cons, List.drop_zero, List.set_cons_zero, List.set_cons_succ, true_or, or_true, and_self, Bool.false_eq_true, Nat.le_refl, Option.bind_some, Option.map_some, Option.getD_some, Option.isSome_some, List.map_cons, List.map_nil, List.cons_append, List.nil_append, List.append_nil, List.getElem?_cons_zero, List.getElem?_cons_succ, eq_self, Int.reduceLT, Int.reduceLE, Int.reduceNeg, Int.reduceEq, e2, e3, e6, e30, qi, gxk, gyk, q3, q4, q5, q6, t0, t1, rix, rb2, ro2, g41, ix2, y1]
      rw [hk]
      refine .inl ⟨by kernel_rfl, ?_⟩; refine bxNumber_c (n := p) (k := k) (by omega) (by omega) fun d h2 hd gd E2 => ?_
      have E3 := E1.trans E2
      have y1 := E2.keepC y1
      have g41 := E2.keepC g41
      have gxk := E2.keepC gxk
      have gyk := E2.keepC gyk
      simp (disch := omega) only [VW, VY, VZ, VA, VB, VC, VE, TY, ↓reduceIte, Nat.reduceEqDiff, Nat.reduceAdd, Nat.reduceMul, Nat.reduceSub, Nat.reduceLeDiff, List.length_cons, List.length_nil, List.length_append, List.append_assoc, List.take_succ_cons, List.take_zero, List.drop_succ_cons, List.drop_zero, List.set_cons_zero, List.set_cons_succ, true_or, or_true, and_self, Bool.false_eq_true, Nat.le_refl, Option.bind_some, Option.map_some, Option.getD_some, Option.isSome_some, List.map_cons, List.map_nil, List.cons_append, List.nil_append, List.append_nil, List.getElem?_cons_zero, List.getElem?_cons_succ, eq_self, Int.reduceLT, Int.reduceLE, Int.reduceNeg, Int.reduceEq, gxk, gyk, g41, y1, hk]
      rw [hm]
      refine .inl ⟨by kernel_rfl, ?_⟩; refine bxNumber_c (n := q) (k := m) (by omega) (by omega) fun d' h3 hd' gd' E4 => ?_
      have E5 := E3.trans E4
      have y1 := E4.keepC y1
      have g41 := E4.keepC g41
      have gxk := E4.keepC gxk
      have gyk := E4.keepC gyk
      simp (disch := omega) only [VW, VY, VZ, VA, VB, VC, VE, TY, ↓reduceIte, Nat.reduceEqDiff, Nat.reduceAdd, Nat.reduceMul, Nat.reduceSub, Nat.reduceLeDiff, List.length_cons, List.length_nil, List.length_append, List.append_assoc, List.take_succ_cons, List.take_zero, List.drop_succ_cons, List.drop_zero, List.set_cons_zero, List.set_cons_succ, true_or, or_true, and_self, Bool.false_eq_true, Nat.le_refl, Option.bind_some, Option.map_some, Option.getD_some, Option.isSome_some, List.map_cons, List.map_nil, List.cons_append, List.nil_append, List.append_nil, List.getElem?_cons_zero, List.getElem?_cons_succ, eq_self, Int.reduceLT, Int.reduceLE, Int.reduceNeg, Int.reduceEq, gxk, gyk, g41, y1, hk, hm]
      refine .inl ⟨by kernel_rfl, ?_⟩; refine dyCmp_c gd gd' fun h4 E6 => ?_
      have E7 := E5.trans E6
      have y1 := E6.keepC y1
      have g41 := E6.keepC g41
      have gxk := E6.keepC gxk
      have gyk := E6.keepC gyk
      have hc := cmpL_get (by rw [upL_len, upL_len]; exact hl1) (upL_get (d := 8 - k) hp) (upL_get (d := 8 - m) hq) heq
      rw [← num_cmp hk8 hm8 hd hd'] at hc
      by_cases c : cmpM d d' = 0
      · simp (disch := omega) only [VW, VY, VZ, VA, VB, VC, VE, TY, ↓reduceIte, Nat.reduceEqDiff, Nat.reduceAdd, Nat.reduceMul, Nat.reduceSub, Nat.reduceLeDiff, List.length_cons, List.length_nil, List.length_append, List.append_assoc, List.take_succ_cons, List.take_zero, List.drop_succ_cons, List.drop_zero, List.set_cons_zero, List.set_cons_succ, true_or, or_true, and_self, Bool.false_eq_true, Nat.le_refl, Option.bind_some, Option.map_some, Option.getD_some, Option.isSome_some, List.map_cons, List.map_nil, List.cons_append, List.nil_append, List.append_nil, List.getElem?_cons_zero, List.getElem?_cons_succ, eq_self, Int.reduceLT, Int.reduceLE, Int.reduceNeg, Int.reduceEq, gxk, gyk, g41, y1, hk, hm, c, e2, e3, e6, e20, e21, e22, e28, e29, e30, wrap_in]
        refine ⟨_, by omega, i + 1, by simp, by omega, rfl, ?_, E7⟩
        rw [List.take_add_one, List.take_add_one, upL_get hp, upL_get hq, heq]
        rw [num_cmp hk8 hm8 hd hd'] at c
        congr 2
        unfold sgnI at c
        split at c
        · simp at c
        · split at c
          · simp at c
          · congr 1; omega
      · have ho : orI (cmpM d d') (cmpL ((upL x.low (8 - k)).drop (i + 1)) ((upL y.low (8 - m)).drop (i + 1))) = cmpM d d' := if_neg c
        rw [ho] at hc
        have hb : orI (cmpL (upL x.low (8 - k)) (upL y.low (8 - m))) (cmpL (upL x.high (8 - k)) (upL y.high (8 - m))) = cmpM d d' := by
          rw [hc]; exact if_neg c
        rw [hb] at hQ
        by_cases c2 : cmpM d d' < 0
        · rw [decide_eq_true c2] at hQ
          simp (disch := omega) only [VW, VY, VZ, VA, VB, VC, VE, TY, ↓reduceIte, Nat.reduceEqDiff, Nat.reduceAdd, Nat.reduceMul, Nat.reduceSub, Nat.reduceLeDiff, List.length_cons, List.length_nil, List.length_append, List.append_assoc, List.take_succ_cons, List.take_zero, List.drop_succ_cons, List.drop_zero, List.set_cons_zero, List.set_cons_succ, true_or, or_true, and_self, Bool.false_eq_true, Nat.le_refl, Option.bind_some, Option.map_some, Option.getD_some, Option.isSome_some, List.map_cons, List.map_nil, List.cons_append, List.nil_append, List.append_nil, List.getElem?_cons_zero, List.getElem?_cons_succ, eq_self, Int.reduceLT, Int.reduceLE, Int.reduceNeg, Int.reduceEq, gxk, gyk, g41, y1, hk, hm, c, c2]
          exact hQ _ (E.trans E7)
        · rw [decide_eq_false c2] at hQ
          simp (disch := omega) only [VW, VY, VZ, VA, VB, VC, VE, TY, ↓reduceIte, Nat.reduceEqDiff, Nat.reduceAdd, Nat.reduceMul, Nat.reduceSub, Nat.reduceLeDiff, List.length_cons, List.length_nil, List.length_append, List.append_assoc, List.take_succ_cons, List.take_zero, List.drop_succ_cons, List.drop_zero, List.set_cons_zero, List.set_cons_succ, true_or, or_true, and_self, Bool.false_eq_true, Nat.le_refl, Option.bind_some, Option.map_some, Option.getD_some, Option.isSome_some, List.map_cons, List.map_nil, List.cons_append, List.nil_append, List.append_nil, List.getElem?_cons_zero, List.getElem?_cons_succ, eq_self, Int.reduceLT, Int.reduceLE, Int.reduceNeg, Int.reduceEq, gxk, gyk, g41, y1, hk, hm, c, c2]
          exact hQ _ (E.trans E7)
    · obtain rfl : i = x.low.length := by omega
      have qi : ¬ (x.low.length : Int) < (x.low.length : Int) := by omega
      have hz : cmpL (upL x.low (8 - k)) (upL y.low (8 - m)) = 0 := by
        rw [List.take_of_length_le (by rw [upL_len]; omega), List.take_of_length_le (by rw [upL_len]; omega)] at heq
        rw [heq]; exact cmpL_self _
      simp (disch := omega) only [VW, VY, VZ, VA, VB, VC, VE, TY, ↓reduceIte, Nat.reduceEqDiff, Nat.reduceAdd, Nat.reduceMul, Nat.reduceSub, Nat.reduceLeDiff, List.length_cons, List.length_nil, List.length_append, List.append_assoc, List.take_succ_cons, List.take_zero, List.drop_succ_cons, List.drop_zero, List.set_cons_zero, List.set_cons_succ, true_or, or_true, and_self, Bool.false_eq_true, Nat.le_refl, Option.bind_some, Option.map_some, Option.getD_some, Option.isSome_some, List.map_cons, List.map_nil, List.cons_append, List.nil_append, List.append_nil, List.getElem?_cons_zero, List.getElem?_cons_succ, eq_self, Int.reduceLT, Int.reduceLE, Int.reduceNeg, Int.reduceEq, qi, e2, e3, e20, e21, e22, wrap_in]
      exact ⟨_, by omega, 1, by simp, by omega, rfl, fun _ => hz, by omega, E1⟩
  | 1, hj =>
    have q1 : ((1 : Nat) : Int) < ((2 : Nat) : Int) := by decide
    have q2 : ((1 : Nat) : Int) < 2 := by decide
    have tj : ((1 : Nat) : Int).toNat = 1 := rfl
    have q0 : (0 : Int) ≤ ((1 : Nat) : Int) := by decide
    have q3 : (0 : Int) < ((2 : Nat) : Int) := by decide
    have q4 : (1 : Int) < ((2 : Nat) : Int) := by decide
    have q5 : (0 : Int) ≤ 0 := by decide
    have q6 : (0 : Int) ≤ 1 := by decide
    have t0 : (0 : Int).toNat = 0 := rfl
    have t1 : (1 : Int).toNat = 1 := rfl
    have g5 : getC h1 (h.length + 4) 1 = some (.slice (some ⟨h.length + 3, 0, none⟩) 2 2) := E1.keepC (cellsAt_getC a5 1 (by decide))
    have g40 : getC h1 (h.length + 3) 0 = some vx2 := E1.keepC (cellsAt_getC a4 0 (by decide))
    have w1 := rx2.mono E1
    simp (disch := omega) only [VW, VY, VZ, VA, VB, VC, VE, TY, ↓reduceIte, Nat.reduceEqDiff, Nat.reduceAdd, Nat.reduceMul, Nat.reduceSub, Nat.reduceLeDiff, List.length_cons, List.length_nil, List.length_append, List.append_assoc, List.take_succ_cons, List.take_zero, List.drop_succ_cons, List.drop_zero, List.set_cons_zero, List.set_cons_succ, true_or, or_true, and_self, Bool.false_eq_true, Nat.le_refl, Option.bind_some, Option.map_some, Option.getD_some, Option.isSome_some, List.map_cons, List.map_nil, List.cons_append, List.nil_append, List.append_nil, List.getElem?_cons_zero, List.getElem?_cons_succ, eq_self, Int.reduceLT, Int.reduceLE, Int.reduceNeg, Int.reduceEq, e2, e3, e20, e21, e22, q1, q2, tj, q0, q3, q4, q5, q6, t0, t1, rix, rb2, ro2, g5, g40, w1.isRow.len]
    refine loop_rule (fun n e h' => ∃ (i : Nat), e 2 = .pointer (some ⟨h.length, 0, none⟩) ∧ e 3 = .pointer (some ⟨h.length + 1, 0, none⟩) ∧ e 6 = .slice (some ⟨h.length + 3, 0, none⟩) 2 2 ∧ e 20 = .slice (some ⟨h.length + 4, 0, none⟩) 2 2 ∧ e 21 = .int .i64 2 ∧ e 22 = .int .i64 ((1 : Nat) : Int) ∧ e 28 = vx2 ∧ e 29 = .int .i64 (x.high.length : Int) ∧ e 30 = .int .i64 (i : Int) ∧ i ≤ x.high.length ∧ n = x.high.length - i ∧ (upL x.high (8 - k)).take i = (upL y.high (8 - m)).take i ∧ Ext H h') ?_ x.high.length _ _
      ⟨0, e2, e3, rfl, e20, e21, e22, rfl, rfl, rfl, Nat.zero_le _, rfl, by simp, E1⟩
    clear e2 e3 e20 e21 e22 g5 g40 w1 E1
    rintro n e h1 ⟨i, e2, e3, e6, e20, e21, e22, e28, e29, e30, hi, rfl, heq, E1⟩
    have w1 := rx2.mono E1
    have w2 := ry2.mono E1
    have g41 : getC h1 (h.length + 3) 1 = some vy2 := E1.keepC (cellsAt_getC a4 1 (by decide))
    have gxk : getC h1 h.length 0 = some (.int .i64 x.k) := E1.keepC (cellsAt_getC a1 0 (by decide))
    have gyk : getC h1 (h.length + 1) 0 = some (.int .i64 y.k) := E1.keepC (cellsAt_getC a2 0 (by decide))
    simp (disch := omega) only [VW, VY, VZ, VA, VB, VC, VE, TY, ↓reduceIte, Nat.reduceEqDiff, Nat.reduceAdd, Nat.reduceMul, Nat.reduceSub, Nat.reduceLeDiff, List.length_cons, List.length_nil, List.length_append, List.append_assoc, List.take_succ_cons, List.take_zero, List.drop_succ_cons, List.drop_zero, List.set_cons_zero, List.set_cons_succ, true_or, or_true, and_self, Bool.false_eq_true, Nat.le_refl, Option.bind_some, Option.map_some, Option.getD_some, Option.isSome_some, List.map_cons, List.map_nil, List.cons_append, List.nil_append, List.append_nil, List.getElem?_cons_zero, List.getElem?_cons_succ, eq_self, Int.reduceLT, Int.reduceLE, Int.reduceNeg, Int.reduceEq, e29, e30]
    by_cases hlt : i < x.high.length
    · obtain ⟨p, hp⟩ := get_some hlt
      obtain ⟨q, hq⟩ := get_some (show i < y.high.length by omega)
      have qi : (i : Int) < (x.high.length : Int) := by omega
      obtain ⟨x1, _⟩ := row_int w1 hp
      obtain ⟨y1, _⟩ := row_int w2 hq
      have ix2 := w2.isRow.ix Try.prog
      rw [hl2] at ix2
      have pb := bx2 p (List.mem_of_getElem? hp)
      have qb := by2 q (List.mem_of_getElem? hq)
      simp (disch := omega) only [VW, VY, VZ, VA, VB, VC, VE, TY, ↓reduceIte, Nat.reduceEqDiff, Nat.reduceAdd, Nat.reduceMul, Nat.reduceSub, Nat.reduceLeDiff, List.length_cons, List.length_nil, List.length_append, List.append_assoc, List.take_succ_cons, List.take_zero, List.drop_succ_cons, List.drop_zero, List.set_cons_zero, List.set_cons_succ, true_or, or_true, and_self, Bool.false_eq_true, Nat.le_refl, Option.bind_some, Option.map_some, Option.getD_some, Option.isSome_some, List.map_cons, List.map_nil, List.cons_append, List.nil_append, List.append_nil, List.getElem?_cons_zero, List.getElem?_cons_succ, eq_self, Int.reduceLT, Int.reduceLE, Int.reduceNeg, Int.reduceEq, e28, e30, qi, w1.isRow.ix, x1]
      refine draw_ord [0, 1, 2, 4, 5, 6, 7, 8, 9, 10, 11, 3, 12, 13, 14] (by kernel_rfl) (by simp only [List.filterMap_cons, List.filterMap_nil, List.getElem?_cons_zero, List.getElem?_cons_succ]; rfl) ?_
      simp (disch := omega) only [VW, VY, VZ, VA, VB, VC, VE, TY, ↓reduceIte, Nat.reduceEqDiff, Nat.reduceAdd, Nat.reduceMul, Nat.reduceSub, Nat.reduceLeDiff, List.length_cons, List.length_nil, List.length_append, List.append_assoc, List.take_succ_cons, List.take_zero, List.drop_succ_cons, List.drop_zero, List.set_cons_zero, List.set_cons_succ, true_or, or_true, and_self, Bool.false_eq_true, Nat.le_refl, Option.bind_some, Option.map_some, Option.getD_some, Option.isSome_some, List.map_cons, List.map_nil, List.cons_append, List.nil_append, List.append_nil, List.getElem?_cons_zero, List.getElem?_cons_succ, eq_self, Int.reduceLT, Int.reduceLE, Int.reduceNeg, Int.reduceEq, e2, e3, e6, e30, qi, gxk, gyk, q3, q4, q5, q6, t0, t1, rix, rb2, ro2, g41, ix2, y1]
      rw [hk]
      refine .inl ⟨by kernel_rfl, ?_⟩; refine bxNumber_c (n := p) (k := k) (by omega) (by omega) fun d h2 hd gd E2 => ?_
      have E3 := E1.trans E2
      have y1 := E2.keepC y1
      have g41 := E2.keepC g41
      have gxk := E2.keepC gxk
      have gyk := E2.keepC gyk
      simp (disch := omega) only [VW, VY, VZ, VA, VB, VC, VE, TY, ↓reduceIte, Nat.reduceEqDiff, Nat.reduceAdd, Nat.reduceMul, Nat.reduceSub, Nat.reduceLeDiff, List.length_cons, List.length_nil, List.length_append, List.append_assoc, List.take_succ_cons, List.take_zero, List.drop_succ_cons, List.drop_zero, List.set_cons_zero, List.set_cons_succ, true_or, or_true, and_self, Bool.false_eq_true, Nat.le_refl, Option.bind_some, Option.map_some, Option.getD_some, Option.isSome_some, List.map_cons, List.map_nil, List.cons_append, List.nil_append, List.append_nil, List.getElem?_cons_zero, List.getElem?_cons_succ, eq_self, Int.reduceLT, Int.reduceLE, Int.reduceNeg, Int.reduceEq, gxk, gyk, g41, y1, hk]
      rw [hm]
      refine .inl ⟨by kernel_rfl, ?_⟩; refine bxNumber_c (n := q) (k := m) (by omega) (by omega) fun d' h3 hd' gd' E4 => ?_
      have E5 := E3.trans E4
      have y1 := E4.keepC y1
      have g41 := E4.keepC g41
      have gxk := E4.keepC gxk
      have gyk := E4.keepC gyk
      simp (disch := omega) only [VW, VY, VZ, VA, VB, VC, VE, TY, ↓reduceIte, Nat.reduceEqDiff, Nat.reduceAdd, Nat.reduceMul, Nat.reduceSub, Nat.reduceLeDiff, List.length_cons, List.length_nil, List.length_append, List.append_assoc, List.take_succ_cons, List.take_zero, List.drop_succ_cons, List.drop_zero, List.set_cons_zero, List.set_cons_succ, true_or, or_true, and_self, Bool.false_eq_true, Nat.le_refl, Option.bind_some, Option.map_some, Option.getD_some, Option.isSome_some, List.map_cons, List.map_nil, List.cons_append, List.nil_append, List.append_nil, List.getElem?_cons_zero, List.getElem?_cons_succ, eq_self, Int.reduceLT, Int.reduceLE, Int.reduceNeg, Int.reduceEq, gxk, gyk, g41, y1, hk, hm]
      refine .inl ⟨by kernel_rfl, ?_⟩; refine dyCmp_c gd gd' fun h4 E6 => ?_
      have E7 := E5.trans E6
      have y1 := E6.keepC y1
      have g41 := E6.keepC g41
      have gxk := E6.keepC gxk
      have gyk := E6.keepC gyk
      have hc := cmpL_get (by rw [upL_len, upL_len]; exact hl2) (upL_get (d := 8 - k) hp) (upL_get (d := 8 - m) hq) heq
      rw [← num_cmp hk8 hm8 hd hd'] at hc
      by_cases c : cmpM d d' = 0
      · simp (disch := omega) only [VW, VY, VZ, VA, VB, VC, VE, TY, ↓reduceIte, Nat.reduceEqDiff, Nat.reduceAdd, Nat.reduceMul, Nat.reduceSub, Nat.reduceLeDiff, List.length_cons, List.length_nil, List.length_append, List.append_assoc, List.take_succ_cons, List.take_zero, List.drop_succ_cons, List.drop_zero, List.set_cons_zero, List.set_cons_succ, true_or, or_true, and_self, Bool.false_eq_true, Nat.le_refl, Option.bind_some, Option.map_some, Option.getD_some, Option.isSome_some, List.map_cons, List.map_nil, List.cons_append, List.nil_append, List.append_nil, List.getElem?_cons_zero, List.getElem?_cons_succ, eq_self, Int.reduceLT, Int.reduceLE, Int.reduceNeg, Int.reduceEq, gxk, gyk, g41, y1, hk, hm, c, e2, e3, e6, e20, e21, e22, e28, e29, e30, wrap_in]
        refine ⟨_, by omega, i + 1, by simp, by omega, rfl, ?_, E7⟩
        rw [List.take_add_one, List.take_add_one, upL_get hp, upL_get hq, heq]
        rw [num_cmp hk8 hm8 hd hd'] at c
        congr 2
        unfold sgnI at c
        split at c
        · simp at c
        · split at c
          · simp at c
          · congr 1; omega
      · have ho : orI (cmpM d d') (cmpL ((upL x.high (8 - k)).drop (i + 1)) ((upL y.high (8 - m)).drop (i + 1))) = cmpM d d' := if_neg c
        rw [ho] at hc
        have hb : orI (cmpL (upL x.low (8 - k)) (upL y.low (8 - m))) (cmpL (upL x.high (8 - k)) (upL y.high (8 - m))) = cmpM d d' := by
          rw [z1 (by omega)]; exact hc
        rw [hb] at hQ
        by_cases c2 : cmpM d d' < 0
        · rw [decide_eq_true c2] at hQ
          simp (disch := omega) only [VW, VY, VZ, VA, VB, VC, VE, TY, ↓reduceIte, Nat.reduceEqDiff, Nat.reduceAdd, Nat.reduceMul, Nat.reduceSub, Nat.reduceLeDiff, List.length_cons, List.length_nil, List.length_append, List.append_assoc, List.take_succ_cons, List.take_zero, List.drop_succ_cons, List.drop_zero, List.set_cons_zero, List.set_cons_succ, true_or, or_true, and_self, Bool.false_eq_true, Nat.le_refl, Option.bind_some, Option.map_some, Option.getD_some, Option.isSome_some, List.map_cons, List.map_nil, List.cons_append, List.nil_append, List.append_nil, List.getElem?_cons_zero, List.getElem?_cons_succ, eq_self, Int.reduceLT, Int.reduceLE, Int.reduceNeg, Int.reduceEq, gxk, gyk, g41, y1, hk, hm, c, c2]
          exact hQ _ (E.trans E7)
        · rw [decide_eq_false c2] at hQ
          simp (disch := omega) only [VW, VY, VZ, VA, VB, VC, VE, TY, ↓reduceIte, Nat.reduceEqDiff, Nat.reduceAdd, Nat.reduceMul, Nat.reduceSub, Nat.reduceLeDiff, List.length_cons, List.length_nil, List.length_append, List.append_assoc, List.take_succ_cons, List.take_zero, List.drop_succ_cons, List.drop_zero, List.set_cons_zero, List.set_cons_succ, true_or, or_true, and_self, Bool.false_eq_true, Nat.le_refl, Option.bind_some, Option.map_some, Option.getD_some, Option.isSome_some, List.map_cons, List.map_nil, List.cons_append, List.nil_append, List.append_nil, List.getElem?_cons_zero, List.getElem?_cons_succ, eq_self, Int.reduceLT, Int.reduceLE, Int.reduceNeg, Int.reduceEq, gxk, gyk, g41, y1, hk, hm, c, c2]
          exact hQ _ (E.trans E7)
    · obtain rfl : i = x.high.length := by omega
      have qi : ¬ (x.high.length : Int) < (x.high.length : Int) := by omega
      have hz : cmpL (upL x.high (8 - k)) (upL y.high (8 - m)) = 0 := by
        rw [List.take_of_length_le (by rw [upL_len]; omega), List.take_of_length_le (by rw [upL_len]; omega)] at heq
        rw [heq]; exact cmpL_self _
      simp (disch := omega) only [VW, VY, VZ, VA, VB, VC, VE, TY, ↓reduceIte, Nat.reduceEqDiff, Nat.reduceAdd, Nat.reduceMul, Nat.reduceSub, Nat.reduceLeDiff, List.length_cons, List.length_nil, List.length_append, List.append_assoc, List.take_succ_cons, List.take_zero, List.drop_succ_cons, List.drop_zero, List.set_cons_zero, List.set_cons_succ, true_or, or_true, and_self, Bool.false_eq_true, Nat.le_refl, Option.bind_some, Option.map_some, Option.getD_some, Option.isSome_some, List.map_cons, List.map_nil, List.cons_append, List.nil_append, List.append_nil, List.getElem?_cons_zero, List.getElem?_cons_succ, eq_self, Int.reduceLT, Int.reduceLE, Int.reduceNeg, Int.reduceEq, qi, e2, e3, e20, e21, e22, wrap_in]
      exact ⟨_, by omega, 2, by simp, by omega, rfl, fun _ => z1 (by omega), fun _ => hz, E1⟩
  | 2, hj =>
    have q2 : ¬ ((2 : Nat) : Int) < 2 := by decide
    have hb : orI (cmpL (upL x.low (8 - k)) (upL y.low (8 - m))) (cmpL (upL x.high (8 - k)) (upL y.high (8 - m))) = 0 := by
      rw [z1 (by omega), z2 (by omega)]; rfl
    rw [hb, decide_eq_false (by decide)] at hQ
    simp (disch := omega) only [VW, VY, VZ, VA, VB, VC, VE, TY, ↓reduceIte, Nat.reduceEqDiff, Nat.reduceAdd, Nat.reduceMul, Nat.reduceSub, Nat.reduceLeDiff, List.length_cons, List.length_nil, List.length_append, List.append_assoc, List.take_succ_cons, List.take_zero, List.drop_succ_cons, List.drop_zero, List.set_cons_zero, List.set_cons_succ, true_or, or_true, and_self, Bool.false_eq_true, Nat.le_refl, Option.bind_some, Option.map_some, Option.getD_some, Option.isSome_some, List.map_cons, List.map_nil, List.cons_append, List.nil_append, List.append_nil, List.getElem?_cons_zero, List.getElem?_cons_succ, eq_self, Int.reduceLT, Int.reduceLE, Int.reduceNeg, Int.reduceEq, e21, e22, q2]
    exact hQ _ (E.trans E1)
  | j + 3, hj => omega
end Go.Proofs
