/- Contracts of functions, facts of types, or the plain law behind one statement (own work): IX. Conditions: those told in each theorem. -/
import Derived.Test.YtlnephhhcofilaaGreatML
set_option linter.all false
set_option linter.unusedSimpArgs false
set_option linter.unusedVariables false
set_option maxRecDepth 4000
namespace Go.Proofs
open Go Go.V
open Nat renaming reduceEqDiff → jA, reduceAdd → jB, reduceMul → jD, reduceSub → jE, reduceLeDiff → jF
open Int renaming reduceLT → jG, reduceLE → jH, reduceNeg → jI, reduceEq → jJ
/- The edges of a boundary. -/
/-- A box in the plane: its numbers. -/
structure PlG (b : Bx) (k : Nat) (x y z w : Int) : Prop where
  k3 : k ≤ 3
  bk : b.k = (k : Int)
  low : b.low = [x, z]
  high : b.high = [y, w]
  x0 : -64 ≤ x
  xy : x < y
  y0 : y ≤ 64
  z0 : -64 ≤ z
  zw : z < w
  w0 : w ≤ 64
theorem planeB_G {b : Bx} (h : planeB b = true) : ∃ k x y z w, PlG b k x y z w := by
  unfold planeB at h
  simp only [Bool.and_eq_true, decide_eq_true_eq] at h
  obtain ⟨⟨hb, hl⟩, hk⟩ := h
  unfold boxM at hb
  simp only [Bool.and_eq_true, decide_eq_true_eq] at hb
  obtain ⟨⟨⟨h1, h2⟩, h3⟩, h4, _⟩ := hb
  obtain ⟨bk, lo, hi⟩ := b
  simp only at *
  obtain ⟨k, rfl⟩ := Int.eq_ofNat_of_zero_le h1.1
  match lo, hi, hl, h3 with
  | [x, z], [y, w], _, _ =>
    have hm : mostM (k : Int) ≤ 64 := by
      have : k = 0 ∨ k = 1 ∨ k = 2 ∨ k = 3 := by omega
      rcases this with rfl | rfl | rfl | rfl <;> decide
    simp only [List.zip_cons_cons, List.zip_nil_left, List.all_cons, List.all_nil, Bool.and_true, Bool.and_eq_true, pairOk, decide_eq_true_eq] at h4
    exact ⟨k, x, y, z, w, by omega, rfl, rfl, rfl, by omega, by omega, by omega, by omega, by omega, by omega⟩
def edgesM (x y z w : Int) (k d : Nat) : List Ed :=
  wayM 1 (numM z k) x y k d ++ wayM 0 (numM y k) z w k d ++ wayM 1 (numM w k) y x k d ++ wayM 0 (numM x k) w z k d
theorem makeM_two (n : Int) (k d : Nat) : makeM (n * 2 ^ d) (k + d) = makeM n k := by
  unfold makeM
  have hp : (2 : Int) ^ d ≠ 0 := Int.ne_of_gt (Int.pow_pos (by decide))
  by_cases c : n = 0
  · subst c; simp
  · rw [if_neg c, if_neg (Int.mul_ne_zero c hp), stripM_pow]
theorem numM_two (n : Int) (k d : Nat) : numM (n * 2 ^ d) (k + d) = numM n k := by unfold numM; rw [makeM_two]
/-- The four ways, as the program goes them. -/
def waysM (x y z w : Int) (k d : Nat) : List (List Ed) := [wayM 1 (numM z k) x y k d, wayM 0 (numM y k) z w k d, wayM 1 (numM w k) y x k d, wayM 0 (numM x k) w z k d]
theorem ways_flat (x y z w : Int) (k d : Nat) : (waysM x y z w k d).flatten = edgesM x y z w k d := by
  unfold waysM edgesM
  simp only [List.flatten_cons, List.flatten_nil, List.append_nil, List.append_assoc]
theorem edgesM_len (x y z w : Int) (k d : Nat) : (edgesM x y z w k d).length = 4 * 2 ^ d := by
  unfold edgesM
  simp only [List.length_append, wayM_len]
  omega
theorem wayM_good {side : Int} {mid : Dy} {fr to : Int} {k d : Nat} (hs : side = 0 ∨ side = 1) (hm : DyG mid) : ∀ e ∈ wayM side mid fr to k d, EdG e := by
  intro e he
  unfold wayM at he
  obtain ⟨i, _, rfl⟩ := List.mem_map.1 he
  exact ⟨hs, hm, numM_good _ _, numM_good _ _⟩
theorem edgesM_good {x y z w : Int} {k d : Nat} : ∀ e ∈ edgesM x y z w k d, EdG e := by
  intro e he
  unfold edgesM at he
  simp only [List.mem_append] at he
  rcases he with ((he | he) | he) | he
  · exact wayM_good (.inr rfl) (numM_good _ _) e he
  · exact wayM_good (.inl rfl) (numM_good _ _) e he
  · exact wayM_good (.inr rfl) (numM_good _ _) e he
  · exact wayM_good (.inl rfl) (numM_good _ _) e he
instance : FlatT Dy := ⟨fun h => FlatT.flat (α := Int × Int) h⟩
instance : FlatT Ed := ⟨fun h => FlatT.flat (α := Int × Dy × Dy × Dy) h⟩
theorem imEdges_c {b : Bx} {cs : List Value} {k d : Nat} {x y z w : Int} {h : Heap} {Q : Value → Heap → Prop} (hb : Here h b cs) (g : PlG b k x y z w) (hd : d ≤ 5)
    (hQ : ∀ v h', Sep h h' [ownA 102 (edgesM x y z w k d) v] → Q v h') : CallsV Tryz.prog 89 [.agg cs.toArray, .int .i64 d] h Q := by
  obtain ⟨v1, v2, rfl, f1, r1, r2⟩ := here_Bx hb
  obtain ⟨k3, bk, low, high, x0, xy, y0, z0, zw, w0⟩ := g
  rw [low] at r1
  rw [high] at r2
  rw [bk] at hb ⊢
  refine CallsV.start Tryz.func89 rfl (by rw [Tryz.results89]) (by kernel_rfl) (by rw [Tryz.ntmps89]; simp) ?_
  have s := Sep.blk1 h [.int .i64 k, v1, v2] 32 true
  have rr1 := r1.mono s.ext
  have rr2 := r2.mono s.ext
  have gg := s.rd
  obtain ⟨X1, X2⟩ := row_int rr1 (i := 0) (x := x) rfl
  obtain ⟨Z1, Z2⟩ := row_int rr1 (i := 1) (x := z) rfl
  obtain ⟨Y1, Y2⟩ := row_int rr2 (i := 0) (x := y) rfl
  obtain ⟨W1, W2⟩ := row_int rr2 (i := 1) (x := w) rfl
  have X3 : getC (h ++ [some ⟨[.int .i64 k, v1, v2], 32, false, true⟩]) (rowB v1) (rowO v1) = some (.int .i64 x) := X1
  have Y3 : getC (h ++ [some ⟨[.int .i64 k, v1, v2], 32, false, true⟩]) (rowB v2) (rowO v2) = some (.int .i64 y) := Y1
  have L1 : ([x, z] : List Int).length = 2 := rfl
  have L2 : ([y, w] : List Int).length = 2 := rfl
  simp (disch := omega) only [WA, ↓reduceIte, jA, jB, jD, jE, jF, jG, jH, jI, jJ]
  refine draw_ord [0, 1, 2, 3, 4, 5, 6, 7, 8, 9, 10, 11, 12, 13, 14, 15, 16, 17, 18, 19] (by kernel_rfl) (by simp only [WLF]; rfl) ?_
  have T1 : Int.toNat 1 = 1 := rfl
  simp (disch := omega) only [WA, ↓reduceIte, jA, jB, jD, jE, jF, jG, jH, jI, jJ, gg, rr1.isRow.ix, rr2.isRow.ix, X1, X3, Z1, Y1, Y3, W1, L1, L2, T1]
  clear X1 X2 X3 Y1 Y2 Y3 Z1 Z2 W1 W2 rr1 rr2
  generalize h ++ [some ⟨[.int .i64 k, v1, v2], 32, false, true⟩] = H0 at s gg ⊢
  refine draw_ord [0, 1, 2, 4, 5, 6, 7, 8, 3, 9, 10] (by kernel_rfl) (by simp only [WLF]; rfl) ?_
  simp (disch := omega) only [WA, ↓reduceIte, jA, jB, jD, jE, jF, jG, jH, jI, jJ, gg]
  refine .inl ⟨by kernel_rfl, ?_⟩; refine bxNumber_c (by unfold inI64; omega) (by omega) fun h1 E1 => ?_
  have s := s.mono E1
  have gg := s.rd
  simp (disch := omega) only [WA, ↓reduceIte, jA, jB, jD, jE, jF, jG, jH, jI, jJ, gg]
  refine .inl ⟨by kernel_rfl, ?_⟩; refine imWay_c (.inr rfl) (numM_good _ _) (by omega) (by omega) (by omega) hd fun w1 h2 t1 => ?_
  have s := s.add t1
  have gg := (s.pull 1 rfl).rd
  simp (disch := omega) only [WA, ↓reduceIte, jA, jB, jD, jE, jF, jG, jH, jI, jJ, gg]
  refine draw_ord [0, 1, 2, 3, 5, 6, 7, 8, 9, 4, 10, 11, 12] (by kernel_rfl) (by simp only [WLF]; rfl) ?_
  simp (disch := omega) only [WA, ↓reduceIte, jA, jB, jD, jE, jF, jG, jH, jI, jJ, gg]
  refine .inl ⟨by kernel_rfl, ?_⟩; refine bxNumber_c (by unfold inI64; omega) (by omega) fun h3 E3 => ?_
  have s := s.mono E3
  have gg := (s.pull 1 rfl).rd
  simp (disch := omega) only [WA, ↓reduceIte, jA, jB, jD, jE, jF, jG, jH, jI, jJ, gg]
  refine .inl ⟨by kernel_rfl, ?_⟩; refine imWay_c (.inl rfl) (numM_good _ _) (by omega) (by omega) (by omega) hd fun w2 h4 t2 => ?_
  have s := (s.add t2).swap
  have gg := (s.pull 2 rfl).rd
  simp (disch := omega) only [WA, ↓reduceIte, jA, jB, jD, jE, jF, jG, jH, jI, jJ, gg]
  refine sep_appendRow s (s.pull 1 rfl).row te99 tk102 rfl (by decide) (by rw [wayM_len, wayM_len]; have := pow_d hd; obtain ⟨N, _, e, _, _⟩ := this; rw [e]; simp only []; omega) fun w3 h5 s => ?_
  have s := (s.swap).tail
  have gg := (s.pull 1 rfl).rd
  simp (disch := omega) only [WA, ↓reduceIte, jA, jB, jD, jE, jF, jG, jH, jI, jJ, gg]
  refine draw_ord [0, 1, 2, 3, 5, 6, 7, 8, 9, 4, 10, 11, 12] (by kernel_rfl) (by simp only [WLF]; rfl) ?_
  simp (disch := omega) only [WA, ↓reduceIte, jA, jB, jD, jE, jF, jG, jH, jI, jJ, gg]
  refine .inl ⟨by kernel_rfl, ?_⟩; refine bxNumber_c (by unfold inI64; omega) (by omega) fun h6 E6 => ?_
  have s := s.mono E6
  have gg := (s.pull 1 rfl).rd
  simp (disch := omega) only [WA, ↓reduceIte, jA, jB, jD, jE, jF, jG, jH, jI, jJ, gg]
  refine .inl ⟨by kernel_rfl, ?_⟩; refine imWay_c (.inr rfl) (numM_good _ _) (by omega) (by omega) (by omega) hd fun w4 h7 t4 => ?_
  have s := (s.add t4).swap
  have gg := (s.pull 2 rfl).rd
  simp (disch := omega) only [WA, ↓reduceIte, jA, jB, jD, jE, jF, jG, jH, jI, jJ, gg]
  refine sep_appendRow s (s.pull 1 rfl).row te99 tk102 rfl (by decide) (by rw [List.length_append, wayM_len, wayM_len, wayM_len]; have := pow_d hd; obtain ⟨N, _, e, _, _⟩ := this; rw [e]; simp only []; omega) fun w5 h8 s => ?_
  have s := (s.swap).tail
  have gg := (s.pull 1 rfl).rd
  simp (disch := omega) only [WA, ↓reduceIte, jA, jB, jD, jE, jF, jG, jH, jI, jJ, gg]
  refine draw_ord [0, 1, 2, 3, 5, 6, 7, 8, 9, 4, 10, 11, 12] (by kernel_rfl) (by simp only [WLF]; rfl) ?_
  simp (disch := omega) only [WA, ↓reduceIte, jA, jB, jD, jE, jF, jG, jH, jI, jJ, gg]
  refine .inl ⟨by kernel_rfl, ?_⟩; refine bxNumber_c (by unfold inI64; omega) (by omega) fun h9 E9 => ?_
  have s := s.mono E9
  have gg := (s.pull 1 rfl).rd
  simp (disch := omega) only [WA, ↓reduceIte, jA, jB, jD, jE, jF, jG, jH, jI, jJ, gg]
  refine .inl ⟨by kernel_rfl, ?_⟩; refine imWay_c (.inl rfl) (numM_good _ _) (by omega) (by omega) (by omega) hd fun w6 h10 t6 => ?_
  have s := (s.add t6).swap
  have gg := (s.pull 2 rfl).rd
  simp (disch := omega) only [WA, ↓reduceIte, jA, jB, jD, jE, jF, jG, jH, jI, jJ, gg]
  refine sep_appendRow s (s.pull 1 rfl).row te99 tk102 rfl (by decide) (by simp only [List.length_append, wayM_len]; have := pow_d hd; obtain ⟨N, _, e, _, _⟩ := this; rw [e]; omega) fun w7 h11 s => ?_
  have gg := (s.pull 2 rfl).rd
  have s := s.head
  simp (disch := omega) only [WA, ↓reduceIte, jA, jB, jD, jE, jF, jG, jH, jI, jJ, gg]
  exact hQ _ _ s
theorem length_c {x : Bx} {b off i : Nat} {y z : Int} {h : Heap} {Q : Value → Heap → Prop} (hp : At h b off x) (hb : -64 ≤ y ∧ y ≤ 64 ∧ -64 ≤ z ∧ z ≤ 64) (hy : x.low[i]? = some y) (hz : x.high[i]? = some z) (hQ : Q (.int .i64 (z - y)) h) :
    CallsV Tryz.prog 73 [.pointer (some ⟨b, off, none⟩), .int .i64 i] h Q := by
  obtain ⟨v1, v2, g0, g1, g2, f1, r1, r2, ga⟩ := at_Bx hp
  have w1 := wrap_in (z - y) (by omega)
  obtain ⟨y1, y2⟩ := row_int r1 hy
  obtain ⟨z1, z2⟩ := row_int r2 hz
  obtain ⟨hlt, _⟩ := List.getElem?_eq_some_iff.1 hy
  obtain ⟨hlt2, _⟩ := List.getElem?_eq_some_iff.1 hz
  have q1 : (i : Int) < (x.low.length : Int) := by omega
  have q2 : (i : Int) < (x.high.length : Int) := by omega
  refine CallsV.start Tryz.func73 rfl (by rw [Tryz.results73]) (by kernel_rfl) (by rw [Tryz.ntmps73]; simp) ?_
  simp (disch := omega) only [WA, ↓reduceIte, jA, jB, jD, jE, jF, jG, jH, jI, jJ]
  refine draw_ord [0, 1, 2, 3, 4, 5, 6, 7, 8, 9, 10, 11, 12, 13, 14, 15] (by kernel_rfl) (by simp only [WLF]; rfl) ?_
  simp (disch := omega) only [WA, ↓reduceIte, jA, jB, jD, jE, jF, jG, jH, jI, jJ, g1, g2, r1.isRow.ix, r2.isRow.ix, q1, q2, y1, z1, w1]
  exact hQ
theorem number_c {b : Bx} {bb off k d N i c1 c2 c3 : Nat} {lo hi part : Int} {h : Heap} {Q : Value → Heap → Prop} (hp : At h bb off b) (hbx : -64 ≤ lo ∧ lo ≤ 64 ∧ -64 ≤ hi ∧ hi ≤ 64) (hlh : lo ≤ hi) (hk : b.k = (k : Int)) (k3 : k ≤ 3) (hd : d ≤ 5)
    (hlo : b.low[i]? = some lo) (hhi : b.high[i]? = some hi) (hN : N ≤ 32) (h0 : 0 ≤ part) (h1 : part ≤ N)
    (g1 : getC h c1 0 = some (.pointer (some ⟨bb, off, none⟩))) (g2 : getC h c2 0 = some (.int .i64 N)) (g3 : getC h c3 0 = some (.int .i64 d))
    (hQ : ∀ h', Ext h h' → Q (.agg (dyC (numM (lo * N + part * (hi - lo)) (k + d))).toArray) h') :
    CallsV Tryz.prog 113 [.int .i64 i, .int .i64 part, .pointer (some ⟨c1, 0, none⟩), .pointer (some ⟨c2, 0, none⟩), .pointer (some ⟨c3, 0, none⟩)] h Q := by
  obtain ⟨v1, v2, g0, gl, _, f1, r1, r2, ga⟩ := at_Bx hp
  rw [hk] at g0
  have b1 := mul_bd (A := 64) (B := 32) (a := lo) (b := N) (by decide) hbx.1 hbx.2.1 (by omega) (by omega)
  have b2 := mul_bd (A := 128) (B := 32) (a := hi - lo) (b := part) (by decide) (by omega) (by omega) h0 (by omega)
  rw [Int.mul_comm (hi - lo) part] at b2
  have w1 := wrap_in (lo * N) (by omega)
  have w2 := wrap_in (part * (hi - lo)) (by omega)
  have w3 := wrap_in (lo * N + part * (hi - lo)) (by omega)
  have w4 := wrap_in ((k : Int) + d) (by omega)
  have kd : (k : Int) + (d : Int) = ((k + d : Nat) : Int) := by omega
  obtain ⟨hlt, _⟩ := List.getElem?_eq_some_iff.1 hlo
  have q1 : (i : Int) < (b.low.length : Int) := by omega
  refine CallsV.start Tryz.func113 rfl (by rw [Tryz.results113]) (by kernel_rfl) (by rw [Tryz.ntmps113]; simp) ?_
  have s := Sep.blk1 h [.int .i64 0, .int .i64 0] 97 true
  simp (disch := omega) only [WA, ↓reduceIte, jA, jB, jD, jE, jF, jG, jH, jI, jJ]
  generalize h ++ [some ⟨[.int .i64 0, .int .i64 0], 97, false, true⟩] = H0 at s ⊢
  refine draw_tail [0, 1, 2, 3, 4, 5, 6, 7, 8, 9, 10, 11, 16, 17, 18, 19, 20, 21] [12, 13, 14, 15, 22, 23, 24, 25, 26, 27, 28] (by kernel_rfl) (by simp only [WLF]; rfl) ?_
  have k0 := s.ext.keepC g0
  have k1 := s.ext.keepC g1
  have k2 := s.ext.keepC g2
  have k3 := s.ext.keepC g3
  have k4 := s.ext.keepC gl
  have rr1 := r1.mono s.ext
  have X1 := (row_int rr1 hlo).1
  simp (disch := omega) only [WA, ↓reduceIte, jA, jB, jD, jE, jF, jG, jH, jI, jJ, k0, k1, k2, k3, k4, rr1.isRow.ix, X1, q1, w1, w4]
  -- BEGIN number
  refine tail_step [(12, [13, 14], [15, 22, 23, 24, 25, 26, 27, 28], false), (26, [], [12, 13, 14, 15, 22, 23, 24, 25, 27, 28], false)] (by kernel_rfl) (by kernel_rfl) (a_cons (by simp only [WLF]; rfl) (by kernel_rfl) ?_ (a_cons (by simp only [WLF]; rfl) (by kernel_rfl) ?_ trivial))
  · skip
    have k0 := s.ext.keepC g0
    have k1 := s.ext.keepC g1
    have k2 := s.ext.keepC g2
    have k3 := s.ext.keepC g3
    have k4 := s.ext.keepC gl
    have rr1 := r1.mono s.ext
    have X1 := (row_int rr1 hlo).1
    try simp (disch := omega) only [WA, ↓reduceIte, jA, jB, jD, jE, jF, jG, jH, jI, jJ, kd, w1, w2, w3, w4, rr1.isRow.ix, q1, k0, k1, k2, k3, k4, rr1, X1]
    refine .inl ⟨by kernel_rfl, ?_⟩; refine length_c (hp.ext s.ext) hbx hlo hhi ?_
    have k0 := s.ext.keepC g0
    have k1 := s.ext.keepC g1
    have k2 := s.ext.keepC g2
    have k3 := s.ext.keepC g3
    have k4 := s.ext.keepC gl
    have rr1 := r1.mono s.ext
    have X1 := (row_int rr1 hlo).1
    try simp (disch := omega) only [WA, ↓reduceIte, jA, jB, jD, jE, jF, jG, jH, jI, jJ, kd, w1, w2, w3, w4, rr1.isRow.ix, q1, k0, k1, k2, k3, k4, rr1, X1]
    refine tail_step [(15, [], [22, 23, 24, 25, 26, 27, 28], false), (26, [], [15, 22, 23, 24, 25, 27, 28], false)] (by kernel_rfl) (by kernel_rfl) (a_cons (by simp only [WLF]; rfl) (by kernel_rfl) ?_ (a_cons (by simp only [WLF]; rfl) (by kernel_rfl) ?_ trivial))
    · skip
      have k0 := s.ext.keepC g0
      have k1 := s.ext.keepC g1
      have k2 := s.ext.keepC g2
      have k3 := s.ext.keepC g3
      have k4 := s.ext.keepC gl
      have rr1 := r1.mono s.ext
      have X1 := (row_int rr1 hlo).1
      try simp (disch := omega) only [WA, ↓reduceIte, jA, jB, jD, jE, jF, jG, jH, jI, jJ, kd, w1, w2, w3, w4, rr1.isRow.ix, q1, k0, k1, k2, k3, k4, rr1, X1]
      refine .inl ⟨by kernel_rfl, ?_⟩; refine wideOf_c (n := lo * N + part * (hi - lo)) (by omega) fun hh EE => ?_
      have s := s.mono EE
      have k0 := s.ext.keepC g0
      have k1 := s.ext.keepC g1
      have k2 := s.ext.keepC g2
      have k3 := s.ext.keepC g3
      have k4 := s.ext.keepC gl
      have rr1 := r1.mono s.ext
      have X1 := (row_int rr1 hlo).1
      try simp (disch := omega) only [WA, ↓reduceIte, jA, jB, jD, jE, jF, jG, jH, jI, jJ, kd, w1, w2, w3, w4, rr1.isRow.ix, q1, k0, k1, k2, k3, k4, rr1, X1]
      refine tail_step [(22, [23, 24, 25], [26, 27, 28], true), (26, [], [22, 23, 24, 25, 27, 28], false)] (by kernel_rfl) (by kernel_rfl) (a_cut (by simp only [WLF]; rfl) (by kernel_rfl) ?_ (a_cons (by simp only [WLF]; rfl) (by kernel_rfl) ?_ trivial))
      · skip
        have k0 := s.ext.keepC g0
        have k1 := s.ext.keepC g1
        have k2 := s.ext.keepC g2
        have k3 := s.ext.keepC g3
        have k4 := s.ext.keepC gl
        have rr1 := r1.mono s.ext
        have X1 := (row_int rr1 hlo).1
        try simp (disch := omega) only [WA, ↓reduceIte, jA, jB, jD, jE, jF, jG, jH, jI, jJ, kd, w1, w2, w3, w4, rr1.isRow.ix, q1, k0, k1, k2, k3, k4, rr1, X1]
        refine .inl ⟨by kernel_rfl, ?_⟩; refine fit_c (wideM_G (by omega)) (k := k + d) (by omega) fun hh EE => ?_
        have s := s.mono EE
        rw [wideM_val, optV_eq]
        have enm : (makeM (lo * N + part * (hi - lo)) (k + d)).getD ⟨0, 0⟩ = numM (lo * N + part * (hi - lo)) (k + d) := rfl
        rw [enm]
        have k0 := s.ext.keepC g0
        have k1 := s.ext.keepC g1
        have k2 := s.ext.keepC g2
        have k3 := s.ext.keepC g3
        have k4 := s.ext.keepC gl
        have rr1 := r1.mono s.ext
        have X1 := (row_int rr1 hlo).1
        try simp (disch := omega) only [WA, ↓reduceIte, jA, jB, jD, jE, jF, jG, jH, jI, jJ, kd, w1, w2, w3, w4, rr1.isRow.ix, q1, k0, k1, k2, k3, k4, rr1, X1]
        refine tail_step [(26, [], [27, 28], false)] (by kernel_rfl) (by kernel_rfl) (a_cons (by simp only [WLF]; rfl) (by kernel_rfl) ?_ trivial)
        have k0 := s.ext.keepC g0
        have k1 := s.ext.keepC g1
        have k2 := s.ext.keepC g2
        have k3 := s.ext.keepC g3
        have k4 := s.ext.keepC gl
        have rr1 := r1.mono s.ext
        have X1 := (row_int rr1 hlo).1
        try simp (disch := omega) only [WA, ↓reduceIte, jA, jB, jD, jE, jF, jG, jH, jI, jJ, kd, w1, w2, w3, w4, rr1.isRow.ix, q1, k0, k1, k2, k3, k4, rr1, X1]
        have s := s.newBlk [.int .i64 0, .int .i64 0] 97 true
        generalize hE26 : _ ++ [_] = hN at s ⊢
        have k0 := s.ext.keepC g0
        have k1 := s.ext.keepC g1
        have k2 := s.ext.keepC g2
        have k3 := s.ext.keepC g3
        have k4 := s.ext.keepC gl
        have rr1 := r1.mono s.ext
        have X1 := (row_int rr1 hlo).1
        try simp (disch := omega) only [WA, ↓reduceIte, jA, jB, jD, jE, jF, jG, jH, jI, jJ, kd, w1, w2, w3, w4, rr1.isRow.ix, q1, k0, k1, k2, k3, k4, rr1, X1]
        refine tail_step [(27, [28], [], false)] (by kernel_rfl) (by kernel_rfl) (a_cons (by simp only [WLF]; rfl) (by kernel_rfl) ?_ trivial)
        have k0 := s.ext.keepC g0
        have k1 := s.ext.keepC g1
        have k2 := s.ext.keepC g2
        have k3 := s.ext.keepC g3
        have k4 := s.ext.keepC gl
        have rr1 := r1.mono s.ext
        have X1 := (row_int rr1 hlo).1
        try simp (disch := omega) only [WA, ↓reduceIte, jA, jB, jD, jE, jF, jG, jH, jI, jJ, kd, w1, w2, w3, w4, rr1.isRow.ix, q1, k0, k1, k2, k3, k4, rr1, X1]
        refine sep_store (s.pull 0 rfl) (by simp) fun hh s => ?_
        have s := s.as (ds := dyC (numM (lo * N + part * (hi - lo)) (k + d))) (by simp [t_put])
        have k0 := s.ext.keepC g0
        have k1 := s.ext.keepC g1
        have k2 := s.ext.keepC g2
        have k3 := s.ext.keepC g3
        have k4 := s.ext.keepC gl
        have rr1 := r1.mono s.ext
        have X1 := (row_int rr1 hlo).1
        try simp (disch := omega) only [WA, ↓reduceIte, jA, jB, jD, jE, jF, jG, jH, jI, jJ, kd, w1, w2, w3, w4, rr1.isRow.ix, q1, k0, k1, k2, k3, k4, rr1, X1]
        have gz := (s.pull 0 rfl).rdAll (n := 2) rfl
        simp (disch := omega) only [WA, ↓reduceIte, jA, jB, jD, jE, jF, jG, jH, jI, jJ, gz]
        refine sep_store (s.pull 1 rfl) (by simp) fun h7 s => ?_
        have s := s.as (ds := dyC (numM (lo * N + part * (hi - lo)) (k + d))) (by simp [t_put])
        have gz := (s.pull 0 rfl).rdAll (n := 2) rfl
        simp (disch := omega) only [WA, ↓reduceIte, jA, jB, jD, jE, jF, jG, jH, jI, jJ, gz]
        exact hQ _ s.ext
      · skip
        have k0 := s.ext.keepC g0
        have k1 := s.ext.keepC g1
        have k2 := s.ext.keepC g2
        have k3 := s.ext.keepC g3
        have k4 := s.ext.keepC gl
        have rr1 := r1.mono s.ext
        have X1 := (row_int rr1 hlo).1
        try simp (disch := omega) only [WA, ↓reduceIte, jA, jB, jD, jE, jF, jG, jH, jI, jJ, kd, w1, w2, w3, w4, rr1.isRow.ix, q1, k0, k1, k2, k3, k4, rr1, X1]
        have s := s.newBlk [.int .i64 0, .int .i64 0] 97 true
        generalize hE26 : _ ++ [_] = hN at s ⊢
        have k0 := s.ext.keepC g0
        have k1 := s.ext.keepC g1
        have k2 := s.ext.keepC g2
        have k3 := s.ext.keepC g3
        have k4 := s.ext.keepC gl
        have rr1 := r1.mono s.ext
        have X1 := (row_int rr1 hlo).1
        try simp (disch := omega) only [WA, ↓reduceIte, jA, jB, jD, jE, jF, jG, jH, jI, jJ, kd, w1, w2, w3, w4, rr1.isRow.ix, q1, k0, k1, k2, k3, k4, rr1, X1]
        refine tail_step [(22, [23, 24, 25], [27, 28], false)] (by kernel_rfl) (by kernel_rfl) (a_cons (by simp only [WLF]; rfl) (by kernel_rfl) ?_ trivial)
        have k0 := s.ext.keepC g0
        have k1 := s.ext.keepC g1
        have k2 := s.ext.keepC g2
        have k3 := s.ext.keepC g3
        have k4 := s.ext.keepC gl
        have rr1 := r1.mono s.ext
        have X1 := (row_int rr1 hlo).1
        try simp (disch := omega) only [WA, ↓reduceIte, jA, jB, jD, jE, jF, jG, jH, jI, jJ, kd, w1, w2, w3, w4, rr1.isRow.ix, q1, k0, k1, k2, k3, k4, rr1, X1]
        refine .inl ⟨by kernel_rfl, ?_⟩; refine fit_c (wideM_G (by omega)) (k := k + d) (by omega) fun hh EE => ?_
        have s := s.mono EE
        rw [wideM_val, optV_eq]
        have enm : (makeM (lo * N + part * (hi - lo)) (k + d)).getD ⟨0, 0⟩ = numM (lo * N + part * (hi - lo)) (k + d) := rfl
        rw [enm]
        have k0 := s.ext.keepC g0
        have k1 := s.ext.keepC g1
        have k2 := s.ext.keepC g2
        have k3 := s.ext.keepC g3
        have k4 := s.ext.keepC gl
        have rr1 := r1.mono s.ext
        have X1 := (row_int rr1 hlo).1
        try simp (disch := omega) only [WA, ↓reduceIte, jA, jB, jD, jE, jF, jG, jH, jI, jJ, kd, w1, w2, w3, w4, rr1.isRow.ix, q1, k0, k1, k2, k3, k4, rr1, X1]
        refine tail_step [(27, [28], [], false)] (by kernel_rfl) (by kernel_rfl) (a_cons (by simp only [WLF]; rfl) (by kernel_rfl) ?_ trivial)
        have k0 := s.ext.keepC g0
        have k1 := s.ext.keepC g1
        have k2 := s.ext.keepC g2
        have k3 := s.ext.keepC g3
        have k4 := s.ext.keepC gl
        have rr1 := r1.mono s.ext
        have X1 := (row_int rr1 hlo).1
        try simp (disch := omega) only [WA, ↓reduceIte, jA, jB, jD, jE, jF, jG, jH, jI, jJ, kd, w1, w2, w3, w4, rr1.isRow.ix, q1, k0, k1, k2, k3, k4, rr1, X1]
        refine sep_store (s.pull 0 rfl) (by simp) fun hh s => ?_
        have s := s.as (ds := dyC (numM (lo * N + part * (hi - lo)) (k + d))) (by simp [t_put])
        have k0 := s.ext.keepC g0
        have k1 := s.ext.keepC g1
        have k2 := s.ext.keepC g2
        have k3 := s.ext.keepC g3
        have k4 := s.ext.keepC gl
        have rr1 := r1.mono s.ext
        have X1 := (row_int rr1 hlo).1
        try simp (disch := omega) only [WA, ↓reduceIte, jA, jB, jD, jE, jF, jG, jH, jI, jJ, kd, w1, w2, w3, w4, rr1.isRow.ix, q1, k0, k1, k2, k3, k4, rr1, X1]
        have gz := (s.pull 0 rfl).rdAll (n := 2) rfl
        simp (disch := omega) only [WA, ↓reduceIte, jA, jB, jD, jE, jF, jG, jH, jI, jJ, gz]
        refine sep_store (s.pull 1 rfl) (by simp) fun h7 s => ?_
        have s := s.as (ds := dyC (numM (lo * N + part * (hi - lo)) (k + d))) (by simp [t_put])
        have gz := (s.pull 0 rfl).rdAll (n := 2) rfl
        simp (disch := omega) only [WA, ↓reduceIte, jA, jB, jD, jE, jF, jG, jH, jI, jJ, gz]
        exact hQ _ s.ext
    · skip
      have k0 := s.ext.keepC g0
      have k1 := s.ext.keepC g1
      have k2 := s.ext.keepC g2
      have k3 := s.ext.keepC g3
      have k4 := s.ext.keepC gl
      have rr1 := r1.mono s.ext
      have X1 := (row_int rr1 hlo).1
      try simp (disch := omega) only [WA, ↓reduceIte, jA, jB, jD, jE, jF, jG, jH, jI, jJ, kd, w1, w2, w3, w4, rr1.isRow.ix, q1, k0, k1, k2, k3, k4, rr1, X1]
      have s := s.newBlk [.int .i64 0, .int .i64 0] 97 true
      generalize hE26 : _ ++ [_] = hN at s ⊢
      have k0 := s.ext.keepC g0
      have k1 := s.ext.keepC g1
      have k2 := s.ext.keepC g2
      have k3 := s.ext.keepC g3
      have k4 := s.ext.keepC gl
      have rr1 := r1.mono s.ext
      have X1 := (row_int rr1 hlo).1
      try simp (disch := omega) only [WA, ↓reduceIte, jA, jB, jD, jE, jF, jG, jH, jI, jJ, kd, w1, w2, w3, w4, rr1.isRow.ix, q1, k0, k1, k2, k3, k4, rr1, X1]
      refine tail_step [(15, [], [22, 23, 24, 25, 27, 28], false)] (by kernel_rfl) (by kernel_rfl) (a_cons (by simp only [WLF]; rfl) (by kernel_rfl) ?_ trivial)
      have k0 := s.ext.keepC g0
      have k1 := s.ext.keepC g1
      have k2 := s.ext.keepC g2
      have k3 := s.ext.keepC g3
      have k4 := s.ext.keepC gl
      have rr1 := r1.mono s.ext
      have X1 := (row_int rr1 hlo).1
      try simp (disch := omega) only [WA, ↓reduceIte, jA, jB, jD, jE, jF, jG, jH, jI, jJ, kd, w1, w2, w3, w4, rr1.isRow.ix, q1, k0, k1, k2, k3, k4, rr1, X1]
      refine .inl ⟨by kernel_rfl, ?_⟩; refine wideOf_c (n := lo * N + part * (hi - lo)) (by omega) fun hh EE => ?_
      have s := s.mono EE
      have k0 := s.ext.keepC g0
      have k1 := s.ext.keepC g1
      have k2 := s.ext.keepC g2
      have k3 := s.ext.keepC g3
      have k4 := s.ext.keepC gl
      have rr1 := r1.mono s.ext
      have X1 := (row_int rr1 hlo).1
      try simp (disch := omega) only [WA, ↓reduceIte, jA, jB, jD, jE, jF, jG, jH, jI, jJ, kd, w1, w2, w3, w4, rr1.isRow.ix, q1, k0, k1, k2, k3, k4, rr1, X1]
      refine tail_step [(22, [23, 24, 25], [27, 28], false)] (by kernel_rfl) (by kernel_rfl) (a_cons (by simp only [WLF]; rfl) (by kernel_rfl) ?_ trivial)
      have k0 := s.ext.keepC g0
      have k1 := s.ext.keepC g1
      have k2 := s.ext.keepC g2
      have k3 := s.ext.keepC g3
      have k4 := s.ext.keepC gl
      have rr1 := r1.mono s.ext
      have X1 := (row_int rr1 hlo).1
      try simp (disch := omega) only [WA, ↓reduceIte, jA, jB, jD, jE, jF, jG, jH, jI, jJ, kd, w1, w2, w3, w4, rr1.isRow.ix, q1, k0, k1, k2, k3, k4, rr1, X1]
      refine .inl ⟨by kernel_rfl, ?_⟩; refine fit_c (wideM_G (by omega)) (k := k + d) (by omega) fun hh EE => ?_
      have s := s.mono EE
      rw [wideM_val, optV_eq]
      have enm : (makeM (lo * N + part * (hi - lo)) (k + d)).getD ⟨0, 0⟩ = numM (lo * N + part * (hi - lo)) (k + d) := rfl
      rw [enm]
      have k0 := s.ext.keepC g0
      have k1 := s.ext.keepC g1
      have k2 := s.ext.keepC g2
      have k3 := s.ext.keepC g3
      have k4 := s.ext.keepC gl
      have rr1 := r1.mono s.ext
      have X1 := (row_int rr1 hlo).1
      try simp (disch := omega) only [WA, ↓reduceIte, jA, jB, jD, jE, jF, jG, jH, jI, jJ, kd, w1, w2, w3, w4, rr1.isRow.ix, q1, k0, k1, k2, k3, k4, rr1, X1]
      refine tail_step [(27, [28], [], false)] (by kernel_rfl) (by kernel_rfl) (a_cons (by simp only [WLF]; rfl) (by kernel_rfl) ?_ trivial)
      have k0 := s.ext.keepC g0
      have k1 := s.ext.keepC g1
      have k2 := s.ext.keepC g2
      have k3 := s.ext.keepC g3
      have k4 := s.ext.keepC gl
      have rr1 := r1.mono s.ext
      have X1 := (row_int rr1 hlo).1
      try simp (disch := omega) only [WA, ↓reduceIte, jA, jB, jD, jE, jF, jG, jH, jI, jJ, kd, w1, w2, w3, w4, rr1.isRow.ix, q1, k0, k1, k2, k3, k4, rr1, X1]
      refine sep_store (s.pull 0 rfl) (by simp) fun hh s => ?_
      have s := s.as (ds := dyC (numM (lo * N + part * (hi - lo)) (k + d))) (by simp [t_put])
      have k0 := s.ext.keepC g0
      have k1 := s.ext.keepC g1
      have k2 := s.ext.keepC g2
      have k3 := s.ext.keepC g3
      have k4 := s.ext.keepC gl
      have rr1 := r1.mono s.ext
      have X1 := (row_int rr1 hlo).1
      try simp (disch := omega) only [WA, ↓reduceIte, jA, jB, jD, jE, jF, jG, jH, jI, jJ, kd, w1, w2, w3, w4, rr1.isRow.ix, q1, k0, k1, k2, k3, k4, rr1, X1]
      have gz := (s.pull 0 rfl).rdAll (n := 2) rfl
      simp (disch := omega) only [WA, ↓reduceIte, jA, jB, jD, jE, jF, jG, jH, jI, jJ, gz]
      refine sep_store (s.pull 1 rfl) (by simp) fun h7 s => ?_
      have s := s.as (ds := dyC (numM (lo * N + part * (hi - lo)) (k + d))) (by simp [t_put])
      have gz := (s.pull 0 rfl).rdAll (n := 2) rfl
      simp (disch := omega) only [WA, ↓reduceIte, jA, jB, jD, jE, jF, jG, jH, jI, jJ, gz]
      exact hQ _ s.ext
  · skip
    have k0 := s.ext.keepC g0
    have k1 := s.ext.keepC g1
    have k2 := s.ext.keepC g2
    have k3 := s.ext.keepC g3
    have k4 := s.ext.keepC gl
    have rr1 := r1.mono s.ext
    have X1 := (row_int rr1 hlo).1
    try simp (disch := omega) only [WA, ↓reduceIte, jA, jB, jD, jE, jF, jG, jH, jI, jJ, kd, w1, w2, w3, w4, rr1.isRow.ix, q1, k0, k1, k2, k3, k4, rr1, X1]
    have s := s.newBlk [.int .i64 0, .int .i64 0] 97 true
    generalize hE26 : _ ++ [_] = hN at s ⊢
    have k0 := s.ext.keepC g0
    have k1 := s.ext.keepC g1
    have k2 := s.ext.keepC g2
    have k3 := s.ext.keepC g3
    have k4 := s.ext.keepC gl
    have rr1 := r1.mono s.ext
    have X1 := (row_int rr1 hlo).1
    try simp (disch := omega) only [WA, ↓reduceIte, jA, jB, jD, jE, jF, jG, jH, jI, jJ, kd, w1, w2, w3, w4, rr1.isRow.ix, q1, k0, k1, k2, k3, k4, rr1, X1]
    refine tail_step [(12, [13, 14], [15, 22, 23, 24, 25, 27, 28], false)] (by kernel_rfl) (by kernel_rfl) (a_cons (by simp only [WLF]; rfl) (by kernel_rfl) ?_ trivial)
    have k0 := s.ext.keepC g0
    have k1 := s.ext.keepC g1
    have k2 := s.ext.keepC g2
    have k3 := s.ext.keepC g3
    have k4 := s.ext.keepC gl
    have rr1 := r1.mono s.ext
    have X1 := (row_int rr1 hlo).1
    try simp (disch := omega) only [WA, ↓reduceIte, jA, jB, jD, jE, jF, jG, jH, jI, jJ, kd, w1, w2, w3, w4, rr1.isRow.ix, q1, k0, k1, k2, k3, k4, rr1, X1]
    refine .inl ⟨by kernel_rfl, ?_⟩; refine length_c (hp.ext s.ext) hbx hlo hhi ?_
    have k0 := s.ext.keepC g0
    have k1 := s.ext.keepC g1
    have k2 := s.ext.keepC g2
    have k3 := s.ext.keepC g3
    have k4 := s.ext.keepC gl
    have rr1 := r1.mono s.ext
    have X1 := (row_int rr1 hlo).1
    try simp (disch := omega) only [WA, ↓reduceIte, jA, jB, jD, jE, jF, jG, jH, jI, jJ, kd, w1, w2, w3, w4, rr1.isRow.ix, q1, k0, k1, k2, k3, k4, rr1, X1]
    refine tail_step [(15, [], [22, 23, 24, 25, 27, 28], false)] (by kernel_rfl) (by kernel_rfl) (a_cons (by simp only [WLF]; rfl) (by kernel_rfl) ?_ trivial)
    have k0 := s.ext.keepC g0
    have k1 := s.ext.keepC g1
    have k2 := s.ext.keepC g2
    have k3 := s.ext.keepC g3
    have k4 := s.ext.keepC gl
    have rr1 := r1.mono s.ext
    have X1 := (row_int rr1 hlo).1
    try simp (disch := omega) only [WA, ↓reduceIte, jA, jB, jD, jE, jF, jG, jH, jI, jJ, kd, w1, w2, w3, w4, rr1.isRow.ix, q1, k0, k1, k2, k3, k4, rr1, X1]
    refine .inl ⟨by kernel_rfl, ?_⟩; refine wideOf_c (n := lo * N + part * (hi - lo)) (by omega) fun hh EE => ?_
    have s := s.mono EE
    have k0 := s.ext.keepC g0
    have k1 := s.ext.keepC g1
    have k2 := s.ext.keepC g2
    have k3 := s.ext.keepC g3
    have k4 := s.ext.keepC gl
    have rr1 := r1.mono s.ext
    have X1 := (row_int rr1 hlo).1
    try simp (disch := omega) only [WA, ↓reduceIte, jA, jB, jD, jE, jF, jG, jH, jI, jJ, kd, w1, w2, w3, w4, rr1.isRow.ix, q1, k0, k1, k2, k3, k4, rr1, X1]
    refine tail_step [(22, [23, 24, 25], [27, 28], false)] (by kernel_rfl) (by kernel_rfl) (a_cons (by simp only [WLF]; rfl) (by kernel_rfl) ?_ trivial)
    have k0 := s.ext.keepC g0
    have k1 := s.ext.keepC g1
    have k2 := s.ext.keepC g2
    have k3 := s.ext.keepC g3
    have k4 := s.ext.keepC gl
    have rr1 := r1.mono s.ext
    have X1 := (row_int rr1 hlo).1
    try simp (disch := omega) only [WA, ↓reduceIte, jA, jB, jD, jE, jF, jG, jH, jI, jJ, kd, w1, w2, w3, w4, rr1.isRow.ix, q1, k0, k1, k2, k3, k4, rr1, X1]
    refine .inl ⟨by kernel_rfl, ?_⟩; refine fit_c (wideM_G (by omega)) (k := k + d) (by omega) fun hh EE => ?_
    have s := s.mono EE
    rw [wideM_val, optV_eq]
    have enm : (makeM (lo * N + part * (hi - lo)) (k + d)).getD ⟨0, 0⟩ = numM (lo * N + part * (hi - lo)) (k + d) := rfl
    rw [enm]
    have k0 := s.ext.keepC g0
    have k1 := s.ext.keepC g1
    have k2 := s.ext.keepC g2
    have k3 := s.ext.keepC g3
    have k4 := s.ext.keepC gl
    have rr1 := r1.mono s.ext
    have X1 := (row_int rr1 hlo).1
    try simp (disch := omega) only [WA, ↓reduceIte, jA, jB, jD, jE, jF, jG, jH, jI, jJ, kd, w1, w2, w3, w4, rr1.isRow.ix, q1, k0, k1, k2, k3, k4, rr1, X1]
    refine tail_step [(27, [28], [], false)] (by kernel_rfl) (by kernel_rfl) (a_cons (by simp only [WLF]; rfl) (by kernel_rfl) ?_ trivial)
    have k0 := s.ext.keepC g0
    have k1 := s.ext.keepC g1
    have k2 := s.ext.keepC g2
    have k3 := s.ext.keepC g3
    have k4 := s.ext.keepC gl
    have rr1 := r1.mono s.ext
    have X1 := (row_int rr1 hlo).1
    try simp (disch := omega) only [WA, ↓reduceIte, jA, jB, jD, jE, jF, jG, jH, jI, jJ, kd, w1, w2, w3, w4, rr1.isRow.ix, q1, k0, k1, k2, k3, k4, rr1, X1]
    refine sep_store (s.pull 0 rfl) (by simp) fun hh s => ?_
    have s := s.as (ds := dyC (numM (lo * N + part * (hi - lo)) (k + d))) (by simp [t_put])
    have k0 := s.ext.keepC g0
    have k1 := s.ext.keepC g1
    have k2 := s.ext.keepC g2
    have k3 := s.ext.keepC g3
    have k4 := s.ext.keepC gl
    have rr1 := r1.mono s.ext
    have X1 := (row_int rr1 hlo).1
    try simp (disch := omega) only [WA, ↓reduceIte, jA, jB, jD, jE, jF, jG, jH, jI, jJ, kd, w1, w2, w3, w4, rr1.isRow.ix, q1, k0, k1, k2, k3, k4, rr1, X1]
    have gz := (s.pull 0 rfl).rdAll (n := 2) rfl
    simp (disch := omega) only [WA, ↓reduceIte, jA, jB, jD, jE, jF, jG, jH, jI, jJ, gz]
    refine sep_store (s.pull 1 rfl) (by simp) fun h7 s => ?_
    have s := s.as (ds := dyC (numM (lo * N + part * (hi - lo)) (k + d))) (by simp [t_put])
    have gz := (s.pull 0 rfl).rdAll (n := 2) rfl
    simp (disch := omega) only [WA, ↓reduceIte, jA, jB, jD, jE, jF, jG, jH, jI, jJ, gz]
    exact hQ _ s.ext
  -- END number
end Go.Proofs
