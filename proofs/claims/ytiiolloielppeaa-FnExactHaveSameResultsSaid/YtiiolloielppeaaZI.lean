/- Contracts of functions, facts of types, or the plain law behind one statement (own work): ZI. Conditions: those told in each theorem. -/
import Derived.Test.YtiiolloielppeaaZH
set_option linter.all false
set_option linter.unusedSimpArgs false
set_option linter.unusedVariables false
set_option maxRecDepth 4000
namespace Go.Proofs
open Go Go.V
theorem cond_cut {c : Value} {a b : Code} {e : Env} {h : Heap} {K : VX → Env → Heap → Prop} (I : Env → Heap → Prop) (key : ∀ e' h', I e' h' → K .norm e' h')
    (main : ∀ K' : VX → Env → Heap → Prop, (∀ e' h', I e' h' → K' .norm e' h') → condK Try.prog c a b e h K') : condK Try.prog c a b e h K := main K key
/-- The two halves, once the middle parts have changed places. -/
theorem cross {X1 X2 Y1 Y2 Z1 Z2 : List El} (hX : (X1 ++ X2).Pairwise leP) (hY : (Y1 ++ Y2).Pairwise leP) (p1 : Z1.Perm (X1 ++ Y1)) (p2 : Z2.Perm (X2 ++ Y2)) (s1 : Z1.Pairwise leP) (s2 : Z2.Pairwise leP)
    (h1 : X1 = [] ∨ Y2 = [] ∨ ∃ U x y T, X1 = U ++ [x] ∧ Y2 = y :: T ∧ leP x y) (h2 : Y1 = [] ∨ X2 = [] ∨ ∃ U y x T, Y1 = U ++ [y] ∧ X2 = x :: T ∧ leP y x) :
    (Z1 ++ Z2).Perm ((X1 ++ X2) ++ (Y1 ++ Y2)) ∧ (Z1 ++ Z2).Pairwise leP := by
  have key : ∀ {U V : List El}, U.Pairwise leP → V.Pairwise leP → (U = [] ∨ V = [] ∨ ∃ U0 x y T, U = U0 ++ [x] ∧ V = y :: T ∧ leP x y) → ∀ p ∈ U, ∀ q ∈ V, leP p q := by
    rintro U V hU hV (rfl | rfl | ⟨U0, x, y, T, rfl, rfl, hxy⟩) p hp q hq
    · simp at hp
    · simp at hq
    · have a1 : p = x ∨ leP p x := by
        rcases List.mem_append.1 hp with hp | hp
        · exact .inr ((List.pairwise_append.1 hU).2.2 p hp x (by simp))
        · exact .inl (List.mem_singleton.1 hp)
      have a2 : q = y ∨ leP y q := by
        rcases List.mem_cons.1 hq with hq | hq
        · exact .inl hq
        · exact .inr ((List.pairwise_cons.1 hV).1 q hq)
      have a3 : leP p y := by
        rcases a1 with rfl | a1
        · exact hxy
        · exact leP_trans a1 hxy
      rcases a2 with rfl | a2
      · exact a3
      · exact leP_trans a3 a2
  obtain ⟨x1, x2, x3⟩ := List.pairwise_append.1 hX
  obtain ⟨y1, y2, y3⟩ := List.pairwise_append.1 hY
  have k1 := key x1 y2 h1
  have k2 := key y1 x2 h2
  refine ⟨(p1.append p2).trans ?_, List.pairwise_append.2 ⟨s1, s2, fun p hp q hq => ?_⟩⟩
  · simp only [List.append_assoc]
    refine List.Perm.append_left X1 ?_
    rw [← List.append_assoc, ← List.append_assoc]
    exact List.perm_append_comm.append_right Y2
  · rcases List.mem_append.1 (p1.mem_iff.1 hp) with hp | hp <;> rcases List.mem_append.1 (p2.mem_iff.1 hq) with hq | hq
    · exact x3 p hp q hq
    · exact k1 p hp q hq
    · exact k2 p hp q hq
    · exact y3 p hp q hq
theorem merge_gen {s n : Nat} (ih : MergeOk n) {A X Y B : List El} {v : Value} {a h : Heap} {L : List Asr} {Q : Value → Heap → Prop} {ia im ib : Int} (hn : X.length + Y.length ≤ n + 1) (st : St a h (A ++ (X ++ (Y ++ B))) v L) (hgX : ∀ p ∈ X, Gd s p.1) (hgY : ∀ p ∈ Y, Gd s p.1) (hlen : (A ++ (X ++ (Y ++ B))).length ≤ 1000) (hX : 2 ≤ X.length) (hY : 2 ≤ Y.length) (sX : X.Pairwise leP) (sY : Y.Pairwise leP)
    (hia : ia = (A.length : Int)) (him : im = (A.length : Int) + (X.length : Int)) (hib : ib = (A.length : Int) + (X.length : Int) + (Y.length : Int))
    (hQ : ∀ (Z : List El) h', Z.Perm (X ++ Y) → Z.Pairwise leP → St a h' (A ++ (Z ++ B)) v L → Q (.tuple #[]) h') :
    CallsV Try.prog 135 [v, .int .i64 ia, .int .i64 im, .int .i64 ib, .func (.func 108) #[] #[]] h Q := by
  refine CallsV.start Try.func135 rfl (by rw [Try.results135]) (by kernel_rfl) (by rw [Try.ntmps135]; simp) ?_
  simp only [List.length_append] at hlen
  have w1 : IntKind.i64.wrap (im - ia) = (X.length : Int) := by rw [him, hia, wrap_in _ (by omega)]; omega
  have w2 : IntKind.i64.wrap (ib - im) = (Y.length : Int) := by rw [him, hib, wrap_in _ (by omega)]; omega
  have w3 : ¬ (X.length : Int) = 1 := by omega
  have w4 : ¬ (Y.length : Int) = 1 := by omega
  obtain ⟨μ, hμ⟩ : ∃ μ : Nat, μ = (X.length + Y.length) / 2 := ⟨_, rfl⟩
  have hf := half_c (i := A.length) (j := A.length + X.length + Y.length) (by omega)
  rw [show (A.length + (A.length + X.length + Y.length)) / 2 = A.length + μ by omega] at hf
  have e1' : ia = ((A.length : Nat) : Int) := hia
  have e2' : im = ((A.length + X.length : Nat) : Int) := by rw [him]; rfl
  have e3' : ib = ((A.length + X.length + Y.length : Nat) : Int) := by rw [hib]; rfl
  subst e1' e2' e3'
  have hnn : IntKind.i64.wrap (((A.length + μ : Nat) : Int) + ((A.length + X.length : Nat) : Int)) = ((2 * A.length + μ + X.length : Nat) : Int) := by rw [wrap_in _ (by omega)]; omega
  have hpp : IntKind.i64.wrap (((2 * A.length + μ + X.length : Nat) : Int) - 1) = ((2 * A.length + μ + X.length - 1 : Nat) : Int) := by rw [wrap_in _ (by omega)]; omega
  have hst : IntKind.i64.wrap (((2 * A.length + μ + X.length : Nat) : Int) - ((A.length + X.length + Y.length : Nat) : Int)) = ((A.length + (μ - Y.length) : Nat) : Int) ∨ ¬ μ < X.length := by
    by_cases c : μ < X.length
    · left; rw [wrap_in _ (by omega)]; omega
    · exact .inr c
  simp (disch := omega) only [VW, VY, VZ, VA, VB, VC, VE, TY, ↓reduceIte, Nat.reduceEqDiff, Nat.reduceAdd, Nat.reduceMul, Nat.reduceSub, Nat.reduceLeDiff, List.length_cons, List.length_nil, List.length_append, List.append_assoc, List.take_succ_cons, List.take_zero, List.drop_succ_cons, List.drop_zero, List.set_cons_zero, List.set_cons_succ, true_or, or_true, and_self, Bool.false_eq_true, Nat.le_refl, Option.bind_some, Option.map_some, Option.getD_some, Option.isSome_some, List.map_cons, List.map_nil, List.cons_append, List.nil_append, List.append_nil, List.getElem?_cons_zero, List.getElem?_cons_succ, eq_self, Int.reduceLT, Int.reduceLE, Int.reduceNeg, Int.reduceEq, w1, w2, w3, w4, hf, hnn]
  refine cond_cut (fun e' h' => ∃ lo hi : Nat, h' = h ∧ e' 0 = v ∧ e' 1 = .int .i64 ((A.length : Nat) : Int) ∧ e' 2 = .int .i64 ((A.length + X.length : Nat) : Int) ∧ e' 3 = .int .i64 ((A.length + X.length + Y.length : Nat) : Int) ∧ e' 4 = .func (.func 108) #[] #[] ∧ e' 18 = .int .i64 ((A.length + μ : Nat) : Int) ∧ e' 19 = .int .i64 ((2 * A.length + μ + X.length : Nat) : Int) ∧ e' 20 = .int .i64 ((A.length + lo : Nat) : Int) ∧ e' 21 = .int .i64 ((A.length + hi : Nat) : Int) ∧
      lo ≤ hi ∧ hi ≤ X.length ∧ hi ≤ μ ∧ μ ≤ Y.length + lo ∧ (lo = 0 ∨ μ = Y.length + lo) ∧ (hi = X.length ∨ hi = μ)) ?_ ?_
  · rintro e0_ h0_ ⟨lo, hi, rfl, g0, g1, g2, g3, g4, g18, g19, g20, g21, q1, q2, q3, q4, q5, q6⟩
    simp (disch := omega) only [VW, VY, VZ, VA, VB, VC, VE, TY, ↓reduceIte, Nat.reduceEqDiff, Nat.reduceAdd, Nat.reduceMul, Nat.reduceSub, Nat.reduceLeDiff, List.length_cons, List.length_nil, List.length_append, List.append_assoc, List.take_succ_cons, List.take_zero, List.drop_succ_cons, List.drop_zero, List.set_cons_zero, List.set_cons_succ, true_or, or_true, and_self, Bool.false_eq_true, Nat.le_refl, Option.bind_some, Option.map_some, Option.getD_some, Option.isSome_some, List.map_cons, List.map_nil, List.cons_append, List.nil_append, List.append_nil, List.getElem?_cons_zero, List.getElem?_cons_succ, eq_self, Int.reduceLT, Int.reduceLE, Int.reduceNeg, Int.reduceEq, g19, hpp]
    refine loop_rule (fun n e h' => ∃ (p q : Nat), e 0 = v ∧ e 1 = .int .i64 ((A.length : Nat) : Int) ∧ e 2 = .int .i64 ((A.length + X.length : Nat) : Int) ∧ e 3 = .int .i64 ((A.length + X.length + Y.length : Nat) : Int) ∧ e 4 = .func (.func 108) #[] #[] ∧ e 18 = .int .i64 ((A.length + μ : Nat) : Int) ∧ e 19 = .int .i64 ((2 * A.length + μ + X.length : Nat) : Int) ∧ e 22 = .int .i64 ((2 * A.length + μ + X.length - 1 : Nat) : Int) ∧ e 20 = .int .i64 ((A.length + p : Nat) : Int) ∧ e 21 = .int .i64 ((A.length + q : Nat) : Int) ∧
      lo ≤ p ∧ p ≤ q ∧ q ≤ hi ∧ (p = lo ∨ ∃ x y, X[p - 1]? = some x ∧ Y[μ - p]? = some y ∧ leP x y) ∧ (q = hi ∨ ∃ x y, X[q]? = some x ∧ Y[μ - 1 - q]? = some y ∧ leP y x) ∧ n = q - p ∧ St a h' (A ++ (X ++ (Y ++ B))) v L) ?_ (hi - lo) _ _
      ⟨lo, hi, g0, g1, g2, g3, g4, g18, g19, rfl, g20, g21, Nat.le_refl _, q1, Nat.le_refl _, .inl rfl, .inl rfl, rfl, st⟩
    clear g0 g1 g2 g3 g4 g18 g19 g20 g21 w1 w2 w3 w4 hf hnn hpp hst him hib hia st
    rintro k e h1 ⟨p, q, e0, e1, e2, e3, e4, e18, e19, e22, e20, e21, hlp, hpq, hqh, hbp, hbq, rfl, st⟩
    simp (disch := omega) only [VW, VY, VZ, VA, VB, VC, VE, TY, ↓reduceIte, Nat.reduceEqDiff, Nat.reduceAdd, Nat.reduceMul, Nat.reduceSub, Nat.reduceLeDiff, List.length_cons, List.length_nil, List.length_append, List.append_assoc, List.take_succ_cons, List.take_zero, List.drop_succ_cons, List.drop_zero, List.set_cons_zero, List.set_cons_succ, true_or, or_true, and_self, Bool.false_eq_true, Nat.le_refl, Option.bind_some, Option.map_some, Option.getD_some, Option.isSome_some, List.map_cons, List.map_nil, List.cons_append, List.nil_append, List.append_nil, List.getElem?_cons_zero, List.getElem?_cons_succ, eq_self, Int.reduceLT, Int.reduceLE, Int.reduceNeg, Int.reduceEq, e20, e21]
    by_cases c : p < q
    · have c1 : ((A.length + p : Nat) : Int) < ((A.length + q : Nat) : Int) := by omega
      obtain ⟨m, hm⟩ : ∃ m : Nat, m = (p + q) / 2 := ⟨_, rfl⟩
      have hf := half_c (i := A.length + p) (j := A.length + q) (by omega)
      rw [show ((A.length + p) + (A.length + q)) / 2 = A.length + m by omega] at hf
      obtain ⟨x, hx⟩ := get_some (show m < X.length by omega)
      obtain ⟨y, hy⟩ := get_some (show μ - 1 - m < Y.length by omega)
      have gx : (A ++ (X ++ (Y ++ B)))[A.length + m]? = some x := by
        rw [List.getElem?_append_right (by omega), show A.length + m - A.length = m by omega, List.getElem?_append_left (by omega)]; exact hx
      have gy : (A ++ (X ++ (Y ++ B)))[A.length + X.length + (μ - 1 - m)]? = some y := by
        rw [List.getElem?_append_right (by omega), show A.length + X.length + (μ - 1 - m) - A.length = X.length + (μ - 1 - m) by omega, List.getElem?_append_right (by omega), show X.length + (μ - 1 - m) - X.length = μ - 1 - m by omega, List.getElem?_append_left (by omega)]; exact hy
      obtain ⟨N, hN⟩ : ∃ N : Nat, (A ++ (X ++ (Y ++ B))).length = N := ⟨_, rfl⟩
      have hN' : N = A.length + X.length + Y.length + B.length := by rw [← hN]; simp; omega
      have ix := st.len.ix Try.prog
      rw [hN] at ix
      have cx := st.cell gx
      have cy := st.cell gy
      have hgx := hgX x (List.mem_of_getElem? hx)
      have hgy := hgY y (List.mem_of_getElem? hy)
      have hxx := St.here st (List.mem_of_getElem? gx)
      have hyy := St.here st (List.mem_of_getElem? gy)
      obtain ⟨a0, a1, a2, hxc⟩ := Raw3.lit x.2
      obtain ⟨b0, b1, b2, hyc⟩ := Raw3.lit y.2
      rw [hxc] at cx hxx
      rw [hyc] at cy hyy
      have k0 : IntKind.i64.wrap (((2 * A.length + μ + X.length - 1 : Nat) : Int) - ((A.length + m : Nat) : Int)) = ((A.length + X.length + (μ - 1 - m) : Nat) : Int) := by rw [wrap_in _ (by omega)]; omega
      have k1 : ((A.length + m : Nat) : Int) < (N : Int) := by omega
      have k2 : ((A.length + X.length + (μ - 1 - m) : Nat) : Int) < (N : Int) := by omega
      simp (disch := omega) only [VW, VY, VZ, VA, VB, VC, VE, TY, ↓reduceIte, Nat.reduceEqDiff, Nat.reduceAdd, Nat.reduceMul, Nat.reduceSub, Nat.reduceLeDiff, List.length_cons, List.length_nil, List.length_append, List.append_assoc, List.take_succ_cons, List.take_zero, List.drop_succ_cons, List.drop_zero, List.set_cons_zero, List.set_cons_succ, true_or, or_true, and_self, Bool.false_eq_true, Nat.le_refl, Option.bind_some, Option.map_some, Option.getD_some, Option.isSome_some, List.map_cons, List.map_nil, List.cons_append, List.nil_append, List.append_nil, List.getElem?_cons_zero, List.getElem?_cons_succ, eq_self, Int.reduceLT, Int.reduceLE, Int.reduceNeg, Int.reduceEq, e20, e21, c1, hf]
      refine draw_ord [0, 1, 2, 3, 4, 5, 6, 7, 8, 9, 10, 11, 12, 13] (by kernel_rfl) (by simp only [List.filterMap_cons, List.filterMap_nil, List.getElem?_cons_zero, List.getElem?_cons_succ]; rfl) ?_
      simp (disch := omega) only [VW, VY, VZ, VA, VB, VC, VE, TY, ↓reduceIte, Nat.reduceEqDiff, Nat.reduceAdd, Nat.reduceMul, Nat.reduceSub, Nat.reduceLeDiff, List.length_cons, List.length_nil, List.length_append, List.append_assoc, List.take_succ_cons, List.take_zero, List.drop_succ_cons, List.drop_zero, List.set_cons_zero, List.set_cons_succ, true_or, or_true, and_self, Bool.false_eq_true, Nat.le_refl, Option.bind_some, Option.map_some, Option.getD_some, Option.isSome_some, List.map_cons, List.map_nil, List.cons_append, List.nil_append, List.append_nil, List.getElem?_cons_zero, List.getElem?_cons_succ, eq_self, Int.reduceLT, Int.reduceLE, Int.reduceNeg, Int.reduceEq, e0, e4, e22, k0, ix, cx, cy, k1, k2]
      refine .inl ⟨by kernel_rfl, ?_⟩; refine compareBoxes_c hyy hxx hgy hgx fun h3 E3 => ?_
      have st3 : St a h3 (A ++ (X ++ (Y ++ B))) v L := Sep.mono st E3
      have cx3 := st3.cell gx
      have cy3 := st3.cell gy
      rw [hxc] at cx3
      rw [hyc] at cy3
      obtain ⟨hc1, hc2, _⟩ := bcmp_le hgy hgx
      by_cases hlt : bcmp y.1 x.1 < 0
      · simp (disch := omega) only [VW, VY, VZ, VA, VB, VC, VE, TY, ↓reduceIte, Nat.reduceEqDiff, Nat.reduceAdd, Nat.reduceMul, Nat.reduceSub, Nat.reduceLeDiff, List.length_cons, List.length_nil, List.length_append, List.append_assoc, List.take_succ_cons, List.take_zero, List.drop_succ_cons, List.drop_zero, List.set_cons_zero, List.set_cons_succ, true_or, or_true, and_self, Bool.false_eq_true, Nat.le_refl, Option.bind_some, Option.map_some, Option.getD_some, Option.isSome_some, List.map_cons, List.map_nil, List.cons_append, List.nil_append, List.append_nil, List.getElem?_cons_zero, List.getElem?_cons_succ, eq_self, Int.reduceLT, Int.reduceLE, Int.reduceNeg, Int.reduceEq, cx3, cy3, hlt, e0, e1, e2, e3, e4, e18, e19, e22, e20, e21]
        exact ⟨m - p, by omega, p, m, rfl, rfl, by omega, by omega, by omega, hbp, .inr ⟨x, y, hx, hy, hc1.1 (by omega)⟩, rfl, st3⟩
      · have hw : IntKind.i64.wrap (((A.length + m : Nat) : Int) + 1) = ((A.length + (m + 1) : Nat) : Int) := by rw [wrap_in _ (by omega)]; omega
        simp (disch := omega) only [VW, VY, VZ, VA, VB, VC, VE, TY, ↓reduceIte, Nat.reduceEqDiff, Nat.reduceAdd, Nat.reduceMul, Nat.reduceSub, Nat.reduceLeDiff, List.length_cons, List.length_nil, List.length_append, List.append_assoc, List.take_succ_cons, List.take_zero, List.drop_succ_cons, List.drop_zero, List.set_cons_zero, List.set_cons_succ, true_or, or_true, and_self, Bool.false_eq_true, Nat.le_refl, Option.bind_some, Option.map_some, Option.getD_some, Option.isSome_some, List.map_cons, List.map_nil, List.cons_append, List.nil_append, List.append_nil, List.getElem?_cons_zero, List.getElem?_cons_succ, eq_self, Int.reduceLT, Int.reduceLE, Int.reduceNeg, Int.reduceEq, cx3, cy3, hlt, e0, e1, e2, e3, e4, e18, e19, e22, e20, e21, hw]
        exact ⟨q - (m + 1), by omega, m + 1, q, rfl, rfl, by omega, by omega, by omega, .inr ⟨x, y, by simpa using hx, by rw [show μ - (m + 1) = μ - 1 - m by omega]; exact hy, hc2.1 hlt⟩, hbq, rfl, st3⟩
    · obtain rfl : p = q := by omega
      have c1 : ¬ ((A.length + p : Nat) : Int) < ((A.length + p : Nat) : Int) := by omega
      have he : IntKind.i64.wrap (((2 * A.length + μ + X.length : Nat) : Int) - ((A.length + p : Nat) : Int)) = ((A.length + μ + X.length - p : Nat) : Int) := by rw [wrap_in _ (by omega)]; omega
      obtain ⟨X1, X2, hXX, hX1⟩ : ∃ X1 X2 : List El, X = X1 ++ X2 ∧ X1.length = p := ⟨X.take p, X.drop p, (List.take_append_drop _ _).symm, by rw [List.length_take]; omega⟩
      obtain ⟨Y1, Y2, hYY, hY1⟩ : ∃ Y1 Y2 : List El, Y = Y1 ++ Y2 ∧ Y1.length = μ - p := ⟨Y.take (μ - p), Y.drop (μ - p), (List.take_append_drop _ _).symm, by rw [List.length_take]; omega⟩
      have hX2 : X2.length = X.length - p := by rw [hXX, List.length_append]; omega
      have hY2 : Y2.length = Y.length - (μ - p) := by rw [hYY, List.length_append]; omega
      have gX1 : ∀ p ∈ X1, Gd s p.1 := fun p hp => hgX p (by rw [hXX]; simp [hp])
      have gX2 : ∀ p ∈ X2, Gd s p.1 := fun p hp => hgX p (by rw [hXX]; simp [hp])
      have gY1 : ∀ p ∈ Y1, Gd s p.1 := fun p hp => hgY p (by rw [hYY]; simp [hp])
      have gY2 : ∀ p ∈ Y2, Gd s p.1 := fun p hp => hgY p (by rw [hYY]; simp [hp])
      have sX' := sX
      have sY' := sY
      rw [hXX] at sX'
      rw [hYY] at sY'
      obtain ⟨sX1, sX2, _⟩ := List.pairwise_append.1 sX'
      obtain ⟨sY1, sY2, _⟩ := List.pairwise_append.1 sY'
      have b1 : X1 = [] ∨ Y2 = [] ∨ ∃ U x y T, X1 = U ++ [x] ∧ Y2 = y :: T ∧ leP x y := by
        rcases hbp with h0 | ⟨x, y, hx, hy, hxy⟩
        · rcases q5 with h5 | h5
          · exact .inl (List.eq_nil_of_length_eq_zero (by omega))
          · exact .inr (.inl (List.eq_nil_of_length_eq_zero (by omega)))
        · rcases List.eq_nil_or_concat X1 with h0 | ⟨U, x', hS⟩
          · exact .inl h0
          · rw [List.concat_eq_append] at hS
            rw [hXX, hS, ← hX1, hS, List.getElem?_append_left (by simp), List.getElem?_append_right (by simp)] at hx
            simp at hx
            subst hx
            rw [hYY, List.getElem?_append_right (by omega), show μ - p - Y1.length = 0 by omega] at hy
            cases Y2 with
            | nil => simp at hy
            | cons y' T =>
              simp only [List.getElem?_cons_zero, Option.some.injEq] at hy
              subst hy
              exact .inr (.inr ⟨U, x', y', T, hS, rfl, hxy⟩)
      have b2 : Y1 = [] ∨ X2 = [] ∨ ∃ U y x T, Y1 = U ++ [y] ∧ X2 = x :: T ∧ leP y x := by
        rcases hbq with h0 | ⟨x, y, hx, hy, hxy⟩
        · rcases q6 with h6 | h6
          · exact .inr (.inl (List.eq_nil_of_length_eq_zero (by omega)))
          · exact .inl (List.eq_nil_of_length_eq_zero (by omega))
        · rcases List.eq_nil_or_concat Y1 with h0 | ⟨U, y', hS⟩
          · exact .inl h0
          · rw [List.concat_eq_append] at hS
            have hU : U.length = μ - 1 - p := by have := hY1; rw [hS] at this; simp at this; omega
            rw [hYY, hS, ← hU, List.getElem?_append_left (by simp), List.getElem?_append_right (by simp)] at hy
            simp at hy
            subst hy
            rw [hXX, List.getElem?_append_right (by omega), show p - X1.length = 0 by omega] at hx
            cases X2 with
            | nil => simp at hx
            | cons x' T =>
              simp only [List.getElem?_cons_zero, Option.some.injEq] at hx
              subst hx
              exact .inr (.inr ⟨U, y', x', T, hS, rfl, hxy⟩)
      have fin : ∀ {Z1 Z2 : List El} {H : Heap}, Z1.Perm (X1 ++ Y1) → Z1.Pairwise leP → Z2.Perm (X2 ++ Y2) → Z2.Pairwise leP → St a H (A ++ ((Z1 ++ Z2) ++ B)) v L → Q (.tuple #[]) H := fun p1 s1 p2 s2 st => by
        obtain ⟨f1, f2⟩ := cross sX' sY' p1 p2 s1 s2 b1 b2
        rw [← hXX, ← hYY] at f1
        exact hQ _ _ f1 f2 st
      clear hbp hbq b1 b2 sX' sY' hQ sX sY hgX hgY
      -- leaves begin
      by_cases x2 : p < X.length
      · by_cases y1 : p < μ
        · by_cases x1 : 0 < p
          · by_cases y2 : μ - p < Y.length
            · skip
              have d2 : ((A.length + p : Nat) : Int) < ((A.length + X.length : Nat) : Int) := by omega
              have d3 : ((A.length + X.length : Nat) : Int) < ((A.length + μ + X.length - p : Nat) : Int) := by omega
              have d4 : ((A.length : Nat) : Int) < ((A.length + p : Nat) : Int) := by omega
              have d5 : ((A.length + p : Nat) : Int) < ((A.length + μ : Nat) : Int) := by omega
              have d6 : ((A.length + μ : Nat) : Int) < ((A.length + μ + X.length - p : Nat) : Int) := by omega
              have d7 : ((A.length + μ + X.length - p : Nat) : Int) < ((A.length + X.length + Y.length : Nat) : Int) := by omega
              simp (disch := omega) only [VW, VY, VZ, VA, VB, VC, VE, TY, ↓reduceIte, Nat.reduceEqDiff, Nat.reduceAdd, Nat.reduceMul, Nat.reduceSub, Nat.reduceLeDiff, List.length_cons, List.length_nil, List.length_append, List.append_assoc, List.take_succ_cons, List.take_zero, List.drop_succ_cons, List.drop_zero, List.set_cons_zero, List.set_cons_succ, true_or, or_true, and_self, Bool.false_eq_true, Nat.le_refl, Option.bind_some, Option.map_some, Option.getD_some, Option.isSome_some, List.map_cons, List.map_nil, List.cons_append, List.nil_append, List.append_nil, List.getElem?_cons_zero, List.getElem?_cons_succ, eq_self, Int.reduceLT, Int.reduceLE, Int.reduceNeg, Int.reduceEq, e20, e21, c1, e0, e1, e2, e3, e4, e18, e19, e20, he, d2, d3, d4, d5, d6, d7]
              refine .inl ⟨by kernel_rfl, ?_⟩; refine rotate_c (A := A ++ X1) (U := X2) (W := Y1) (B := Y2 ++ B) (st.as (by rw [hXX, hYY]; simp)) (by simp only [List.length_append]; omega) (by omega) (by omega) (by rw [List.length_append]; omega) (by rw [List.length_append]; omega) (by rw [List.length_append]; omega) fun h2 st => ?_
              have st : St a h2 (A ++ (X1 ++ (Y1 ++ (X2 ++ (Y2 ++ B))))) v L := st.as (by simp)
              simp (disch := omega) only [VW, VY, VZ, VA, VB, VC, VE, TY, ↓reduceIte, Nat.reduceEqDiff, Nat.reduceAdd, Nat.reduceMul, Nat.reduceSub, Nat.reduceLeDiff, List.length_cons, List.length_nil, List.length_append, List.append_assoc, List.take_succ_cons, List.take_zero, List.drop_succ_cons, List.drop_zero, List.set_cons_zero, List.set_cons_succ, true_or, or_true, and_self, Bool.false_eq_true, Nat.le_refl, Option.bind_some, Option.map_some, Option.getD_some, Option.isSome_some, List.map_cons, List.map_nil, List.cons_append, List.nil_append, List.append_nil, List.getElem?_cons_zero, List.getElem?_cons_succ, eq_self, Int.reduceLT, Int.reduceLE, Int.reduceNeg, Int.reduceEq, e0, e1, e2, e3, e4, e18, e19, e20, he, d2, d3, d4, d5, d6, d7]
              refine .inl ⟨by kernel_rfl, ?_⟩; refine ih (A := A) (X := X1) (Y := Y1) (B := X2 ++ (Y2 ++ B)) (by omega) st gX1 gY1 (by simp only [List.length_append]; omega) (by omega) (by omega) sX1 sY1 rfl (by omega) (by omega) fun Z1 h3 p1 s1 st => ?_
              simp (disch := omega) only [VW, VY, VZ, VA, VB, VC, VE, TY, ↓reduceIte, Nat.reduceEqDiff, Nat.reduceAdd, Nat.reduceMul, Nat.reduceSub, Nat.reduceLeDiff, List.length_cons, List.length_nil, List.length_append, List.append_assoc, List.take_succ_cons, List.take_zero, List.drop_succ_cons, List.drop_zero, List.set_cons_zero, List.set_cons_succ, true_or, or_true, and_self, Bool.false_eq_true, Nat.le_refl, Option.bind_some, Option.map_some, Option.getD_some, Option.isSome_some, List.map_cons, List.map_nil, List.cons_append, List.nil_append, List.append_nil, List.getElem?_cons_zero, List.getElem?_cons_succ, eq_self, Int.reduceLT, Int.reduceLE, Int.reduceNeg, Int.reduceEq, e0, e1, e2, e3, e4, e18, e19, e20, he, d2, d3, d4, d5, d6, d7]
              have lZ : Z1.length = X1.length + Y1.length := by rw [p1.length_eq, List.length_append]
              refine .inl ⟨by kernel_rfl, ?_⟩; refine ih (A := A ++ Z1) (X := X2) (Y := Y2) (B := B) (by omega) (st.as (by simp)) gX2 gY2 (by simp only [List.length_append]; omega) (by omega) (by omega) sX2 sY2 (by rw [List.length_append]; omega) (by rw [List.length_append]; omega) (by rw [List.length_append]; omega) fun Z2 h4 p2 s2 st => ?_
              simp (disch := omega) only [VW, VY, VZ, VA, VB, VC, VE, TY, ↓reduceIte, Nat.reduceEqDiff, Nat.reduceAdd, Nat.reduceMul, Nat.reduceSub, Nat.reduceLeDiff, List.length_cons, List.length_nil, List.length_append, List.append_assoc, List.take_succ_cons, List.take_zero, List.drop_succ_cons, List.drop_zero, List.set_cons_zero, List.set_cons_succ, true_or, or_true, and_self, Bool.false_eq_true, Nat.le_refl, Option.bind_some, Option.map_some, Option.getD_some, Option.isSome_some, List.map_cons, List.map_nil, List.cons_append, List.nil_append, List.append_nil, List.getElem?_cons_zero, List.getElem?_cons_succ, eq_self, Int.reduceLT, Int.reduceLE, Int.reduceNeg, Int.reduceEq]
              exact fin p1 s1 p2 s2 (st.as (by simp))
            · skip
              have d2 : ((A.length + p : Nat) : Int) < ((A.length + X.length : Nat) : Int) := by omega
              have d3 : ((A.length + X.length : Nat) : Int) < ((A.length + μ + X.length - p : Nat) : Int) := by omega
              have d4 : ((A.length : Nat) : Int) < ((A.length + p : Nat) : Int) := by omega
              have d5 : ((A.length + p : Nat) : Int) < ((A.length + μ : Nat) : Int) := by omega
              have d6 : ((A.length + μ : Nat) : Int) < ((A.length + μ + X.length - p : Nat) : Int) := by omega
              have d7 : ¬ ((A.length + μ + X.length - p : Nat) : Int) < ((A.length + X.length + Y.length : Nat) : Int) := by omega
              simp (disch := omega) only [VW, VY, VZ, VA, VB, VC, VE, TY, ↓reduceIte, Nat.reduceEqDiff, Nat.reduceAdd, Nat.reduceMul, Nat.reduceSub, Nat.reduceLeDiff, List.length_cons, List.length_nil, List.length_append, List.append_assoc, List.take_succ_cons, List.take_zero, List.drop_succ_cons, List.drop_zero, List.set_cons_zero, List.set_cons_succ, true_or, or_true, and_self, Bool.false_eq_true, Nat.le_refl, Option.bind_some, Option.map_some, Option.getD_some, Option.isSome_some, List.map_cons, List.map_nil, List.cons_append, List.nil_append, List.append_nil, List.getElem?_cons_zero, List.getElem?_cons_succ, eq_self, Int.reduceLT, Int.reduceLE, Int.reduceNeg, Int.reduceEq, e20, e21, c1, e0, e1, e2, e3, e4, e18, e19, e20, he, d2, d3, d4, d5, d6, d7]
              refine .inl ⟨by kernel_rfl, ?_⟩; refine rotate_c (A := A ++ X1) (U := X2) (W := Y1) (B := Y2 ++ B) (st.as (by rw [hXX, hYY]; simp)) (by simp only [List.length_append]; omega) (by omega) (by omega) (by rw [List.length_append]; omega) (by rw [List.length_append]; omega) (by rw [List.length_append]; omega) fun h2 st => ?_
              have st : St a h2 (A ++ (X1 ++ (Y1 ++ (X2 ++ (Y2 ++ B))))) v L := st.as (by simp)
              simp (disch := omega) only [VW, VY, VZ, VA, VB, VC, VE, TY, ↓reduceIte, Nat.reduceEqDiff, Nat.reduceAdd, Nat.reduceMul, Nat.reduceSub, Nat.reduceLeDiff, List.length_cons, List.length_nil, List.length_append, List.append_assoc, List.take_succ_cons, List.take_zero, List.drop_succ_cons, List.drop_zero, List.set_cons_zero, List.set_cons_succ, true_or, or_true, and_self, Bool.false_eq_true, Nat.le_refl, Option.bind_some, Option.map_some, Option.getD_some, Option.isSome_some, List.map_cons, List.map_nil, List.cons_append, List.nil_append, List.append_nil, List.getElem?_cons_zero, List.getElem?_cons_succ, eq_self, Int.reduceLT, Int.reduceLE, Int.reduceNeg, Int.reduceEq, e0, e1, e2, e3, e4, e18, e19, e20, he, d2, d3, d4, d5, d6, d7]
              refine .inl ⟨by kernel_rfl, ?_⟩; refine ih (A := A) (X := X1) (Y := Y1) (B := X2 ++ (Y2 ++ B)) (by omega) st gX1 gY1 (by simp only [List.length_append]; omega) (by omega) (by omega) sX1 sY1 rfl (by omega) (by omega) fun Z1 h3 p1 s1 st => ?_
              simp (disch := omega) only [VW, VY, VZ, VA, VB, VC, VE, TY, ↓reduceIte, Nat.reduceEqDiff, Nat.reduceAdd, Nat.reduceMul, Nat.reduceSub, Nat.reduceLeDiff, List.length_cons, List.length_nil, List.length_append, List.append_assoc, List.take_succ_cons, List.take_zero, List.drop_succ_cons, List.drop_zero, List.set_cons_zero, List.set_cons_succ, true_or, or_true, and_self, Bool.false_eq_true, Nat.le_refl, Option.bind_some, Option.map_some, Option.getD_some, Option.isSome_some, List.map_cons, List.map_nil, List.cons_append, List.nil_append, List.append_nil, List.getElem?_cons_zero, List.getElem?_cons_succ, eq_self, Int.reduceLT, Int.reduceLE, Int.reduceNeg, Int.reduceEq, e0, e1, e2, e3, e4, e18, e19, e20, he, d2, d3, d4, d5, d6, d7]
              have lZ : Z1.length = X1.length + Y1.length := by rw [p1.length_eq, List.length_append]
              have hnil2 : Y2 = [] := List.eq_nil_of_length_eq_zero (by omega)
              obtain ⟨Z2, hZ2⟩ : ∃ Z2, Z2 = X2 ++ Y2 := ⟨_, rfl⟩
              have p2 : Z2.Perm (X2 ++ Y2) := by rw [hZ2]
              have s2 : Z2.Pairwise leP := by rw [hZ2, hnil2]; simpa using sX2
              have st := st.as (z' := (A ++ Z1) ++ (Z2 ++ B)) (by rw [hZ2]; simp)
              exact fin p1 s1 p2 s2 (st.as (by simp))
          · by_cases y2 : μ - p < Y.length
            · skip
              have d2 : ((A.length + p : Nat) : Int) < ((A.length + X.length : Nat) : Int) := by omega
              have d3 : ((A.length + X.length : Nat) : Int) < ((A.length + μ + X.length - p : Nat) : Int) := by omega
              have d4 : ¬ ((A.length : Nat) : Int) < ((A.length + p : Nat) : Int) := by omega
              have d6 : ((A.length + μ : Nat) : Int) < ((A.length + μ + X.length - p : Nat) : Int) := by omega
              have d7 : ((A.length + μ + X.length - p : Nat) : Int) < ((A.length + X.length + Y.length : Nat) : Int) := by omega
              simp (disch := omega) only [VW, VY, VZ, VA, VB, VC, VE, TY, ↓reduceIte, Nat.reduceEqDiff, Nat.reduceAdd, Nat.reduceMul, Nat.reduceSub, Nat.reduceLeDiff, List.length_cons, List.length_nil, List.length_append, List.append_assoc, List.take_succ_cons, List.take_zero, List.drop_succ_cons, List.drop_zero, List.set_cons_zero, List.set_cons_succ, true_or, or_true, and_self, Bool.false_eq_true, Nat.le_refl, Option.bind_some, Option.map_some, Option.getD_some, Option.isSome_some, List.map_cons, List.map_nil, List.cons_append, List.nil_append, List.append_nil, List.getElem?_cons_zero, List.getElem?_cons_succ, eq_self, Int.reduceLT, Int.reduceLE, Int.reduceNeg, Int.reduceEq, e20, e21, c1, e0, e1, e2, e3, e4, e18, e19, e20, he, d2, d3, d4, d6, d7]
              refine .inl ⟨by kernel_rfl, ?_⟩; refine rotate_c (A := A ++ X1) (U := X2) (W := Y1) (B := Y2 ++ B) (st.as (by rw [hXX, hYY]; simp)) (by simp only [List.length_append]; omega) (by omega) (by omega) (by rw [List.length_append]; omega) (by rw [List.length_append]; omega) (by rw [List.length_append]; omega) fun h2 st => ?_
              have st : St a h2 (A ++ (X1 ++ (Y1 ++ (X2 ++ (Y2 ++ B))))) v L := st.as (by simp)
              simp (disch := omega) only [VW, VY, VZ, VA, VB, VC, VE, TY, ↓reduceIte, Nat.reduceEqDiff, Nat.reduceAdd, Nat.reduceMul, Nat.reduceSub, Nat.reduceLeDiff, List.length_cons, List.length_nil, List.length_append, List.append_assoc, List.take_succ_cons, List.take_zero, List.drop_succ_cons, List.drop_zero, List.set_cons_zero, List.set_cons_succ, true_or, or_true, and_self, Bool.false_eq_true, Nat.le_refl, Option.bind_some, Option.map_some, Option.getD_some, Option.isSome_some, List.map_cons, List.map_nil, List.cons_append, List.nil_append, List.append_nil, List.getElem?_cons_zero, List.getElem?_cons_succ, eq_self, Int.reduceLT, Int.reduceLE, Int.reduceNeg, Int.reduceEq, e0, e1, e2, e3, e4, e18, e19, e20, he, d2, d3, d4, d6, d7]
              have hnil1 : X1 = [] := List.eq_nil_of_length_eq_zero (by omega)
              obtain ⟨Z1, hZ1⟩ : ∃ Z1, Z1 = X1 ++ Y1 := ⟨_, rfl⟩
              have p1 : Z1.Perm (X1 ++ Y1) := by rw [hZ1]
              have s1 : Z1.Pairwise leP := by rw [hZ1, hnil1]; simpa using sY1
              have st : St a h2 (A ++ (Z1 ++ (X2 ++ (Y2 ++ B)))) v L := st.as (by rw [hZ1]; simp)
              have lZ : Z1.length = X1.length + Y1.length := by rw [p1.length_eq, List.length_append]
              refine .inl ⟨by kernel_rfl, ?_⟩; refine ih (A := A ++ Z1) (X := X2) (Y := Y2) (B := B) (by omega) (st.as (by simp)) gX2 gY2 (by simp only [List.length_append]; omega) (by omega) (by omega) sX2 sY2 (by rw [List.length_append]; omega) (by rw [List.length_append]; omega) (by rw [List.length_append]; omega) fun Z2 h4 p2 s2 st => ?_
              simp (disch := omega) only [VW, VY, VZ, VA, VB, VC, VE, TY, ↓reduceIte, Nat.reduceEqDiff, Nat.reduceAdd, Nat.reduceMul, Nat.reduceSub, Nat.reduceLeDiff, List.length_cons, List.length_nil, List.length_append, List.append_assoc, List.take_succ_cons, List.take_zero, List.drop_succ_cons, List.drop_zero, List.set_cons_zero, List.set_cons_succ, true_or, or_true, and_self, Bool.false_eq_true, Nat.le_refl, Option.bind_some, Option.map_some, Option.getD_some, Option.isSome_some, List.map_cons, List.map_nil, List.cons_append, List.nil_append, List.append_nil, List.getElem?_cons_zero, List.getElem?_cons_succ, eq_self, Int.reduceLT, Int.reduceLE, Int.reduceNeg, Int.reduceEq]
              exact fin p1 s1 p2 s2 (st.as (by simp))
            · skip
              have d2 : ((A.length + p : Nat) : Int) < ((A.length + X.length : Nat) : Int) := by omega
              have d3 : ((A.length + X.length : Nat) : Int) < ((A.length + μ + X.length - p : Nat) : Int) := by omega
              have d4 : ¬ ((A.length : Nat) : Int) < ((A.length + p : Nat) : Int) := by omega
              have d6 : ((A.length + μ : Nat) : Int) < ((A.length + μ + X.length - p : Nat) : Int) := by omega
              have d7 : ¬ ((A.length + μ + X.length - p : Nat) : Int) < ((A.length + X.length + Y.length : Nat) : Int) := by omega
              simp (disch := omega) only [VW, VY, VZ, VA, VB, VC, VE, TY, ↓reduceIte, Nat.reduceEqDiff, Nat.reduceAdd, Nat.reduceMul, Nat.reduceSub, Nat.reduceLeDiff, List.length_cons, List.length_nil, List.length_append, List.append_assoc, List.take_succ_cons, List.take_zero, List.drop_succ_cons, List.drop_zero, List.set_cons_zero, List.set_cons_succ, true_or, or_true, and_self, Bool.false_eq_true, Nat.le_refl, Option.bind_some, Option.map_some, Option.getD_some, Option.isSome_some, List.map_cons, List.map_nil, List.cons_append, List.nil_append, List.append_nil, List.getElem?_cons_zero, List.getElem?_cons_succ, eq_self, Int.reduceLT, Int.reduceLE, Int.reduceNeg, Int.reduceEq, e20, e21, c1, e0, e1, e2, e3, e4, e18, e19, e20, he, d2, d3, d4, d6, d7]
              refine .inl ⟨by kernel_rfl, ?_⟩; refine rotate_c (A := A ++ X1) (U := X2) (W := Y1) (B := Y2 ++ B) (st.as (by rw [hXX, hYY]; simp)) (by simp only [List.length_append]; omega) (by omega) (by omega) (by rw [List.length_append]; omega) (by rw [List.length_append]; omega) (by rw [List.length_append]; omega) fun h2 st => ?_
              have st : St a h2 (A ++ (X1 ++ (Y1 ++ (X2 ++ (Y2 ++ B))))) v L := st.as (by simp)
              simp (disch := omega) only [VW, VY, VZ, VA, VB, VC, VE, TY, ↓reduceIte, Nat.reduceEqDiff, Nat.reduceAdd, Nat.reduceMul, Nat.reduceSub, Nat.reduceLeDiff, List.length_cons, List.length_nil, List.length_append, List.append_assoc, List.take_succ_cons, List.take_zero, List.drop_succ_cons, List.drop_zero, List.set_cons_zero, List.set_cons_succ, true_or, or_true, and_self, Bool.false_eq_true, Nat.le_refl, Option.bind_some, Option.map_some, Option.getD_some, Option.isSome_some, List.map_cons, List.map_nil, List.cons_append, List.nil_append, List.append_nil, List.getElem?_cons_zero, List.getElem?_cons_succ, eq_self, Int.reduceLT, Int.reduceLE, Int.reduceNeg, Int.reduceEq, e0, e1, e2, e3, e4, e18, e19, e20, he, d2, d3, d4, d6, d7]
              have hnil1 : X1 = [] := List.eq_nil_of_length_eq_zero (by omega)
              obtain ⟨Z1, hZ1⟩ : ∃ Z1, Z1 = X1 ++ Y1 := ⟨_, rfl⟩
              have p1 : Z1.Perm (X1 ++ Y1) := by rw [hZ1]
              have s1 : Z1.Pairwise leP := by rw [hZ1, hnil1]; simpa using sY1
              have st : St a h2 (A ++ (Z1 ++ (X2 ++ (Y2 ++ B)))) v L := st.as (by rw [hZ1]; simp)
              have lZ : Z1.length = X1.length + Y1.length := by rw [p1.length_eq, List.length_append]
              have hnil2 : Y2 = [] := List.eq_nil_of_length_eq_zero (by omega)
              obtain ⟨Z2, hZ2⟩ : ∃ Z2, Z2 = X2 ++ Y2 := ⟨_, rfl⟩
              have p2 : Z2.Perm (X2 ++ Y2) := by rw [hZ2]
              have s2 : Z2.Pairwise leP := by rw [hZ2, hnil2]; simpa using sX2
              have st := st.as (z' := (A ++ Z1) ++ (Z2 ++ B)) (by rw [hZ2]; simp)
              exact fin p1 s1 p2 s2 (st.as (by simp))
        · by_cases x1 : 0 < p
          · skip
            have d2 : ((A.length + p : Nat) : Int) < ((A.length + X.length : Nat) : Int) := by omega
            have d3 : ¬ ((A.length + X.length : Nat) : Int) < ((A.length + μ + X.length - p : Nat) : Int) := by omega
            have d4 : ((A.length : Nat) : Int) < ((A.length + p : Nat) : Int) := by omega
            have d5 : ¬ ((A.length + p : Nat) : Int) < ((A.length + μ : Nat) : Int) := by omega
            have d6 : ((A.length + μ : Nat) : Int) < ((A.length + μ + X.length - p : Nat) : Int) := by omega
            have d7 : ((A.length + μ + X.length - p : Nat) : Int) < ((A.length + X.length + Y.length : Nat) : Int) := by omega
            simp (disch := omega) only [VW, VY, VZ, VA, VB, VC, VE, TY, ↓reduceIte, Nat.reduceEqDiff, Nat.reduceAdd, Nat.reduceMul, Nat.reduceSub, Nat.reduceLeDiff, List.length_cons, List.length_nil, List.length_append, List.append_assoc, List.take_succ_cons, List.take_zero, List.drop_succ_cons, List.drop_zero, List.set_cons_zero, List.set_cons_succ, true_or, or_true, and_self, Bool.false_eq_true, Nat.le_refl, Option.bind_some, Option.map_some, Option.getD_some, Option.isSome_some, List.map_cons, List.map_nil, List.cons_append, List.nil_append, List.append_nil, List.getElem?_cons_zero, List.getElem?_cons_succ, eq_self, Int.reduceLT, Int.reduceLE, Int.reduceNeg, Int.reduceEq, e20, e21, c1, e0, e1, e2, e3, e4, e18, e19, e20, he, d2, d3, d4, d5, d6, d7]
            have hnil : Y1 = [] := List.eq_nil_of_length_eq_zero (by omega)
            have st : St a h1 (A ++ (X1 ++ (Y1 ++ (X2 ++ (Y2 ++ B))))) v L := st.as (by rw [hXX, hYY, hnil]; simp)
            have hnil1 : Y1 = [] := List.eq_nil_of_length_eq_zero (by omega)
            obtain ⟨Z1, hZ1⟩ : ∃ Z1, Z1 = X1 ++ Y1 := ⟨_, rfl⟩
            have p1 : Z1.Perm (X1 ++ Y1) := by rw [hZ1]
            have s1 : Z1.Pairwise leP := by rw [hZ1, hnil1]; simpa using sX1
            have st : St a h1 (A ++ (Z1 ++ (X2 ++ (Y2 ++ B)))) v L := st.as (by rw [hZ1]; simp)
            have lZ : Z1.length = X1.length + Y1.length := by rw [p1.length_eq, List.length_append]
            refine .inl ⟨by kernel_rfl, ?_⟩; refine ih (A := A ++ Z1) (X := X2) (Y := Y2) (B := B) (by omega) (st.as (by simp)) gX2 gY2 (by simp only [List.length_append]; omega) (by omega) (by omega) sX2 sY2 (by rw [List.length_append]; omega) (by rw [List.length_append]; omega) (by rw [List.length_append]; omega) fun Z2 h4 p2 s2 st => ?_
            simp (disch := omega) only [VW, VY, VZ, VA, VB, VC, VE, TY, ↓reduceIte, Nat.reduceEqDiff, Nat.reduceAdd, Nat.reduceMul, Nat.reduceSub, Nat.reduceLeDiff, List.length_cons, List.length_nil, List.length_append, List.append_assoc, List.take_succ_cons, List.take_zero, List.drop_succ_cons, List.drop_zero, List.set_cons_zero, List.set_cons_succ, true_or, or_true, and_self, Bool.false_eq_true, Nat.le_refl, Option.bind_some, Option.map_some, Option.getD_some, Option.isSome_some, List.map_cons, List.map_nil, List.cons_append, List.nil_append, List.append_nil, List.getElem?_cons_zero, List.getElem?_cons_succ, eq_self, Int.reduceLT, Int.reduceLE, Int.reduceNeg, Int.reduceEq]
            exact fin p1 s1 p2 s2 (st.as (by simp))
          · skip
            have d2 : ((A.length + p : Nat) : Int) < ((A.length + X.length : Nat) : Int) := by omega
            have d3 : ¬ ((A.length + X.length : Nat) : Int) < ((A.length + μ + X.length - p : Nat) : Int) := by omega
            have d4 : ¬ ((A.length : Nat) : Int) < ((A.length + p : Nat) : Int) := by omega
            have d6 : ((A.length + μ : Nat) : Int) < ((A.length + μ + X.length - p : Nat) : Int) := by omega
            have d7 : ((A.length + μ + X.length - p : Nat) : Int) < ((A.length + X.length + Y.length : Nat) : Int) := by omega
            simp (disch := omega) only [VW, VY, VZ, VA, VB, VC, VE, TY, ↓reduceIte, Nat.reduceEqDiff, Nat.reduceAdd, Nat.reduceMul, Nat.reduceSub, Nat.reduceLeDiff, List.length_cons, List.length_nil, List.length_append, List.append_assoc, List.take_succ_cons, List.take_zero, List.drop_succ_cons, List.drop_zero, List.set_cons_zero, List.set_cons_succ, true_or, or_true, and_self, Bool.false_eq_true, Nat.le_refl, Option.bind_some, Option.map_some, Option.getD_some, Option.isSome_some, List.map_cons, List.map_nil, List.cons_append, List.nil_append, List.append_nil, List.getElem?_cons_zero, List.getElem?_cons_succ, eq_self, Int.reduceLT, Int.reduceLE, Int.reduceNeg, Int.reduceEq, e20, e21, c1, e0, e1, e2, e3, e4, e18, e19, e20, he, d2, d3, d4, d6, d7]
            have hnil : Y1 = [] := List.eq_nil_of_length_eq_zero (by omega)
            have st : St a h1 (A ++ (X1 ++ (Y1 ++ (X2 ++ (Y2 ++ B))))) v L := st.as (by rw [hXX, hYY, hnil]; simp)
            have hnil1 : X1 = [] := List.eq_nil_of_length_eq_zero (by omega)
            obtain ⟨Z1, hZ1⟩ : ∃ Z1, Z1 = X1 ++ Y1 := ⟨_, rfl⟩
            have p1 : Z1.Perm (X1 ++ Y1) := by rw [hZ1]
            have s1 : Z1.Pairwise leP := by rw [hZ1, hnil1]; simpa using sY1
            have st : St a h1 (A ++ (Z1 ++ (X2 ++ (Y2 ++ B)))) v L := st.as (by rw [hZ1]; simp)
            have lZ : Z1.length = X1.length + Y1.length := by rw [p1.length_eq, List.length_append]
            refine .inl ⟨by kernel_rfl, ?_⟩; refine ih (A := A ++ Z1) (X := X2) (Y := Y2) (B := B) (by omega) (st.as (by simp)) gX2 gY2 (by simp only [List.length_append]; omega) (by omega) (by omega) sX2 sY2 (by rw [List.length_append]; omega) (by rw [List.length_append]; omega) (by rw [List.length_append]; omega) fun Z2 h4 p2 s2 st => ?_
            simp (disch := omega) only [VW, VY, VZ, VA, VB, VC, VE, TY, ↓reduceIte, Nat.reduceEqDiff, Nat.reduceAdd, Nat.reduceMul, Nat.reduceSub, Nat.reduceLeDiff, List.length_cons, List.length_nil, List.length_append, List.append_assoc, List.take_succ_cons, List.take_zero, List.drop_succ_cons, List.drop_zero, List.set_cons_zero, List.set_cons_succ, true_or, or_true, and_self, Bool.false_eq_true, Nat.le_refl, Option.bind_some, Option.map_some, Option.getD_some, Option.isSome_some, List.map_cons, List.map_nil, List.cons_append, List.nil_append, List.append_nil, List.getElem?_cons_zero, List.getElem?_cons_succ, eq_self, Int.reduceLT, Int.reduceLE, Int.reduceNeg, Int.reduceEq]
            exact fin p1 s1 p2 s2 (st.as (by simp))
      · by_cases y1 : p < μ
        · skip
          have d2 : ¬ ((A.length + p : Nat) : Int) < ((A.length + X.length : Nat) : Int) := by omega
          have d4 : ((A.length : Nat) : Int) < ((A.length + p : Nat) : Int) := by omega
          have d5 : ((A.length + p : Nat) : Int) < ((A.length + μ : Nat) : Int) := by omega
          have d6 : ¬ ((A.length + μ : Nat) : Int) < ((A.length + μ + X.length - p : Nat) : Int) := by omega
          simp (disch := omega) only [VW, VY, VZ, VA, VB, VC, VE, TY, ↓reduceIte, Nat.reduceEqDiff, Nat.reduceAdd, Nat.reduceMul, Nat.reduceSub, Nat.reduceLeDiff, List.length_cons, List.length_nil, List.length_append, List.append_assoc, List.take_succ_cons, List.take_zero, List.drop_succ_cons, List.drop_zero, List.set_cons_zero, List.set_cons_succ, true_or, or_true, and_self, Bool.false_eq_true, Nat.le_refl, Option.bind_some, Option.map_some, Option.getD_some, Option.isSome_some, List.map_cons, List.map_nil, List.cons_append, List.nil_append, List.append_nil, List.getElem?_cons_zero, List.getElem?_cons_succ, eq_self, Int.reduceLT, Int.reduceLE, Int.reduceNeg, Int.reduceEq, e20, e21, c1, e0, e1, e2, e3, e4, e18, e19, e20, he, d2, d4, d5, d6]
          have hnil : X2 = [] := List.eq_nil_of_length_eq_zero (by omega)
          have st : St a h1 (A ++ (X1 ++ (Y1 ++ (X2 ++ (Y2 ++ B))))) v L := st.as (by rw [hXX, hYY, hnil]; simp)
          refine .inl ⟨by kernel_rfl, ?_⟩; refine ih (A := A) (X := X1) (Y := Y1) (B := X2 ++ (Y2 ++ B)) (by omega) st gX1 gY1 (by simp only [List.length_append]; omega) (by omega) (by omega) sX1 sY1 rfl (by omega) (by omega) fun Z1 h3 p1 s1 st => ?_
          simp (disch := omega) only [VW, VY, VZ, VA, VB, VC, VE, TY, ↓reduceIte, Nat.reduceEqDiff, Nat.reduceAdd, Nat.reduceMul, Nat.reduceSub, Nat.reduceLeDiff, List.length_cons, List.length_nil, List.length_append, List.append_assoc, List.take_succ_cons, List.take_zero, List.drop_succ_cons, List.drop_zero, List.set_cons_zero, List.set_cons_succ, true_or, or_true, and_self, Bool.false_eq_true, Nat.le_refl, Option.bind_some, Option.map_some, Option.getD_some, Option.isSome_some, List.map_cons, List.map_nil, List.cons_append, List.nil_append, List.append_nil, List.getElem?_cons_zero, List.getElem?_cons_succ, eq_self, Int.reduceLT, Int.reduceLE, Int.reduceNeg, Int.reduceEq, e0, e1, e2, e3, e4, e18, e19, e20, he, d2, d4, d5, d6]
          have lZ : Z1.length = X1.length + Y1.length := by rw [p1.length_eq, List.length_append]
          have hnil2 : X2 = [] := List.eq_nil_of_length_eq_zero (by omega)
          obtain ⟨Z2, hZ2⟩ : ∃ Z2, Z2 = X2 ++ Y2 := ⟨_, rfl⟩
          have p2 : Z2.Perm (X2 ++ Y2) := by rw [hZ2]
          have s2 : Z2.Pairwise leP := by rw [hZ2, hnil2]; simpa using sY2
          have st := st.as (z' := (A ++ Z1) ++ (Z2 ++ B)) (by rw [hZ2]; simp)
          exact fin p1 s1 p2 s2 (st.as (by simp))
        · skip
          have d2 : ¬ ((A.length + p : Nat) : Int) < ((A.length + X.length : Nat) : Int) := by omega
          have d4 : ((A.length : Nat) : Int) < ((A.length + p : Nat) : Int) := by omega
          have d5 : ¬ ((A.length + p : Nat) : Int) < ((A.length + μ : Nat) : Int) := by omega
          have d6 : ¬ ((A.length + μ : Nat) : Int) < ((A.length + μ + X.length - p : Nat) : Int) := by omega
          simp (disch := omega) only [VW, VY, VZ, VA, VB, VC, VE, TY, ↓reduceIte, Nat.reduceEqDiff, Nat.reduceAdd, Nat.reduceMul, Nat.reduceSub, Nat.reduceLeDiff, List.length_cons, List.length_nil, List.length_append, List.append_assoc, List.take_succ_cons, List.take_zero, List.drop_succ_cons, List.drop_zero, List.set_cons_zero, List.set_cons_succ, true_or, or_true, and_self, Bool.false_eq_true, Nat.le_refl, Option.bind_some, Option.map_some, Option.getD_some, Option.isSome_some, List.map_cons, List.map_nil, List.cons_append, List.nil_append, List.append_nil, List.getElem?_cons_zero, List.getElem?_cons_succ, eq_self, Int.reduceLT, Int.reduceLE, Int.reduceNeg, Int.reduceEq, e20, e21, c1, e0, e1, e2, e3, e4, e18, e19, e20, he, d2, d4, d5, d6]
          have hnil : X2 = [] := List.eq_nil_of_length_eq_zero (by omega)
          have st : St a h1 (A ++ (X1 ++ (Y1 ++ (X2 ++ (Y2 ++ B))))) v L := st.as (by rw [hXX, hYY, hnil]; simp)
          have hnil1 : Y1 = [] := List.eq_nil_of_length_eq_zero (by omega)
          obtain ⟨Z1, hZ1⟩ : ∃ Z1, Z1 = X1 ++ Y1 := ⟨_, rfl⟩
          have p1 : Z1.Perm (X1 ++ Y1) := by rw [hZ1]
          have s1 : Z1.Pairwise leP := by rw [hZ1, hnil1]; simpa using sX1
          have st : St a h1 (A ++ (Z1 ++ (X2 ++ (Y2 ++ B)))) v L := st.as (by rw [hZ1]; simp)
          have lZ : Z1.length = X1.length + Y1.length := by rw [p1.length_eq, List.length_append]
          have hnil2 : X2 = [] := List.eq_nil_of_length_eq_zero (by omega)
          obtain ⟨Z2, hZ2⟩ : ∃ Z2, Z2 = X2 ++ Y2 := ⟨_, rfl⟩
          have p2 : Z2.Perm (X2 ++ Y2) := by rw [hZ2]
          have s2 : Z2.Pairwise leP := by rw [hZ2, hnil2]; simpa using sY2
          have st := st.as (z' := (A ++ Z1) ++ (Z2 ++ B)) (by rw [hZ2]; simp)
          exact fin p1 s1 p2 s2 (st.as (by simp))
      -- leaves end
  · intro K' hK
    by_cases c : μ < X.length
    · have c1 : ((A.length + μ : Nat) : Int) < ((A.length + X.length : Nat) : Int) := by omega
      rcases hst with hst | hst
      · simp (disch := omega) only [VW, VY, VZ, VA, VB, VC, VE, TY, ↓reduceIte, Nat.reduceEqDiff, Nat.reduceAdd, Nat.reduceMul, Nat.reduceSub, Nat.reduceLeDiff, List.length_cons, List.length_nil, List.length_append, List.append_assoc, List.take_succ_cons, List.take_zero, List.drop_succ_cons, List.drop_zero, List.set_cons_zero, List.set_cons_succ, true_or, or_true, and_self, Bool.false_eq_true, Nat.le_refl, Option.bind_some, Option.map_some, Option.getD_some, Option.isSome_some, List.map_cons, List.map_nil, List.cons_append, List.nil_append, List.append_nil, List.getElem?_cons_zero, List.getElem?_cons_succ, eq_self, Int.reduceLT, Int.reduceLE, Int.reduceNeg, Int.reduceEq, c1, hst]
        exact hK _ _ ⟨μ - Y.length, μ, rfl, rfl, rfl, rfl, rfl, rfl, rfl, rfl, rfl, rfl, by omega, by omega, by omega, by omega, by omega, by omega⟩
      · exact (hst c).elim
    · have c1 : ¬ ((A.length + μ : Nat) : Int) < ((A.length + X.length : Nat) : Int) := by omega
      simp (disch := omega) only [VW, VY, VZ, VA, VB, VC, VE, TY, ↓reduceIte, Nat.reduceEqDiff, Nat.reduceAdd, Nat.reduceMul, Nat.reduceSub, Nat.reduceLeDiff, List.length_cons, List.length_nil, List.length_append, List.append_assoc, List.take_succ_cons, List.take_zero, List.drop_succ_cons, List.drop_zero, List.set_cons_zero, List.set_cons_succ, true_or, or_true, and_self, Bool.false_eq_true, Nat.le_refl, Option.bind_some, Option.map_some, Option.getD_some, Option.isSome_some, List.map_cons, List.map_nil, List.cons_append, List.nil_append, List.append_nil, List.getElem?_cons_zero, List.getElem?_cons_succ, eq_self, Int.reduceLT, Int.reduceLE, Int.reduceNeg, Int.reduceEq, c1]
      exact hK _ _ ⟨0, X.length, rfl, rfl, rfl, rfl, rfl, rfl, rfl, rfl, rfl, rfl, by omega, by omega, by omega, by omega, by omega, by omega⟩
end Go.Proofs
