/- Contracts of functions, facts of types, or the plain law behind one statement (own work): ZG. Conditions: those told in each theorem. -/
import Derived.Test.YtiiolloielppeaaZF
set_option linter.all false
set_option linter.unusedSimpArgs false
set_option linter.unusedVariables false
set_option maxRecDepth 4000
namespace Go.Proofs
open Go Go.V
/-- What merging a row's two sorted parts is to do. -/
def MergeOk (n : Nat) : Prop := ∀ {s : Nat} {A X Y B : List El} {v : Value} {a h : Heap} {L : List Asr} {Q : Value → Heap → Prop} {ia im ib : Int}, X.length + Y.length ≤ n → St a h (A ++ (X ++ (Y ++ B))) v L → (∀ p ∈ X, Gd s p.1) → (∀ p ∈ Y, Gd s p.1) → (A ++ (X ++ (Y ++ B))).length ≤ 1000 → 0 < X.length → 0 < Y.length → X.Pairwise leP → Y.Pairwise leP →
    ia = (A.length : Int) → im = (A.length : Int) + (X.length : Int) → ib = (A.length : Int) + (X.length : Int) + (Y.length : Int) →
    (∀ (Z : List El) h', Z.Perm (X ++ Y) → Z.Pairwise leP → St a h' (A ++ (Z ++ B)) v L → Q (.tuple #[]) h') →
    CallsV Try.prog 135 [v, .int .i64 ia, .int .i64 im, .int .i64 ib, .func (.func 108) #[] #[]] h Q
theorem half_c {i j : Nat} (h : i + j ≤ 100000) : IntKind.i64.wrap ((IntKind.u64.wrap (IntKind.i64.wrap ((i : Int) + (j : Int)))).fdiv (2 ^ min (Int.toNat 1) IntKind.u64.bits)) = (((i + j) / 2 : Nat) : Int) := by
  have hb : IntKind.u64.bits = 64 := rfl
  have h1 : Int.toNat 1 = 1 := rfl
  rw [wrap_in ((i : Int) + (j : Int)) (by omega), wrapu_in _ (by omega), hb, h1]
  have := shr_u (i + j) 1 (by decide)
  rw [show ((i : Int) + (j : Int)) = ((i + j : Nat) : Int) by omega, this, wrap_in _ (by omega)]
theorem merge_one {s : Nat} {A Y B : List El} {x : El} {v : Value} {a h : Heap} {L : List Asr} {Q : Value → Heap → Prop} {ia im ib : Int} (st : St a h (A ++ ([x] ++ (Y ++ B))) v L) (hgx : Gd s x.1) (hg : ∀ p ∈ Y, Gd s p.1) (hlen : (A ++ ([x] ++ (Y ++ B))).length ≤ 1000) (hs : Y.Pairwise leP)
    (hia : ia = (A.length : Int)) (him : im = (A.length : Int) + 1) (hib : ib = (A.length : Int) + 1 + (Y.length : Int))
    (hQ : ∀ (Z : List El) h', Z.Perm ([x] ++ Y) → Z.Pairwise leP → St a h' (A ++ (Z ++ B)) v L → Q (.tuple #[]) h') :
    CallsV Try.prog 135 [v, .int .i64 ia, .int .i64 im, .int .i64 ib, .func (.func 108) #[] #[]] h Q := by
  refine CallsV.start Try.func135 rfl (by rw [Try.results135]) (by kernel_rfl) (by rw [Try.ntmps135]; simp) ?_
  simp only [List.length_append, List.length_cons, List.length_nil] at hlen
  have w1 : IntKind.i64.wrap (im - ia) = 1 := by rw [him, hia, wrap_in _ (by omega)]; omega
  simp (disch := omega) only [VW, VY, VZ, VA, VB, VC, VE, TY, ↓reduceIte, Nat.reduceEqDiff, Nat.reduceAdd, Nat.reduceMul, Nat.reduceSub, Nat.reduceLeDiff, List.length_cons, List.length_nil, List.length_append, List.append_assoc, List.take_succ_cons, List.take_zero, List.drop_succ_cons, List.drop_zero, List.set_cons_zero, List.set_cons_succ, true_or, or_true, and_self, Bool.false_eq_true, Nat.le_refl, Option.bind_some, Option.map_some, Option.getD_some, Option.isSome_some, List.map_cons, List.map_nil, List.cons_append, List.nil_append, List.append_nil, List.getElem?_cons_zero, List.getElem?_cons_succ, eq_self, Int.reduceLT, Int.reduceLE, Int.reduceNeg, Int.reduceEq, w1]
  refine loop_rule (fun n e h' => ∃ (p q : Nat), e 0 = v ∧ e 1 = .int .i64 ia ∧ e 4 = .func (.func 108) #[] #[] ∧ e 10 = .int .i64 ((A.length + 1 + p : Nat) : Int) ∧ e 11 = .int .i64 ((A.length + 1 + q : Nat) : Int) ∧ p ≤ q ∧ q ≤ Y.length ∧ (p = 0 ∨ ∃ y, Y[p - 1]? = some y ∧ leP y x) ∧ (q = Y.length ∨ ∃ y, Y[q]? = some y ∧ leP x y) ∧ n = q - p ∧ St a h' (A ++ ([x] ++ (Y ++ B))) v L) ?_ Y.length _ _
    ⟨0, Y.length, rfl, rfl, rfl, by rw [him]; rfl, by rw [hib]; rfl, Nat.zero_le _, Nat.le_refl _, .inl rfl, .inl rfl, rfl, st⟩
  rintro n e h1 ⟨p, q, e0, e1, e4, e10, e11, hpq, hq, hbp, hbq, rfl, st⟩
  simp (disch := omega) only [VW, VY, VZ, VA, VB, VC, VE, TY, ↓reduceIte, Nat.reduceEqDiff, Nat.reduceAdd, Nat.reduceMul, Nat.reduceSub, Nat.reduceLeDiff, List.length_cons, List.length_nil, List.length_append, List.append_assoc, List.take_succ_cons, List.take_zero, List.drop_succ_cons, List.drop_zero, List.set_cons_zero, List.set_cons_succ, true_or, or_true, and_self, Bool.false_eq_true, Nat.le_refl, Option.bind_some, Option.map_some, Option.getD_some, Option.isSome_some, List.map_cons, List.map_nil, List.cons_append, List.nil_append, List.append_nil, List.getElem?_cons_zero, List.getElem?_cons_succ, eq_self, Int.reduceLT, Int.reduceLE, Int.reduceNeg, Int.reduceEq, e10, e11]
  by_cases c : p < q
  · have c1 : ((A.length + 1 + p : Nat) : Int) < ((A.length + 1 + q : Nat) : Int) := by omega
    simp (disch := omega) only [VW, VY, VZ, VA, VB, VC, VE, TY, ↓reduceIte, Nat.reduceEqDiff, Nat.reduceAdd, Nat.reduceMul, Nat.reduceSub, Nat.reduceLeDiff, List.length_cons, List.length_nil, List.length_append, List.append_assoc, List.take_succ_cons, List.take_zero, List.drop_succ_cons, List.drop_zero, List.set_cons_zero, List.set_cons_succ, true_or, or_true, and_self, Bool.false_eq_true, Nat.le_refl, Option.bind_some, Option.map_some, Option.getD_some, Option.isSome_some, List.map_cons, List.map_nil, List.cons_append, List.nil_append, List.append_nil, List.getElem?_cons_zero, List.getElem?_cons_succ, eq_self, Int.reduceLT, Int.reduceLE, Int.reduceNeg, Int.reduceEq, e10, e11, c1]
    obtain ⟨m, hm⟩ : ∃ m : Nat, m = (p + q) / 2 := ⟨_, rfl⟩
    have hmm : ((A.length + 1 + p) + (A.length + 1 + q)) / 2 = A.length + 1 + m := by omega
    have hf := half_c (i := A.length + 1 + p) (j := A.length + 1 + q) (by omega)
    rw [hmm] at hf
    obtain ⟨y, hy⟩ := get_some (show m < Y.length by omega)
    have gy : (A ++ ([x] ++ (Y ++ B)))[A.length + 1 + m]? = some y := by
      rw [List.getElem?_append_right (by omega), show A.length + 1 + m - A.length = m + 1 by omega]
      show (Y ++ B)[m]? = some y
      rw [List.getElem?_append_left (by omega)]; exact hy
    have gx : (A ++ ([x] ++ (Y ++ B)))[A.length]? = some x := by
      rw [List.getElem?_append_right (Nat.le_refl _), Nat.sub_self]; rfl
    obtain ⟨N, hN⟩ : ∃ N : Nat, (A ++ ([x] ++ (Y ++ B))).length = N := ⟨_, rfl⟩
    have hN' : N = A.length + 1 + Y.length + B.length := by rw [← hN]; simp; omega
    have ix := st.len.ix Try.prog
    rw [hN] at ix
    have cx := st.cell gx
    have cy := st.cell gy
    have hgy := hg y (List.mem_of_getElem? hy)
    have hxx := St.here st (p := x) (by simp)
    have hyy := St.here st (List.mem_of_getElem? gy)
    obtain ⟨a0, a1, a2, hxc⟩ := Raw3.lit x.2
    obtain ⟨b0, b1, b2, hyc⟩ := Raw3.lit y.2
    rw [hxc] at cx hxx
    rw [hyc] at cy hyy
    have k1 : ((A.length + 1 + m : Nat) : Int) < (N : Int) := by omega
    have k2 : (A.length : Int) < (N : Int) := by omega
    have e1 : e 1 = .int .i64 (A.length : Int) := by rw [e1, hia]
    simp (disch := omega) only [VW, VY, VZ, VA, VB, VC, VE, TY, ↓reduceIte, Nat.reduceEqDiff, Nat.reduceAdd, Nat.reduceMul, Nat.reduceSub, Nat.reduceLeDiff, List.length_cons, List.length_nil, List.length_append, List.append_assoc, List.take_succ_cons, List.take_zero, List.drop_succ_cons, List.drop_zero, List.set_cons_zero, List.set_cons_succ, true_or, or_true, and_self, Bool.false_eq_true, Nat.le_refl, Option.bind_some, Option.map_some, Option.getD_some, Option.isSome_some, List.map_cons, List.map_nil, List.cons_append, List.nil_append, List.append_nil, List.getElem?_cons_zero, List.getElem?_cons_succ, eq_self, Int.reduceLT, Int.reduceLE, Int.reduceNeg, Int.reduceEq, e10, e11, c1, hf]
    refine draw_ord [0, 1, 2, 3, 4, 5, 6, 7, 8, 9, 10] (by kernel_rfl) (by simp only [List.filterMap_cons, List.filterMap_nil, List.getElem?_cons_zero, List.getElem?_cons_succ]; rfl) ?_
    simp (disch := omega) only [VW, VY, VZ, VA, VB, VC, VE, TY, ↓reduceIte, Nat.reduceEqDiff, Nat.reduceAdd, Nat.reduceMul, Nat.reduceSub, Nat.reduceLeDiff, List.length_cons, List.length_nil, List.length_append, List.append_assoc, List.take_succ_cons, List.take_zero, List.drop_succ_cons, List.drop_zero, List.set_cons_zero, List.set_cons_succ, true_or, or_true, and_self, Bool.false_eq_true, Nat.le_refl, Option.bind_some, Option.map_some, Option.getD_some, Option.isSome_some, List.map_cons, List.map_nil, List.cons_append, List.nil_append, List.append_nil, List.getElem?_cons_zero, List.getElem?_cons_succ, eq_self, Int.reduceLT, Int.reduceLE, Int.reduceNeg, Int.reduceEq, e0, e1, e4, ix, cx, cy, k1, k2]
    refine .inl ⟨by kernel_rfl, ?_⟩; refine compareBoxes_c hyy hxx hgy hgx fun h3 E3 => ?_
    have st3 : St a h3 (A ++ ([x] ++ (Y ++ B))) v L := Sep.mono st E3
    have cx3 := st3.cell gx
    have cy3 := st3.cell gy
    rw [hxc] at cx3
    rw [hyc] at cy3
    obtain ⟨hc1, hc2, _⟩ := bcmp_le hgy hgx
    by_cases hlt : bcmp y.1 x.1 < 0
    · have hw : IntKind.i64.wrap (((A.length + 1 + m : Nat) : Int) + 1) = ((A.length + 1 + (m + 1) : Nat) : Int) := by rw [wrap_in _ (by omega)]; omega
      simp (disch := omega) only [VW, VY, VZ, VA, VB, VC, VE, TY, ↓reduceIte, Nat.reduceEqDiff, Nat.reduceAdd, Nat.reduceMul, Nat.reduceSub, Nat.reduceLeDiff, List.length_cons, List.length_nil, List.length_append, List.append_assoc, List.take_succ_cons, List.take_zero, List.drop_succ_cons, List.drop_zero, List.set_cons_zero, List.set_cons_succ, true_or, or_true, and_self, Bool.false_eq_true, Nat.le_refl, Option.bind_some, Option.map_some, Option.getD_some, Option.isSome_some, List.map_cons, List.map_nil, List.cons_append, List.nil_append, List.append_nil, List.getElem?_cons_zero, List.getElem?_cons_succ, eq_self, Int.reduceLT, Int.reduceLE, Int.reduceNeg, Int.reduceEq, cx3, cy3, hlt, e0, e1, e4, e10, e11, hw]
      exact ⟨q - (m + 1), by omega, m + 1, q, hia ▸ rfl, rfl, rfl, by omega, hq, .inr ⟨y, by simpa using hy, hc1.1 (by omega)⟩, hbq, rfl, st3⟩
    · simp (disch := omega) only [VW, VY, VZ, VA, VB, VC, VE, TY, ↓reduceIte, Nat.reduceEqDiff, Nat.reduceAdd, Nat.reduceMul, Nat.reduceSub, Nat.reduceLeDiff, List.length_cons, List.length_nil, List.length_append, List.append_assoc, List.take_succ_cons, List.take_zero, List.drop_succ_cons, List.drop_zero, List.set_cons_zero, List.set_cons_succ, true_or, or_true, and_self, Bool.false_eq_true, Nat.le_refl, Option.bind_some, Option.map_some, Option.getD_some, Option.isSome_some, List.map_cons, List.map_nil, List.cons_append, List.nil_append, List.append_nil, List.getElem?_cons_zero, List.getElem?_cons_succ, eq_self, Int.reduceLT, Int.reduceLE, Int.reduceNeg, Int.reduceEq, cx3, cy3, hlt, e0, e1, e4, e10, e11]
      exact ⟨m - p, by omega, p, m, hia ▸ rfl, rfl, rfl, by omega, by omega, hbp, .inr ⟨y, hy, hc2.1 hlt⟩, rfl, st3⟩
  · obtain rfl : p = q := by omega
    have c1 : ¬ ((A.length + 1 + p : Nat) : Int) < ((A.length + 1 + p : Nat) : Int) := by omega
    obtain ⟨Y1, Y2, rfl, hY1⟩ : ∃ Y1 Y2 : List El, Y = Y1 ++ Y2 ∧ Y1.length = p := ⟨Y.take p, Y.drop p, (List.take_append_drop _ _).symm, by rw [List.length_take]; omega⟩
    simp only [List.length_append] at hlen
    have hle1 : Y1 = [] ∨ ∃ S0 y, Y1 = S0 ++ [y] ∧ leP y x := by
      rcases List.eq_nil_or_concat Y1 with h0 | ⟨S0, y, hS⟩
      · exact .inl h0
      · rw [List.concat_eq_append] at hS
        subst hS
        refine .inr ⟨S0, y, rfl, ?_⟩
        rcases hbp with h0 | ⟨y', hy', hle⟩
        · simp at hY1; omega
        · rw [← hY1, List.getElem?_append_left (by simp), List.getElem?_append_right (by simp)] at hy'
          simp at hy'
          rw [hy']; exact hle
    have hle2 : ∀ y ∈ Y2, leP x y := by
      rcases hbq with h0 | ⟨y', hy', hle⟩
      · have : Y2 = [] := List.eq_nil_of_length_eq_zero (by simp at h0; omega)
        subst this; simp
      · rw [List.getElem?_append_right (by omega), show p - Y1.length = 0 by omega] at hy'
        obtain ⟨y0, Y3, rfl⟩ : ∃ y0 Y3, Y2 = y0 :: Y3 := by
          cases Y2 with
          | nil => simp at hy'
          | cons y0 Y3 => exact ⟨_, _, rfl⟩
        simp only [List.getElem?_cons_zero, Option.some.injEq] at hy'
        subst hy'
        intro z hz
        rcases List.mem_cons.1 hz with rfl | hz
        · exact hle
        · exact leP_trans hle ((List.pairwise_cons.1 (List.pairwise_append.1 hs).2.1).1 z hz)
    have hsort : (Y1 ++ x :: Y2).Pairwise leP := insert_sorted hs hle2 hle1
    have hperm : (Y1 ++ x :: Y2).Perm ([x] ++ (Y1 ++ Y2)) := List.perm_middle
    simp (disch := omega) only [VW, VY, VZ, VA, VB, VC, VE, TY, ↓reduceIte, Nat.reduceEqDiff, Nat.reduceAdd, Nat.reduceMul, Nat.reduceSub, Nat.reduceLeDiff, List.length_cons, List.length_nil, List.length_append, List.append_assoc, List.take_succ_cons, List.take_zero, List.drop_succ_cons, List.drop_zero, List.set_cons_zero, List.set_cons_succ, true_or, or_true, and_self, Bool.false_eq_true, Nat.le_refl, Option.bind_some, Option.map_some, Option.getD_some, Option.isSome_some, List.map_cons, List.map_nil, List.cons_append, List.nil_append, List.append_nil, List.getElem?_cons_zero, List.getElem?_cons_succ, eq_self, Int.reduceLT, Int.reduceLE, Int.reduceNeg, Int.reduceEq, e10, e11, c1, e1]
    refine loop_rule (fun n e h' => ∃ (V1 V2 : List El), e 0 = v ∧ e 10 = .int .i64 ((A.length + 1 + p : Nat) : Int) ∧ e 13 = .int .i64 ((A.length + V1.length : Nat) : Int) ∧ V1 ++ V2 = Y1 ∧ n = V2.length ∧ St a h' (A ++ (V1 ++ x :: (V2 ++ (Y2 ++ B)))) v L) ?_ Y1.length _ _
      ⟨[], Y1, e0, e10, by rw [hia]; rfl, rfl, rfl, st.as (by simp)⟩
    rintro n e h2 ⟨V1, V2, e0, e10, e13, rfl, rfl, st⟩
    simp only [List.length_append] at hY1 hlen
    have k0 : IntKind.i64.wrap (((A.length + 1 + p : Nat) : Int) - 1) = ((A.length + p : Nat) : Int) := by rw [wrap_in _ (by omega)]; omega
    cases V2 with
    | nil =>
      have c2 : ¬ ((A.length + V1.length : Nat) : Int) < ((A.length + p : Nat) : Int) := by simp at hY1; omega
      simp (disch := omega) only [VW, VY, VZ, VA, VB, VC, VE, TY, ↓reduceIte, Nat.reduceEqDiff, Nat.reduceAdd, Nat.reduceMul, Nat.reduceSub, Nat.reduceLeDiff, List.length_cons, List.length_nil, List.length_append, List.append_assoc, List.take_succ_cons, List.take_zero, List.drop_succ_cons, List.drop_zero, List.set_cons_zero, List.set_cons_succ, true_or, or_true, and_self, Bool.false_eq_true, Nat.le_refl, Option.bind_some, Option.map_some, Option.getD_some, Option.isSome_some, List.map_cons, List.map_nil, List.cons_append, List.nil_append, List.append_nil, List.getElem?_cons_zero, List.getElem?_cons_succ, eq_self, Int.reduceLT, Int.reduceLE, Int.reduceNeg, Int.reduceEq, e10, e13, k0, c2]
      rw [List.append_nil] at hsort hperm
      exact hQ _ _ (by simpa using hperm) hsort (st.as (by simp))
    | cons w V3 =>
    simp only [List.length_cons] at hY1 hlen
    have c2 : ((A.length + V1.length : Nat) : Int) < ((A.length + p : Nat) : Int) := by omega
    have st : St a h2 ((A ++ V1) ++ x :: ([] ++ w :: (V3 ++ (Y2 ++ B)))) v L := st.as (by simp)
    obtain ⟨i, hi⟩ : ∃ i : Nat, (A ++ V1).length = i := ⟨_, rfl⟩
    have hi' : A.length + V1.length = i := by rw [← hi]; simp
    have hj : (A ++ V1).length + 1 + ([] : List El).length = i + 1 := by rw [hi]; rfl
    obtain ⟨gu, gw⟩ := sw_get (A ++ V1) [] (V3 ++ (Y2 ++ B)) x w hi hj
    obtain ⟨N, hN⟩ : ∃ N : Nat, ((A ++ V1) ++ x :: ([] ++ w :: (V3 ++ (Y2 ++ B)))).length = N := ⟨_, rfl⟩
    have hN' : N = i + 2 + V3.length + Y2.length + B.length := by rw [← hN, ← hi']; simp; omega
    rw [hi'] at e13 c2
    have ix := st.len.ix Try.prog
    rw [hN] at ix
    have cu := st.cell gu
    have cw := st.cell gw
    obtain ⟨a0, a1, a2, huc⟩ := Raw3.lit x.2
    obtain ⟨b0, b1, b2, hwc⟩ := Raw3.lit w.2
    rw [huc] at cu
    rw [hwc] at cw
    have k1 : IntKind.i64.wrap ((i : Int) + 1) = ((i + 1 : Nat) : Int) := by rw [wrap_in _ (by omega)]; omega
    have k2 : (i : Int) < (N : Int) := by omega
    have k3 : ((i + 1 : Nat) : Int) < (N : Int) := by omega
    have k4 : (((i + 1 : Nat)) : Int).toNat = i + 1 := rfl
    have k5 : (0 : Int) ≤ ((i + 1 : Nat) : Int) := by omega
    simp (disch := omega) only [VW, VY, VZ, VA, VB, VC, VE, TY, ↓reduceIte, Nat.reduceEqDiff, Nat.reduceAdd, Nat.reduceMul, Nat.reduceSub, Nat.reduceLeDiff, List.length_cons, List.length_nil, List.length_append, List.append_assoc, List.take_succ_cons, List.take_zero, List.drop_succ_cons, List.drop_zero, List.set_cons_zero, List.set_cons_succ, true_or, or_true, and_self, Bool.false_eq_true, Nat.le_refl, Option.bind_some, Option.map_some, Option.getD_some, Option.isSome_some, List.map_cons, List.map_nil, List.cons_append, List.nil_append, List.append_nil, List.getElem?_cons_zero, List.getElem?_cons_succ, eq_self, Int.reduceLT, Int.reduceLE, Int.reduceNeg, Int.reduceEq, e10, e13, k0, c2]
    refine draw_tail [0, 1, 2, 3, 4, 5, 6, 7, 8, 9, 10, 11, 12, 13, 14] [15, 16, 17] (by kernel_rfl) (by simp only [List.filterMap_cons, List.filterMap_nil, List.getElem?_cons_zero, List.getElem?_cons_succ]; rfl) ?_
    simp (disch := omega) only [VW, VY, VZ, VA, VB, VC, VE, TY, ↓reduceIte, Nat.reduceEqDiff, Nat.reduceAdd, Nat.reduceMul, Nat.reduceSub, Nat.reduceLeDiff, List.length_cons, List.length_nil, List.length_append, List.append_assoc, List.take_succ_cons, List.take_zero, List.drop_succ_cons, List.drop_zero, List.set_cons_zero, List.set_cons_succ, true_or, or_true, and_self, Bool.false_eq_true, Nat.le_refl, Option.bind_some, Option.map_some, Option.getD_some, Option.isSome_some, List.map_cons, List.map_nil, List.cons_append, List.nil_append, List.append_nil, List.getElem?_cons_zero, List.getElem?_cons_succ, eq_self, Int.reduceLT, Int.reduceLE, Int.reduceNeg, Int.reduceEq, e0, e13, ix, cu, cw, k1, k2, k3, k4, k5]
    refine tail_one (i := 15) (pl := [16]) (r := [17]) [] (by kernel_rfl) (by kernel_rfl) (by kernel_rfl) (by simp only [List.filterMap_cons, List.filterMap_nil, List.getElem?_cons_zero, List.getElem?_cons_succ]; rfl) (by rfl) (by simp only [heldCut, List.filter_cons, List.filter_nil, List.contains_cons, List.contains_nil, Nat.reduceBEq, Bool.or_false, Bool.or_true, reduceIte, Bool.false_eq_true]; rfl) ?_
    simp (disch := omega) only [VW, VY, VZ, VA, VB, VC, VE, TY, ↓reduceIte, Nat.reduceEqDiff, Nat.reduceAdd, Nat.reduceMul, Nat.reduceSub, Nat.reduceLeDiff, List.length_cons, List.length_nil, List.length_append, List.append_assoc, List.take_succ_cons, List.take_zero, List.drop_succ_cons, List.drop_zero, List.set_cons_zero, List.set_cons_succ, true_or, or_true, and_self, Bool.false_eq_true, Nat.le_refl, Option.bind_some, Option.map_some, Option.getD_some, Option.isSome_some, List.map_cons, List.map_nil, List.cons_append, List.nil_append, List.append_nil, List.getElem?_cons_zero, List.getElem?_cons_succ, eq_self, Int.reduceLT, Int.reduceLE, Int.reduceNeg, Int.reduceEq, e0, e13, ix, k1, k2, k3, k4, k5]
    rw [← hwc]
    refine St.swap1 st hi hj fun h4 s4 => ?_
    simp (disch := omega) only [VW, VY, VZ, VA, VB, VC, VE, TY, ↓reduceIte, Nat.reduceEqDiff, Nat.reduceAdd, Nat.reduceMul, Nat.reduceSub, Nat.reduceLeDiff, List.length_cons, List.length_nil, List.length_append, List.append_assoc, List.take_succ_cons, List.take_zero, List.drop_succ_cons, List.drop_zero, List.set_cons_zero, List.set_cons_succ, true_or, or_true, and_self, Bool.false_eq_true, Nat.le_refl, Option.bind_some, Option.map_some, Option.getD_some, Option.isSome_some, List.map_cons, List.map_nil, List.cons_append, List.nil_append, List.append_nil, List.getElem?_cons_zero, List.getElem?_cons_succ, eq_self, Int.reduceLT, Int.reduceLE, Int.reduceNeg, Int.reduceEq, e0, e13, ix, k1, k2, k3, k4, k5]
    refine tail_step [(17, [], [], true)] (by kernel_rfl) (by kernel_rfl) (a_cut (by simp only [List.filterMap_cons, List.filterMap_nil, List.getElem?_cons_zero, List.getElem?_cons_succ]; rfl) (by kernel_rfl) ?_ trivial)
    simp (disch := omega) only [VW, VY, VZ, VA, VB, VC, VE, TY, ↓reduceIte, Nat.reduceEqDiff, Nat.reduceAdd, Nat.reduceMul, Nat.reduceSub, Nat.reduceLeDiff, List.length_cons, List.length_nil, List.length_append, List.append_assoc, List.take_succ_cons, List.take_zero, List.drop_succ_cons, List.drop_zero, List.set_cons_zero, List.set_cons_succ, true_or, or_true, and_self, Bool.false_eq_true, Nat.le_refl, Option.bind_some, Option.map_some, Option.getD_some, Option.isSome_some, List.map_cons, List.map_nil, List.cons_append, List.nil_append, List.append_nil, List.getElem?_cons_zero, List.getElem?_cons_succ, eq_self, Int.reduceLT, Int.reduceLE, Int.reduceNeg, Int.reduceEq, e0, e13, ix, k1, k2, k3, k4, k5]
    rw [← huc]
    refine St.swap11 s4 hi hj fun h5 st5 => ?_
    simp (disch := omega) only [VW, VY, VZ, VA, VB, VC, VE, TY, ↓reduceIte, Nat.reduceEqDiff, Nat.reduceAdd, Nat.reduceMul, Nat.reduceSub, Nat.reduceLeDiff, List.length_cons, List.length_nil, List.length_append, List.append_assoc, List.take_succ_cons, List.take_zero, List.drop_succ_cons, List.drop_zero, List.set_cons_zero, List.set_cons_succ, true_or, or_true, and_self, Bool.false_eq_true, Nat.le_refl, Option.bind_some, Option.map_some, Option.getD_some, Option.isSome_some, List.map_cons, List.map_nil, List.cons_append, List.nil_append, List.append_nil, List.getElem?_cons_zero, List.getElem?_cons_succ, eq_self, Int.reduceLT, Int.reduceLE, Int.reduceNeg, Int.reduceEq, e0, e10, e13, k1]
    exact ⟨V3.length, by simp, V1 ++ [w], V3, by congr 1; simp; omega, by simp, rfl, st5.as (by simp)⟩
end Go.Proofs
