/- Contracts of functions, facts of types, or the plain law behind one statement (own work): ZH. Conditions: those told in each theorem. -/
import Derived.Test.YtiiolloielppeaaZG
set_option linter.all false
set_option linter.unusedSimpArgs false
set_option linter.unusedVariables false
set_option maxRecDepth 4000
namespace Go.Proofs
open Go Go.V
theorem merge_last {s : Nat} {A X B : List El} {y : El} {v : Value} {a h : Heap} {L : List Asr} {Q : Value → Heap → Prop} {ia im ib : Int} (st : St a h (A ++ (X ++ ([y] ++ B))) v L) (hgy : Gd s y.1) (hg : ∀ p ∈ X, Gd s p.1) (hlen : (A ++ (X ++ ([y] ++ B))).length ≤ 1000) (hX : ¬ X.length = 1) (hs : X.Pairwise leP)
    (hia : ia = (A.length : Int)) (him : im = (A.length : Int) + (X.length : Int)) (hib : ib = (A.length : Int) + (X.length : Int) + 1)
    (hQ : ∀ (Z : List El) h', Z.Perm (X ++ [y]) → Z.Pairwise leP → St a h' (A ++ (Z ++ B)) v L → Q (.tuple #[]) h') :
    CallsV Try.prog 135 [v, .int .i64 ia, .int .i64 im, .int .i64 ib, .func (.func 108) #[] #[]] h Q := by
  refine CallsV.start Try.func135 rfl (by rw [Try.results135]) (by kernel_rfl) (by rw [Try.ntmps135]; simp) ?_
  simp only [List.length_append, List.length_cons, List.length_nil] at hlen
  have w1 : IntKind.i64.wrap (im - ia) = (X.length : Int) := by rw [him, hia, wrap_in _ (by omega)]; omega
  have w2 : IntKind.i64.wrap (ib - im) = 1 := by rw [him, hib, wrap_in _ (by omega)]; omega
  have w3 : ¬ (X.length : Int) = 1 := by omega
  simp (disch := omega) only [VW, VY, VZ, VA, VB, VC, VE, TY, ↓reduceIte, Nat.reduceEqDiff, Nat.reduceAdd, Nat.reduceMul, Nat.reduceSub, Nat.reduceLeDiff, List.length_cons, List.length_nil, List.length_append, List.append_assoc, List.take_succ_cons, List.take_zero, List.drop_succ_cons, List.drop_zero, List.set_cons_zero, List.set_cons_succ, true_or, or_true, and_self, Bool.false_eq_true, Nat.le_refl, Option.bind_some, Option.map_some, Option.getD_some, Option.isSome_some, List.map_cons, List.map_nil, List.cons_append, List.nil_append, List.append_nil, List.getElem?_cons_zero, List.getElem?_cons_succ, eq_self, Int.reduceLT, Int.reduceLE, Int.reduceNeg, Int.reduceEq, w1, w2, w3]
  refine loop_rule (fun n e h' => ∃ (p q : Nat), e 0 = v ∧ e 2 = .int .i64 im ∧ e 4 = .func (.func 108) #[] #[] ∧ e 14 = .int .i64 ((A.length + p : Nat) : Int) ∧ e 15 = .int .i64 ((A.length + q : Nat) : Int) ∧ p ≤ q ∧ q ≤ X.length ∧ (p = 0 ∨ ∃ z, X[p - 1]? = some z ∧ leP z y) ∧ (q = X.length ∨ ∃ z, X[q]? = some z ∧ leP y z) ∧ n = q - p ∧ St a h' (A ++ (X ++ ([y] ++ B))) v L) ?_ X.length _ _
    ⟨0, X.length, rfl, rfl, rfl, by rw [hia]; rfl, by rw [him]; rfl, Nat.zero_le _, Nat.le_refl _, .inl rfl, .inl rfl, rfl, st⟩
  rintro n e h1 ⟨p, q, e0, e2, e4, e14, e15, hpq, hq, hbp, hbq, rfl, st⟩
  have e2 : e 2 = .int .i64 ((A.length + X.length : Nat) : Int) := by rw [e2, him]; rfl
  simp (disch := omega) only [VW, VY, VZ, VA, VB, VC, VE, TY, ↓reduceIte, Nat.reduceEqDiff, Nat.reduceAdd, Nat.reduceMul, Nat.reduceSub, Nat.reduceLeDiff, List.length_cons, List.length_nil, List.length_append, List.append_assoc, List.take_succ_cons, List.take_zero, List.drop_succ_cons, List.drop_zero, List.set_cons_zero, List.set_cons_succ, true_or, or_true, and_self, Bool.false_eq_true, Nat.le_refl, Option.bind_some, Option.map_some, Option.getD_some, Option.isSome_some, List.map_cons, List.map_nil, List.cons_append, List.nil_append, List.append_nil, List.getElem?_cons_zero, List.getElem?_cons_succ, eq_self, Int.reduceLT, Int.reduceLE, Int.reduceNeg, Int.reduceEq, e14, e15]
  by_cases c : p < q
  · have c1 : ((A.length + p : Nat) : Int) < ((A.length + q : Nat) : Int) := by omega
    obtain ⟨m, hm⟩ : ∃ m : Nat, m = (p + q) / 2 := ⟨_, rfl⟩
    have hmm : ((A.length + p) + (A.length + q)) / 2 = A.length + m := by omega
    have hf := half_c (i := A.length + p) (j := A.length + q) (by omega)
    rw [hmm] at hf
    obtain ⟨z, hz⟩ := get_some (show m < X.length by omega)
    have gz : (A ++ (X ++ ([y] ++ B)))[A.length + m]? = some z := by
      rw [List.getElem?_append_right (by omega), show A.length + m - A.length = m by omega, List.getElem?_append_left (by omega)]; exact hz
    have gy : (A ++ (X ++ ([y] ++ B)))[A.length + X.length]? = some y := by
      rw [List.getElem?_append_right (by omega), show A.length + X.length - A.length = X.length by omega, List.getElem?_append_right (Nat.le_refl _), Nat.sub_self]; rfl
    obtain ⟨N, hN⟩ : ∃ N : Nat, (A ++ (X ++ ([y] ++ B))).length = N := ⟨_, rfl⟩
    have hN' : N = A.length + 1 + X.length + B.length := by rw [← hN]; simp; omega
    have ix := st.len.ix Try.prog
    rw [hN] at ix
    have cz := st.cell gz
    have cy := st.cell gy
    have hgz := hg z (List.mem_of_getElem? hz)
    have hzz := St.here st (List.mem_of_getElem? gz)
    have hyy := St.here st (List.mem_of_getElem? gy)
    obtain ⟨a0, a1, a2, hzc⟩ := Raw3.lit z.2
    obtain ⟨b0, b1, b2, hyc⟩ := Raw3.lit y.2
    rw [hzc] at cz hzz
    rw [hyc] at cy hyy
    have k1 : ((A.length + m : Nat) : Int) < (N : Int) := by omega
    have k2 : ((A.length + X.length : Nat) : Int) < (N : Int) := by omega
    simp (disch := omega) only [VW, VY, VZ, VA, VB, VC, VE, TY, ↓reduceIte, Nat.reduceEqDiff, Nat.reduceAdd, Nat.reduceMul, Nat.reduceSub, Nat.reduceLeDiff, List.length_cons, List.length_nil, List.length_append, List.append_assoc, List.take_succ_cons, List.take_zero, List.drop_succ_cons, List.drop_zero, List.set_cons_zero, List.set_cons_succ, true_or, or_true, and_self, Bool.false_eq_true, Nat.le_refl, Option.bind_some, Option.map_some, Option.getD_some, Option.isSome_some, List.map_cons, List.map_nil, List.cons_append, List.nil_append, List.append_nil, List.getElem?_cons_zero, List.getElem?_cons_succ, eq_self, Int.reduceLT, Int.reduceLE, Int.reduceNeg, Int.reduceEq, e14, e15, c1, hf]
    refine draw_ord [0, 1, 2, 3, 4, 5, 6, 7, 8, 9, 10, 11] (by kernel_rfl) (by simp only [List.filterMap_cons, List.filterMap_nil, List.getElem?_cons_zero, List.getElem?_cons_succ]; rfl) ?_
    simp (disch := omega) only [VW, VY, VZ, VA, VB, VC, VE, TY, ↓reduceIte, Nat.reduceEqDiff, Nat.reduceAdd, Nat.reduceMul, Nat.reduceSub, Nat.reduceLeDiff, List.length_cons, List.length_nil, List.length_append, List.append_assoc, List.take_succ_cons, List.take_zero, List.drop_succ_cons, List.drop_zero, List.set_cons_zero, List.set_cons_succ, true_or, or_true, and_self, Bool.false_eq_true, Nat.le_refl, Option.bind_some, Option.map_some, Option.getD_some, Option.isSome_some, List.map_cons, List.map_nil, List.cons_append, List.nil_append, List.append_nil, List.getElem?_cons_zero, List.getElem?_cons_succ, eq_self, Int.reduceLT, Int.reduceLE, Int.reduceNeg, Int.reduceEq, e0, e2, e4, ix, cz, cy, k1, k2]
    refine .inl ⟨by kernel_rfl, ?_⟩; refine compareBoxes_c hyy hzz hgy hgz fun h3 E3 => ?_
    have st3 : St a h3 (A ++ (X ++ ([y] ++ B))) v L := Sep.mono st E3
    have cz3 := st3.cell gz
    have cy3 := st3.cell gy
    rw [hzc] at cz3
    rw [hyc] at cy3
    obtain ⟨hc1, hc2, _⟩ := bcmp_le hgy hgz
    have e2' : im = ((A.length + X.length : Nat) : Int) := by rw [him]; rfl
    by_cases hlt : bcmp y.1 z.1 < 0
    · simp (disch := omega) only [VW, VY, VZ, VA, VB, VC, VE, TY, ↓reduceIte, Nat.reduceEqDiff, Nat.reduceAdd, Nat.reduceMul, Nat.reduceSub, Nat.reduceLeDiff, List.length_cons, List.length_nil, List.length_append, List.append_assoc, List.take_succ_cons, List.take_zero, List.drop_succ_cons, List.drop_zero, List.set_cons_zero, List.set_cons_succ, true_or, or_true, and_self, Bool.false_eq_true, Nat.le_refl, Option.bind_some, Option.map_some, Option.getD_some, Option.isSome_some, List.map_cons, List.map_nil, List.cons_append, List.nil_append, List.append_nil, List.getElem?_cons_zero, List.getElem?_cons_succ, eq_self, Int.reduceLT, Int.reduceLE, Int.reduceNeg, Int.reduceEq, cz3, cy3, hlt, e0, e2, e4, e14, e15]
      exact ⟨m - p, by omega, p, m, e2' ▸ rfl, rfl, rfl, by omega, by omega, hbp, .inr ⟨z, hz, hc1.1 (by omega)⟩, rfl, st3⟩
    · have hw : IntKind.i64.wrap (((A.length + m : Nat) : Int) + 1) = ((A.length + (m + 1) : Nat) : Int) := by rw [wrap_in _ (by omega)]; omega
      simp (disch := omega) only [VW, VY, VZ, VA, VB, VC, VE, TY, ↓reduceIte, Nat.reduceEqDiff, Nat.reduceAdd, Nat.reduceMul, Nat.reduceSub, Nat.reduceLeDiff, List.length_cons, List.length_nil, List.length_append, List.append_assoc, List.take_succ_cons, List.take_zero, List.drop_succ_cons, List.drop_zero, List.set_cons_zero, List.set_cons_succ, true_or, or_true, and_self, Bool.false_eq_true, Nat.le_refl, Option.bind_some, Option.map_some, Option.getD_some, Option.isSome_some, List.map_cons, List.map_nil, List.cons_append, List.nil_append, List.append_nil, List.getElem?_cons_zero, List.getElem?_cons_succ, eq_self, Int.reduceLT, Int.reduceLE, Int.reduceNeg, Int.reduceEq, cz3, cy3, hlt, e0, e2, e4, e14, e15, hw]
      exact ⟨q - (m + 1), by omega, m + 1, q, e2' ▸ rfl, rfl, rfl, by omega, hq, .inr ⟨z, by simpa using hz, hc2.1 hlt⟩, hbq, rfl, st3⟩
  · obtain rfl : p = q := by omega
    have c1 : ¬ ((A.length + p : Nat) : Int) < ((A.length + p : Nat) : Int) := by omega
    obtain ⟨X1, X2, rfl, hX1⟩ : ∃ X1 X2 : List El, X = X1 ++ X2 ∧ X1.length = p := ⟨X.take p, X.drop p, (List.take_append_drop _ _).symm, by rw [List.length_take]; omega⟩
    simp only [List.length_append] at hlen
    have hle1 : X1 = [] ∨ ∃ S0 z, X1 = S0 ++ [z] ∧ leP z y := by
      rcases List.eq_nil_or_concat X1 with h0 | ⟨S0, z, hS⟩
      · exact .inl h0
      · rw [List.concat_eq_append] at hS
        subst hS
        refine .inr ⟨S0, z, rfl, ?_⟩
        rcases hbp with h0 | ⟨y', hy', hle⟩
        · simp at hX1; omega
        · rw [← hX1, List.getElem?_append_left (by simp), List.getElem?_append_right (by simp)] at hy'
          simp at hy'
          rw [hy']; exact hle
    have hle2 : ∀ z ∈ X2, leP y z := by
      rcases hbq with h0 | ⟨y', hy', hle⟩
      · have : X2 = [] := List.eq_nil_of_length_eq_zero (by simp at h0; omega)
        subst this; simp
      · rw [List.getElem?_append_right (by omega), show p - X1.length = 0 by omega] at hy'
        obtain ⟨y0, Y3, rfl⟩ : ∃ y0 Y3, X2 = y0 :: Y3 := by
          cases X2 with
          | nil => simp at hy'
          | cons y0 Y3 => exact ⟨_, _, rfl⟩
        simp only [List.getElem?_cons_zero, Option.some.injEq] at hy'
        subst hy'
        intro z hz
        rcases List.mem_cons.1 hz with rfl | hz
        · exact hle
        · exact leP_trans hle ((List.pairwise_cons.1 (List.pairwise_append.1 hs).2.1).1 z hz)
    have hsort : (X1 ++ y :: X2).Pairwise leP := insert_sorted hs hle2 hle1
    have hperm : (X1 ++ y :: X2).Perm ((X1 ++ X2) ++ [y]) := by
      refine List.perm_middle.trans ?_
      exact List.perm_append_comm (l₁ := [y])
    simp (disch := omega) only [VW, VY, VZ, VA, VB, VC, VE, TY, ↓reduceIte, Nat.reduceEqDiff, Nat.reduceAdd, Nat.reduceMul, Nat.reduceSub, Nat.reduceLeDiff, List.length_cons, List.length_nil, List.length_append, List.append_assoc, List.take_succ_cons, List.take_zero, List.drop_succ_cons, List.drop_zero, List.set_cons_zero, List.set_cons_succ, true_or, or_true, and_self, Bool.false_eq_true, Nat.le_refl, Option.bind_some, Option.map_some, Option.getD_some, Option.isSome_some, List.map_cons, List.map_nil, List.cons_append, List.nil_append, List.append_nil, List.getElem?_cons_zero, List.getElem?_cons_succ, eq_self, Int.reduceLT, Int.reduceLE, Int.reduceNeg, Int.reduceEq, e14, e15, c1, e2]
    refine loop_rule (fun n e h' => ∃ (V1 V2 : List El), e 0 = v ∧ e 14 = .int .i64 ((A.length + p : Nat) : Int) ∧ e 17 = .int .i64 ((A.length + (X1.length + V1.length) : Nat) : Int) ∧ V1 ++ V2 = X2 ∧ n = V1.length ∧ St a h' (A ++ (X1 ++ (V1 ++ y :: (V2 ++ B)))) v L) ?_ X2.length _ _
      ⟨X2, [], e0, e14, rfl, List.append_nil _, rfl, st.as (by simp)⟩
    rintro n e h2 ⟨V1, V2, e0, e14, e17, rfl, rfl, st⟩
    simp only [List.length_append] at hlen
    rcases List.eq_nil_or_concat V1 with rfl | ⟨V0, w, hS⟩
    · have c2 : ¬ ((A.length + p : Nat) : Int) < ((A.length + X1.length : Nat) : Int) := by omega
      simp (disch := omega) only [VW, VY, VZ, VA, VB, VC, VE, TY, ↓reduceIte, Nat.reduceEqDiff, Nat.reduceAdd, Nat.reduceMul, Nat.reduceSub, Nat.reduceLeDiff, List.length_cons, List.length_nil, List.length_append, List.append_assoc, List.take_succ_cons, List.take_zero, List.drop_succ_cons, List.drop_zero, List.set_cons_zero, List.set_cons_succ, true_or, or_true, and_self, Bool.false_eq_true, Nat.le_refl, Option.bind_some, Option.map_some, Option.getD_some, Option.isSome_some, List.map_cons, List.map_nil, List.cons_append, List.nil_append, List.append_nil, List.getElem?_cons_zero, List.getElem?_cons_succ, eq_self, Int.reduceLT, Int.reduceLE, Int.reduceNeg, Int.reduceEq, e14, e17, c2]
      exact hQ _ _ (by simpa using hperm) hsort (st.as (by simp))
    rw [List.concat_eq_append] at hS
    subst hS
    simp only [List.length_append, List.length_cons, List.length_nil] at hlen e17
    have st : St a h2 ((A ++ (X1 ++ V0)) ++ w :: ([] ++ y :: (V2 ++ B))) v L := st.as (by simp)
    obtain ⟨i, hi⟩ : ∃ i : Nat, (A ++ (X1 ++ V0)).length = i := ⟨_, rfl⟩
    have hi' : A.length + X1.length + V0.length = i := by rw [← hi]; simp; omega
    have hj : (A ++ (X1 ++ V0)).length + 1 + ([] : List El).length = i + 1 := by rw [hi]; rfl
    obtain ⟨gu, gw⟩ := sw_get (A ++ (X1 ++ V0)) [] (V2 ++ B) w y hi hj
    obtain ⟨N, hN⟩ : ∃ N : Nat, ((A ++ (X1 ++ V0)) ++ w :: ([] ++ y :: (V2 ++ B))).length = N := ⟨_, rfl⟩
    have hN' : N = i + 2 + V2.length + B.length := by rw [← hN, ← hi']; simp; omega
    have e17 : e 17 = .int .i64 ((i + 1 : Nat) : Int) := by rw [e17]; congr 1; omega
    have c2 : ((A.length + p : Nat) : Int) < ((i + 1 : Nat) : Int) := by omega
    have ix := st.len.ix Try.prog
    rw [hN] at ix
    have cu := st.cell gu
    have cw := st.cell gw
    obtain ⟨a0, a1, a2, huc⟩ := Raw3.lit w.2
    obtain ⟨b0, b1, b2, hwc⟩ := Raw3.lit y.2
    rw [huc] at cu
    rw [hwc] at cw
    have k1 : IntKind.i64.wrap (((i + 1 : Nat) : Int) - 1) = (i : Int) := by rw [wrap_in _ (by omega)]; omega
    have k2 : (i : Int) < (N : Int) := by omega
    have k3 : ((i + 1 : Nat) : Int) < (N : Int) := by omega
    have k4 : (((i + 1 : Nat)) : Int).toNat = i + 1 := rfl
    have k5 : (0 : Int) ≤ ((i + 1 : Nat) : Int) := by omega
    simp (disch := omega) only [VW, VY, VZ, VA, VB, VC, VE, TY, ↓reduceIte, Nat.reduceEqDiff, Nat.reduceAdd, Nat.reduceMul, Nat.reduceSub, Nat.reduceLeDiff, List.length_cons, List.length_nil, List.length_append, List.append_assoc, List.take_succ_cons, List.take_zero, List.drop_succ_cons, List.drop_zero, List.set_cons_zero, List.set_cons_succ, true_or, or_true, and_self, Bool.false_eq_true, Nat.le_refl, Option.bind_some, Option.map_some, Option.getD_some, Option.isSome_some, List.map_cons, List.map_nil, List.cons_append, List.nil_append, List.append_nil, List.getElem?_cons_zero, List.getElem?_cons_succ, eq_self, Int.reduceLT, Int.reduceLE, Int.reduceNeg, Int.reduceEq, e14, e17, c2]
    refine draw_tail [0, 1, 2, 3, 4, 5, 6, 7, 8, 9, 10, 11, 12, 13, 14] [15, 16, 17] (by kernel_rfl) (by simp only [List.filterMap_cons, List.filterMap_nil, List.getElem?_cons_zero, List.getElem?_cons_succ]; rfl) ?_
    simp (disch := omega) only [VW, VY, VZ, VA, VB, VC, VE, TY, ↓reduceIte, Nat.reduceEqDiff, Nat.reduceAdd, Nat.reduceMul, Nat.reduceSub, Nat.reduceLeDiff, List.length_cons, List.length_nil, List.length_append, List.append_assoc, List.take_succ_cons, List.take_zero, List.drop_succ_cons, List.drop_zero, List.set_cons_zero, List.set_cons_succ, true_or, or_true, and_self, Bool.false_eq_true, Nat.le_refl, Option.bind_some, Option.map_some, Option.getD_some, Option.isSome_some, List.map_cons, List.map_nil, List.cons_append, List.nil_append, List.append_nil, List.getElem?_cons_zero, List.getElem?_cons_succ, eq_self, Int.reduceLT, Int.reduceLE, Int.reduceNeg, Int.reduceEq, e0, e17, ix, cu, cw, k1, k2, k3, k4, k5]
    refine tail_one (i := 15) (pl := [16]) (r := [17]) [] (by kernel_rfl) (by kernel_rfl) (by kernel_rfl) (by simp only [List.filterMap_cons, List.filterMap_nil, List.getElem?_cons_zero, List.getElem?_cons_succ]; rfl) (by rfl) (by simp only [heldCut, List.filter_cons, List.filter_nil, List.contains_cons, List.contains_nil, Nat.reduceBEq, Bool.or_false, Bool.or_true, reduceIte, Bool.false_eq_true]; rfl) ?_
    simp (disch := omega) only [VW, VY, VZ, VA, VB, VC, VE, TY, ↓reduceIte, Nat.reduceEqDiff, Nat.reduceAdd, Nat.reduceMul, Nat.reduceSub, Nat.reduceLeDiff, List.length_cons, List.length_nil, List.length_append, List.append_assoc, List.take_succ_cons, List.take_zero, List.drop_succ_cons, List.drop_zero, List.set_cons_zero, List.set_cons_succ, true_or, or_true, and_self, Bool.false_eq_true, Nat.le_refl, Option.bind_some, Option.map_some, Option.getD_some, Option.isSome_some, List.map_cons, List.map_nil, List.cons_append, List.nil_append, List.append_nil, List.getElem?_cons_zero, List.getElem?_cons_succ, eq_self, Int.reduceLT, Int.reduceLE, Int.reduceNeg, Int.reduceEq, e0, e17, ix, k1, k2, k3, k4, k5]
    rw [← huc]
    refine St.swap2 st hi hj fun h4 s4 => ?_
    simp (disch := omega) only [VW, VY, VZ, VA, VB, VC, VE, TY, ↓reduceIte, Nat.reduceEqDiff, Nat.reduceAdd, Nat.reduceMul, Nat.reduceSub, Nat.reduceLeDiff, List.length_cons, List.length_nil, List.length_append, List.append_assoc, List.take_succ_cons, List.take_zero, List.drop_succ_cons, List.drop_zero, List.set_cons_zero, List.set_cons_succ, true_or, or_true, and_self, Bool.false_eq_true, Nat.le_refl, Option.bind_some, Option.map_some, Option.getD_some, Option.isSome_some, List.map_cons, List.map_nil, List.cons_append, List.nil_append, List.append_nil, List.getElem?_cons_zero, List.getElem?_cons_succ, eq_self, Int.reduceLT, Int.reduceLE, Int.reduceNeg, Int.reduceEq, e0, e17, ix, k1, k2, k3, k4, k5]
    refine tail_step [(17, [], [], true)] (by kernel_rfl) (by kernel_rfl) (a_cut (by simp only [List.filterMap_cons, List.filterMap_nil, List.getElem?_cons_zero, List.getElem?_cons_succ]; rfl) (by kernel_rfl) ?_ trivial)
    simp (disch := omega) only [VW, VY, VZ, VA, VB, VC, VE, TY, ↓reduceIte, Nat.reduceEqDiff, Nat.reduceAdd, Nat.reduceMul, Nat.reduceSub, Nat.reduceLeDiff, List.length_cons, List.length_nil, List.length_append, List.append_assoc, List.take_succ_cons, List.take_zero, List.drop_succ_cons, List.drop_zero, List.set_cons_zero, List.set_cons_succ, true_or, or_true, and_self, Bool.false_eq_true, Nat.le_refl, Option.bind_some, Option.map_some, Option.getD_some, Option.isSome_some, List.map_cons, List.map_nil, List.cons_append, List.nil_append, List.append_nil, List.getElem?_cons_zero, List.getElem?_cons_succ, eq_self, Int.reduceLT, Int.reduceLE, Int.reduceNeg, Int.reduceEq, e0, e17, ix, k1, k2, k3, k4, k5]
    rw [← hwc]
    refine St.swap22 s4 hi hj fun h5 st5 => ?_
    simp (disch := omega) only [VW, VY, VZ, VA, VB, VC, VE, TY, ↓reduceIte, Nat.reduceEqDiff, Nat.reduceAdd, Nat.reduceMul, Nat.reduceSub, Nat.reduceLeDiff, List.length_cons, List.length_nil, List.length_append, List.append_assoc, List.take_succ_cons, List.take_zero, List.drop_succ_cons, List.drop_zero, List.set_cons_zero, List.set_cons_succ, true_or, or_true, and_self, Bool.false_eq_true, Nat.le_refl, Option.bind_some, Option.map_some, Option.getD_some, Option.isSome_some, List.map_cons, List.map_nil, List.cons_append, List.nil_append, List.append_nil, List.getElem?_cons_zero, List.getElem?_cons_succ, eq_self, Int.reduceLT, Int.reduceLE, Int.reduceNeg, Int.reduceEq, e0, e14, e17, k1]
    exact ⟨V0.length, by simp, V0, w :: V2, by congr 1; omega, by simp, rfl, st5.as (by simp)⟩
end Go.Proofs
