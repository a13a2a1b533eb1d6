/- Contracts of functions, facts of types, or the plain law behind one statement (own work): ZE. Conditions: those told in each theorem. -/
import Derived.Test.YtiiolloielppeaaZD
set_option linter.all false
set_option linter.unusedSimpArgs false
set_option linter.unusedVariables false
set_option maxRecDepth 4000
namespace Go.Proofs
open Go Go.V
theorem St.as {a h : Heap} {L : List Asr} {z z' : List El} {v : Value} (s : St a h z v L) (e : z = z') : St a h z' v L := e ▸ s
theorem insertion_c {s : Nat} {A B C : List El} {v : Value} {a h : Heap} {L : List Asr} {Q : Value → Heap → Prop} {ia ib : Int} (st : St a h (A ++ (B ++ C)) v L) (hg : ∀ p ∈ B, Gd s p.1) (hlen : (A ++ (B ++ C)).length ≤ 1000)
    (hia : ia = (A.length : Int)) (hib : ib = (A.length : Int) + (B.length : Int))
    (hQ : ∀ (B' : List El) h', B'.Perm B → B'.Pairwise leP → St a h' (A ++ (B' ++ C)) v L → Q (.tuple #[]) h') :
    CallsV Try.prog 134 [v, .int .i64 ia, .int .i64 ib, .func (.func 108) #[] #[]] h Q := by
  refine CallsV.start Try.func134 rfl (by rw [Try.results134]) (by kernel_rfl) (by rw [Try.ntmps134]; simp) ?_
  simp only [List.length_append] at hlen
  have w1 : IntKind.i64.wrap (ia + 1) = (A.length : Int) + 1 := by rw [hia]; exact wrap_in _ (by omega)
  simp (disch := omega) only [VW, VY, VZ, VA, VB, VC, VE, TY, ↓reduceIte, Nat.reduceEqDiff, Nat.reduceAdd, Nat.reduceMul, Nat.reduceSub, Nat.reduceLeDiff, List.length_cons, List.length_nil, List.length_append, List.append_assoc, List.take_succ_cons, List.take_zero, List.drop_succ_cons, List.drop_zero, List.set_cons_zero, List.set_cons_succ, true_or, or_true, and_self, Bool.false_eq_true, Nat.le_refl, Option.bind_some, Option.map_some, Option.getD_some, Option.isSome_some, List.map_cons, List.map_nil, List.cons_append, List.nil_append, List.append_nil, List.getElem?_cons_zero, List.getElem?_cons_succ, eq_self, Int.reduceLT, Int.reduceLE, Int.reduceNeg, Int.reduceEq, w1]
  cases B with
  | nil =>
    refine loop_rule (fun n e h' => e 2 = .int .i64 ib ∧ e 8 = .int .i64 ((A.length : Int) + 1) ∧ n = 0 ∧ h = h') ?_ 0 _ _ ⟨rfl, rfl, rfl, rfl⟩
    rintro n e h' ⟨e2, e8, rfl, rfl⟩
    have c1 : ¬ (A.length : Int) + 1 < ib := by rw [hib]; simp; omega
    simp (disch := omega) only [VW, VY, VZ, VA, VB, VC, VE, TY, ↓reduceIte, Nat.reduceEqDiff, Nat.reduceAdd, Nat.reduceMul, Nat.reduceSub, Nat.reduceLeDiff, List.length_cons, List.length_nil, List.length_append, List.append_assoc, List.take_succ_cons, List.take_zero, List.drop_succ_cons, List.drop_zero, List.set_cons_zero, List.set_cons_succ, true_or, or_true, and_self, Bool.false_eq_true, Nat.le_refl, Option.bind_some, Option.map_some, Option.getD_some, Option.isSome_some, List.map_cons, List.map_nil, List.cons_append, List.nil_append, List.append_nil, List.getElem?_cons_zero, List.getElem?_cons_succ, eq_self, Int.reduceLT, Int.reduceLE, Int.reduceNeg, Int.reduceEq, e2, e8, c1]
    exact hQ _ _ (.refl _) .nil st
  | cons x0 B0 =>
  refine loop_rule (fun n e h' => ∃ (S R : List El), e 0 = v ∧ e 1 = .int .i64 ia ∧ e 2 = .int .i64 ib ∧ e 3 = .func (.func 108) #[] #[] ∧ e 8 = .int .i64 ((A.length : Int) + (S.length : Int)) ∧ (S ++ R).Perm (x0 :: B0) ∧ S.Pairwise leP ∧ n = R.length ∧ St a h' (A ++ (S ++ (R ++ C))) v L) ?_ B0.length _ _
    ⟨[x0], B0, rfl, rfl, rfl, rfl, rfl, .refl _, List.pairwise_singleton _ _, rfl, st⟩
  rintro n e h1 ⟨S, R, e0, e1, e2, e3, e8, hp, hs, rfl, st⟩
  have hpl := hp.length_eq
  simp only [List.length_append, List.length_cons] at hpl hib hlen
  cases R with
  | nil =>
    have c1 : ¬ (A.length : Int) + (S.length : Int) < ib := by rw [hib]; simp at hpl; omega
    simp (disch := omega) only [VW, VY, VZ, VA, VB, VC, VE, TY, ↓reduceIte, Nat.reduceEqDiff, Nat.reduceAdd, Nat.reduceMul, Nat.reduceSub, Nat.reduceLeDiff, List.length_cons, List.length_nil, List.length_append, List.append_assoc, List.take_succ_cons, List.take_zero, List.drop_succ_cons, List.drop_zero, List.set_cons_zero, List.set_cons_succ, true_or, or_true, and_self, Bool.false_eq_true, Nat.le_refl, Option.bind_some, Option.map_some, Option.getD_some, Option.isSome_some, List.map_cons, List.map_nil, List.cons_append, List.nil_append, List.append_nil, List.getElem?_cons_zero, List.getElem?_cons_succ, eq_self, Int.reduceLT, Int.reduceLE, Int.reduceNeg, Int.reduceEq, e2, e8, c1]
    rw [List.append_nil] at hp
    exact hQ _ _ hp hs st
  | cons x R =>
  simp only [List.length_cons] at hpl
  have c1 : (A.length : Int) + (S.length : Int) < ib := by rw [hib]; omega
  simp (disch := omega) only [VW, VY, VZ, VA, VB, VC, VE, TY, ↓reduceIte, Nat.reduceEqDiff, Nat.reduceAdd, Nat.reduceMul, Nat.reduceSub, Nat.reduceLeDiff, List.length_cons, List.length_nil, List.length_append, List.append_assoc, List.take_succ_cons, List.take_zero, List.drop_succ_cons, List.drop_zero, List.set_cons_zero, List.set_cons_succ, true_or, or_true, and_self, Bool.false_eq_true, Nat.le_refl, Option.bind_some, Option.map_some, Option.getD_some, Option.isSome_some, List.map_cons, List.map_nil, List.cons_append, List.nil_append, List.append_nil, List.getElem?_cons_zero, List.getElem?_cons_succ, eq_self, Int.reduceLT, Int.reduceLE, Int.reduceNeg, Int.reduceEq, e2, e8, c1]
  refine loop_rule (fun n e h' => ∃ (S1 S2 : List El), e 0 = v ∧ e 1 = .int .i64 ia ∧ e 2 = .int .i64 ib ∧ e 3 = .func (.func 108) #[] #[] ∧ e 8 = .int .i64 ((A.length : Int) + (S.length : Int)) ∧ e 9 = .int .i64 ((A.length : Int) + (S1.length : Int)) ∧ S1 ++ S2 = S ∧ (∀ y ∈ S2, leP x y) ∧ n = S1.length ∧ St a h' (A ++ (S1 ++ x :: (S2 ++ (R ++ C)))) v L) ?_ S.length _ _
    ⟨S, [], e0, e1, e2, e3, e8, rfl, List.append_nil _, by simp, rfl, st⟩
  rintro n e h2 ⟨S1, S2, e0, e1, e2, e3, e8, e9, rfl, hx2, rfl, st⟩
  have hgx : Gd s x.1 := hg x (hp.mem_iff.1 (by simp))
  simp only [List.length_append] at hpl c1
  have pn : (S1 ++ x :: (S2 ++ R)).Perm (x0 :: B0) := by
    refine List.Perm.trans ?_ hp
    rw [List.append_assoc]
    refine List.Perm.append_left S1 ?_
    exact List.perm_middle.symm
  simp (disch := omega) only [VW, VY, VZ, VA, VB, VC, VE, TY, ↓reduceIte, Nat.reduceEqDiff, Nat.reduceAdd, Nat.reduceMul, Nat.reduceSub, Nat.reduceLeDiff, List.length_cons, List.length_nil, List.length_append, List.append_assoc, List.take_succ_cons, List.take_zero, List.drop_succ_cons, List.drop_zero, List.set_cons_zero, List.set_cons_succ, true_or, or_true, and_self, Bool.false_eq_true, Nat.le_refl, Option.bind_some, Option.map_some, Option.getD_some, Option.isSome_some, List.map_cons, List.map_nil, List.cons_append, List.nil_append, List.append_nil, List.getElem?_cons_zero, List.getElem?_cons_succ, eq_self, Int.reduceLT, Int.reduceLE, Int.reduceNeg, Int.reduceEq]
  have fin : (S1 = [] ∨ ∃ S0 y, S1 = S0 ++ [y] ∧ leP y x) → St a h2 (A ++ (S1 ++ x :: (S2 ++ (R ++ C)))) v L → ∀ {H : Heap}, Ext h2 H → St a H (A ++ ((S1 ++ x :: S2) ++ (R ++ C))) v L ∧ (S1 ++ x :: S2).Pairwise leP := fun h1 st H E =>
    ⟨St.as (Sep.mono st E) (by simp), insert_sorted hs hx2 h1⟩
  rcases List.eq_nil_or_concat S1 with rfl | ⟨S0, y, hS⟩
  · obtain ⟨f1, f2⟩ := fin (.inl rfl) st (.refl _)
    have c2 : ¬ ia < (A.length : Int) + ((0 : Nat) : Int) := by rw [hia]; simp
    refine draw_ord [0, 1, 2, 3, 4, 5, 6, 7, 8, 9, 10, 11, 12, 13, 14, 15, 16] (by kernel_rfl) (by simp only [List.filterMap_cons, List.filterMap_nil, List.getElem?_cons_zero, List.getElem?_cons_succ]; rfl) ?_
    simp (disch := omega) only [VW, VY, VZ, VA, VB, VC, VE, TY, ↓reduceIte, Nat.reduceEqDiff, Nat.reduceAdd, Nat.reduceMul, Nat.reduceSub, Nat.reduceLeDiff, List.length_cons, List.length_nil, List.length_append, List.append_assoc, List.take_succ_cons, List.take_zero, List.drop_succ_cons, List.drop_zero, List.set_cons_zero, List.set_cons_succ, true_or, or_true, and_self, Bool.false_eq_true, Nat.le_refl, Option.bind_some, Option.map_some, Option.getD_some, Option.isSome_some, List.map_cons, List.map_nil, List.cons_append, List.nil_append, List.append_nil, List.getElem?_cons_zero, List.getElem?_cons_succ, eq_self, Int.reduceLT, Int.reduceLE, Int.reduceNeg, Int.reduceEq, e0, e1, e2, e3, e8, e9, c2, wrap_in]
    refine ⟨_, by simp, [] ++ x :: S2, R, by simp; omega, by simpa using pn, f2, rfl, f1⟩
  · rw [List.concat_eq_append] at hS
    subst hS
    simp only [List.length_append, List.length_cons, List.length_nil] at hpl c1
    have st : St a h2 ((A ++ S0) ++ y :: ([] ++ x :: (S2 ++ (R ++ C)))) v L := st.as (by simp)
    have hgy : Gd s y.1 := hg y (hp.mem_iff.1 (by simp))
    obtain ⟨j, hj⟩ : ∃ j : Nat, (A ++ S0).length = j := ⟨_, rfl⟩
    have hj2 : (A ++ S0).length + 1 + ([] : List El).length = j + 1 := by rw [hj]; rfl
    obtain ⟨gy, gx⟩ := sw_get (A ++ S0) [] (S2 ++ (R ++ C)) y x hj hj2
    obtain ⟨N, hN⟩ : ∃ N : Nat, ((A ++ S0) ++ y :: ([] ++ x :: (S2 ++ (R ++ C)))).length = N := ⟨_, rfl⟩
    have hjN : j + 1 < N := by rw [← hN, ← hj]; simp; omega
    have hjA : A.length + S0.length = j := by rw [← hj]; simp
    have e9 : e 9 = .int .i64 (((j + 1 : Nat)) : Int) := by rw [e9]; congr 1; simp; omega
    have c2 : ia < (((j + 1 : Nat)) : Int) := by rw [hia]; omega
    have ix := st.len.ix Try.prog
    rw [hN] at ix
    have cx := st.cell gx
    have cy := st.cell gy
    have hxx := St.here st (p := x) (by simp)
    have hyy := St.here st (p := y) (by simp)
    obtain ⟨a0, a1, a2, hxc⟩ := Raw3.lit x.2
    obtain ⟨b0, b1, b2, hyc⟩ := Raw3.lit y.2
    rw [hxc] at cx hxx
    rw [hyc] at cy hyy
    have k0 : IntKind.i64.wrap ((((j + 1 : Nat)) : Int) - 1) = (j : Int) := by rw [wrap_in _ (by omega)]; omega
    have k1 : (((j + 1 : Nat)) : Int) < (N : Int) := by omega
    have k2 : ((j : Nat) : Int) < (N : Int) := by omega
    have k3 : (0 : Int) ≤ ((j + 1 : Nat) : Int) := by omega
    have k4 : (((j + 1 : Nat)) : Int).toNat = j + 1 := rfl
    refine draw_ord [0, 1, 2, 3, 4, 5, 6, 7, 8, 9, 10, 11, 12, 13, 14, 15, 16] (by kernel_rfl) (by simp only [List.filterMap_cons, List.filterMap_nil, List.getElem?_cons_zero, List.getElem?_cons_succ]; rfl) ?_
    simp (disch := omega) only [VW, VY, VZ, VA, VB, VC, VE, TY, ↓reduceIte, Nat.reduceEqDiff, Nat.reduceAdd, Nat.reduceMul, Nat.reduceSub, Nat.reduceLeDiff, List.length_cons, List.length_nil, List.length_append, List.append_assoc, List.take_succ_cons, List.take_zero, List.drop_succ_cons, List.drop_zero, List.set_cons_zero, List.set_cons_succ, true_or, or_true, and_self, Bool.false_eq_true, Nat.le_refl, Option.bind_some, Option.map_some, Option.getD_some, Option.isSome_some, List.map_cons, List.map_nil, List.cons_append, List.nil_append, List.append_nil, List.getElem?_cons_zero, List.getElem?_cons_succ, eq_self, Int.reduceLT, Int.reduceLE, Int.reduceNeg, Int.reduceEq, e0, e1, e3, e9, c2, ix, cx, cy, k0, k1, k2, k3, k4]
    refine .inl ⟨by kernel_rfl, ?_⟩; refine compareBoxes_c hxx hyy hgx hgy fun h3 E3 => ?_
    have st3 : St a h3 ((A ++ S0) ++ y :: ([] ++ x :: (S2 ++ (R ++ C)))) v L := Sep.mono st E3
    have cx3 := st3.cell gx
    have cy3 := st3.cell gy
    rw [hxc] at cx3
    rw [hyc] at cy3
    obtain ⟨_, hb, _⟩ := bcmp_le hgx hgy
    by_cases hlt : bcmp x.1 y.1 < 0
    · simp (disch := omega) only [VW, VY, VZ, VA, VB, VC, VE, TY, ↓reduceIte, Nat.reduceEqDiff, Nat.reduceAdd, Nat.reduceMul, Nat.reduceSub, Nat.reduceLeDiff, List.length_cons, List.length_nil, List.length_append, List.append_assoc, List.take_succ_cons, List.take_zero, List.drop_succ_cons, List.drop_zero, List.set_cons_zero, List.set_cons_succ, true_or, or_true, and_self, Bool.false_eq_true, Nat.le_refl, Option.bind_some, Option.map_some, Option.getD_some, Option.isSome_some, List.map_cons, List.map_nil, List.cons_append, List.nil_append, List.append_nil, List.getElem?_cons_zero, List.getElem?_cons_succ, eq_self, Int.reduceLT, Int.reduceLE, Int.reduceNeg, Int.reduceEq, cx3, cy3, hlt]
      refine draw_tail [0, 1, 2, 3, 4, 5, 6, 7, 8, 9, 10, 11, 12, 13, 14] [15, 16, 17] (by kernel_rfl) (by simp only [List.filterMap_cons, List.filterMap_nil, List.getElem?_cons_zero, List.getElem?_cons_succ]; rfl) ?_
      simp (disch := omega) only [VW, VY, VZ, VA, VB, VC, VE, TY, ↓reduceIte, Nat.reduceEqDiff, Nat.reduceAdd, Nat.reduceMul, Nat.reduceSub, Nat.reduceLeDiff, List.length_cons, List.length_nil, List.length_append, List.append_assoc, List.take_succ_cons, List.take_zero, List.drop_succ_cons, List.drop_zero, List.set_cons_zero, List.set_cons_succ, true_or, or_true, and_self, Bool.false_eq_true, Nat.le_refl, Option.bind_some, Option.map_some, Option.getD_some, Option.isSome_some, List.map_cons, List.map_nil, List.cons_append, List.nil_append, List.append_nil, List.getElem?_cons_zero, List.getElem?_cons_succ, eq_self, Int.reduceLT, Int.reduceLE, Int.reduceNeg, Int.reduceEq, e0, e9, ix, cx3, cy3, k0, k1, k2, k3, k4]
      refine tail_one (i := 15) (pl := [16]) (r := [17]) [] (by kernel_rfl) (by kernel_rfl) (by kernel_rfl) (by simp only [List.filterMap_cons, List.filterMap_nil, List.getElem?_cons_zero, List.getElem?_cons_succ]; rfl) (by rfl) (by simp only [heldCut, List.filter_cons, List.filter_nil, List.contains_cons, List.contains_nil, Nat.reduceBEq, Bool.or_false, Bool.or_true, reduceIte, Bool.false_eq_true]; rfl) ?_
      simp (disch := omega) only [VW, VY, VZ, VA, VB, VC, VE, TY, ↓reduceIte, Nat.reduceEqDiff, Nat.reduceAdd, Nat.reduceMul, Nat.reduceSub, Nat.reduceLeDiff, List.length_cons, List.length_nil, List.length_append, List.append_assoc, List.take_succ_cons, List.take_zero, List.drop_succ_cons, List.drop_zero, List.set_cons_zero, List.set_cons_succ, true_or, or_true, and_self, Bool.false_eq_true, Nat.le_refl, Option.bind_some, Option.map_some, Option.getD_some, Option.isSome_some, List.map_cons, List.map_nil, List.cons_append, List.nil_append, List.append_nil, List.getElem?_cons_zero, List.getElem?_cons_succ, eq_self, Int.reduceLT, Int.reduceLE, Int.reduceNeg, Int.reduceEq, e0, e9, ix, cx3, cy3, k0, k1, k2, k3, k4]
      have hj9 : j + 1 = j + 1 := rfl
      rw [← hyc]
      refine St.swap2 st3 hj hj2 fun h4 s4 => ?_
      simp (disch := omega) only [VW, VY, VZ, VA, VB, VC, VE, TY, ↓reduceIte, Nat.reduceEqDiff, Nat.reduceAdd, Nat.reduceMul, Nat.reduceSub, Nat.reduceLeDiff, List.length_cons, List.length_nil, List.length_append, List.append_assoc, List.take_succ_cons, List.take_zero, List.drop_succ_cons, List.drop_zero, List.set_cons_zero, List.set_cons_succ, true_or, or_true, and_self, Bool.false_eq_true, Nat.le_refl, Option.bind_some, Option.map_some, Option.getD_some, Option.isSome_some, List.map_cons, List.map_nil, List.cons_append, List.nil_append, List.append_nil, List.getElem?_cons_zero, List.getElem?_cons_succ, eq_self, Int.reduceLT, Int.reduceLE, Int.reduceNeg, Int.reduceEq, e0, e9, ix, k0, k1, k2, k3, k4]
      refine tail_step [(17, [], [], true)] (by kernel_rfl) (by kernel_rfl) (a_cut (by simp only [List.filterMap_cons, List.filterMap_nil, List.getElem?_cons_zero, List.getElem?_cons_succ]; rfl) (by kernel_rfl) ?_ trivial)
      simp (disch := omega) only [VW, VY, VZ, VA, VB, VC, VE, TY, ↓reduceIte, Nat.reduceEqDiff, Nat.reduceAdd, Nat.reduceMul, Nat.reduceSub, Nat.reduceLeDiff, List.length_cons, List.length_nil, List.length_append, List.append_assoc, List.take_succ_cons, List.take_zero, List.drop_succ_cons, List.drop_zero, List.set_cons_zero, List.set_cons_succ, true_or, or_true, and_self, Bool.false_eq_true, Nat.le_refl, Option.bind_some, Option.map_some, Option.getD_some, Option.isSome_some, List.map_cons, List.map_nil, List.cons_append, List.nil_append, List.append_nil, List.getElem?_cons_zero, List.getElem?_cons_succ, eq_self, Int.reduceLT, Int.reduceLE, Int.reduceNeg, Int.reduceEq, e0, e9, ix, k0, k1, k2, k3, k4]
      rw [← hxc]
      refine St.swap22 s4 hj hj2 fun h5 st5 => ?_
      have hxy : leP x y := (bcmp_le hgx hgy).1.1 (by omega)
      simp (disch := omega) only [VW, VY, VZ, VA, VB, VC, VE, TY, ↓reduceIte, Nat.reduceEqDiff, Nat.reduceAdd, Nat.reduceMul, Nat.reduceSub, Nat.reduceLeDiff, List.length_cons, List.length_nil, List.length_append, List.append_assoc, List.take_succ_cons, List.take_zero, List.drop_succ_cons, List.drop_zero, List.set_cons_zero, List.set_cons_succ, true_or, or_true, and_self, Bool.false_eq_true, Nat.le_refl, Option.bind_some, Option.map_some, Option.getD_some, Option.isSome_some, List.map_cons, List.map_nil, List.cons_append, List.nil_append, List.append_nil, List.getElem?_cons_zero, List.getElem?_cons_succ, eq_self, Int.reduceLT, Int.reduceLE, Int.reduceNeg, Int.reduceEq, e0, e1, e2, e3, e8, e9, k0]
      refine ⟨S0.length, by simp, S0, y :: S2, by congr 1; simp; try omega, by congr 1; omega, by simp, ?_, rfl, st5.as (by simp)⟩
      intro z hz
      rcases List.mem_cons.1 hz with rfl | hz
      · exact hxy
      · exact hx2 z hz
    · obtain ⟨f1, f2⟩ := fin (.inr ⟨S0, y, rfl, hb.1 hlt⟩) (st.as (by simp)) E3
      simp (disch := omega) only [VW, VY, VZ, VA, VB, VC, VE, TY, ↓reduceIte, Nat.reduceEqDiff, Nat.reduceAdd, Nat.reduceMul, Nat.reduceSub, Nat.reduceLeDiff, List.length_cons, List.length_nil, List.length_append, List.append_assoc, List.take_succ_cons, List.take_zero, List.drop_succ_cons, List.drop_zero, List.set_cons_zero, List.set_cons_succ, true_or, or_true, and_self, Bool.false_eq_true, Nat.le_refl, Option.bind_some, Option.map_some, Option.getD_some, Option.isSome_some, List.map_cons, List.map_nil, List.cons_append, List.nil_append, List.append_nil, List.getElem?_cons_zero, List.getElem?_cons_succ, eq_self, Int.reduceLT, Int.reduceLE, Int.reduceNeg, Int.reduceEq, cx3, cy3, hlt, e0, e1, e2, e3, e8, wrap_in]
      refine ⟨_, by simp, (S0 ++ [y]) ++ x :: S2, R, by simp; omega, by simpa using pn, f2, rfl, f1⟩
end Go.Proofs
