/- Contracts of functions, facts of types, or the plain law behind one statement (own work): ZJ. Conditions: those told in each theorem. -/
import Derived.Test.YtiiolloielppeaaZI
set_option linter.all false
set_option linter.unusedSimpArgs false
set_option linter.unusedVariables false
set_option maxRecDepth 4000
namespace Go.Proofs
open Go Go.V
theorem merge_step {n : Nat} (ih : MergeOk n) {s : Nat} {A X Y B : List El} {v : Value} {a h : Heap} {L : List Asr} {Q : Value → Heap → Prop} {ia im ib : Int} (hn : X.length + Y.length ≤ n + 1) (st : St a h (A ++ (X ++ (Y ++ B))) v L) (gX : ∀ p ∈ X, Gd s p.1) (gY : ∀ p ∈ Y, Gd s p.1) (hlen : (A ++ (X ++ (Y ++ B))).length ≤ 1000) (hX : 0 < X.length) (hY : 0 < Y.length) (sX : X.Pairwise leP) (sY : Y.Pairwise leP)
    (hia : ia = (A.length : Int)) (him : im = (A.length : Int) + (X.length : Int)) (hib : ib = (A.length : Int) + (X.length : Int) + (Y.length : Int))
    (hQ : ∀ (Z : List El) h', Z.Perm (X ++ Y) → Z.Pairwise leP → St a h' (A ++ (Z ++ B)) v L → Q (.tuple #[]) h') :
    CallsV Try.prog 135 [v, .int .i64 ia, .int .i64 im, .int .i64 ib, .func (.func 108) #[] #[]] h Q := by
  by_cases c1 : X.length = 1
  · obtain ⟨x, rfl⟩ := List.length_eq_one_iff.1 c1
    exact merge_one st (gX x (by simp)) gY hlen sY hia him hib hQ
  · by_cases c2 : Y.length = 1
    · obtain ⟨y, rfl⟩ := List.length_eq_one_iff.1 c2
      exact merge_last st (gY y (by simp)) gX hlen c1 sX hia him hib hQ
    · exact merge_gen ih hn st gX gY hlen (by omega) (by omega) sX sY hia him hib hQ
theorem merge_all (n : Nat) : MergeOk n := by
  induction n with
  | zero => exact fun hn _ _ _ _ hX _ => absurd hX (by omega)
  | succ n ih => exact fun hn st gX gY hlen hX hY sX sY hia him hib hQ => merge_step ih hn st gX gY hlen hX hY sX sY hia him hib hQ
theorem stable_c {s : Nat} {z : List El} {v : Value} {a h : Heap} {L : List Asr} {Q : Value → Heap → Prop} {n : Int} (st : St a h z v L) (hg : ∀ p ∈ z, Gd s p.1) (hl : z.length ≤ 40) (hn : n = (z.length : Int))
    (hQ : ∀ (Z : List El) h', Z.Perm z → Z.Pairwise leP → St a h' Z v L → Q (.tuple #[]) h') :
    CallsV Try.prog 124 [v, .int .i64 n, .func (.func 108) #[] #[]] h Q := by
  refine CallsV.start Try.func124 rfl (by rw [Try.results124]) (by kernel_rfl) (by rw [Try.ntmps124]; simp) ?_
  obtain ⟨U, V, hz, hU, hV⟩ : ∃ U V : List El, z = U ++ V ∧ (U.length = 20 ∨ V = [] ∧ U.length < 20) ∧ V.length ≤ 20 := by
    by_cases c : z.length < 20
    · exact ⟨z, [], by simp, .inr ⟨rfl, c⟩, by simp⟩
    · exact ⟨z.take 20, z.drop 20, (List.take_append_drop _ _).symm, .inl (by rw [List.length_take]; omega), by rw [List.length_drop]; omega⟩
  subst hz
  rw [List.length_append] at hn hl
  have gU : ∀ p ∈ U, Gd s p.1 := fun p hp => hg p (by simp [hp])
  have gV : ∀ p ∈ V, Gd s p.1 := fun p hp => hg p (by simp [hp])
  simp (disch := omega) only [VW, VY, VZ, VA, VB, VC, VE, TY, ↓reduceIte, Nat.reduceEqDiff, Nat.reduceAdd, Nat.reduceMul, Nat.reduceSub, Nat.reduceLeDiff, List.length_cons, List.length_nil, List.length_append, List.append_assoc, List.take_succ_cons, List.take_zero, List.drop_succ_cons, List.drop_zero, List.set_cons_zero, List.set_cons_succ, true_or, or_true, and_self, Bool.false_eq_true, Nat.le_refl, Option.bind_some, Option.map_some, Option.getD_some, Option.isSome_some, List.map_cons, List.map_nil, List.cons_append, List.nil_append, List.append_nil, List.getElem?_cons_zero, List.getElem?_cons_succ, eq_self, Int.reduceLT, Int.reduceLE, Int.reduceNeg, Int.reduceEq]
  refine loop_rule (fun m e h' => ∃ (k : Nat) (U' V' : List El), e 0 = v ∧ e 1 = .int .i64 n ∧ e 2 = .func (.func 108) #[] #[] ∧ e 6 = .int .i64 20 ∧ e 7 = .int .i64 ((20 * k : Nat) : Int) ∧ e 8 = .int .i64 ((20 * k + 20 : Nat) : Int) ∧ 20 * k ≤ U.length + V.length ∧ m = 2 - k ∧ U'.Perm U ∧ V'.Perm V ∧ (1 ≤ k → U'.Pairwise leP) ∧ (2 ≤ k → V'.Pairwise leP) ∧ St a h' (U' ++ V') v L) ?_ 2 _ _
    ⟨0, U, V, rfl, rfl, rfl, rfl, rfl, rfl, by omega, rfl, .refl _, .refl _, by omega, by omega, st⟩
  rintro m e h1 ⟨k, U', V', e0, e1, e2, e6, e7, e8, hk, rfl, pU, pV, sU, sV, st⟩
  have lU := pU.length_eq
  have lV := pV.length_eq
  have gU' : ∀ p ∈ U', Gd s p.1 := fun p hp => gU p (pU.mem_iff.1 hp)
  have gV' : ∀ p ∈ V', Gd s p.1 := fun p hp => gV p (pV.mem_iff.1 hp)
  have w0 : IntKind.i64.wrap (((20 * k + 20 : Nat) : Int) + 20) = ((20 * (k + 1) + 20 : Nat) : Int) := by rw [wrap_in _ (by omega)]; omega
  have hk2 : k ≤ 2 := by omega
  by_cases c : 20 * k + 20 ≤ U.length + V.length
  · have c1 : ((20 * k + 20 : Nat) : Int) ≤ n := by rw [hn]; omega
    have lU20 : U.length = 20 := by
      rcases hU with h0 | ⟨h0, h1⟩
      · exact h0
      · rw [h0] at c; simp at c; omega
    simp (disch := omega) only [VW, VY, VZ, VA, VB, VC, VE, TY, ↓reduceIte, Nat.reduceEqDiff, Nat.reduceAdd, Nat.reduceMul, Nat.reduceSub, Nat.reduceLeDiff, List.length_cons, List.length_nil, List.length_append, List.append_assoc, List.take_succ_cons, List.take_zero, List.drop_succ_cons, List.drop_zero, List.set_cons_zero, List.set_cons_succ, true_or, or_true, and_self, Bool.false_eq_true, Nat.le_refl, Option.bind_some, Option.map_some, Option.getD_some, Option.isSome_some, List.map_cons, List.map_nil, List.cons_append, List.nil_append, List.append_nil, List.getElem?_cons_zero, List.getElem?_cons_succ, eq_self, Int.reduceLT, Int.reduceLE, Int.reduceNeg, Int.reduceEq, e0, e1, e2, e7, e8, c1]
    match k, hk2, c with
    | 0, _, c =>
      refine .inl ⟨by kernel_rfl, ?_⟩; refine insertion_c (A := []) (B := U') (C := V') st gU' (by simp; omega) rfl (by simp; omega) fun U2 h2 p2 s2 st => ?_
      simp (disch := omega) only [VW, VY, VZ, VA, VB, VC, VE, TY, ↓reduceIte, Nat.reduceEqDiff, Nat.reduceAdd, Nat.reduceMul, Nat.reduceSub, Nat.reduceLeDiff, List.length_cons, List.length_nil, List.length_append, List.append_assoc, List.take_succ_cons, List.take_zero, List.drop_succ_cons, List.drop_zero, List.set_cons_zero, List.set_cons_succ, true_or, or_true, and_self, Bool.false_eq_true, Nat.le_refl, Option.bind_some, Option.map_some, Option.getD_some, Option.isSome_some, List.map_cons, List.map_nil, List.cons_append, List.nil_append, List.append_nil, List.getElem?_cons_zero, List.getElem?_cons_succ, eq_self, Int.reduceLT, Int.reduceLE, Int.reduceNeg, Int.reduceEq, e0, e1, e2, e6, e8, w0]
      exact ⟨1, by omega, 1, U2, V', by rfl, by rfl, by omega, rfl, p2.trans pU, pV, fun _ => s2, by omega, st⟩
    | 1, _, c =>
      refine .inl ⟨by kernel_rfl, ?_⟩; refine insertion_c (A := U') (B := V') (C := []) (st.as (by simp)) gV' (by simp; omega) (by omega) (by omega) fun V2 h2 p2 s2 st => ?_
      simp (disch := omega) only [VW, VY, VZ, VA, VB, VC, VE, TY, ↓reduceIte, Nat.reduceEqDiff, Nat.reduceAdd, Nat.reduceMul, Nat.reduceSub, Nat.reduceLeDiff, List.length_cons, List.length_nil, List.length_append, List.append_assoc, List.take_succ_cons, List.take_zero, List.drop_succ_cons, List.drop_zero, List.set_cons_zero, List.set_cons_succ, true_or, or_true, and_self, Bool.false_eq_true, Nat.le_refl, Option.bind_some, Option.map_some, Option.getD_some, Option.isSome_some, List.map_cons, List.map_nil, List.cons_append, List.nil_append, List.append_nil, List.getElem?_cons_zero, List.getElem?_cons_succ, eq_self, Int.reduceLT, Int.reduceLE, Int.reduceNeg, Int.reduceEq, e0, e1, e2, e6, e8, w0]
      exact ⟨0, by omega, 2, U', V2, by rfl, by rfl, by omega, rfl, pU, p2.trans pV, fun _ => sU (by omega), fun _ => s2, st.as (by simp)⟩
    | 2, _, c => omega
    | k + 3, hk2, _ => omega
  · have c1 : ¬ ((20 * k + 20 : Nat) : Int) ≤ n := by rw [hn]; omega
    simp (disch := omega) only [VW, VY, VZ, VA, VB, VC, VE, TY, ↓reduceIte, Nat.reduceEqDiff, Nat.reduceAdd, Nat.reduceMul, Nat.reduceSub, Nat.reduceLeDiff, List.length_cons, List.length_nil, List.length_append, List.append_assoc, List.take_succ_cons, List.take_zero, List.drop_succ_cons, List.drop_zero, List.set_cons_zero, List.set_cons_succ, true_or, or_true, and_self, Bool.false_eq_true, Nat.le_refl, Option.bind_some, Option.map_some, Option.getD_some, Option.isSome_some, List.map_cons, List.map_nil, List.cons_append, List.nil_append, List.append_nil, List.getElem?_cons_zero, List.getElem?_cons_succ, eq_self, Int.reduceLT, Int.reduceLE, Int.reduceNeg, Int.reduceEq, e0, e1, e2, e7, e8, c1]
    -- the last block
    obtain ⟨A, B, C, hABC, hA, hB, gB, hend⟩ : ∃ A B C : List El, U' ++ V' = A ++ (B ++ C) ∧ A.length = 20 * k ∧ A.length + B.length = U.length + V.length ∧ (∀ p ∈ B, Gd s p.1) ∧ (∀ B2 : List El, B2.Perm B → B2.Pairwise leP → ∃ U2 V2 : List El, A ++ (B2 ++ C) = U2 ++ V2 ∧ U2.Perm U ∧ V2.Perm V ∧ U2.Pairwise leP ∧ V2.Pairwise leP) := by
      match k, hk2, c, hk, sU, sV with
      | 0, _, c, hk, sU, sV =>
        have : V = [] := by
          rcases hU with h0 | h0
          · omega
          · exact h0.1
        subst this
        have : V' = [] := by simpa using lV
        subst this
        exact ⟨[], U', [], by simp, rfl, by simp; omega, gU', fun B2 p2 s2 => ⟨B2, [], by simp, p2.trans pU, .nil, s2, .nil⟩⟩
      | 1, _, c, hk, sU, sV =>
        have : U.length = 20 := by
          rcases hU with h0 | h0
          · exact h0
          · rw [h0.1] at hk; simp at hk; omega
        exact ⟨U', V', [], by simp, by omega, by omega, gV', fun B2 p2 s2 => ⟨U', B2, by simp, pU, p2.trans pV, sU (by omega), s2⟩⟩
      | 2, _, c, hk, sU, sV =>
        exact ⟨U' ++ V', [], [], by simp, by rw [List.length_append]; omega, by rw [List.length_append]; simp; omega, by simp, fun B2 p2 s2 => ⟨U', V', by rw [List.perm_nil.1 p2]; simp, pU, pV, sU (by omega), sV (by omega)⟩⟩
      | k + 3, hk2, _, _, _, _ => omega
    have hlA : (A ++ (B ++ C)).length ≤ 1000 := by rw [← hABC, List.length_append]; omega
    refine .inl ⟨by kernel_rfl, ?_⟩; refine insertion_c (A := A) (B := B) (C := C) (st.as hABC) gB hlA (by omega) (by rw [hn]; omega) fun B2 h2 p2 s2 st => ?_
    obtain ⟨U2, V2, he, pU2, pV2, sU2, sV2⟩ := hend B2 p2 s2
    have st := st.as he
    have lU2 := pU2.length_eq
    have lV2 := pV2.length_eq
    have gU2 : ∀ p ∈ U2, Gd s p.1 := fun p hp => gU p (pU2.mem_iff.1 hp)
    have gV2 : ∀ p ∈ V2, Gd s p.1 := fun p hp => gV p (pV2.mem_iff.1 hp)
    clear hend he hABC gB hB hA p2 s2 sU sV pU pV gU' gV' lU lV hk hk2 c1 c w0 e7 e8
    simp (disch := omega) only [VW, VY, VZ, VA, VB, VC, VE, TY, ↓reduceIte, Nat.reduceEqDiff, Nat.reduceAdd, Nat.reduceMul, Nat.reduceSub, Nat.reduceLeDiff, List.length_cons, List.length_nil, List.length_append, List.append_assoc, List.take_succ_cons, List.take_zero, List.drop_succ_cons, List.drop_zero, List.set_cons_zero, List.set_cons_succ, true_or, or_true, and_self, Bool.false_eq_true, Nat.le_refl, Option.bind_some, Option.map_some, Option.getD_some, Option.isSome_some, List.map_cons, List.map_nil, List.cons_append, List.nil_append, List.append_nil, List.getElem?_cons_zero, List.getElem?_cons_succ, eq_self, Int.reduceLT, Int.reduceLE, Int.reduceNeg, Int.reduceEq, e0, e1, e2, e6]
    have key : ∀ Z : List El, Z.Perm (U2 ++ V2) → Z.Perm (U ++ V) := fun Z pZ => pZ.trans (pU2.append pV2)
    refine loop_rule (fun m e h' => e 0 = v ∧ e 1 = .int .i64 n ∧ e 2 = .func (.func 108) #[] #[] ∧ ((m = 1 ∧ e 6 = .int .i64 20 ∧ St a h' (U2 ++ V2) v L) ∨ ∃ Z : List El, m = 0 ∧ e 6 = .int .i64 40 ∧ Z.Perm (U2 ++ V2) ∧ Z.Pairwise leP ∧ St a h' Z v L)) ?_ 1 _ _
      ⟨e0, e1, e2, .inl ⟨rfl, e6, st⟩⟩
    clear e0 e1 e2 e6 st
    rintro m e h3 ⟨e0, e1, e2, ⟨rfl, e6, st⟩ | ⟨Z, rfl, e6, pZ, sZ, st⟩⟩
    · by_cases c : 20 < U.length + V.length
      · have c1 : (20 : Int) < n := by rw [hn]; omega
        have lU20 : U.length = 20 := by
          rcases hU with h0 | ⟨h0, h1⟩
          · exact h0
          · rw [h0] at c; simp at c; omega
        have w1 : IntKind.i64.wrap (2 * 20) = 40 := by decide
        have w2 : IntKind.i64.wrap (0 + 20) = 20 := by decide
        have w3 : IntKind.i64.wrap (40 + 40) = 80 := by decide
        have w4 : IntKind.i64.wrap (40 + 20) = 60 := by decide
        have w5 : IntKind.i64.wrap (20 * 2) = 40 := by decide
        have hlen : ([] ++ (U2 ++ (V2 ++ []))).length ≤ 1000 := by simp; omega
        simp (disch := omega) only [VW, VY, VZ, VA, VB, VC, VE, TY, ↓reduceIte, Nat.reduceEqDiff, Nat.reduceAdd, Nat.reduceMul, Nat.reduceSub, Nat.reduceLeDiff, List.length_cons, List.length_nil, List.length_append, List.append_assoc, List.take_succ_cons, List.take_zero, List.drop_succ_cons, List.drop_zero, List.set_cons_zero, List.set_cons_succ, true_or, or_true, and_self, Bool.false_eq_true, Nat.le_refl, Option.bind_some, Option.map_some, Option.getD_some, Option.isSome_some, List.map_cons, List.map_nil, List.cons_append, List.nil_append, List.append_nil, List.getElem?_cons_zero, List.getElem?_cons_succ, eq_self, Int.reduceLT, Int.reduceLE, Int.reduceNeg, Int.reduceEq, e1, e6, c1, w1]
        refine loop_rule (fun m e h' => e 0 = v ∧ e 1 = .int .i64 n ∧ e 2 = .func (.func 108) #[] #[] ∧ e 6 = .int .i64 20 ∧ ((m = 1 ∧ e 7 = .int .i64 0 ∧ e 8 = .int .i64 40 ∧ St a h' (U2 ++ V2) v L) ∨ ∃ Z : List El, m = 0 ∧ n = 40 ∧ e 7 = .int .i64 40 ∧ e 8 = .int .i64 80 ∧ Z.Perm (U2 ++ V2) ∧ Z.Pairwise leP ∧ St a h' Z v L)) ?_ 1 _ _
          ⟨e0, e1, e2, e6, .inl ⟨rfl, rfl, rfl, st⟩⟩
        clear e0 e1 e2 e6 st
        rintro m e h4 ⟨e0, e1, e2, e6, ⟨rfl, e7, e8, st⟩ | ⟨Z, rfl, hn40, e7, e8, pZ, sZ, st⟩⟩
        · by_cases c2 : (40 : Int) ≤ n
          · simp (disch := omega) only [VW, VY, VZ, VA, VB, VC, VE, TY, ↓reduceIte, Nat.reduceEqDiff, Nat.reduceAdd, Nat.reduceMul, Nat.reduceSub, Nat.reduceLeDiff, List.length_cons, List.length_nil, List.length_append, List.append_assoc, List.take_succ_cons, List.take_zero, List.drop_succ_cons, List.drop_zero, List.set_cons_zero, List.set_cons_succ, true_or, or_true, and_self, Bool.false_eq_true, Nat.le_refl, Option.bind_some, Option.map_some, Option.getD_some, Option.isSome_some, List.map_cons, List.map_nil, List.cons_append, List.nil_append, List.append_nil, List.getElem?_cons_zero, List.getElem?_cons_succ, eq_self, Int.reduceLT, Int.reduceLE, Int.reduceNeg, Int.reduceEq, e0, e1, e2, e6, e7, e8, c2, w1, w2]
            refine .inl ⟨by kernel_rfl, ?_⟩; refine merge_all (U2.length + V2.length) (A := []) (X := U2) (Y := V2) (B := []) (Nat.le_refl _) (st.as (by simp)) gU2 gV2 hlen (by omega) (by omega) sU2 sV2 rfl (by simp; omega) (by simp; omega) fun Z h5 pZ sZ st => ?_
            simp (disch := omega) only [VW, VY, VZ, VA, VB, VC, VE, TY, ↓reduceIte, Nat.reduceEqDiff, Nat.reduceAdd, Nat.reduceMul, Nat.reduceSub, Nat.reduceLeDiff, List.length_cons, List.length_nil, List.length_append, List.append_assoc, List.take_succ_cons, List.take_zero, List.drop_succ_cons, List.drop_zero, List.set_cons_zero, List.set_cons_succ, true_or, or_true, and_self, Bool.false_eq_true, Nat.le_refl, Option.bind_some, Option.map_some, Option.getD_some, Option.isSome_some, List.map_cons, List.map_nil, List.cons_append, List.nil_append, List.append_nil, List.getElem?_cons_zero, List.getElem?_cons_succ, eq_self, Int.reduceLT, Int.reduceLE, Int.reduceNeg, Int.reduceEq, e0, e1, e2, e6, e8, w1, w3]
            exact ⟨0, by omega, .inr ⟨Z, rfl, by omega, pZ, sZ, st.as (by simp)⟩⟩
          · simp (disch := omega) only [VW, VY, VZ, VA, VB, VC, VE, TY, ↓reduceIte, Nat.reduceEqDiff, Nat.reduceAdd, Nat.reduceMul, Nat.reduceSub, Nat.reduceLeDiff, List.length_cons, List.length_nil, List.length_append, List.append_assoc, List.take_succ_cons, List.take_zero, List.drop_succ_cons, List.drop_zero, List.set_cons_zero, List.set_cons_succ, true_or, or_true, and_self, Bool.false_eq_true, Nat.le_refl, Option.bind_some, Option.map_some, Option.getD_some, Option.isSome_some, List.map_cons, List.map_nil, List.cons_append, List.nil_append, List.append_nil, List.getElem?_cons_zero, List.getElem?_cons_succ, eq_self, Int.reduceLT, Int.reduceLE, Int.reduceNeg, Int.reduceEq, e0, e1, e2, e6, e7, e8, c1, c2, w2]
            refine .inl ⟨by kernel_rfl, ?_⟩; refine merge_all (U2.length + V2.length) (A := []) (X := U2) (Y := V2) (B := []) (Nat.le_refl _) (st.as (by simp)) gU2 gV2 hlen (by omega) (by omega) sU2 sV2 rfl (by simp; omega) (by simp; omega) fun Z h5 pZ sZ st => ?_
            simp (disch := omega) only [VW, VY, VZ, VA, VB, VC, VE, TY, ↓reduceIte, Nat.reduceEqDiff, Nat.reduceAdd, Nat.reduceMul, Nat.reduceSub, Nat.reduceLeDiff, List.length_cons, List.length_nil, List.length_append, List.append_assoc, List.take_succ_cons, List.take_zero, List.drop_succ_cons, List.drop_zero, List.set_cons_zero, List.set_cons_succ, true_or, or_true, and_self, Bool.false_eq_true, Nat.le_refl, Option.bind_some, Option.map_some, Option.getD_some, Option.isSome_some, List.map_cons, List.map_nil, List.cons_append, List.nil_append, List.append_nil, List.getElem?_cons_zero, List.getElem?_cons_succ, eq_self, Int.reduceLT, Int.reduceLE, Int.reduceNeg, Int.reduceEq, e0, e1, e2, e6, w5]
            exact ⟨0, by omega, .inr ⟨Z, rfl, pZ, sZ, st.as (by simp)⟩⟩
        · subst hn40
          have c2 : ¬ (80 : Int) ≤ 40 := by decide
          have c3 : ¬ (60 : Int) < 40 := by decide
          simp (disch := omega) only [VW, VY, VZ, VA, VB, VC, VE, TY, ↓reduceIte, Nat.reduceEqDiff, Nat.reduceAdd, Nat.reduceMul, Nat.reduceSub, Nat.reduceLeDiff, List.length_cons, List.length_nil, List.length_append, List.append_assoc, List.take_succ_cons, List.take_zero, List.drop_succ_cons, List.drop_zero, List.set_cons_zero, List.set_cons_succ, true_or, or_true, and_self, Bool.false_eq_true, Nat.le_refl, Option.bind_some, Option.map_some, Option.getD_some, Option.isSome_some, List.map_cons, List.map_nil, List.cons_append, List.nil_append, List.append_nil, List.getElem?_cons_zero, List.getElem?_cons_succ, eq_self, Int.reduceLT, Int.reduceLE, Int.reduceNeg, Int.reduceEq, e0, e1, e2, e6, e7, e8, c2, c3, w4, w5]
          exact ⟨0, by omega, .inr ⟨Z, rfl, pZ, sZ, st⟩⟩
      · have c1 : ¬ (20 : Int) < n := by rw [hn]; omega
        have hv : V2 = [] := by
          apply List.eq_nil_of_length_eq_zero
          rcases hU with h0 | h0
          · omega
          · rw [h0.1] at lV2; simpa using lV2
        subst hv
        simp (disch := omega) only [VW, VY, VZ, VA, VB, VC, VE, TY, ↓reduceIte, Nat.reduceEqDiff, Nat.reduceAdd, Nat.reduceMul, Nat.reduceSub, Nat.reduceLeDiff, List.length_cons, List.length_nil, List.length_append, List.append_assoc, List.take_succ_cons, List.take_zero, List.drop_succ_cons, List.drop_zero, List.set_cons_zero, List.set_cons_succ, true_or, or_true, and_self, Bool.false_eq_true, Nat.le_refl, Option.bind_some, Option.map_some, Option.getD_some, Option.isSome_some, List.map_cons, List.map_nil, List.cons_append, List.nil_append, List.append_nil, List.getElem?_cons_zero, List.getElem?_cons_succ, eq_self, Int.reduceLT, Int.reduceLE, Int.reduceNeg, Int.reduceEq, e1, e6, c1]
        exact hQ _ _ (key _ (.refl _)) (by simpa using sU2) st
    · have c1 : ¬ (40 : Int) < n := by rw [hn]; omega
      simp (disch := omega) only [VW, VY, VZ, VA, VB, VC, VE, TY, ↓reduceIte, Nat.reduceEqDiff, Nat.reduceAdd, Nat.reduceMul, Nat.reduceSub, Nat.reduceLeDiff, List.length_cons, List.length_nil, List.length_append, List.append_assoc, List.take_succ_cons, List.take_zero, List.drop_succ_cons, List.drop_zero, List.set_cons_zero, List.set_cons_succ, true_or, or_true, and_self, Bool.false_eq_true, Nat.le_refl, Option.bind_some, Option.map_some, Option.getD_some, Option.isSome_some, List.map_cons, List.map_nil, List.cons_append, List.nil_append, List.append_nil, List.getElem?_cons_zero, List.getElem?_cons_succ, eq_self, Int.reduceLT, Int.reduceLE, Int.reduceNeg, Int.reduceEq, e1, e6, c1]
      exact hQ _ _ (key _ pZ) sZ st
theorem sortStable_c {s : Nat} {z : List El} {v : Value} {a h : Heap} {L : List Asr} {Q : Value → Heap → Prop} (st : St a h z v L) (hg : ∀ p ∈ z, Gd s p.1) (hl : z.length ≤ 40)
    (hQ : ∀ (Z : List El) h', Z.Perm z → Z.Pairwise leP → St a h' Z v L → Q (.tuple #[]) h') :
    CallsV Try.prog 107 [v, .func (.func 108) #[] #[]] h Q := by
  refine CallsV.start Try.func107 rfl (by rw [Try.results107]) (by kernel_rfl) (by rw [Try.ntmps107]; simp) ?_
  simp (disch := omega) only [VW, VY, VZ, VA, VB, VC, VE, TY, ↓reduceIte, Nat.reduceEqDiff, Nat.reduceAdd, Nat.reduceMul, Nat.reduceSub, Nat.reduceLeDiff, List.length_cons, List.length_nil, List.length_append, List.append_assoc, List.take_succ_cons, List.take_zero, List.drop_succ_cons, List.drop_zero, List.set_cons_zero, List.set_cons_succ, true_or, or_true, and_self, Bool.false_eq_true, Nat.le_refl, Option.bind_some, Option.map_some, Option.getD_some, Option.isSome_some, List.map_cons, List.map_nil, List.cons_append, List.nil_append, List.append_nil, List.getElem?_cons_zero, List.getElem?_cons_succ, eq_self, Int.reduceLT, Int.reduceLE, Int.reduceNeg, Int.reduceEq, st.len.len]
  refine .inl ⟨by kernel_rfl, ?_⟩; refine stable_c st hg hl rfl fun Z h' pZ sZ st => ?_
  simp (disch := omega) only [VW, VY, VZ, VA, VB, VC, VE, TY, ↓reduceIte, Nat.reduceEqDiff, Nat.reduceAdd, Nat.reduceMul, Nat.reduceSub, Nat.reduceLeDiff, List.length_cons, List.length_nil, List.length_append, List.append_assoc, List.take_succ_cons, List.take_zero, List.drop_succ_cons, List.drop_zero, List.set_cons_zero, List.set_cons_succ, true_or, or_true, and_self, Bool.false_eq_true, Nat.le_refl, Option.bind_some, Option.map_some, Option.getD_some, Option.isSome_some, List.map_cons, List.map_nil, List.cons_append, List.nil_append, List.append_nil, List.getElem?_cons_zero, List.getElem?_cons_succ, eq_self, Int.reduceLT, Int.reduceLE, Int.reduceNeg, Int.reduceEq]
  exact hQ Z h' pZ sZ st
instance (x y : Bx) : Decidable (leB x y) := by unfold leB; exact inferInstance
/-- Sorted boxes of one dimension: the only sorted order there is. -/
def sortM (l : List Bx) : List Bx := l.mergeSort fun x y => decide (leB x y)
theorem sortM_perm (l : List Bx) : (sortM l).Perm l := List.mergeSort_perm _ _
theorem sortM_sorted (l : List Bx) : (sortM l).Pairwise leB := by
  have := List.pairwise_mergeSort (le := fun x y : Bx => decide (leB x y)) (fun x y z h1 h2 => by simp only [decide_eq_true_eq] at *; exact leB_trans h1 h2) (fun x y => by
    rcases leB_total x y with h | h <;> simp [h]) l
  exact this.imp (by simp)
theorem sortM_of {s : Nat} {l m : List Bx} (hg : ∀ x ∈ l, Gd s x) (hp : m.Perm l) (hs : m.Pairwise leB) : m = sortM l :=
  sorted_unique (s := s) (fun x hx => hg x (hp.mem_iff.1 hx)) (hp.trans (sortM_perm l).symm) hs (sortM_sorted l)
theorem sortBoxes_c {s : Nat} {l : List Bx} {v : Value} {h : Heap} {Q : Value → Heap → Prop} (r : Row h l v) (hg : ∀ x ∈ l, Gd s x) (hl : l.length ≤ 40)
    (hQ : ∀ w h', Sep h h' [ownA 42 (sortM l) w] → Q w h') : CallsV Try.prog 71 [v] h Q := by
  refine CallsV.start Try.func71 rfl (by rw [Try.results71]) (by kernel_rfl) (by rw [Try.ntmps71]; simp) ?_
  simp (disch := omega) only [VW, VY, VZ, VA, VB, VC, VE, TY, ↓reduceIte, Nat.reduceEqDiff, Nat.reduceAdd, Nat.reduceMul, Nat.reduceSub, Nat.reduceLeDiff, List.length_cons, List.length_nil, List.length_append, List.append_assoc, List.take_succ_cons, List.take_zero, List.drop_succ_cons, List.drop_zero, List.set_cons_zero, List.set_cons_succ, true_or, or_true, and_self, Bool.false_eq_true, Nat.le_refl, Option.bind_some, Option.map_some, Option.getD_some, Option.isSome_some, List.map_cons, List.map_nil, List.cons_append, List.nil_append, List.append_nil, List.getElem?_cons_zero, List.getElem?_cons_succ, eq_self, Int.reduceLT, Int.reduceLE, Int.reduceNeg, Int.reduceEq]
  refine .inl ⟨by kernel_rfl, ?_⟩; refine copyBoxes_c r (by omega) (fun x hx => by
    obtain ⟨_, _, h3, h4, _⟩ := box_k (hg x hx).1
    omega) fun w h1 s1 => ?_
  obtain ⟨z, rfl, st⟩ := Sep.parts s1
  simp (disch := omega) only [VW, VY, VZ, VA, VB, VC, VE, TY, ↓reduceIte, Nat.reduceEqDiff, Nat.reduceAdd, Nat.reduceMul, Nat.reduceSub, Nat.reduceLeDiff, List.length_cons, List.length_nil, List.length_append, List.append_assoc, List.take_succ_cons, List.take_zero, List.drop_succ_cons, List.drop_zero, List.set_cons_zero, List.set_cons_succ, true_or, or_true, and_self, Bool.false_eq_true, Nat.le_refl, Option.bind_some, Option.map_some, Option.getD_some, Option.isSome_some, List.map_cons, List.map_nil, List.cons_append, List.nil_append, List.append_nil, List.getElem?_cons_zero, List.getElem?_cons_succ, eq_self, Int.reduceLT, Int.reduceLE, Int.reduceNeg, Int.reduceEq]
  refine .inl ⟨by kernel_rfl, ?_⟩; refine sortStable_c (s := s) st (fun p hp => hg p.1 (List.mem_map.2 ⟨p, hp, rfl⟩)) (by simpa using hl) fun Z h2 pZ sZ st => ?_
  have pl := st.len.plain
  simp (disch := omega) only [VW, VY, VZ, VA, VB, VC, VE, TY, ↓reduceIte, Nat.reduceEqDiff, Nat.reduceAdd, Nat.reduceMul, Nat.reduceSub, Nat.reduceLeDiff, List.length_cons, List.length_nil, List.length_append, List.append_assoc, List.take_succ_cons, List.take_zero, List.drop_succ_cons, List.drop_zero, List.set_cons_zero, List.set_cons_succ, true_or, or_true, and_self, Bool.false_eq_true, Nat.le_refl, Option.bind_some, Option.map_some, Option.getD_some, Option.isSome_some, List.map_cons, List.map_nil, List.cons_append, List.nil_append, List.append_nil, List.getElem?_cons_zero, List.getElem?_cons_succ, eq_self, Int.reduceLT, Int.reduceLE, Int.reduceNeg, Int.reduceEq, pl]
  have e : bxs Z = sortM (bxs z) := sortM_of hg (pZ.map _) (List.pairwise_map.2 sZ)
  rw [← e] at hQ
  exact hQ _ _ (Sep.whole st)
end Go.Proofs
