/- Contracts of functions, facts of types, or the plain law behind one statement (own work): EO. Conditions: those told in each theorem. -/
import Derived.Test.YtajkecjbdoineaaEN
set_option linter.all false
set_option linter.unusedSimpArgs false
set_option linter.unusedVariables false
set_option maxRecDepth 4000
namespace Go.Proofs
open Go Go.V
open Nat (reduceEqDiff reduceAdd reduceMul reduceSub reduceLeDiff)
open Int (reduceLT reduceLE reduceNeg reduceEq)
theorem sgnI_self {x : Int} (h : -1 ≤ x ∧ x ≤ 1) : sgnI x = x := by unfold sgnI; split; omega; split <;> omega
theorem changes_c {l : List Int} {v : Value} {h : Heap} {Q : Value → Heap → Prop} (r : Row h l v) (hl : ∀ x ∈ l, -1 ≤ x ∧ x ≤ 1) (h20 : l.length ≤ 100) (hQ : Q (.int .i64 ((chgM l).2 : Nat)) h) : CallsV Try.prog 46 [v] h Q := by
  refine CallsV.start Try.func46 rfl (by rw [Try.results46]) (by kernel_rfl) (by rw [Try.ntmps46]; simp) ?_
  simp (disch := omega) only [WA, ↓reduceIte, reduceEqDiff, reduceAdd, reduceMul, reduceSub, reduceLeDiff, reduceLT, reduceLE, reduceNeg, reduceEq, r.isRow.len]
  refine loop_rule (fun m e h' => ∃ (i : Nat), e 4 = .int .i64 (chgM (l.take i)).1 ∧ e 3 = .int .i64 ((chgM (l.take i)).2 : Nat) ∧ e 8 = v ∧ e 9 = .int .i64 l.length ∧ e 10 = .int .i64 i ∧ i ≤ l.length ∧ m = l.length - i ∧ h' = h) ?_ l.length _ _ ⟨0, rfl, rfl, rfl, rfl, rfl, by omega, rfl, rfl⟩
  rintro m e h2 ⟨i, e4, e3, e8, e9, e10, hi, rfl, rfl⟩
  simp (disch := omega) only [WA, ↓reduceIte, reduceEqDiff, reduceAdd, reduceMul, reduceSub, reduceLeDiff, reduceLT, reduceLE, reduceNeg, reduceEq, e9, e10]
  by_cases c : i < l.length
  · have c1 : (i : Int) < (l.length : Int) := by omega
    obtain ⟨x, hx⟩ := get_some c
    have X := (row_int r hx).1
    have hb := hl x (List.mem_of_getElem? hx)
    obtain ⟨b1, b2⟩ := chg_bd hl i hi
    have w1 := wrap9 (x := (i : Int) + 1) (by omega)
    have ht := chg_take hx
    generalize chgM (l.take i) = st at *
    obtain ⟨s1, s2⟩ := st
    simp only at *
    have w2 := wrap9 (x := (s2 : Int) + 1) (by omega)
    have w3 := wrap9 (x := 0 - s1) (by omega)
    simp (disch := omega) only [WA, ↓reduceIte, reduceEqDiff, reduceAdd, reduceMul, reduceSub, reduceLeDiff, reduceLT, reduceLE, reduceNeg, reduceEq, c1, e8, e10, r.isRow.ix, X]
    refine .inl ⟨by kernel_rfl, ?_⟩; refine compareI_c ?_
    rw [sgnI_self hb]
    by_cases z : x = 0
    · have hc : chgF (s1, s2) x = (s1, s2) := by unfold chgF; rw [if_pos z]
      rw [hc] at ht
      simp (disch := omega) only [WA, ↓reduceIte, reduceEqDiff, reduceAdd, reduceMul, reduceSub, reduceLeDiff, reduceLT, reduceLE, reduceNeg, reduceEq, e10, z, w1]
      exact ⟨_, by omega, i + 1, by rw [ht]; exact e4, by rw [ht]; exact e3, e8, e9, by simp, by omega, rfl⟩
    · by_cases z2 : x = 0 - s1
      · have hc : chgF (s1, s2) x = (x, s2 + 1) := by unfold chgF; rw [if_neg z, if_pos ⟨by show s1 ≠ 0; omega, by show x ≠ s1; omega⟩]
        rw [hc] at ht
        have d2 : decide (x = 0 - s1) = true := decide_eq_true z2
        have z' : ¬ (0 - s1 = 0) := by omega
        simp (disch := omega) only [WA, ↓reduceIte, reduceEqDiff, reduceAdd, reduceMul, reduceSub, reduceLeDiff, reduceLT, reduceLE, reduceNeg, reduceEq, e3, e4, e10, z, w3, d2, w1, w2]
        exact ⟨_, by omega, i + 1, by rw [ht], by rw [ht]; rfl, e8, e9, by simp, by omega, rfl⟩
      · have hc : chgF (s1, s2) x = (x, s2) := by unfold chgF; rw [if_neg z, if_neg (by rintro ⟨h1, h2⟩; simp only at h1 h2; omega)]
        rw [hc] at ht
        have d2 : decide (x = 0 - s1) = false := decide_eq_false z2
        simp (disch := omega) only [WA, ↓reduceIte, reduceEqDiff, reduceAdd, reduceMul, reduceSub, reduceLeDiff, reduceLT, reduceLE, reduceNeg, reduceEq, e4, e10, z, w3, d2, w1]
        exact ⟨_, by omega, i + 1, by rw [ht], by rw [ht]; exact e3, e8, e9, by simp, by omega, rfl⟩
  · obtain rfl : i = l.length := by omega
    have c1 : ¬ (l.length : Int) < (l.length : Int) := by omega
    rw [List.take_length] at e3
    simp (disch := omega) only [WA, ↓reduceIte, reduceEqDiff, reduceAdd, reduceMul, reduceSub, reduceLeDiff, reduceLT, reduceLE, reduceNeg, reduceEq, c1, e3]
    exact hQ
theorem far_in {C : List (List Int)} {up : Bool} : ∀ x ∈ C.map (farS up), -1 ≤ x ∧ x ≤ 1 := fun x hx => by obtain ⟨l, _, rfl⟩ := List.mem_map.1 hx; exact farS_in up l
theorem stFar_c {C : List (List Int)} {v : Value} {up : Bool} {h : Heap} {Q : Value → Heap → Prop} (r : Row h C v) (hC : ∀ l ∈ C, Cel l) (h14 : C.length ≤ 14) (hQ : ∀ h', Ext h h' → Q (.int .i64 (farM C up : Nat)) h') : CallsV Try.prog 42 [v, .bool up] h Q := by
  refine CallsV.start Try.func42 rfl (by rw [Try.results42]) (by kernel_rfl) (by rw [Try.ntmps42]; simp) ?_
  simp (disch := omega) only [WA, ↓reduceIte, reduceEqDiff, reduceAdd, reduceMul, reduceSub, reduceLeDiff, reduceLT, reduceLE, reduceNeg, reduceEq, r.isRow.len]
  refine loop_rule (fun m e h' => ∃ (i : Nat) (vo : Value), e 1 = .bool up ∧ e 5 = vo ∧ e 9 = v ∧ e 10 = .int .i64 C.length ∧ e 11 = .int .i64 i ∧ i ≤ C.length ∧ m = C.length - i ∧ Sep h h' [ownA 3 ((C.map (farS up)).take i) vo]) ?_ C.length _ _ ⟨0, _, rfl, rfl, rfl, rfl, rfl, by omega, by omega, (Sep.nil (.refl h)).nilA _⟩
  rintro m e h2 ⟨i, vo, e1, e5, e9, e10, e11, hi, rfl, s⟩
  have r1 := r.mono s.ext
  simp (disch := omega) only [WA, ↓reduceIte, reduceEqDiff, reduceAdd, reduceMul, reduceSub, reduceLeDiff, reduceLT, reduceLE, reduceNeg, reduceEq, e10, e11]
  by_cases c : i < C.length
  · have c1 : (i : Int) < (C.length : Int) := by omega
    obtain ⟨l, hl⟩ := get_some c
    obtain ⟨w, Xw, rw'⟩ := row_list r1 hl
    have cl := hC l (List.mem_of_getElem? hl)
    have ll := List.length_pos_iff.2 cl.ne
    have l9 := cl.sm.len
    have X := (row_int rw' (last_cf (p := l) (by omega))).1
    have k1 : (l.length : Int) - 1 = ((l.length - 1 : Nat) : Int) := by omega
    have q1 : ((l.length - 1 : Nat) : Int) < (l.length : Int) := by omega
    have tm : Int.tmod (l.length : Int) 2 = ((l.length % 2 : Nat) : Int) := by rw [Int.tmod_eq_emod_of_nonneg (by omega)]; norm_cast
    have sb := sgnI_in (cf l (l.length - 1))
    have fb := farS_in up l
    have w0 := wrap9 (x := 0 - sgnI (cf l (l.length - 1))) (by omega)
    have ht : (C.map (farS up)).take (i + 1) = (C.map (farS up)).take i ++ [farS up l] := by
      rw [List.take_add_one, List.getElem?_map, hl]; rfl
    simp (disch := omega) only [WA, ↓reduceIte, reduceEqDiff, reduceAdd, reduceMul, reduceSub, reduceLeDiff, reduceLT, reduceLE, reduceNeg, reduceEq, c1, e9, e11, r1.isRow.ix, Xw, rw'.isRow.len, k1, wrap_in, rw'.isRow.ix, q1, X]
    refine .inl ⟨by kernel_rfl, ?_⟩; refine l1Sign_c ?_
    have w1 := wrap9 (x := (i : Int) + 1) (by omega)
    cases up with
    | true =>
      have hf : sgnI (cf l (l.length - 1)) = farS true l := by unfold farS; rw [if_neg (by simp)]
      simp (disch := omega) only [WA, ↓reduceIte, reduceEqDiff, reduceAdd, reduceMul, reduceSub, reduceLeDiff, reduceLT, reduceLE, reduceNeg, reduceEq, e1, e5, hf]
      have s := (s.rep0 (x := farS true l) (rep_int ⟨by omega, by omega⟩)).swap
      refine sep_append (y := farS true l) s rfl rfl te22 tk3 rfl (by decide) (by simp only [List.length_take]; omega) fun w5 h5 s => ?_
      simp (disch := omega) only [WA, ↓reduceIte, reduceEqDiff, reduceAdd, reduceMul, reduceSub, reduceLeDiff, reduceLT, reduceLE, reduceNeg, reduceEq, e11, w1]
      exact ⟨_, by omega, i + 1, w5, e1, rfl, e9, e10, by simp, by omega, rfl, by rw [ht]; exact s⟩
    | false =>
      simp (disch := omega) only [WA, ↓reduceIte, reduceEqDiff, reduceAdd, reduceMul, reduceSub, reduceLeDiff, reduceLT, reduceLE, reduceNeg, reduceEq, e1, rw'.isRow.len, tm]
      refine cond_join (fun e' h' => e' 1 = .bool false ∧ e' 5 = vo ∧ e' 8 = .int .i64 (farS false l) ∧ e' 9 = v ∧ e' 10 = .int .i64 C.length ∧ e' 11 = .int .i64 i ∧ h2 = h') (fun K' hK' => ?_) ?_
      · by_cases z : l.length % 2 = 0
        · have hf : farS false l = -sgnI (cf l (l.length - 1)) := by unfold farS; rw [if_pos ⟨rfl, z⟩]
          have z' : ((l.length % 2 : Nat) : Int) = 0 := by omega
          have d' := decide_eq_true z'
          have hw : IntKind.i64.wrap (0 - sgnI (cf l (l.length - 1))) = farS false l := by rw [w0, hf]; omega
          simp (disch := omega) only [WA, ↓reduceIte, reduceEqDiff, reduceAdd, reduceMul, reduceSub, reduceLeDiff, reduceLT, reduceLE, reduceNeg, reduceEq, z', d', hw]
          exact hK' _ _ ⟨e1, e5, rfl, e9, e10, e11, rfl⟩
        · have hf : farS false l = sgnI (cf l (l.length - 1)) := by unfold farS; rw [if_neg (by simp [z])]
          have z' : ¬ ((l.length % 2 : Nat) : Int) = 0 := by omega
          have d' := decide_eq_false z'
          simp (disch := omega) only [WA, ↓reduceIte, reduceEqDiff, reduceAdd, reduceMul, reduceSub, reduceLeDiff, reduceLT, reduceLE, reduceNeg, reduceEq, z', d']
          exact hK' _ _ ⟨e1, e5, by rw [hf]; rfl, e9, e10, e11, rfl⟩
      clear e1 e5 e9 e10 e11
      rintro e _ ⟨e1, e5, e8, e9, e10, e11, rfl⟩
      simp (disch := omega) only [WA, ↓reduceIte, reduceEqDiff, reduceAdd, reduceMul, reduceSub, reduceLeDiff, reduceLT, reduceLE, reduceNeg, reduceEq, e5, e8]
      have s := (s.rep0 (x := farS false l) (rep_int ⟨by omega, by omega⟩)).swap
      refine sep_append (y := farS false l) s rfl rfl te22 tk3 rfl (by decide) (by simp only [List.length_take]; omega) fun w5 h5 s => ?_
      simp (disch := omega) only [WA, ↓reduceIte, reduceEqDiff, reduceAdd, reduceMul, reduceSub, reduceLeDiff, reduceLT, reduceLE, reduceNeg, reduceEq, e11, w1]
      exact ⟨_, by omega, i + 1, w5, e1, rfl, e9, e10, by simp, by omega, rfl, by rw [ht]; exact s⟩
  · obtain rfl : i = C.length := by omega
    have c1 : ¬ (C.length : Int) < (C.length : Int) := by omega
    rw [List.take_of_length_le (by rw [List.length_map]; omega)] at s
    simp (disch := omega) only [WA, ↓reduceIte, reduceEqDiff, reduceAdd, reduceMul, reduceSub, reduceLeDiff, reduceLT, reduceLE, reduceNeg, reduceEq, c1, e5]
    refine .inl ⟨by kernel_rfl, ?_⟩; refine stChanges_c s.row far_in (by rw [List.length_map]; omega) ?_
    have hm : ((chgM (C.map (farS up))).2 : Nat) = farM C up := rfl
    rw [hm]
    simp (disch := omega) only [WA, ↓reduceIte, reduceEqDiff, reduceAdd, reduceMul, reduceSub, reduceLeDiff, reduceLT, reduceLE, reduceNeg, reduceEq]
    exact hQ _ s.ext
theorem variationsFar_c {C : List (List Int)} {v : Value} {up : Bool} {h : Heap} {Q : Value → Heap → Prop} (r : Row h C v) (hC : ∀ l ∈ C, Cel l) (h14 : C.length ≤ 14) (hQ : ∀ h', Ext h h' → Q (.int .i64 (farM C up : Nat)) h') : CallsV Try.prog 27 [v, .bool up] h Q := by
  refine CallsV.start Try.func27 rfl (by rw [Try.results27]) (by kernel_rfl) (by rw [Try.ntmps27]; simp) ?_
  simp (disch := omega) only [WA, ↓reduceIte, reduceEqDiff, reduceAdd, reduceMul, reduceSub, reduceLeDiff, reduceLT, reduceLE, reduceNeg, reduceEq, r.isRow.len]
  refine loop_rule (fun m e h' => ∃ (i : Nat) (vo : Value), e 1 = .bool up ∧ e 5 = vo ∧ e 9 = v ∧ e 10 = .int .i64 C.length ∧ e 11 = .int .i64 i ∧ i ≤ C.length ∧ m = C.length - i ∧ Sep h h' [ownA 3 ((C.map (farS up)).take i) vo]) ?_ C.length _ _ ⟨0, _, rfl, rfl, rfl, rfl, rfl, by omega, by omega, (Sep.nil (.refl h)).nilA _⟩
  rintro m e h2 ⟨i, vo, e1, e5, e9, e10, e11, hi, rfl, s⟩
  have r1 := r.mono s.ext
  simp (disch := omega) only [WA, ↓reduceIte, reduceEqDiff, reduceAdd, reduceMul, reduceSub, reduceLeDiff, reduceLT, reduceLE, reduceNeg, reduceEq, e10, e11]
  by_cases c : i < C.length
  · have c1 : (i : Int) < (C.length : Int) := by omega
    obtain ⟨l, hl⟩ := get_some c
    obtain ⟨w, Xw, rw'⟩ := row_list r1 hl
    have cl := hC l (List.mem_of_getElem? hl)
    have ll := List.length_pos_iff.2 cl.ne
    have l9 := cl.sm.len
    have X := (row_int rw' (last_cf (p := l) (by omega))).1
    have k1 : (l.length : Int) - 1 = ((l.length - 1 : Nat) : Int) := by omega
    have q1 : ((l.length - 1 : Nat) : Int) < (l.length : Int) := by omega
    have tm : Int.tmod (l.length : Int) 2 = ((l.length % 2 : Nat) : Int) := by rw [Int.tmod_eq_emod_of_nonneg (by omega)]; norm_cast
    have sb := sgnI_in (cf l (l.length - 1))
    have fb := farS_in up l
    have w0 := wrap9 (x := 0 - sgnI (cf l (l.length - 1))) (by omega)
    have ht : (C.map (farS up)).take (i + 1) = (C.map (farS up)).take i ++ [farS up l] := by
      rw [List.take_add_one, List.getElem?_map, hl]; rfl
    simp (disch := omega) only [WA, ↓reduceIte, reduceEqDiff, reduceAdd, reduceMul, reduceSub, reduceLeDiff, reduceLT, reduceLE, reduceNeg, reduceEq, c1, e9, e11, r1.isRow.ix, Xw, rw'.isRow.len, k1, wrap_in, rw'.isRow.ix, q1, X]
    refine .inl ⟨by kernel_rfl, ?_⟩; refine compareI_c ?_
    have w1 := wrap9 (x := (i : Int) + 1) (by omega)
    cases up with
    | true =>
      have hf : sgnI (cf l (l.length - 1)) = farS true l := by unfold farS; rw [if_neg (by simp)]
      simp (disch := omega) only [WA, ↓reduceIte, reduceEqDiff, reduceAdd, reduceMul, reduceSub, reduceLeDiff, reduceLT, reduceLE, reduceNeg, reduceEq, e1, e5, hf]
      have s := (s.rep0 (x := farS true l) (rep_int ⟨by omega, by omega⟩)).swap
      refine sep_append (y := farS true l) s rfl rfl te22 tk3 rfl (by decide) (by simp only [List.length_take]; omega) fun w5 h5 s => ?_
      simp (disch := omega) only [WA, ↓reduceIte, reduceEqDiff, reduceAdd, reduceMul, reduceSub, reduceLeDiff, reduceLT, reduceLE, reduceNeg, reduceEq, e11, w1]
      exact ⟨_, by omega, i + 1, w5, e1, rfl, e9, e10, by simp, by omega, rfl, by rw [ht]; exact s⟩
    | false =>
      simp (disch := omega) only [WA, ↓reduceIte, reduceEqDiff, reduceAdd, reduceMul, reduceSub, reduceLeDiff, reduceLT, reduceLE, reduceNeg, reduceEq, e1, rw'.isRow.len, tm]
      refine cond_join (fun e' h' => e' 1 = .bool false ∧ e' 5 = vo ∧ e' 8 = .int .i64 (farS false l) ∧ e' 9 = v ∧ e' 10 = .int .i64 C.length ∧ e' 11 = .int .i64 i ∧ h2 = h') (fun K' hK' => ?_) ?_
      · by_cases z : l.length % 2 = 0
        · have hf : farS false l = -sgnI (cf l (l.length - 1)) := by unfold farS; rw [if_pos ⟨rfl, z⟩]
          have z' : ((l.length % 2 : Nat) : Int) = 0 := by omega
          have d' := decide_eq_true z'
          have hw : IntKind.i64.wrap (0 - sgnI (cf l (l.length - 1))) = farS false l := by rw [w0, hf]; omega
          simp (disch := omega) only [WA, ↓reduceIte, reduceEqDiff, reduceAdd, reduceMul, reduceSub, reduceLeDiff, reduceLT, reduceLE, reduceNeg, reduceEq, z', d', hw]
          exact hK' _ _ ⟨e1, e5, rfl, e9, e10, e11, rfl⟩
        · have hf : farS false l = sgnI (cf l (l.length - 1)) := by unfold farS; rw [if_neg (by simp [z])]
          have z' : ¬ ((l.length % 2 : Nat) : Int) = 0 := by omega
          have d' := decide_eq_false z'
          simp (disch := omega) only [WA, ↓reduceIte, reduceEqDiff, reduceAdd, reduceMul, reduceSub, reduceLeDiff, reduceLT, reduceLE, reduceNeg, reduceEq, z', d']
          exact hK' _ _ ⟨e1, e5, by rw [hf]; rfl, e9, e10, e11, rfl⟩
      clear e1 e5 e9 e10 e11
      rintro e _ ⟨e1, e5, e8, e9, e10, e11, rfl⟩
      simp (disch := omega) only [WA, ↓reduceIte, reduceEqDiff, reduceAdd, reduceMul, reduceSub, reduceLeDiff, reduceLT, reduceLE, reduceNeg, reduceEq, e5, e8]
      have s := (s.rep0 (x := farS false l) (rep_int ⟨by omega, by omega⟩)).swap
      refine sep_append (y := farS false l) s rfl rfl te22 tk3 rfl (by decide) (by simp only [List.length_take]; omega) fun w5 h5 s => ?_
      simp (disch := omega) only [WA, ↓reduceIte, reduceEqDiff, reduceAdd, reduceMul, reduceSub, reduceLeDiff, reduceLT, reduceLE, reduceNeg, reduceEq, e11, w1]
      exact ⟨_, by omega, i + 1, w5, e1, rfl, e9, e10, by simp, by omega, rfl, by rw [ht]; exact s⟩
  · obtain rfl : i = C.length := by omega
    have c1 : ¬ (C.length : Int) < (C.length : Int) := by omega
    rw [List.take_of_length_le (by rw [List.length_map]; omega)] at s
    simp (disch := omega) only [WA, ↓reduceIte, reduceEqDiff, reduceAdd, reduceMul, reduceSub, reduceLeDiff, reduceLT, reduceLE, reduceNeg, reduceEq, c1, e5]
    refine .inl ⟨by kernel_rfl, ?_⟩; refine changes_c s.row far_in (by rw [List.length_map]; omega) ?_
    have hm : ((chgM (C.map (farS up))).2 : Nat) = farM C up := rfl
    rw [hm]
    simp (disch := omega) only [WA, ↓reduceIte, reduceEqDiff, reduceAdd, reduceMul, reduceSub, reduceLeDiff, reduceLT, reduceLE, reduceNeg, reduceEq]
    exact hQ _ s.ext
end Go.Proofs
