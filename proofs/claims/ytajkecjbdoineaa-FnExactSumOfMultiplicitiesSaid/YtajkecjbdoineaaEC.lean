/- Contracts of functions, facts of types, or the plain law behind one statement (own work): EC. Conditions: those told in each theorem. -/
import Derived.Test.YtajkecjbdoineaaEB
set_option linter.all false
set_option linter.unusedSimpArgs false
set_option linter.unusedVariables false
set_option maxRecDepth 4000
namespace Go.Proofs
open Go Go.V
open Nat (reduceEqDiff reduceAdd reduceMul reduceSub reduceLeDiff)
open Int (reduceLT reduceLE reduceNeg reduceEq)
/- Signs. -/
theorem negated_c {p : List Int} {v : Value} {h : Heap} {Q : Value → Heap → Prop} (r : Row h p v) (hp : Nin p) (hl : p.length ≤ 1000) (hQ : ∀ w h', Sep h h' [ownA 3 (negL p) w] → Q w h') : CallsV Try.prog 44 [v] h Q := by
  refine CallsV.start Try.func44 rfl (by rw [Try.results44]) (by kernel_rfl) (by rw [Try.ntmps44]; simp) ?_
  have hle := r.le
  simp (disch := omega) only [WA, ↓reduceIte, reduceEqDiff, reduceAdd, reduceMul, reduceSub, reduceLeDiff, reduceLT, reduceLE, reduceNeg, reduceEq, r.isRow.len]
  refine loop_rule (fun n e h' => ∃ (i : Nat) (vo : Value), e 3 = vo ∧ e 6 = v ∧ e 7 = .int .i64 p.length ∧ e 8 = .int .i64 i ∧ i ≤ p.length ∧ n = p.length - i ∧ Sep h h' [ownA 3 ((negL p).take i) vo]) ?_ p.length _ _ ⟨0, _, rfl, rfl, rfl, rfl, Nat.zero_le _, rfl, (Sep.nil (.refl h)).nilA _⟩
  rintro n e h' ⟨i, vo, e3, e6, e7, e8, hi, rfl, s⟩
  simp (disch := omega) only [WA, ↓reduceIte, reduceEqDiff, reduceAdd, reduceMul, reduceSub, reduceLeDiff, reduceLT, reduceLE, reduceNeg, reduceEq, e7, e8]
  by_cases hlt : i < p.length
  · obtain ⟨x, hx⟩ := get_some hlt
    have c1 : (i : Int) < (p.length : Int) := by omega
    have r1 := r.mono s.ext
    obtain ⟨x3, x4⟩ := row_int r1 hx
    have hb := hp x (List.mem_of_getElem? hx)
    have w1 : IntKind.i64.wrap (0 - x) = -x := by rw [wrap9 (by omega)]; omega
    have ht : (negL p).take (i + 1) = (negL p).take i ++ [-x] := by
      rw [List.take_add_one]
      congr 1
      unfold negL
      rw [List.getElem?_map, hx]; rfl
    simp (disch := omega) only [WA, ↓reduceIte, reduceEqDiff, reduceAdd, reduceMul, reduceSub, reduceLeDiff, reduceLT, reduceLE, reduceNeg, reduceEq, c1, e6, e8, e3, r1.isRow.ix, x3, w1]
    have s := (s.rep0 (x := -x) (rep_int ⟨by omega, by omega⟩)).swap
    refine sep_append (y := -x) s rfl rfl te22 tk3 rfl (by decide) (by simp only [List.length_take]; omega) fun w5 h5 s => ?_
    simp (disch := omega) only [WA, ↓reduceIte, reduceEqDiff, reduceAdd, reduceMul, reduceSub, reduceLeDiff, reduceLT, reduceLE, reduceNeg, reduceEq, e8, wrap_in]
    refine ⟨_, by omega, i + 1, w5, rfl, e6, e7, by simp, by omega, rfl, ?_⟩
    rw [ht]; exact s
  · obtain rfl : i = p.length := by omega
    have c1 : ¬ (p.length : Int) < (p.length : Int) := by omega
    rw [List.take_of_length_le (by rw [neg_len]; omega)] at s
    simp (disch := omega) only [WA, ↓reduceIte, reduceEqDiff, reduceAdd, reduceMul, reduceSub, reduceLeDiff, reduceLT, reduceLE, reduceNeg, reduceEq, c1, e3]
    exact hQ _ _ s
theorem stMinus_c {p : List Int} {v : Value} {h : Heap} {Q : Value → Heap → Prop} (r : Row h p v) (hp : Nin p) (hl : p.length ≤ 1000) (hQ : ∀ w h', Sep h h' [ownA 3 (negL p) w] → Q w h') : CallsV Try.prog 55 [v] h Q := by
  refine CallsV.start Try.func55 rfl (by rw [Try.results55]) (by kernel_rfl) (by rw [Try.ntmps55]; simp) ?_
  have hle := r.le
  simp (disch := omega) only [WA, ↓reduceIte, reduceEqDiff, reduceAdd, reduceMul, reduceSub, reduceLeDiff, reduceLT, reduceLE, reduceNeg, reduceEq, r.isRow.len]
  refine loop_rule (fun n e h' => ∃ (i : Nat) (vo : Value), e 3 = vo ∧ e 6 = v ∧ e 7 = .int .i64 p.length ∧ e 8 = .int .i64 i ∧ i ≤ p.length ∧ n = p.length - i ∧ Sep h h' [ownA 3 ((negL p).take i) vo]) ?_ p.length _ _ ⟨0, _, rfl, rfl, rfl, rfl, Nat.zero_le _, rfl, (Sep.nil (.refl h)).nilA _⟩
  rintro n e h' ⟨i, vo, e3, e6, e7, e8, hi, rfl, s⟩
  simp (disch := omega) only [WA, ↓reduceIte, reduceEqDiff, reduceAdd, reduceMul, reduceSub, reduceLeDiff, reduceLT, reduceLE, reduceNeg, reduceEq, e7, e8]
  by_cases hlt : i < p.length
  · obtain ⟨x, hx⟩ := get_some hlt
    have c1 : (i : Int) < (p.length : Int) := by omega
    have r1 := r.mono s.ext
    obtain ⟨x3, x4⟩ := row_int r1 hx
    have hb := hp x (List.mem_of_getElem? hx)
    have w1 : IntKind.i64.wrap (0 - x) = -x := by rw [wrap9 (by omega)]; omega
    have ht : (negL p).take (i + 1) = (negL p).take i ++ [-x] := by
      rw [List.take_add_one]
      congr 1
      unfold negL
      rw [List.getElem?_map, hx]; rfl
    simp (disch := omega) only [WA, ↓reduceIte, reduceEqDiff, reduceAdd, reduceMul, reduceSub, reduceLeDiff, reduceLT, reduceLE, reduceNeg, reduceEq, c1, e6, e8, e3, r1.isRow.ix, x3, w1]
    have s := (s.rep0 (x := -x) (rep_int ⟨by omega, by omega⟩)).swap
    refine sep_append (y := -x) s rfl rfl te22 tk3 rfl (by decide) (by simp only [List.length_take]; omega) fun w5 h5 s => ?_
    simp (disch := omega) only [WA, ↓reduceIte, reduceEqDiff, reduceAdd, reduceMul, reduceSub, reduceLeDiff, reduceLT, reduceLE, reduceNeg, reduceEq, e8, wrap_in]
    refine ⟨_, by omega, i + 1, w5, rfl, e6, e7, by simp, by omega, rfl, ?_⟩
    rw [ht]; exact s
  · obtain rfl : i = p.length := by omega
    have c1 : ¬ (p.length : Int) < (p.length : Int) := by omega
    rw [List.take_of_length_le (by rw [neg_len]; omega)] at s
    simp (disch := omega) only [WA, ↓reduceIte, reduceEqDiff, reduceAdd, reduceMul, reduceSub, reduceLeDiff, reduceLT, reduceLE, reduceNeg, reduceEq, c1, e3]
    exact hQ _ _ s
theorem last_cf {p : List Int} (h : p.length ≠ 0) : p[p.length - 1]? = some (cf p (p.length - 1)) := cf_get (by omega)
theorem withSign_c {p : List Int} {v : Value} {a h : Heap} {L : List Asr} {Q : Value → Heap → Prop} (s : Sep a h (ownA 3 p v :: L)) (hp : Nin p) (hl : p.length ≤ 1000) (hQ : ∀ w h', Sep a h' (ownA 3 (sgnL p) w :: L) → Q w h') : CallsV Try.prog 39 [v] h Q := by
  have r := s.row
  have hle := r.le
  refine CallsV.start Try.func39 rfl (by rw [Try.results39]) (by kernel_rfl) (by rw [Try.ntmps39]; simp) ?_
  by_cases c : p.length = 0
  · have c1 : ¬ (0 : Int) < (p.length : Int) := by omega
    have c2 : ¬ (p.length : Int) > 0 := by omega
    have hs : sgnL p = p := by
      have : p = [] := List.length_eq_zero_iff.1 c
      subst this; rfl
    rw [hs] at hQ
    simp (disch := omega) only [WA, ↓reduceIte, reduceEqDiff, reduceAdd, reduceMul, reduceSub, reduceLeDiff, reduceLT, reduceLE, reduceNeg, reduceEq, r.isRow.len, c1]
    exact hQ _ _ s
  · have c1 : (0 : Int) < (p.length : Int) := by omega
    obtain ⟨x3, x4⟩ := row_int r (last_cf c)
    have e1 : (p.length : Int) - 1 = ((p.length - 1 : Nat) : Int) := by omega
    have q1 : ((p.length - 1 : Nat) : Int) < (p.length : Int) := by omega
    by_cases z : cf p (p.length - 1) < 0
    · have hs : sgnL p = negL p := by unfold sgnL; rw [if_pos z]
      rw [hs] at hQ
      simp (disch := omega) only [WA, ↓reduceIte, reduceEqDiff, reduceAdd, reduceMul, reduceSub, reduceLeDiff, reduceLT, reduceLE, reduceNeg, reduceEq, r.isRow.len, c1, e1, wrap_in, r.isRow.ix, q1, x3, z]
      refine .inl ⟨by kernel_rfl, ?_⟩; refine negated_c r hp hl fun w h2 t => ?_
      simp (disch := omega) only [WA, ↓reduceIte, reduceEqDiff, reduceAdd, reduceMul, reduceSub, reduceLeDiff, reduceLT, reduceLE, reduceNeg, reduceEq]
      exact hQ _ _ (s.add t).swap.tail
    · have hs : sgnL p = p := by unfold sgnL; rw [if_neg z]
      have z2 := decide_eq_false z
      rw [hs] at hQ
      simp (disch := omega) only [WA, ↓reduceIte, reduceEqDiff, reduceAdd, reduceMul, reduceSub, reduceLeDiff, reduceLT, reduceLE, reduceNeg, reduceEq, r.isRow.len, c1, e1, wrap_in, r.isRow.ix, q1, x3, z, z2]
      exact hQ _ _ s
theorem sgUp_c {p : List Int} {v : Value} {h : Heap} {Q : Value → Heap → Prop} (r : Row h p v) (hp : Nin p) (hl : p.length ≤ 1000) (hd : Ldd p) (hQ : ∀ w h', Sep h h' [ownA 3 (upS p) w] → Q w h') : CallsV Try.prog 33 [v] h Q := by
  refine CallsV.start Try.func33 rfl (by rw [Try.results33]) (by kernel_rfl) (by rw [Try.ntmps33]; simp) ?_
  simp (disch := omega) only [WA, ↓reduceIte, reduceEqDiff, reduceAdd, reduceMul, reduceSub, reduceLeDiff, reduceLT, reduceLE, reduceNeg, reduceEq]
  refine .inl ⟨by kernel_rfl, ?_⟩; refine sgPart_c r hp hl hd fun w h1 s => ?_
  have hpl := part_len p
  have hnp : Nin (partL p) := fun x hx => by
    unfold partL at hx
    obtain ⟨y, hy, rfl⟩ := List.mem_map.1 hx
    exact tdiv_in _ (hp y hy)
  unfold upS at hQ
  generalize partL p = q at *
  have rq := s.row
  have hle := rq.le
  by_cases c : q.length = 0
  · have c1 : ¬ (0 : Int) < (q.length : Int) := by omega
    have hs : sgnL q = q := by
      have : q = [] := List.length_eq_zero_iff.1 c
      subst this; rfl
    rw [hs] at hQ
    simp (disch := omega) only [WA, ↓reduceIte, reduceEqDiff, reduceAdd, reduceMul, reduceSub, reduceLeDiff, reduceLT, reduceLE, reduceNeg, reduceEq, rq.isRow.len, c1]
    exact hQ _ _ s
  · have c1 : (0 : Int) < (q.length : Int) := by omega
    obtain ⟨x3, x4⟩ := row_int rq (last_cf c)
    have e1 : (q.length : Int) - 1 = ((q.length - 1 : Nat) : Int) := by omega
    have q1 : ((q.length - 1 : Nat) : Int) < (q.length : Int) := by omega
    by_cases z : cf q (q.length - 1) < 0
    · have hs : sgnL q = negL q := by unfold sgnL; rw [if_pos z]
      rw [hs] at hQ
      simp (disch := omega) only [WA, ↓reduceIte, reduceEqDiff, reduceAdd, reduceMul, reduceSub, reduceLeDiff, reduceLT, reduceLE, reduceNeg, reduceEq, rq.isRow.len, c1, e1, wrap_in, rq.isRow.ix, q1, x3, z]
      refine loop_rule (fun n e h' => ∃ (i : Nat), e 0 = w ∧ e 19 = .int .i64 q.length ∧ e 20 = .int .i64 i ∧ i ≤ q.length ∧ n = q.length - i ∧ Sep h h' [ownA 3 ((negL q).take i ++ q.drop i) w]) ?_ q.length _ _ ⟨0, rfl, rfl, rfl, Nat.zero_le _, rfl, by simpa using s⟩
      clear s rq
      rintro n e h' ⟨i, e0, e19, e20, hi, rfl, s⟩
      have rq := s.row
      have hlen : ((negL q).take i ++ q.drop i).length = q.length := by rw [List.length_append, List.length_take, List.length_drop, neg_len]; omega
      have ixq := rq.isRow.ix Try.prog
      rw [hlen] at ixq
      simp (disch := omega) only [WA, ↓reduceIte, reduceEqDiff, reduceAdd, reduceMul, reduceSub, reduceLeDiff, reduceLT, reduceLE, reduceNeg, reduceEq, e19, e20]
      by_cases hlt : i < q.length
      · obtain ⟨x, hx⟩ := get_some hlt
        have c2 : (i : Int) < (q.length : Int) := by omega
        have hg : ((negL q).take i ++ q.drop i)[i]? = some x := by
          rw [List.getElem?_append_right (by rw [List.length_take, neg_len]; omega), List.length_take, neg_len, List.getElem?_drop]
          rw [show i + (i - min i q.length) = i by omega]; exact hx
        obtain ⟨y3, y4⟩ := row_int rq hg
        have hb := hnp x (List.mem_of_getElem? hx)
        have w1 : IntKind.i64.wrap (0 - x) = -x := by rw [wrap9 (by omega)]; omega
        simp (disch := omega) only [WA, ↓reduceIte, reduceEqDiff, reduceAdd, reduceMul, reduceSub, reduceLeDiff, reduceLT, reduceLE, reduceNeg, reduceEq, c2, e0, e20, ixq, y3, w1]
        have s := (s.rep0 (x := -x) (rep_int ⟨by omega, by omega⟩)).swap
        refine sep_set1 (i := i) (y := -x) s rfl (by rw [hlen]; omega) fun h9 s => ?_
        simp (disch := omega) only [WA, ↓reduceIte, reduceEqDiff, reduceAdd, reduceMul, reduceSub, reduceLeDiff, reduceLT, reduceLE, reduceNeg, reduceEq, e20, wrap_in]
        refine ⟨_, by omega, i + 1, e0, e19, by simp, by omega, rfl, ?_⟩
        have hset : ((negL q).take i ++ q.drop i).set i (-x) = (negL q).take (i + 1) ++ q.drop (i + 1) := by
          rw [List.set_append_right _ _ (by rw [List.length_take, neg_len]; omega), List.length_take, neg_len, show i - min i q.length = 0 by omega, drop_cons hx, List.set_cons_zero]
          rw [List.take_add_one]
          have : (negL q)[i]? = some (-x) := by unfold negL; rw [List.getElem?_map, hx]; rfl
          rw [this]; simp
        rw [hset] at s
        exact s
      · obtain rfl : i = q.length := by omega
        have c2 : ¬ (q.length : Int) < (q.length : Int) := by omega
        rw [List.take_of_length_le (by rw [neg_len]; omega), List.drop_length, List.append_nil] at s
        simp (disch := omega) only [WA, ↓reduceIte, reduceEqDiff, reduceAdd, reduceMul, reduceSub, reduceLeDiff, reduceLT, reduceLE, reduceNeg, reduceEq, c2, e0]
        exact hQ _ _ s
    · have hs : sgnL q = q := by unfold sgnL; rw [if_neg z]
      have z2 := decide_eq_false z
      rw [hs] at hQ
      simp (disch := omega) only [WA, ↓reduceIte, reduceEqDiff, reduceAdd, reduceMul, reduceSub, reduceLeDiff, reduceLT, reduceLE, reduceNeg, reduceEq, rq.isRow.len, c1, e1, wrap_in, rq.isRow.ix, q1, x3, z, z2]
      exact hQ _ _ s
end Go.Proofs
