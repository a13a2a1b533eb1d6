/- Contracts of functions, facts of types, or the plain law behind one statement (own work): IH. Conditions: those told in each theorem. -/
import Derived.Test.YtlnephhhcofilaaGreatIG
set_option linter.all false
set_option linter.unusedSimpArgs false
set_option linter.unusedVariables false
set_option maxRecDepth 4000
namespace Go.Proofs
open Go Go.V
open Nat (reduceEqDiff reduceAdd reduceMul reduceSub reduceLeDiff)
open Int (reduceLT reduceLE reduceNeg reduceEq)
/- A power, step by step. -/
def pwB (p : Bool) (i : Iv) (n : Nat) : Bool := p && (powD i.low n).isSome && (powD i.high n).isSome
theorem powD_one {a : Dy} (ha : DyG a) : powD a 1 = some a := by
  show ((powD a 0).bind fun x => mulM x a) = some a
  exact one_mulM ha
theorem pw_step {p : Bool} {i : Iv} {j : Nat} {x y : Dy} (hv : pwB p i j = true → powD i.low j = some x ∧ powD i.high j = some y) :
    (pwB p i (j + 1) = true → powD i.low (j + 1) = some (keepM (pwB p i j) (mulM x i.low)) ∧ powD i.high (j + 1) = some (keepM (pwB p i j && (mulM x i.low).isSome) (mulM y i.high))) ∧
    ((pwB p i j && (mulM x i.low).isSome) && (mulM y i.high).isSome) = pwB p i (j + 1) := by
  have e1 : powD i.low (j + 1) = (powD i.low j).bind fun x => mulM x i.low := rfl
  have e2 : powD i.high (j + 1) = (powD i.high j).bind fun x => mulM x i.high := rfl
  cases hb : pwB p i j with
  | false =>
    have hf : pwB p i (j + 1) = false := by
      unfold pwB at hb ⊢
      rw [e1, e2]
      cases p with
      | false => rfl
      | true =>
        cases h1 : powD i.low j with
        | none => rfl
        | some a =>
          cases h2 : powD i.high j with
          | none => simp
          | some b => rw [h1, h2] at hb; simp at hb
    rw [hf]
    exact ⟨fun h => (by cases h), by simp⟩
  | true =>
    obtain ⟨h1, h2⟩ := hv hb
    have hp : p = true := by unfold pwB at hb; cases p; simp at hb; rfl
    subst hp
    have e3 : pwB true i (j + 1) = ((mulM x i.low).isSome && (mulM y i.high).isSome) := by
      unfold pwB; rw [e1, e2, h1, h2]; rfl
    rw [e3, e1, e2, h1, h2]
    simp only [Option.bind_some, Bool.true_and]
    refine ⟨fun h => ?_, by simp⟩
    obtain ⟨g1, g2⟩ := Bool.and_eq_true_iff.1 h
    obtain ⟨a, ha⟩ := Option.isSome_iff_exists.1 g1
    obtain ⟨b, hb⟩ := Option.isSome_iff_exists.1 g2
    rw [ha, hb]
    exact ⟨rfl, rfl⟩
theorem pow_isSome {p : Bool} {i : Iv} {n : Nat} (h : n ≠ 0) : (p && (powI i n).isSome) = pwB p i n := by
  unfold powI pwB
  rw [if_neg h]
  cases powD i.low n with
  | none => simp
  | some a => cases powD i.high n <;> simp
theorem rpower_c {a h : Heap} {b : Nat} {L : List Asr} {p : Bool} {i : Iv} {n : Nat} {Q : Value → Heap → Prop} (s : Sep a h (blkA b [.bool p] 149 :: L)) (hi : IvD i) (hn : n ≤ 1000)
    (hQ : ∀ h' v, IvD v → (∀ o, p = true → powI i n = some o → v = o) → Sep a h' (blkA b [.bool (p && (powI i n).isSome)] 149 :: L) → Q (.agg (ivC v).toArray) h') :
    CallsV Tryz.prog 141 [.pointer (some ⟨b, 0, none⟩), .agg (ivC i).toArray, .int .i64 n] h Q := by
  refine CallsV.start Tryz.func141 rfl (by rw [Tryz.results141]) (by kernel_rfl) (by rw [Tryz.ntmps141]; simp) ?_
  have s := (s.newBlk (ivC i) 122 true).newBlk [.int .i64 0, .int .i64 0, .int .i64 0, .int .i64 0] 122 true
  simp only [List.append_assoc, List.cons_append, List.nil_append, List.length_append, List.length_cons, List.length_nil, Nat.reduceAdd] at s
  by_cases z : n = 0
  · subst z
    have d : ((0 : Nat) : Int) = 0 := rfl
    simp (disch := omega) only [WA, ↓reduceIte, reduceEqDiff, reduceAdd, reduceMul, reduceSub, reduceLeDiff, reduceLT, reduceLE, reduceNeg, reduceEq, d]
    refine .inl ⟨by kernel_rfl, ?_⟩; refine integer_c fun h1 E1 => ?_
    simp (disch := omega) only [WA, ↓reduceIte, reduceEqDiff, reduceAdd, reduceMul, reduceSub, reduceLeDiff, reduceLT, reduceLE, reduceNeg, reduceEq]
    refine .inl ⟨by kernel_rfl, ?_⟩; refine single_c fun h2 E2 => ?_
    have s := (s.mono E1).mono E2
    simp (disch := omega) only [WA, ↓reduceIte, reduceEqDiff, reduceAdd, reduceMul, reduceSub, reduceLeDiff, reduceLT, reduceLE, reduceNeg, reduceEq]
    refine sep_store (s.pull 0 rfl) (by simp) fun h3 s => ?_
    have s := s.as (ds := ivC ⟨⟨1, 0⟩, ⟨1, 0⟩⟩) (by simp [t_put])
    have gz := (s.pull 0 rfl).rdAll (n := 4) rfl
    simp (disch := omega) only [WA, ↓reduceIte, reduceEqDiff, reduceAdd, reduceMul, reduceSub, reduceLeDiff, reduceLT, reduceLE, reduceNeg, reduceEq, gz]
    refine hQ _ ⟨⟨1, 0⟩, ⟨1, 0⟩⟩ ⟨good_int (by decide), good_int (by decide)⟩ (fun o _ ho => by unfold powI at ho; rw [if_pos rfl] at ho; exact Option.some.inj ho) ?_
    have e : (p && (powI i 0).isSome) = p := by unfold powI; rw [if_pos rfl]; simp
    rw [e]
    exact s.tail.tail
  rw [pow_isSome z] at hQ
  have zi : ¬ (n : Int) = 0 := by omega
  have gi := ivRd (s.pull 1 rfl)
  simp (disch := omega) only [WA, ↓reduceIte, reduceEqDiff, reduceAdd, reduceMul, reduceSub, reduceLeDiff, reduceLT, reduceLE, reduceNeg, reduceEq, zi, gi]
  generalize h ++ [some ⟨ivC i, 122, false, true⟩, some ⟨[.int .i64 0, .int .i64 0, .int .i64 0, .int .i64 0], 122, false, true⟩] = H0 at s ⊢
  have gi := ivRd (s.pull 1 rfl)
  refine draw_cut (fun e' h' => e' 0 = .pointer (some ⟨b, 0, none⟩) ∧ e' 2 = .int .i64 n ∧ e' 4 = .pointer (some ⟨h.length, 0, none⟩) ∧ e' 6 = .pointer (some ⟨h.length + 1, 0, none⟩) ∧ ∃ px py, e' 7 = .pointer (some ⟨px, 0, none⟩) ∧ e' 8 = .pointer (some ⟨py, 0, none⟩) ∧
    Sep a h' (blkA b [.bool p] 149 :: blkA px (dyC i.low) 97 :: blkA py (dyC i.high) 97 :: blkA (h.length + 1) [.int .i64 0, .int .i64 0, .int .i64 0, .int .i64 0] 122 :: blkA h.length (ivC i) 122 :: L)) (fun K' hK' => ?_) ?_
  · refine draw_tail [0, 1, 2, 3] [4, 5, 6, 7] (by kernel_rfl) (by simp only [List.filterMap_cons, List.filterMap_nil, List.getElem?_cons_zero, List.getElem?_cons_succ]; rfl) ?_
    simp (disch := omega) only [WA, ↓reduceIte, reduceEqDiff, reduceAdd, reduceMul, reduceSub, reduceLeDiff, reduceLT, reduceLE, reduceNeg, reduceEq, gi]
    refine tail_step [(4, [], [5, 6, 7], false), (5, [], [4, 6, 7], false)] (by kernel_rfl) (by kernel_rfl) (a_cons (by simp only [List.filterMap_cons, List.filterMap_nil, List.getElem?_cons_zero, List.getElem?_cons_succ]; rfl) (by kernel_rfl) ?_ (a_cons (by simp only [List.filterMap_cons, List.filterMap_nil, List.getElem?_cons_zero, List.getElem?_cons_succ]; rfl) (by kernel_rfl) ?_ trivial))
    · have gi := ivRd (s.pull 1 rfl)
      simp (disch := omega) only [WA, ↓reduceIte, reduceEqDiff, reduceAdd, reduceMul, reduceSub, reduceLeDiff, reduceLT, reduceLE, reduceNeg, reduceEq, gi]
      have s := s.newBlk [.int .i64 0, .int .i64 0] 97 true
      generalize hE4 : _ ++ [_] = hN at s ⊢
      have gi := ivRd (s.pull 2 rfl)
      try simp (disch := omega) only [WA, ↓reduceIte, reduceEqDiff, reduceAdd, reduceMul, reduceSub, reduceLeDiff, reduceLT, reduceLE, reduceNeg, reduceEq, gi]
      refine tail_step [(5, [], [6, 7], false)] (by kernel_rfl) (by kernel_rfl) (a_cons (by simp only [List.filterMap_cons, List.filterMap_nil, List.getElem?_cons_zero, List.getElem?_cons_succ]; rfl) (by kernel_rfl) ?_ trivial)
      simp (disch := omega) only [WA, ↓reduceIte, reduceEqDiff, reduceAdd, reduceMul, reduceSub, reduceLeDiff, reduceLT, reduceLE, reduceNeg, reduceEq, gi]
      have s := s.newBlk [.int .i64 0, .int .i64 0] 97 true
      generalize hE5 : _ ++ [_] = hM at s ⊢
      have gi := ivRd (s.pull 3 rfl)
      try simp (disch := omega) only [WA, ↓reduceIte, reduceEqDiff, reduceAdd, reduceMul, reduceSub, reduceLeDiff, reduceLT, reduceLE, reduceNeg, reduceEq, gi]
      refine tail_step [(6, [], [7], false)] (by kernel_rfl) (by kernel_rfl) (a_cons (by simp only [List.filterMap_cons, List.filterMap_nil, List.getElem?_cons_zero, List.getElem?_cons_succ]; rfl) (by kernel_rfl) ?_ trivial)
      simp (disch := omega) only [WA, ↓reduceIte, reduceEqDiff, reduceAdd, reduceMul, reduceSub, reduceLeDiff, reduceLT, reduceLE, reduceNeg, reduceEq, gi]
      refine sep_store (s.pull 1 rfl) (by simp) fun h3 s => ?_
      have s := s.as (ds := dyC i.low) (by simp [t_put])
      have gi := ivRd (s.pull 3 rfl)
      try simp (disch := omega) only [WA, ↓reduceIte, reduceEqDiff, reduceAdd, reduceMul, reduceSub, reduceLeDiff, reduceLT, reduceLE, reduceNeg, reduceEq, gi]
      refine tail_step [(7, [], [], true)] (by kernel_rfl) (by kernel_rfl) (a_cut (by simp only [List.filterMap_cons, List.filterMap_nil, List.getElem?_cons_zero, List.getElem?_cons_succ]; rfl) (by kernel_rfl) ?_ trivial)
      simp (disch := omega) only [WA, ↓reduceIte, reduceEqDiff, reduceAdd, reduceMul, reduceSub, reduceLeDiff, reduceLT, reduceLE, reduceNeg, reduceEq, gi]
      refine sep_store (s.pull 1 rfl) (by simp) fun h3 s => ?_
      have s := s.as (ds := dyC i.high) (by simp [t_put])
      try simp (disch := omega) only [WA, ↓reduceIte, reduceEqDiff, reduceAdd, reduceMul, reduceSub, reduceLeDiff, reduceLT, reduceLE, reduceNeg, reduceEq]
      exact hK' _ _ ⟨rfl, rfl, rfl, rfl, _, _, rfl, rfl, ((s.pull 0 rfl).pull 1 rfl).pull 4 rfl⟩
    · have gi := ivRd (s.pull 1 rfl)
      simp (disch := omega) only [WA, ↓reduceIte, reduceEqDiff, reduceAdd, reduceMul, reduceSub, reduceLeDiff, reduceLT, reduceLE, reduceNeg, reduceEq, gi]
      have s := s.newBlk [.int .i64 0, .int .i64 0] 97 true
      generalize hE4 : _ ++ [_] = hN at s ⊢
      have gi := ivRd (s.pull 2 rfl)
      try simp (disch := omega) only [WA, ↓reduceIte, reduceEqDiff, reduceAdd, reduceMul, reduceSub, reduceLeDiff, reduceLT, reduceLE, reduceNeg, reduceEq, gi]
      refine tail_step [(4, [], [6, 7], false)] (by kernel_rfl) (by kernel_rfl) (a_cons (by simp only [List.filterMap_cons, List.filterMap_nil, List.getElem?_cons_zero, List.getElem?_cons_succ]; rfl) (by kernel_rfl) ?_ trivial)
      simp (disch := omega) only [WA, ↓reduceIte, reduceEqDiff, reduceAdd, reduceMul, reduceSub, reduceLeDiff, reduceLT, reduceLE, reduceNeg, reduceEq, gi]
      have s := s.newBlk [.int .i64 0, .int .i64 0] 97 true
      generalize hE5 : _ ++ [_] = hM at s ⊢
      have gi := ivRd (s.pull 3 rfl)
      try simp (disch := omega) only [WA, ↓reduceIte, reduceEqDiff, reduceAdd, reduceMul, reduceSub, reduceLeDiff, reduceLT, reduceLE, reduceNeg, reduceEq, gi]
      refine tail_step [(6, [], [7], false)] (by kernel_rfl) (by kernel_rfl) (a_cons (by simp only [List.filterMap_cons, List.filterMap_nil, List.getElem?_cons_zero, List.getElem?_cons_succ]; rfl) (by kernel_rfl) ?_ trivial)
      simp (disch := omega) only [WA, ↓reduceIte, reduceEqDiff, reduceAdd, reduceMul, reduceSub, reduceLeDiff, reduceLT, reduceLE, reduceNeg, reduceEq, gi]
      refine sep_store (s.pull 0 rfl) (by simp) fun h3 s => ?_
      have s := s.as (ds := dyC i.low) (by simp [t_put])
      have gi := ivRd (s.pull 3 rfl)
      try simp (disch := omega) only [WA, ↓reduceIte, reduceEqDiff, reduceAdd, reduceMul, reduceSub, reduceLeDiff, reduceLT, reduceLE, reduceNeg, reduceEq, gi]
      refine tail_step [(7, [], [], true)] (by kernel_rfl) (by kernel_rfl) (a_cut (by simp only [List.filterMap_cons, List.filterMap_nil, List.getElem?_cons_zero, List.getElem?_cons_succ]; rfl) (by kernel_rfl) ?_ trivial)
      simp (disch := omega) only [WA, ↓reduceIte, reduceEqDiff, reduceAdd, reduceMul, reduceSub, reduceLeDiff, reduceLT, reduceLE, reduceNeg, reduceEq, gi]
      refine sep_store (s.pull 1 rfl) (by simp) fun h3 s => ?_
      have s := s.as (ds := dyC i.high) (by simp [t_put])
      try simp (disch := omega) only [WA, ↓reduceIte, reduceEqDiff, reduceAdd, reduceMul, reduceSub, reduceLeDiff, reduceLT, reduceLE, reduceNeg, reduceEq]
      exact hK' _ _ ⟨rfl, rfl, rfl, rfl, _, _, rfl, rfl, ((s.pull 0 rfl).pull 1 rfl).pull 4 rfl⟩
  rintro e1 h1 ⟨e0, e2, e4, e6, px, py, e7, e8, s⟩
  clear gi
  have w1 : (n : Int) - 1 = ((n - 1 : Nat) : Int) := by omega
  simp (disch := omega) only [WA, ↓reduceIte, reduceEqDiff, reduceAdd, reduceMul, reduceSub, reduceLeDiff, reduceLT, reduceLE, reduceNeg, reduceEq, e2, wrap_in, w1]
  refine loop_rule (fun m e h' => ∃ (j : Nat) (x y : Dy), e 0 = .pointer (some ⟨b, 0, none⟩) ∧ e 2 = .int .i64 n ∧ e 4 = .pointer (some ⟨h.length, 0, none⟩) ∧ e 6 = .pointer (some ⟨h.length + 1, 0, none⟩) ∧ e 7 = .pointer (some ⟨px, 0, none⟩) ∧ e 8 = .pointer (some ⟨py, 0, none⟩) ∧ e 18 = .int .i64 ((n - 1 : Nat) : Int) ∧ e 19 = .int .i64 j ∧
    j ≤ n - 1 ∧ m = n - 1 - j ∧ DyG x ∧ DyG y ∧ (pwB p i (j + 1) = true → powD i.low (j + 1) = some x ∧ powD i.high (j + 1) = some y) ∧
    Sep a h' (blkA b [.bool (pwB p i (j + 1))] 149 :: blkA px (dyC x) 97 :: blkA py (dyC y) 97 :: blkA (h.length + 1) [.int .i64 0, .int .i64 0, .int .i64 0, .int .i64 0] 122 :: blkA h.length (ivC i) 122 :: L)) ?_ (n - 1) _ _
    ⟨0, i.low, i.high, e0, e2, e4, e6, e7, e8, rfl, rfl, by omega, by omega, hi.low, hi.high, fun _ => ⟨powD_one hi.low, powD_one hi.high⟩, by
      have e : pwB p i (0 + 1) = p := by unfold pwB; rw [powD_one hi.low, powD_one hi.high]; simp
      rw [e]; exact s⟩
  rintro m e h2 ⟨j, x, y, e0, e2, e4, e6, e7, e8, e18, e19, hj, rfl, gx, gy, hv, s⟩
  simp (disch := omega) only [WA, ↓reduceIte, reduceEqDiff, reduceAdd, reduceMul, reduceSub, reduceLeDiff, reduceLT, reduceLE, reduceNeg, reduceEq, e18, e19]
  by_cases c : (j : Int) < ((n - 1 : Nat) : Int)
  · obtain ⟨q1, q2⟩ := pw_step hv
    have GA := keepM_good (p := pwB p i (j + 1)) (o := mulM x i.low) fun d => mulM_good
    have GB := keepM_good (p := pwB p i (j + 1) && (mulM x i.low).isSome) (o := mulM y i.high) fun d => mulM_good
    have gx1 := (s.pull 1 rfl).rdAll (n := 2) rfl
    have gy1 := (s.pull 2 rfl).rdAll (n := 2) rfl
    have gi := ivRd (s.pull 4 rfl)
    simp (disch := omega) only [WA, ↓reduceIte, reduceEqDiff, reduceAdd, reduceMul, reduceSub, reduceLeDiff, reduceLT, reduceLE, reduceNeg, reduceEq, c, e0, e4, e7, e8, gx1, gy1, gi]
    refine draw_tail [0, 1, 2, 3, 5, 6, 7, 8] [4, 9, 10, 11] (by kernel_rfl) (by simp only [List.filterMap_cons, List.filterMap_nil, List.getElem?_cons_zero, List.getElem?_cons_succ]; rfl) ?_
    simp (disch := omega) only [WA, ↓reduceIte, reduceEqDiff, reduceAdd, reduceMul, reduceSub, reduceLeDiff, reduceLT, reduceLE, reduceNeg, reduceEq, e0, e4, e7, e8, gx1, gy1, gi]
    refine tail_step [(4, [], [9, 10, 11], false)] (by kernel_rfl) (by kernel_rfl) (a_cons (by simp only [List.filterMap_cons, List.filterMap_nil, List.getElem?_cons_zero, List.getElem?_cons_succ]; rfl) (by kernel_rfl) ?_ trivial)
    simp (disch := omega) only [WA, ↓reduceIte, reduceEqDiff, reduceAdd, reduceMul, reduceSub, reduceLeDiff, reduceLT, reduceLE, reduceNeg, reduceEq, e0, e4, e7, e8, gx1, gy1, gi]
    refine .inl ⟨by kernel_rfl, ?_⟩; refine rproduct_c s gx hi.low fun h3 s => ?_
    have gx1 := (s.pull 1 rfl).rdAll (n := 2) rfl
    have gy1 := (s.pull 2 rfl).rdAll (n := 2) rfl
    have gi := ivRd (s.pull 4 rfl)
    simp (disch := omega) only [WA, ↓reduceIte, reduceEqDiff, reduceAdd, reduceMul, reduceSub, reduceLeDiff, reduceLT, reduceLE, reduceNeg, reduceEq, e0, e4, e7, e8, gx1, gy1, gi]
    refine tail_step [(9, [], [10, 11], true)] (by kernel_rfl) (by kernel_rfl) (a_cut (by simp only [List.filterMap_cons, List.filterMap_nil, List.getElem?_cons_zero, List.getElem?_cons_succ]; rfl) (by kernel_rfl) ?_ trivial)
    simp (disch := omega) only [WA, ↓reduceIte, reduceEqDiff, reduceAdd, reduceMul, reduceSub, reduceLeDiff, reduceLT, reduceLE, reduceNeg, reduceEq, e0, e4, e7, e8, gx1, gy1, gi]
    refine .inl ⟨by kernel_rfl, ?_⟩; refine rproduct_c s gy hi.high fun h4 s => ?_
    have gx1 := (s.pull 1 rfl).rdAll (n := 2) rfl
    have gy1 := (s.pull 2 rfl).rdAll (n := 2) rfl
    have gi := ivRd (s.pull 4 rfl)
    rw [q2] at s
    generalize keepM (pwB p i (j + 1)) (mulM x i.low) = A at *
    generalize keepM (pwB p i (j + 1) && (mulM x i.low).isSome) (mulM y i.high) = B at *
    simp (disch := omega) only [WA, ↓reduceIte, reduceEqDiff, reduceAdd, reduceMul, reduceSub, reduceLeDiff, reduceLT, reduceLE, reduceNeg, reduceEq, e0, e4, e7, e8, gx1, gy1, gi]
    refine tail_step [(10, [], [11], true)] (by kernel_rfl) (by kernel_rfl) (a_cut (by simp only [List.filterMap_cons, List.filterMap_nil, List.getElem?_cons_zero, List.getElem?_cons_succ]; rfl) (by kernel_rfl) ?_ trivial)
    simp (disch := omega) only [WA, ↓reduceIte, reduceEqDiff, reduceAdd, reduceMul, reduceSub, reduceLeDiff, reduceLT, reduceLE, reduceNeg, reduceEq, e0, e4, e7, e8, gx1, gy1, gi]
    refine sep_store (s.pull 1 rfl) (by simp) fun h5 s => ?_
    have s := s.as (ds := dyC A) (by simp [t_put])
    have gi := ivRd (s.pull 4 rfl)
    have gy1 := (s.pull 2 rfl).rdAll (n := 2) rfl
    try simp (disch := omega) only [WA, ↓reduceIte, reduceEqDiff, reduceAdd, reduceMul, reduceSub, reduceLeDiff, reduceLT, reduceLE, reduceNeg, reduceEq, e8, gi, gy1]
    refine tail_step [(11, [], [], true)] (by kernel_rfl) (by kernel_rfl) (a_cut (by simp only [List.filterMap_cons, List.filterMap_nil, List.getElem?_cons_zero, List.getElem?_cons_succ]; rfl) (by kernel_rfl) ?_ trivial)
    simp (disch := omega) only [WA, ↓reduceIte, reduceEqDiff, reduceAdd, reduceMul, reduceSub, reduceLeDiff, reduceLT, reduceLE, reduceNeg, reduceEq, e8, gi, gy1]
    refine sep_store (s.pull 2 rfl) (by simp) fun h6 s => ?_
    have s := s.as (ds := dyC B) (by simp [t_put])
    have gi := ivRd (s.pull 4 rfl)
    simp (disch := omega) only [WA, ↓reduceIte, reduceEqDiff, reduceAdd, reduceMul, reduceSub, reduceLeDiff, reduceLT, reduceLE, reduceNeg, reduceEq, e19, wrap_in, gi]
    exact ⟨_, by omega, j + 1, A, B, e0, e2, e4, e6, e7, e8, e18, by simp, by omega, rfl, GA, GB, q1, ((s.pull 0 rfl).pull 1 rfl).pull 2 rfl⟩
  · obtain rfl : j = n - 1 := by omega
    have en : n - 1 + 1 = n := by omega
    rw [en] at hv s
    have hpw : ∀ o, p = true → powI i n = some o → pwB p i n = true := by
      intro o hp ho
      rw [← pow_isSome z, hp, ho]; rfl
    have gx1 := (s.pull 1 rfl).rdAll (n := 2) rfl
    have gy1 := (s.pull 2 rfl).rdAll (n := 2) rfl
    have gi := ivRd (s.pull 4 rfl)
    have rm : Int.tmod (n : Int) 2 = ((n % 2 : Nat) : Int) := by rw [Int.tmod_eq_emod_of_nonneg (by omega)]; omega
    simp (disch := omega) only [WA, ↓reduceIte, reduceEqDiff, reduceAdd, reduceMul, reduceSub, reduceLeDiff, reduceLT, reduceLE, reduceNeg, reduceEq, c, e2, rm, wrap_in]
    by_cases ev : n % 2 = 0
    · have ev' : ((n % 2 : Nat) : Int) = 0 := by omega
      simp (disch := omega) only [WA, ↓reduceIte, reduceEqDiff, reduceAdd, reduceMul, reduceSub, reduceLeDiff, reduceLT, reduceLE, reduceNeg, reduceEq, ev', e7, e8, gx1, gy1]
      refine draw_tail [0, 1, 3, 4] [2, 5, 6, 7] (by kernel_rfl) (by simp only [List.filterMap_cons, List.filterMap_nil, List.getElem?_cons_zero, List.getElem?_cons_succ]; rfl) ?_
      simp (disch := omega) only [WA, ↓reduceIte, reduceEqDiff, reduceAdd, reduceMul, reduceSub, reduceLeDiff, reduceLT, reduceLE, reduceNeg, reduceEq, ev', e7, e8, gx1, gy1]
      refine tail_step [(2, [], [5, 6, 7], false)] (by kernel_rfl) (by kernel_rfl) (a_cons (by simp only [List.filterMap_cons, List.filterMap_nil, List.getElem?_cons_zero, List.getElem?_cons_succ]; rfl) (by kernel_rfl) ?_ trivial)
      simp (disch := omega) only [WA, ↓reduceIte, reduceEqDiff, reduceAdd, reduceMul, reduceSub, reduceLeDiff, reduceLT, reduceLE, reduceNeg, reduceEq, ev', e7, e8, gx1, gy1]
      refine .inl ⟨by kernel_rfl, ?_⟩; refine lesser_c gx gy fun h3 E3 => ?_
      have s := s.mono E3
      have gx1 := (s.pull 1 rfl).rdAll (n := 2) rfl
      have gy1 := (s.pull 2 rfl).rdAll (n := 2) rfl
      simp (disch := omega) only [WA, ↓reduceIte, reduceEqDiff, reduceAdd, reduceMul, reduceSub, reduceLeDiff, reduceLT, reduceLE, reduceNeg, reduceEq, ev', e7, e8, gx1, gy1]
      refine tail_step [(5, [], [6, 7], true)] (by kernel_rfl) (by kernel_rfl) (a_cut (by simp only [List.filterMap_cons, List.filterMap_nil, List.getElem?_cons_zero, List.getElem?_cons_succ]; rfl) (by kernel_rfl) ?_ trivial)
      simp (disch := omega) only [WA, ↓reduceIte, reduceEqDiff, reduceAdd, reduceMul, reduceSub, reduceLeDiff, reduceLT, reduceLE, reduceNeg, reduceEq, ev', e7, e8, gx1, gy1]
      refine .inl ⟨by kernel_rfl, ?_⟩; refine greater_c gx gy fun h3 E3 => ?_
      have s := s.mono E3
      have gx1 := (s.pull 1 rfl).rdAll (n := 2) rfl
      have gy1 := (s.pull 2 rfl).rdAll (n := 2) rfl
      simp (disch := omega) only [WA, ↓reduceIte, reduceEqDiff, reduceAdd, reduceMul, reduceSub, reduceLeDiff, reduceLT, reduceLE, reduceNeg, reduceEq, ev', e7, e8, gx1, gy1]
      refine tail_step [(6, [], [7], true)] (by kernel_rfl) (by kernel_rfl) (a_cut (by simp only [List.filterMap_cons, List.filterMap_nil, List.getElem?_cons_zero, List.getElem?_cons_succ]; rfl) (by kernel_rfl) ?_ trivial)
      simp (disch := omega) only [WA, ↓reduceIte, reduceEqDiff, reduceAdd, reduceMul, reduceSub, reduceLeDiff, reduceLT, reduceLE, reduceNeg, reduceEq, ev', e7, e8, gx1, gy1]
      refine sep_store (s.pull 1 rfl) (by simp) fun h5 s => ?_
      have s := s.as (ds := dyC (lsM x y)) (by simp [t_put])
      have gy1 := (s.pull 2 rfl).rdAll (n := 2) rfl
      try simp (disch := omega) only [WA, ↓reduceIte, reduceEqDiff, reduceAdd, reduceMul, reduceSub, reduceLeDiff, reduceLT, reduceLE, reduceNeg, reduceEq, ev', e7, e8, gy1]
      refine tail_step [(7, [], [], true)] (by kernel_rfl) (by kernel_rfl) (a_cut (by simp only [List.filterMap_cons, List.filterMap_nil, List.getElem?_cons_zero, List.getElem?_cons_succ]; rfl) (by kernel_rfl) ?_ trivial)
      simp (disch := omega) only [WA, ↓reduceIte, reduceEqDiff, reduceAdd, reduceMul, reduceSub, reduceLeDiff, reduceLT, reduceLE, reduceNeg, reduceEq, ev', e7, e8, gy1]
      refine sep_store (s.pull 2 rfl) (by simp) fun h6 s => ?_
      have s := s.as (ds := dyC (gtM x y)) (by simp [t_put])
      have gi := ivRd (s.pull 4 rfl)
      simp (disch := omega) only [WA, ↓reduceIte, reduceEqDiff, reduceAdd, reduceMul, reduceSub, reduceLeDiff, reduceLT, reduceLE, reduceNeg, reduceEq, ev', e4, gi]
      refine .inl ⟨by kernel_rfl, ?_⟩; refine signOf_c fun h7 E7 => ?_
      have s := s.mono E7
      by_cases sz : sgI i = 0
      · simp (disch := omega) only [WA, ↓reduceIte, reduceEqDiff, reduceAdd, reduceMul, reduceSub, reduceLeDiff, reduceLT, reduceLE, reduceNeg, reduceEq, sz]
        refine .inl ⟨by kernel_rfl, ?_⟩; refine integer_c fun h8 E8 => ?_
        have s := s.mono E8
        simp (disch := omega) only [WA, ↓reduceIte, reduceEqDiff, reduceAdd, reduceMul, reduceSub, reduceLeDiff, reduceLT, reduceLE, reduceNeg, reduceEq, e7]
        refine sep_store (s.pull 1 rfl) (by simp) fun h9 s => ?_
        have s := s.as (ds := dyC ⟨0, 0⟩) (by simp [t_put])
        have gx1 := (s.pull 0 rfl).rdAll (n := 2) rfl
        have gy1 := (s.pull 1 rfl).rdAll (n := 2) rfl
        simp (disch := omega) only [WA, ↓reduceIte, reduceEqDiff, reduceAdd, reduceMul, reduceSub, reduceLeDiff, reduceLT, reduceLE, reduceNeg, reduceEq, e7, e8, gx1, gy1]
        refine .inl ⟨by kernel_rfl, ?_⟩; refine roundOut_c (i := ⟨⟨0, 0⟩, gtM x y⟩) ⟨good0, gtM_good gx gy⟩ fun h10 E10 => ?_
        have s := s.mono E10
        have vD : IvD (rdI ⟨⟨0, 0⟩, gtM x y⟩) := rdI_D ⟨good0, gtM_good gx gy⟩
        have hv2 : ∀ o, p = true → powI i n = some o → rdI ⟨⟨0, 0⟩, gtM x y⟩ = o := by
          intro o hp ho
          obtain ⟨k1, k2⟩ := hv (hpw o hp ho)
          unfold powI at ho
          rw [if_neg z, k1, k2] at ho
          simp only [if_pos ev, if_pos sz] at ho
          exact Option.some.inj ho
        generalize rdI ⟨⟨0, 0⟩, gtM x y⟩ = v at *
        simp (disch := omega) only [WA, ↓reduceIte, reduceEqDiff, reduceAdd, reduceMul, reduceSub, reduceLeDiff, reduceLT, reduceLE, reduceNeg, reduceEq, e6]
        refine sep_store (s.pull 3 rfl) (by simp) fun h11 s => ?_
        have s := s.as (ds := ivC v) (by simp [t_put])
        have gz := (s.pull 0 rfl).rdAll (n := 4) rfl
        simp (disch := omega) only [WA, ↓reduceIte, reduceEqDiff, reduceAdd, reduceMul, reduceSub, reduceLeDiff, reduceLT, reduceLE, reduceNeg, reduceEq, gz, e6]
        exact hQ _ v vD hv2 (s.tail.tail.tail.swap.tail)
      · simp (disch := omega) only [WA, ↓reduceIte, reduceEqDiff, reduceAdd, reduceMul, reduceSub, reduceLeDiff, reduceLT, reduceLE, reduceNeg, reduceEq, sz, e7, e8]
        have gx1 := (s.pull 1 rfl).rdAll (n := 2) rfl
        have gy1 := (s.pull 0 rfl).rdAll (n := 2) rfl
        simp (disch := omega) only [WA, ↓reduceIte, reduceEqDiff, reduceAdd, reduceMul, reduceSub, reduceLeDiff, reduceLT, reduceLE, reduceNeg, reduceEq, e7, e8, gx1, gy1]
        refine .inl ⟨by kernel_rfl, ?_⟩; refine roundOut_c (i := ⟨lsM x y, gtM x y⟩) ⟨lsM_good gx gy, gtM_good gx gy⟩ fun h10 E10 => ?_
        have s := s.mono E10
        have vD : IvD (rdI ⟨lsM x y, gtM x y⟩) := rdI_D ⟨lsM_good gx gy, gtM_good gx gy⟩
        have hv2 : ∀ o, p = true → powI i n = some o → rdI ⟨lsM x y, gtM x y⟩ = o := by
          intro o hp ho
          obtain ⟨k1, k2⟩ := hv (hpw o hp ho)
          unfold powI at ho
          rw [if_neg z, k1, k2] at ho
          simp only [if_pos ev, if_neg sz] at ho
          exact Option.some.inj ho
        generalize rdI ⟨lsM x y, gtM x y⟩ = v at *
        simp (disch := omega) only [WA, ↓reduceIte, reduceEqDiff, reduceAdd, reduceMul, reduceSub, reduceLeDiff, reduceLT, reduceLE, reduceNeg, reduceEq, e6]
        refine sep_store (s.pull 3 rfl) (by simp) fun h11 s => ?_
        have s := s.as (ds := ivC v) (by simp [t_put])
        have gz := (s.pull 0 rfl).rdAll (n := 4) rfl
        simp (disch := omega) only [WA, ↓reduceIte, reduceEqDiff, reduceAdd, reduceMul, reduceSub, reduceLeDiff, reduceLT, reduceLE, reduceNeg, reduceEq, gz, e6]
        exact hQ _ v vD hv2 (s.tail.tail.tail.swap.tail)
    · have ev' : ¬ ((n % 2 : Nat) : Int) = 0 := by omega
      simp (disch := omega) only [WA, ↓reduceIte, reduceEqDiff, reduceAdd, reduceMul, reduceSub, reduceLeDiff, reduceLT, reduceLE, reduceNeg, reduceEq, ev', e7, e8, gx1, gy1]
      refine .inl ⟨by kernel_rfl, ?_⟩; refine roundOut_c (i := ⟨x, y⟩) ⟨gx, gy⟩ fun h10 E10 => ?_
      have s := s.mono E10
      have vD : IvD (rdI ⟨x, y⟩) := rdI_D ⟨gx, gy⟩
      have hv2 : ∀ o, p = true → powI i n = some o → rdI ⟨x, y⟩ = o := by
        intro o hp ho
        obtain ⟨k1, k2⟩ := hv (hpw o hp ho)
        unfold powI at ho
        rw [if_neg z, k1, k2] at ho
        simp only [if_neg ev] at ho
        exact Option.some.inj ho
      generalize rdI ⟨x, y⟩ = v at *
      simp (disch := omega) only [WA, ↓reduceIte, reduceEqDiff, reduceAdd, reduceMul, reduceSub, reduceLeDiff, reduceLT, reduceLE, reduceNeg, reduceEq, e6]
      refine sep_store (s.pull 3 rfl) (by simp) fun h11 s => ?_
      have s := s.as (ds := ivC v) (by simp [t_put])
      have gz := (s.pull 0 rfl).rdAll (n := 4) rfl
      simp (disch := omega) only [WA, ↓reduceIte, reduceEqDiff, reduceAdd, reduceMul, reduceSub, reduceLeDiff, reduceLT, reduceLE, reduceNeg, reduceEq, gz, e6]
      exact hQ _ v vD hv2 (s.tail.swap.tail.swap.tail.swap.tail)
end Go.Proofs
