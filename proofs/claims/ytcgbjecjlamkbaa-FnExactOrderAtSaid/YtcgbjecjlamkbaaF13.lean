/- Contracts of functions, facts of types, or the plain law behind one statement (own work): F13. Conditions: those told in each theorem. -/
import Derived.Test.YtcgbjecjlamkbaaF12
set_option linter.all false
set_option linter.unusedSimpArgs false
set_option linter.unusedVariables false
set_option maxRecDepth 4000
namespace Go.Proofs
open Go Go.V
/- The derivatives at a mark. -/
def sgD (p : List Int) (d : Dy) (n : Nat) : Int := (hor d.n (2 ^ d.k.toNat) (dIt n p)).sign
def derM (p : List Int) (n : Int) (d : Dy) : Int × Bool := if askM p d = true ∧ (0 ≤ n ∧ n ≤ 8) then (sgD p d n.toNat, true) else (0, false)
theorem sing_ok {p : List Int} (h : singM p = true) : p.length ≤ 9 ∧ Okay 0 p ∧ Led p := by
  unfold singM at h
  simp only [Bool.and_eq_true, Bool.or_eq_true, decide_eq_true_eq, List.all_eq_true] at h
  obtain ⟨⟨h1, h2⟩, h3⟩ := h
  refine ⟨h1, ⟨by omega, fun x hx => ?_⟩, fun x hx => ?_⟩
  · have := h2 x hx
    unfold coefB at this
    exact of_decide_eq_true this
  · rcases h3 with h3 | h3
    · rw [List.getElem?_eq_none (by omega)] at hx; cases hx
    · unfold lastI at h3
      rw [hx] at h3
      exact h3
theorem mk_ok {d : Dy} (h : mkM d = true) : (0 ≤ d.k ∧ d.k ≤ 12) ∧ (-16777216 ≤ d.n ∧ d.n ≤ 16777216) := by
  unfold mkM dyM at h
  simp only [Bool.and_eq_true, decide_eq_true_eq] at h
  omega
theorem ask_ok {p : List Int} {d : Dy} (h : askM p d = true) : singM p = true ∧ 0 < p.length ∧ mkM d = true := by
  unfold askM at h
  simp only [Bool.and_eq_true, decide_eq_true_eq] at h
  exact ⟨h.1.1, h.1.2, h.2⟩
theorem Okay.big {n : Nat} {p : List Int} (h : Okay n p) (hn : n ≤ 8) : p.length ≤ 9 ∧ ∀ x ∈ p, -68719476736 ≤ x ∧ x ≤ 68719476736 := by
  have := bndD_le hn
  refine ⟨by have := h.1; omega, fun x hx => ?_⟩
  have := h.2 x hx
  omega
theorem sgD_in (p : List Int) (d : Dy) (n : Nat) : -1 ≤ sgD p d n ∧ sgD p d n ≤ 1 := by
  unfold sgD
  rcases Int.lt_trichotomy (hor d.n (2 ^ d.k.toNat) (dIt n p)) 0 with k | k | k
  · rw [Int.sign_eq_neg_one_of_neg k]; decide
  · rw [k]; decide
  · rw [Int.sign_eq_one_of_pos k]; decide
theorem signAt_i {p : List Int} {d : Dy} {n : Nat} {v : Value} {h : Heap} {Q : Value → Heap → Prop} (hs : singM p = true) (hm : mkM d = true) (hn : n ≤ 8) (r : Row h (dIt n p) v) (hQ : ∀ h', Ext h h' → Q (.int .i64 (sgD p d n)) h') :
    CallsV Try.prog 21 [v, .agg (dyC d).toArray] h Q := by
  obtain ⟨s1, s2, s3⟩ := sing_ok hs
  obtain ⟨m1, m2⟩ := mk_ok hm
  obtain ⟨b1, b2⟩ := (s2.it n hn).big hn
  have e : d.k = (d.k.toNat : Int) := by omega
  unfold dyC
  rw [e]
  exact signAt_c r b1 (fun x hx => by have := b2 x hx; omega) m2 (by omega) hQ
theorem DerivativeAt_i {p : List Int} {n : Int} {d : Dy} {v : Value} {cs : List Value} {h : Heap} {Q : Value → Heap → Prop} (r : Row h p v) (hn : inI64 n) (hd : Here h d cs)
    (hQ : ∀ h', Ext h h' → Q (.tuple #[.int .i64 (derM p n d).1, .bool (derM p n d).2]) h') : CallsV Try.prog 8 [v, .int .i64 n, .agg cs.toArray] h Q := by
  obtain ⟨rfl, f1, f2⟩ := here_Dy hd
  refine CallsV.start Try.func8 rfl (by rw [Try.results8]) (by kernel_rfl) (by rw [Try.ntmps8]; simp) ?_
  have s := Sep.blk1 h (dyC d) 28 true
  have no : ∀ h', Ext h h' → (singM p = false ∨ p.length = 0 ∨ ¬ (0 ≤ n ∧ n ≤ 8) ∨ mkM d = false) → Q (.tuple #[.int .i64 0, .bool false]) h' := fun h' E hh => by
    have := hQ h' E
    unfold derM at this
    rw [if_neg (fun x => by
      obtain ⟨a1, a2, a3⟩ := ask_ok x.1
      rcases hh with k | k | k | k
      · rw [a1] at k; cases k
      · omega
      · exact k x.2
      · rw [a3] at k; cases k)] at this
    exact this
  have r1 := r.mono s.ext
  have lenP := r.isRow.len Try.prog
  simp (disch := omega) only [VW, VY, VZ, VA, VB, VC, VE, TY, ↓reduceIte, Nat.reduceEqDiff, Nat.reduceAdd, Nat.reduceMul, Nat.reduceSub, Nat.reduceLeDiff, List.length_cons, List.length_nil, List.length_append, List.append_assoc, List.take_succ_cons, List.take_zero, List.drop_succ_cons, List.drop_zero, List.set_cons_zero, List.set_cons_succ, true_or, or_true, and_self, Bool.false_eq_true, Nat.le_refl, Option.bind_some, Option.map_some, Option.getD_some, Option.isSome_some, List.map_cons, List.map_nil, List.cons_append, List.nil_append, List.append_nil, List.getElem?_cons_zero, List.getElem?_cons_succ, eq_self, Int.reduceLT, Int.reduceLE, Int.reduceNeg, Int.reduceEq]
  refine .inl ⟨by kernel_rfl, ?_⟩; refine isSingle_c r1 ?_
  cases c1 : singM p with
  | false =>
    simp (disch := omega) only [VW, VY, VZ, VA, VB, VC, VE, TY, ↓reduceIte, Nat.reduceEqDiff, Nat.reduceAdd, Nat.reduceMul, Nat.reduceSub, Nat.reduceLeDiff, List.length_cons, List.length_nil, List.length_append, List.append_assoc, List.take_succ_cons, List.take_zero, List.drop_succ_cons, List.drop_zero, List.set_cons_zero, List.set_cons_succ, true_or, or_true, and_self, Bool.false_eq_true, Nat.le_refl, Option.bind_some, Option.map_some, Option.getD_some, Option.isSome_some, List.map_cons, List.map_nil, List.cons_append, List.nil_append, List.append_nil, List.getElem?_cons_zero, List.getElem?_cons_succ, eq_self, Int.reduceLT, Int.reduceLE, Int.reduceNeg, Int.reduceEq]
    exact no _ s.ext (.inl c1)
  | true =>
    simp (disch := omega) only [VW, VY, VZ, VA, VB, VC, VE, TY, ↓reduceIte, Nat.reduceEqDiff, Nat.reduceAdd, Nat.reduceMul, Nat.reduceSub, Nat.reduceLeDiff, List.length_cons, List.length_nil, List.length_append, List.append_assoc, List.take_succ_cons, List.take_zero, List.drop_succ_cons, List.drop_zero, List.set_cons_zero, List.set_cons_succ, true_or, or_true, and_self, Bool.false_eq_true, Nat.le_refl, Option.bind_some, Option.map_some, Option.getD_some, Option.isSome_some, List.map_cons, List.map_nil, List.cons_append, List.nil_append, List.append_nil, List.getElem?_cons_zero, List.getElem?_cons_succ, eq_self, Int.reduceLT, Int.reduceLE, Int.reduceNeg, Int.reduceEq, lenP]
    by_cases c2 : p.length = 0
    · have d2 : (p.length : Int) = 0 := by omega
      simp (disch := omega) only [VW, VY, VZ, VA, VB, VC, VE, TY, ↓reduceIte, Nat.reduceEqDiff, Nat.reduceAdd, Nat.reduceMul, Nat.reduceSub, Nat.reduceLeDiff, List.length_cons, List.length_nil, List.length_append, List.append_assoc, List.take_succ_cons, List.take_zero, List.drop_succ_cons, List.drop_zero, List.set_cons_zero, List.set_cons_succ, true_or, or_true, and_self, Bool.false_eq_true, Nat.le_refl, Option.bind_some, Option.map_some, Option.getD_some, Option.isSome_some, List.map_cons, List.map_nil, List.cons_append, List.nil_append, List.append_nil, List.getElem?_cons_zero, List.getElem?_cons_succ, eq_self, Int.reduceLT, Int.reduceLE, Int.reduceNeg, Int.reduceEq, d2]
      exact no _ s.ext (.inr (.inl c2))
    · have d2 : ¬ (p.length : Int) = 0 := by omega
      simp (disch := omega) only [VW, VY, VZ, VA, VB, VC, VE, TY, ↓reduceIte, Nat.reduceEqDiff, Nat.reduceAdd, Nat.reduceMul, Nat.reduceSub, Nat.reduceLeDiff, List.length_cons, List.length_nil, List.length_append, List.append_assoc, List.take_succ_cons, List.take_zero, List.drop_succ_cons, List.drop_zero, List.set_cons_zero, List.set_cons_succ, true_or, or_true, and_self, Bool.false_eq_true, Nat.le_refl, Option.bind_some, Option.map_some, Option.getD_some, Option.isSome_some, List.map_cons, List.map_nil, List.cons_append, List.nil_append, List.append_nil, List.getElem?_cons_zero, List.getElem?_cons_succ, eq_self, Int.reduceLT, Int.reduceLE, Int.reduceNeg, Int.reduceEq, d2]
      refine .inl ⟨by kernel_rfl, ?_⟩; refine inside_c ?_
      by_cases c3 : 0 ≤ n ∧ n ≤ 8
      · have d3 := decide_eq_true c3
        have ga := s.rdAll (n := 2) rfl
        simp (disch := omega) only [VW, VY, VZ, VA, VB, VC, VE, TY, ↓reduceIte, Nat.reduceEqDiff, Nat.reduceAdd, Nat.reduceMul, Nat.reduceSub, Nat.reduceLeDiff, List.length_cons, List.length_nil, List.length_append, List.append_assoc, List.take_succ_cons, List.take_zero, List.drop_succ_cons, List.drop_zero, List.set_cons_zero, List.set_cons_succ, true_or, or_true, and_self, Bool.false_eq_true, Nat.le_refl, Option.bind_some, Option.map_some, Option.getD_some, Option.isSome_some, List.map_cons, List.map_nil, List.cons_append, List.nil_append, List.append_nil, List.getElem?_cons_zero, List.getElem?_cons_succ, eq_self, Int.reduceLT, Int.reduceLE, Int.reduceNeg, Int.reduceEq, d3, ga]
        refine .inl ⟨by kernel_rfl, ?_⟩; refine isMark_c fun h2 E2 => ?_
        have s := s.mono E2
        cases c4 : mkM d with
        | false =>
          simp (disch := omega) only [VW, VY, VZ, VA, VB, VC, VE, TY, ↓reduceIte, Nat.reduceEqDiff, Nat.reduceAdd, Nat.reduceMul, Nat.reduceSub, Nat.reduceLeDiff, List.length_cons, List.length_nil, List.length_append, List.append_assoc, List.take_succ_cons, List.take_zero, List.drop_succ_cons, List.drop_zero, List.set_cons_zero, List.set_cons_succ, true_or, or_true, and_self, Bool.false_eq_true, Nat.le_refl, Option.bind_some, Option.map_some, Option.getD_some, Option.isSome_some, List.map_cons, List.map_nil, List.cons_append, List.nil_append, List.append_nil, List.getElem?_cons_zero, List.getElem?_cons_succ, eq_self, Int.reduceLT, Int.reduceLE, Int.reduceNeg, Int.reduceEq]
          exact no _ s.ext (.inr (.inr (.inr c4)))
        | true =>
          obtain ⟨N, hN⟩ : ∃ N : Nat, n = N := ⟨n.toNat, by omega⟩
          subst hN
          have hask : askM p d = true := by unfold askM; rw [c1, c4, decide_eq_true (show 0 < p.length by omega)]; rfl
          unfold derM at hQ
          rw [if_pos ⟨hask, c3⟩] at hQ
          obtain ⟨o1, o2, o3⟩ := sing_ok c1
          simp (disch := omega) only [VW, VY, VZ, VA, VB, VC, VE, TY, ↓reduceIte, Nat.reduceEqDiff, Nat.reduceAdd, Nat.reduceMul, Nat.reduceSub, Nat.reduceLeDiff, List.length_cons, List.length_nil, List.length_append, List.append_assoc, List.take_succ_cons, List.take_zero, List.drop_succ_cons, List.drop_zero, List.set_cons_zero, List.set_cons_succ, true_or, or_true, and_self, Bool.false_eq_true, Nat.le_refl, Option.bind_some, Option.map_some, Option.getD_some, Option.isSome_some, List.map_cons, List.map_nil, List.cons_append, List.nil_append, List.append_nil, List.getElem?_cons_zero, List.getElem?_cons_succ, eq_self, Int.reduceLT, Int.reduceLE, Int.reduceNeg, Int.reduceEq]
          refine loop_rule (fun k e h' => ∃ (i : Nat) (w : Value), e 0 = w ∧ e 5 = .pointer (some ⟨h.length, 0, none⟩) ∧ e 26 = .int .i64 (N : Nat) ∧ e 27 = .int .i64 i ∧ i ≤ N ∧ k = N - i ∧ Row h' (dIt i p) w ∧ Sep h h' [blkA h.length (dyC d) 28]) ?_ N _ _
            ⟨0, v, rfl, rfl, rfl, rfl, Nat.zero_le _, rfl, r.mono s.ext, s⟩
          clear s
          rintro k e h3 ⟨i, w, e0, e5, e26, e27, hi, rfl, r3, s⟩
          simp (disch := omega) only [VW, VY, VZ, VA, VB, VC, VE, TY, ↓reduceIte, Nat.reduceEqDiff, Nat.reduceAdd, Nat.reduceMul, Nat.reduceSub, Nat.reduceLeDiff, List.length_cons, List.length_nil, List.length_append, List.append_assoc, List.take_succ_cons, List.take_zero, List.drop_succ_cons, List.drop_zero, List.set_cons_zero, List.set_cons_succ, true_or, or_true, and_self, Bool.false_eq_true, Nat.le_refl, Option.bind_some, Option.map_some, Option.getD_some, Option.isSome_some, List.map_cons, List.map_nil, List.cons_append, List.nil_append, List.append_nil, List.getElem?_cons_zero, List.getElem?_cons_succ, eq_self, Int.reduceLT, Int.reduceLE, Int.reduceNeg, Int.reduceEq, e26, e27]
          by_cases hlt : i < N
          · have q1 : (i : Int) < (N : Int) := by omega
            simp (disch := omega) only [VW, VY, VZ, VA, VB, VC, VE, TY, ↓reduceIte, Nat.reduceEqDiff, Nat.reduceAdd, Nat.reduceMul, Nat.reduceSub, Nat.reduceLeDiff, List.length_cons, List.length_nil, List.length_append, List.append_assoc, List.take_succ_cons, List.take_zero, List.drop_succ_cons, List.drop_zero, List.set_cons_zero, List.set_cons_succ, true_or, or_true, and_self, Bool.false_eq_true, Nat.le_refl, Option.bind_some, Option.map_some, Option.getD_some, Option.isSome_some, List.map_cons, List.map_nil, List.cons_append, List.nil_append, List.append_nil, List.getElem?_cons_zero, List.getElem?_cons_succ, eq_self, Int.reduceLT, Int.reduceLE, Int.reduceNeg, Int.reduceEq, q1, e0]
            refine .inl ⟨by kernel_rfl, ?_⟩; refine deriveSingle_c r3 (o2.it i (by omega)) (by omega) (o3.it i) fun w2 h4 s4 => ?_
            simp (disch := omega) only [VW, VY, VZ, VA, VB, VC, VE, TY, ↓reduceIte, Nat.reduceEqDiff, Nat.reduceAdd, Nat.reduceMul, Nat.reduceSub, Nat.reduceLeDiff, List.length_cons, List.length_nil, List.length_append, List.append_assoc, List.take_succ_cons, List.take_zero, List.drop_succ_cons, List.drop_zero, List.set_cons_zero, List.set_cons_succ, true_or, or_true, and_self, Bool.false_eq_true, Nat.le_refl, Option.bind_some, Option.map_some, Option.getD_some, Option.isSome_some, List.map_cons, List.map_nil, List.cons_append, List.nil_append, List.append_nil, List.getElem?_cons_zero, List.getElem?_cons_succ, eq_self, Int.reduceLT, Int.reduceLE, Int.reduceNeg, Int.reduceEq, e26, e27, e5, wrap_in]
            exact ⟨_, by omega, i + 1, w2, rfl, by simp, by omega, rfl, s4.row, s.mono s4.ext⟩
          · obtain rfl : i = N := by omega
            have q1 : ¬ (i : Int) < (i : Int) := by omega
            have ga := s.rdAll (n := 2) rfl
            simp (disch := omega) only [VW, VY, VZ, VA, VB, VC, VE, TY, ↓reduceIte, Nat.reduceEqDiff, Nat.reduceAdd, Nat.reduceMul, Nat.reduceSub, Nat.reduceLeDiff, List.length_cons, List.length_nil, List.length_append, List.append_assoc, List.take_succ_cons, List.take_zero, List.drop_succ_cons, List.drop_zero, List.set_cons_zero, List.set_cons_succ, true_or, or_true, and_self, Bool.false_eq_true, Nat.le_refl, Option.bind_some, Option.map_some, Option.getD_some, Option.isSome_some, List.map_cons, List.map_nil, List.cons_append, List.nil_append, List.append_nil, List.getElem?_cons_zero, List.getElem?_cons_succ, eq_self, Int.reduceLT, Int.reduceLE, Int.reduceNeg, Int.reduceEq, q1, e0, e5, ga]
            refine .inl ⟨by kernel_rfl, ?_⟩; refine signAt_i c1 c4 (by omega) r3 fun h4 E4 => ?_
            simp (disch := omega) only [VW, VY, VZ, VA, VB, VC, VE, TY, ↓reduceIte, Nat.reduceEqDiff, Nat.reduceAdd, Nat.reduceMul, Nat.reduceSub, Nat.reduceLeDiff, List.length_cons, List.length_nil, List.length_append, List.append_assoc, List.take_succ_cons, List.take_zero, List.drop_succ_cons, List.drop_zero, List.set_cons_zero, List.set_cons_succ, true_or, or_true, and_self, Bool.false_eq_true, Nat.le_refl, Option.bind_some, Option.map_some, Option.getD_some, Option.isSome_some, List.map_cons, List.map_nil, List.cons_append, List.nil_append, List.append_nil, List.getElem?_cons_zero, List.getElem?_cons_succ, eq_self, Int.reduceLT, Int.reduceLE, Int.reduceNeg, Int.reduceEq]
            simpa using hQ _ (s.ext.trans E4)
      · have d3 := decide_eq_false c3
        simp (disch := omega) only [VW, VY, VZ, VA, VB, VC, VE, TY, ↓reduceIte, Nat.reduceEqDiff, Nat.reduceAdd, Nat.reduceMul, Nat.reduceSub, Nat.reduceLeDiff, List.length_cons, List.length_nil, List.length_append, List.append_assoc, List.take_succ_cons, List.take_zero, List.drop_succ_cons, List.drop_zero, List.set_cons_zero, List.set_cons_succ, true_or, or_true, and_self, Bool.false_eq_true, Nat.le_refl, Option.bind_some, Option.map_some, Option.getD_some, Option.isSome_some, List.map_cons, List.map_nil, List.cons_append, List.nil_append, List.append_nil, List.getElem?_cons_zero, List.getElem?_cons_succ, eq_self, Int.reduceLT, Int.reduceLE, Int.reduceNeg, Int.reduceEq, d3]
        exact no _ s.ext (.inr (.inr (.inl c3)))
theorem DerivativeAt_s {p : List Int} {n : Int} {d : Dy} {v : Value} {cs : List Value} {h : Heap} {Q : Value → Heap → Prop} (r : Row h p v) (hn : inI64 n) (hd : Here h d cs)
    (hQ : ∀ h', Ext h h' → Q (.tuple #[.int .i64 (derM p n d).1, .bool (derM p n d).2]) h') : CallsV Try.prog 5 [v, .int .i64 n, .agg cs.toArray] h Q := by
  obtain ⟨rfl, f1, f2⟩ := here_Dy hd
  refine CallsV.start Try.func5 rfl (by rw [Try.results5]) (by kernel_rfl) (by rw [Try.ntmps5]; simp) ?_
  have s := Sep.blk1 h (dyC d) 28 true
  have ga := s.rdAll (n := 2) rfl
  unfold derM at hQ
  simp (disch := omega) only [VW, VY, VZ, VA, VB, VC, VE, TY, ↓reduceIte, Nat.reduceEqDiff, Nat.reduceAdd, Nat.reduceMul, Nat.reduceSub, Nat.reduceLeDiff, List.length_cons, List.length_nil, List.length_append, List.append_assoc, List.take_succ_cons, List.take_zero, List.drop_succ_cons, List.drop_zero, List.set_cons_zero, List.set_cons_succ, true_or, or_true, and_self, Bool.false_eq_true, Nat.le_refl, Option.bind_some, Option.map_some, Option.getD_some, Option.isSome_some, List.map_cons, List.map_nil, List.cons_append, List.nil_append, List.append_nil, List.getElem?_cons_zero, List.getElem?_cons_succ, eq_self, Int.reduceLT, Int.reduceLE, Int.reduceNeg, Int.reduceEq, ga]
  refine .inl ⟨by kernel_rfl, ?_⟩; refine muAsked_c (r.mono s.ext) fun h2 E2 => ?_
  have s := s.mono E2
  cases c1 : askM p d with
  | false =>
    rw [if_neg (fun x => by rw [c1] at x; cases x.1)] at hQ
    simp (disch := omega) only [VW, VY, VZ, VA, VB, VC, VE, TY, ↓reduceIte, Nat.reduceEqDiff, Nat.reduceAdd, Nat.reduceMul, Nat.reduceSub, Nat.reduceLeDiff, List.length_cons, List.length_nil, List.length_append, List.append_assoc, List.take_succ_cons, List.take_zero, List.drop_succ_cons, List.drop_zero, List.set_cons_zero, List.set_cons_succ, true_or, or_true, and_self, Bool.false_eq_true, Nat.le_refl, Option.bind_some, Option.map_some, Option.getD_some, Option.isSome_some, List.map_cons, List.map_nil, List.cons_append, List.nil_append, List.append_nil, List.getElem?_cons_zero, List.getElem?_cons_succ, eq_self, Int.reduceLT, Int.reduceLE, Int.reduceNeg, Int.reduceEq]
    exact hQ _ s.ext
  | true =>
    simp (disch := omega) only [VW, VY, VZ, VA, VB, VC, VE, TY, ↓reduceIte, Nat.reduceEqDiff, Nat.reduceAdd, Nat.reduceMul, Nat.reduceSub, Nat.reduceLeDiff, List.length_cons, List.length_nil, List.length_append, List.append_assoc, List.take_succ_cons, List.take_zero, List.drop_succ_cons, List.drop_zero, List.set_cons_zero, List.set_cons_succ, true_or, or_true, and_self, Bool.false_eq_true, Nat.le_refl, Option.bind_some, Option.map_some, Option.getD_some, Option.isSome_some, List.map_cons, List.map_nil, List.cons_append, List.nil_append, List.append_nil, List.getElem?_cons_zero, List.getElem?_cons_succ, eq_self, Int.reduceLT, Int.reduceLE, Int.reduceNeg, Int.reduceEq]
    refine .inl ⟨by kernel_rfl, ?_⟩; refine l1In_c ?_
    by_cases c3 : 0 ≤ n ∧ n ≤ 8
    · have d3 := decide_eq_true c3
      obtain ⟨N, hN⟩ : ∃ N : Nat, n = N := ⟨n.toNat, by omega⟩
      subst hN
      rw [if_pos ⟨c1, c3⟩] at hQ
      obtain ⟨a1, a2, a3⟩ := ask_ok c1
      obtain ⟨o1, o2, o3⟩ := sing_ok a1
      obtain ⟨m1, m2⟩ := mk_ok a3
      have g := s.rd
      simp (disch := omega) only [VW, VY, VZ, VA, VB, VC, VE, TY, ↓reduceIte, Nat.reduceEqDiff, Nat.reduceAdd, Nat.reduceMul, Nat.reduceSub, Nat.reduceLeDiff, List.length_cons, List.length_nil, List.length_append, List.append_assoc, List.take_succ_cons, List.take_zero, List.drop_succ_cons, List.drop_zero, List.set_cons_zero, List.set_cons_succ, true_or, or_true, and_self, Bool.false_eq_true, Nat.le_refl, Option.bind_some, Option.map_some, Option.getD_some, Option.isSome_some, List.map_cons, List.map_nil, List.cons_append, List.nil_append, List.append_nil, List.getElem?_cons_zero, List.getElem?_cons_succ, eq_self, Int.reduceLT, Int.reduceLE, Int.reduceNeg, Int.reduceEq, d3]
      refine draw_ord [0, 1, 3, 4, 5, 6, 2, 7, 8, 9] (by kernel_rfl) (by simp only [List.filterMap_cons, List.filterMap_nil, List.getElem?_cons_zero, List.getElem?_cons_succ]; rfl) ?_
      simp (disch := omega) only [VW, VY, VZ, VA, VB, VC, VE, TY, ↓reduceIte, Nat.reduceEqDiff, Nat.reduceAdd, Nat.reduceMul, Nat.reduceSub, Nat.reduceLeDiff, List.length_cons, List.length_nil, List.length_append, List.append_assoc, List.take_succ_cons, List.take_zero, List.drop_succ_cons, List.drop_zero, List.set_cons_zero, List.set_cons_succ, true_or, or_true, and_self, Bool.false_eq_true, Nat.le_refl, Option.bind_some, Option.map_some, Option.getD_some, Option.isSome_some, List.map_cons, List.map_nil, List.cons_append, List.nil_append, List.append_nil, List.getElem?_cons_zero, List.getElem?_cons_succ, eq_self, Int.reduceLT, Int.reduceLE, Int.reduceNeg, Int.reduceEq, g]
      refine .inl ⟨by kernel_rfl, ?_⟩; refine muDerive_c (n := N) (r.mono s.ext) (by omega) o2 o3 fun c q w h3 hc hq ok E3 rq => ?_
      have s := s.mono E3
      have g := s.rd
      obtain ⟨b1, b2⟩ := ok.big (by omega)
      obtain ⟨k, hk⟩ : ∃ k : Nat, d.k = k := ⟨d.k.toNat, by omega⟩
      simp (disch := omega) only [VW, VY, VZ, VA, VB, VC, VE, TY, ↓reduceIte, Nat.reduceEqDiff, Nat.reduceAdd, Nat.reduceMul, Nat.reduceSub, Nat.reduceLeDiff, List.length_cons, List.length_nil, List.length_append, List.append_assoc, List.take_succ_cons, List.take_zero, List.drop_succ_cons, List.drop_zero, List.set_cons_zero, List.set_cons_succ, true_or, or_true, and_self, Bool.false_eq_true, Nat.le_refl, Option.bind_some, Option.map_some, Option.getD_some, Option.isSome_some, List.map_cons, List.map_nil, List.cons_append, List.nil_append, List.append_nil, List.getElem?_cons_zero, List.getElem?_cons_succ, eq_self, Int.reduceLT, Int.reduceLE, Int.reduceNeg, Int.reduceEq, g, hk]
      refine .inl ⟨by kernel_rfl, ?_⟩; refine stSign_c rq b1 b2 m2 (by omega) fun h4 E4 => ?_
      have s := s.mono E4
      have g := s.rd
      have hs := hor_sign (N := d.n) (T := 2 ^ k) hc hq
      unfold sgD at hQ
      rw [hk, Int.toNat_natCast, Int.toNat_natCast] at hQ
      rw [hs]
      simp (disch := omega) only [VW, VY, VZ, VA, VB, VC, VE, TY, ↓reduceIte, Nat.reduceEqDiff, Nat.reduceAdd, Nat.reduceMul, Nat.reduceSub, Nat.reduceLeDiff, List.length_cons, List.length_nil, List.length_append, List.append_assoc, List.take_succ_cons, List.take_zero, List.drop_succ_cons, List.drop_zero, List.set_cons_zero, List.set_cons_succ, true_or, or_true, and_self, Bool.false_eq_true, Nat.le_refl, Option.bind_some, Option.map_some, Option.getD_some, Option.isSome_some, List.map_cons, List.map_nil, List.cons_append, List.nil_append, List.append_nil, List.getElem?_cons_zero, List.getElem?_cons_succ, eq_self, Int.reduceLT, Int.reduceLE, Int.reduceNeg, Int.reduceEq, g, hk]
      exact hQ _ s.ext
    · have d3 := decide_eq_false c3
      rw [if_neg (fun x => c3 x.2)] at hQ
      simp (disch := omega) only [VW, VY, VZ, VA, VB, VC, VE, TY, ↓reduceIte, Nat.reduceEqDiff, Nat.reduceAdd, Nat.reduceMul, Nat.reduceSub, Nat.reduceLeDiff, List.length_cons, List.length_nil, List.length_append, List.append_assoc, List.take_succ_cons, List.take_zero, List.drop_succ_cons, List.drop_zero, List.set_cons_zero, List.set_cons_succ, true_or, or_true, and_self, Bool.false_eq_true, Nat.le_refl, Option.bind_some, Option.map_some, Option.getD_some, Option.isSome_some, List.map_cons, List.map_nil, List.cons_append, List.nil_append, List.append_nil, List.getElem?_cons_zero, List.getElem?_cons_succ, eq_self, Int.reduceLT, Int.reduceLE, Int.reduceNeg, Int.reduceEq, d3]
      exact hQ _ s.ext
end Go.Proofs
