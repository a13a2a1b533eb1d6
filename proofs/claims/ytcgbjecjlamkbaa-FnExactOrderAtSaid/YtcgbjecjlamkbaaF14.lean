/- Contracts of functions, facts of types, or the plain law behind one statement (own work): F14. Conditions: those told in each theorem. -/
import Derived.Test.YtcgbjecjlamkbaaF13
set_option linter.all false
set_option linter.unusedSimpArgs false
set_option linter.unusedVariables false
set_option maxRecDepth 4000
namespace Go.Proofs
open Go Go.V
/- The order at a mark. -/
def ordF (f : Nat → Int) : Nat → Nat → Nat
  | 0, n => n
  | k + 1, n => if f n = 0 then ordF f k (n + 1) else n
theorem ordF_stop {f : Nat → Int} {k n : Nat} (h : f n ≠ 0) : ordF f k n = n := by
  cases k with
  | zero => rfl
  | succ k => simp only [ordF]; rw [if_neg h]
theorem ordF_le {f : Nat → Int} : ∀ (k n : Nat), ordF f k n ≤ n + k
  | 0, n => Nat.le_refl _
  | k + 1, n => by
    simp only [ordF]
    split
    · have := ordF_le (f := f) k (n + 1); omega
    · omega
def ordN (p : List Int) (d : Dy) : Nat := ordF (sgD p d) 8 0
def ordM (p : List Int) (d : Dy) : Int × Bool := if askM p d = true then ((ordN p d : Nat), true) else (0, false)
theorem dIt_len (p : List Int) : ∀ n, (dIt n p).length = p.length - n
  | 0 => rfl
  | n + 1 => by
    show (dM (dIt n p)).length = _
    rw [dM_len, dIt_len p n]; omega
/-- The last derivative that is not 0 everywhere is a number. -/
theorem sgD_top {p : List Int} {d : Dy} (h : singM p = true) (h0 : 0 < p.length) : sgD p d (p.length - 1) ≠ 0 := by
  obtain ⟨s1, s2, s3⟩ := sing_ok h
  have hl := dIt_len p (p.length - 1)
  have h1 : (dIt (p.length - 1) p).length = 1 := by omega
  obtain ⟨x, hx⟩ := List.length_eq_one_iff.1 h1
  have led := s3.it (p.length - 1)
  rw [hx] at led
  have hx0 := led x rfl
  unfold sgD
  rw [hx]
  simp only [hor, Int.zero_mul, Int.zero_add, List.length_nil, Int.pow_zero, Int.mul_one]
  rcases Int.lt_trichotomy x 0 with k | k | k
  · rw [Int.sign_eq_neg_one_of_neg k]; decide
  · exact absurd k hx0
  · rw [Int.sign_eq_one_of_pos k]; decide
theorem ord_next {p : List Int} {d : Dy} {n : Nat} (h : singM p = true) (h0 : 0 < p.length) (hn : n ≤ p.length - 1) (hz : sgD p d n = 0) (ho : ordF (sgD p d) (8 - n) n = ordN p d) :
    n + 1 ≤ p.length - 1 ∧ ordF (sgD p d) (8 - (n + 1)) (n + 1) = ordN p d := by
  have h9 := (sing_ok h).1
  have hne : n ≠ p.length - 1 := fun e => by
    have := sgD_top (d := d) h h0
    rw [← e] at this
    exact this hz
  refine ⟨by omega, ?_⟩
  have e : 8 - n = (8 - (n + 1)) + 1 := by omega
  rw [e] at ho
  simp only [ordF] at ho
  rw [if_pos hz] at ho
  exact ho
theorem orderAt_c {p : List Int} {d : Dy} {v : Value} {h : Heap} {Q : Value → Heap → Prop} (r : Row h p v) (hk : askM p d = true) (hQ : ∀ h', Ext h h' → Q (.int .i64 (ordN p d : Nat)) h') :
    CallsV Try.prog 24 [v, .agg (dyC d).toArray] h Q := by
  obtain ⟨a1, a2, a3⟩ := ask_ok hk
  obtain ⟨o1, o2, o3⟩ := sing_ok a1
  refine CallsV.start Try.func24 rfl (by rw [Try.results24]) (by kernel_rfl) (by rw [Try.ntmps24]; simp) ?_
  have s := Sep.blk1 h (dyC d) 28 true
  simp (disch := omega) only [VW, VY, VZ, VA, VB, VC, VE, TY, ↓reduceIte, Nat.reduceEqDiff, Nat.reduceAdd, Nat.reduceMul, Nat.reduceSub, Nat.reduceLeDiff, List.length_cons, List.length_nil, List.length_append, List.append_assoc, List.take_succ_cons, List.take_zero, List.drop_succ_cons, List.drop_zero, List.set_cons_zero, List.set_cons_succ, true_or, or_true, and_self, Bool.false_eq_true, Nat.le_refl, Option.bind_some, Option.map_some, Option.getD_some, Option.isSome_some, List.map_cons, List.map_nil, List.cons_append, List.nil_append, List.append_nil, List.getElem?_cons_zero, List.getElem?_cons_succ, eq_self, Int.reduceLT, Int.reduceLE, Int.reduceNeg, Int.reduceEq]
  refine loop_rule (fun k e h' => ∃ (i : Nat) (w : Value), e 0 = w ∧ e 3 = .pointer (some ⟨h.length, 0, none⟩) ∧ e 5 = .int .i64 i ∧ i ≤ p.length - 1 ∧ k = 9 - i ∧ ordF (sgD p d) (8 - i) i = ordN p d ∧ Row h' (dIt i p) w ∧ Sep h h' [blkA h.length (dyC d) 28]) ?_ 9 _ _
    ⟨0, v, rfl, rfl, rfl, Nat.zero_le _, rfl, rfl, r.mono s.ext, s⟩
  clear s
  rintro k e h1 ⟨i, w, e0, e3, e5, hi, rfl, ho, r, s⟩
  have ga := s.rdAll (n := 2) rfl
  simp (disch := omega) only [VW, VY, VZ, VA, VB, VC, VE, TY, ↓reduceIte, Nat.reduceEqDiff, Nat.reduceAdd, Nat.reduceMul, Nat.reduceSub, Nat.reduceLeDiff, List.length_cons, List.length_nil, List.length_append, List.append_assoc, List.take_succ_cons, List.take_zero, List.drop_succ_cons, List.drop_zero, List.set_cons_zero, List.set_cons_succ, true_or, or_true, and_self, Bool.false_eq_true, Nat.le_refl, Option.bind_some, Option.map_some, Option.getD_some, Option.isSome_some, List.map_cons, List.map_nil, List.cons_append, List.nil_append, List.append_nil, List.getElem?_cons_zero, List.getElem?_cons_succ, eq_self, Int.reduceLT, Int.reduceLE, Int.reduceNeg, Int.reduceEq, e0, e3, ga]
  refine .inl ⟨by kernel_rfl, ?_⟩; refine signAt_i a1 a3 (by omega) r fun h2 E2 => ?_
  have s := s.mono E2
  by_cases c : sgD p d i = 0
  · have c' := decide_eq_true c
    obtain ⟨n1, n2⟩ := ord_next a1 a2 hi c ho
    simp (disch := omega) only [VW, VY, VZ, VA, VB, VC, VE, TY, ↓reduceIte, Nat.reduceEqDiff, Nat.reduceAdd, Nat.reduceMul, Nat.reduceSub, Nat.reduceLeDiff, List.length_cons, List.length_nil, List.length_append, List.append_assoc, List.take_succ_cons, List.take_zero, List.drop_succ_cons, List.drop_zero, List.set_cons_zero, List.set_cons_succ, true_or, or_true, and_self, Bool.false_eq_true, Nat.le_refl, Option.bind_some, Option.map_some, Option.getD_some, Option.isSome_some, List.map_cons, List.map_nil, List.cons_append, List.nil_append, List.append_nil, List.getElem?_cons_zero, List.getElem?_cons_succ, eq_self, Int.reduceLT, Int.reduceLE, Int.reduceNeg, Int.reduceEq, c, c', e0]
    refine .inl ⟨by kernel_rfl, ?_⟩; refine deriveSingle_c (r.mono E2) (o2.it i (by omega)) (by omega) (o3.it i) fun w2 h3 s3 => ?_
    simp (disch := omega) only [VW, VY, VZ, VA, VB, VC, VE, TY, ↓reduceIte, Nat.reduceEqDiff, Nat.reduceAdd, Nat.reduceMul, Nat.reduceSub, Nat.reduceLeDiff, List.length_cons, List.length_nil, List.length_append, List.append_assoc, List.take_succ_cons, List.take_zero, List.drop_succ_cons, List.drop_zero, List.set_cons_zero, List.set_cons_succ, true_or, or_true, and_self, Bool.false_eq_true, Nat.le_refl, Option.bind_some, Option.map_some, Option.getD_some, Option.isSome_some, List.map_cons, List.map_nil, List.cons_append, List.nil_append, List.append_nil, List.getElem?_cons_zero, List.getElem?_cons_succ, eq_self, Int.reduceLT, Int.reduceLE, Int.reduceNeg, Int.reduceEq, e3, e5, wrap_in]
    exact ⟨9 - (i + 1), by omega, i + 1, w2, rfl, rfl, n1, rfl, n2, s3.row, s.mono s3.ext⟩
  · have c' := decide_eq_false c
    rw [ordF_stop c] at ho
    rw [← ho] at hQ
    simp (disch := omega) only [VW, VY, VZ, VA, VB, VC, VE, TY, ↓reduceIte, Nat.reduceEqDiff, Nat.reduceAdd, Nat.reduceMul, Nat.reduceSub, Nat.reduceLeDiff, List.length_cons, List.length_nil, List.length_append, List.append_assoc, List.take_succ_cons, List.take_zero, List.drop_succ_cons, List.drop_zero, List.set_cons_zero, List.set_cons_succ, true_or, or_true, and_self, Bool.false_eq_true, Nat.le_refl, Option.bind_some, Option.map_some, Option.getD_some, Option.isSome_some, List.map_cons, List.map_nil, List.cons_append, List.nil_append, List.append_nil, List.getElem?_cons_zero, List.getElem?_cons_succ, eq_self, Int.reduceLT, Int.reduceLE, Int.reduceNeg, Int.reduceEq, c, c', e5]
    exact hQ _ s.ext
theorem muOrder_c {p : List Int} {d : Dy} {v : Value} {h : Heap} {Q : Value → Heap → Prop} (r : Row h p v) (hk : askM p d = true) (hQ : ∀ h', Ext h h' → Q (.int .i64 (ordN p d : Nat)) h') :
    CallsV Try.prog 23 [v, .agg (dyC d).toArray] h Q := by
  obtain ⟨a1, a2, a3⟩ := ask_ok hk
  obtain ⟨o1, o2, o3⟩ := sing_ok a1
  obtain ⟨m1, m2⟩ := mk_ok a3
  refine CallsV.start Try.func23 rfl (by rw [Try.results23]) (by kernel_rfl) (by rw [Try.ntmps23]; simp) ?_
  have s := Sep.blk1 h (dyC d) 28 true
  simp (disch := omega) only [VW, VY, VZ, VA, VB, VC, VE, TY, ↓reduceIte, Nat.reduceEqDiff, Nat.reduceAdd, Nat.reduceMul, Nat.reduceSub, Nat.reduceLeDiff, List.length_cons, List.length_nil, List.length_append, List.append_assoc, List.take_succ_cons, List.take_zero, List.drop_succ_cons, List.drop_zero, List.set_cons_zero, List.set_cons_succ, true_or, or_true, and_self, Bool.false_eq_true, Nat.le_refl, Option.bind_some, Option.map_some, Option.getD_some, Option.isSome_some, List.map_cons, List.map_nil, List.cons_append, List.nil_append, List.append_nil, List.getElem?_cons_zero, List.getElem?_cons_succ, eq_self, Int.reduceLT, Int.reduceLE, Int.reduceNeg, Int.reduceEq]
  refine loop_rule (fun k e h' => ∃ (i : Nat), e 0 = v ∧ e 3 = .pointer (some ⟨h.length, 0, none⟩) ∧ e 5 = .int .i64 i ∧ i ≤ p.length - 1 ∧ k = 9 - i ∧ ordF (sgD p d) (8 - i) i = ordN p d ∧ Sep h h' [blkA h.length (dyC d) 28]) ?_ 9 _ _
    ⟨0, rfl, rfl, rfl, Nat.zero_le _, rfl, rfl, s⟩
  clear s
  rintro k e h1 ⟨i, e0, e3, e5, hi, rfl, ho, s⟩
  have g := s.rd
  simp (disch := omega) only [VW, VY, VZ, VA, VB, VC, VE, TY, ↓reduceIte, Nat.reduceEqDiff, Nat.reduceAdd, Nat.reduceMul, Nat.reduceSub, Nat.reduceLeDiff, List.length_cons, List.length_nil, List.length_append, List.append_assoc, List.take_succ_cons, List.take_zero, List.drop_succ_cons, List.drop_zero, List.set_cons_zero, List.set_cons_succ, true_or, or_true, and_self, Bool.false_eq_true, Nat.le_refl, Option.bind_some, Option.map_some, Option.getD_some, Option.isSome_some, List.map_cons, List.map_nil, List.cons_append, List.nil_append, List.append_nil, List.getElem?_cons_zero, List.getElem?_cons_succ, eq_self, Int.reduceLT, Int.reduceLE, Int.reduceNeg, Int.reduceEq]
  refine draw_ord [0, 1, 3, 4, 5, 6, 2, 7, 8] (by kernel_rfl) (by simp only [List.filterMap_cons, List.filterMap_nil, List.getElem?_cons_zero, List.getElem?_cons_succ]; rfl) ?_
  simp (disch := omega) only [VW, VY, VZ, VA, VB, VC, VE, TY, ↓reduceIte, Nat.reduceEqDiff, Nat.reduceAdd, Nat.reduceMul, Nat.reduceSub, Nat.reduceLeDiff, List.length_cons, List.length_nil, List.length_append, List.append_assoc, List.take_succ_cons, List.take_zero, List.drop_succ_cons, List.drop_zero, List.set_cons_zero, List.set_cons_succ, true_or, or_true, and_self, Bool.false_eq_true, Nat.le_refl, Option.bind_some, Option.map_some, Option.getD_some, Option.isSome_some, List.map_cons, List.map_nil, List.cons_append, List.nil_append, List.append_nil, List.getElem?_cons_zero, List.getElem?_cons_succ, eq_self, Int.reduceLT, Int.reduceLE, Int.reduceNeg, Int.reduceEq, e0, e3, e5, g]
  refine .inl ⟨by kernel_rfl, ?_⟩; refine muDerive_c (n := i) (r.mono s.ext) (by omega) o2 o3 fun c q w h3 hc hq ok E3 rq => ?_
  have s := s.mono E3
  have g := s.rd
  obtain ⟨b1, b2⟩ := ok.big (by omega)
  obtain ⟨k, hk⟩ : ∃ k : Nat, d.k = k := ⟨d.k.toNat, by omega⟩
  simp (disch := omega) only [VW, VY, VZ, VA, VB, VC, VE, TY, ↓reduceIte, Nat.reduceEqDiff, Nat.reduceAdd, Nat.reduceMul, Nat.reduceSub, Nat.reduceLeDiff, List.length_cons, List.length_nil, List.length_append, List.append_assoc, List.take_succ_cons, List.take_zero, List.drop_succ_cons, List.drop_zero, List.set_cons_zero, List.set_cons_succ, true_or, or_true, and_self, Bool.false_eq_true, Nat.le_refl, Option.bind_some, Option.map_some, Option.getD_some, Option.isSome_some, List.map_cons, List.map_nil, List.cons_append, List.nil_append, List.append_nil, List.getElem?_cons_zero, List.getElem?_cons_succ, eq_self, Int.reduceLT, Int.reduceLE, Int.reduceNeg, Int.reduceEq, g, hk]
  refine .inl ⟨by kernel_rfl, ?_⟩; refine stSign_c rq b1 b2 m2 (by omega) fun h4 E4 => ?_
  have s := s.mono E4
  have g := s.rd
  have hs : (hor d.n (2 ^ k) q).sign = sgD p d i := by
    rw [hor_sign (N := d.n) (T := 2 ^ k) hc hq]
    unfold sgD
    rw [hk, Int.toNat_natCast]
  rw [hs]
  by_cases c : sgD p d i = 0
  · have c' := decide_eq_true c
    obtain ⟨n1, n2⟩ := ord_next a1 a2 hi c ho
    simp (disch := omega) only [VW, VY, VZ, VA, VB, VC, VE, TY, ↓reduceIte, Nat.reduceEqDiff, Nat.reduceAdd, Nat.reduceMul, Nat.reduceSub, Nat.reduceLeDiff, List.length_cons, List.length_nil, List.length_append, List.append_assoc, List.take_succ_cons, List.take_zero, List.drop_succ_cons, List.drop_zero, List.set_cons_zero, List.set_cons_succ, true_or, or_true, and_self, Bool.false_eq_true, Nat.le_refl, Option.bind_some, Option.map_some, Option.getD_some, Option.isSome_some, List.map_cons, List.map_nil, List.cons_append, List.nil_append, List.append_nil, List.getElem?_cons_zero, List.getElem?_cons_succ, eq_self, Int.reduceLT, Int.reduceLE, Int.reduceNeg, Int.reduceEq, g, hk, c, c', e0, e3, e5, wrap_in]
    exact ⟨9 - (i + 1), by omega, i + 1, rfl, n1, rfl, n2, s⟩
  · have c' := decide_eq_false c
    rw [ordF_stop c] at ho
    rw [← ho] at hQ
    simp (disch := omega) only [VW, VY, VZ, VA, VB, VC, VE, TY, ↓reduceIte, Nat.reduceEqDiff, Nat.reduceAdd, Nat.reduceMul, Nat.reduceSub, Nat.reduceLeDiff, List.length_cons, List.length_nil, List.length_append, List.append_assoc, List.take_succ_cons, List.take_zero, List.drop_succ_cons, List.drop_zero, List.set_cons_zero, List.set_cons_succ, true_or, or_true, and_self, Bool.false_eq_true, Nat.le_refl, Option.bind_some, Option.map_some, Option.getD_some, Option.isSome_some, List.map_cons, List.map_nil, List.cons_append, List.nil_append, List.append_nil, List.getElem?_cons_zero, List.getElem?_cons_succ, eq_self, Int.reduceLT, Int.reduceLE, Int.reduceNeg, Int.reduceEq, g, hk, c, c', e5]
    exact hQ _ s.ext
theorem OrderAt_i {p : List Int} {d : Dy} {v : Value} {cs : List Value} {h : Heap} {Q : Value → Heap → Prop} (r : Row h p v) (hd : Here h d cs)
    (hQ : ∀ h', Ext h h' → Q (.tuple #[.int .i64 (ordM p d).1, .bool (ordM p d).2]) h') : CallsV Try.prog 11 [v, .agg cs.toArray] h Q := by
  obtain ⟨rfl, f1, f2⟩ := here_Dy hd
  refine CallsV.start Try.func11 rfl (by rw [Try.results11]) (by kernel_rfl) (by rw [Try.ntmps11]; simp) ?_
  have s := Sep.blk1 h (dyC d) 28 true
  have no : ∀ h', Ext h h' → (singM p = false ∨ p.length = 0 ∨ mkM d = false) → Q (.tuple #[.int .i64 0, .bool false]) h' := fun h' E hh => by
    have := hQ h' E
    unfold ordM at this
    rw [if_neg (fun x => by
      obtain ⟨a1, a2, a3⟩ := ask_ok x
      rcases hh with k | k | k
      · rw [a1] at k; cases k
      · omega
      · rw [a3] at k; cases k)] at this
    exact this
  have r1 := r.mono s.ext
  have lenP := r.isRow.len Try.prog
  simp (disch := omega) only [VW, VY, VZ, VA, VB, VC, VE, TY, ↓reduceIte, Nat.reduceEqDiff, Nat.reduceAdd, Nat.reduceMul, Nat.reduceSub, Nat.reduceLeDiff, List.length_cons, List.length_nil, List.length_append, List.append_assoc, List.take_succ_cons, List.take_zero, List.drop_succ_cons, List.drop_zero, List.set_cons_zero, List.set_cons_succ, true_or, or_true, and_self, Bool.false_eq_true, Nat.le_refl, Option.bind_some, Option.map_some, Option.getD_some, Option.isSome_some, List.map_cons, List.map_nil, List.cons_append, List.nil_append, List.append_nil, List.getElem?_cons_zero, List.getElem?_cons_succ, eq_self, Int.reduceLT, Int.reduceLE, Int.reduceNeg, Int.reduceEq]
  refine .inl ⟨by kernel_rfl, ?_⟩; refine isSingle_c r1 ?_
  cases c1 : singM p with
  | false =>
    simp (disch := omega) only [VW, VY, VZ, VA, VB, VC, VE, TY, ↓reduceIte, Nat.reduceEqDiff, Nat.reduceAdd, Nat.reduceMul, Nat.reduceSub, Nat.reduceLeDiff, List.length_cons, List.length_nil, List.length_append, List.append_assoc, List.take_succ_cons, List.take_zero, List.drop_succ_cons, List.drop_zero, List.set_cons_zero, List.set_cons_succ, true_or, or_true, and_self, Bool.false_eq_true, Nat.le_refl, Option.bind_some, Option.map_some, Option.getD_some, Option.isSome_some, List.map_cons, List.map_nil, List.cons_append, List.nil_append, List.append_nil, List.getElem?_cons_zero, List.getElem?_cons_succ, eq_self, Int.reduceLT, Int.reduceLE, Int.reduceNeg, Int.reduceEq]
    exact no _ s.ext (.inl c1)
  | true =>
    simp (disch := omega) only [VW, VY, VZ, VA, VB, VC, VE, TY, ↓reduceIte, Nat.reduceEqDiff, Nat.reduceAdd, Nat.reduceMul, Nat.reduceSub, Nat.reduceLeDiff, List.length_cons, List.length_nil, List.length_append, List.append_assoc, List.take_succ_cons, List.take_zero, List.drop_succ_cons, List.drop_zero, List.set_cons_zero, List.set_cons_succ, true_or, or_true, and_self, Bool.false_eq_true, Nat.le_refl, Option.bind_some, Option.map_some, Option.getD_some, Option.isSome_some, List.map_cons, List.map_nil, List.cons_append, List.nil_append, List.append_nil, List.getElem?_cons_zero, List.getElem?_cons_succ, eq_self, Int.reduceLT, Int.reduceLE, Int.reduceNeg, Int.reduceEq, lenP]
    by_cases c2 : p.length = 0
    · have d2 : (p.length : Int) = 0 := by omega
      simp (disch := omega) only [VW, VY, VZ, VA, VB, VC, VE, TY, ↓reduceIte, Nat.reduceEqDiff, Nat.reduceAdd, Nat.reduceMul, Nat.reduceSub, Nat.reduceLeDiff, List.length_cons, List.length_nil, List.length_append, List.append_assoc, List.take_succ_cons, List.take_zero, List.drop_succ_cons, List.drop_zero, List.set_cons_zero, List.set_cons_succ, true_or, or_true, and_self, Bool.false_eq_true, Nat.le_refl, Option.bind_some, Option.map_some, Option.getD_some, Option.isSome_some, List.map_cons, List.map_nil, List.cons_append, List.nil_append, List.append_nil, List.getElem?_cons_zero, List.getElem?_cons_succ, eq_self, Int.reduceLT, Int.reduceLE, Int.reduceNeg, Int.reduceEq, d2]
      exact no _ s.ext (.inr (.inl c2))
    · have d2 : ¬ (p.length : Int) = 0 := by omega
      have ga := s.rdAll (n := 2) rfl
      simp (disch := omega) only [VW, VY, VZ, VA, VB, VC, VE, TY, ↓reduceIte, Nat.reduceEqDiff, Nat.reduceAdd, Nat.reduceMul, Nat.reduceSub, Nat.reduceLeDiff, List.length_cons, List.length_nil, List.length_append, List.append_assoc, List.take_succ_cons, List.take_zero, List.drop_succ_cons, List.drop_zero, List.set_cons_zero, List.set_cons_succ, true_or, or_true, and_self, Bool.false_eq_true, Nat.le_refl, Option.bind_some, Option.map_some, Option.getD_some, Option.isSome_some, List.map_cons, List.map_nil, List.cons_append, List.nil_append, List.append_nil, List.getElem?_cons_zero, List.getElem?_cons_succ, eq_self, Int.reduceLT, Int.reduceLE, Int.reduceNeg, Int.reduceEq, d2, ga]
      refine .inl ⟨by kernel_rfl, ?_⟩; refine isMark_c fun h2 E2 => ?_
      have s := s.mono E2
      have ga := s.rdAll (n := 2) rfl
      cases c4 : mkM d with
      | false =>
        simp (disch := omega) only [VW, VY, VZ, VA, VB, VC, VE, TY, ↓reduceIte, Nat.reduceEqDiff, Nat.reduceAdd, Nat.reduceMul, Nat.reduceSub, Nat.reduceLeDiff, List.length_cons, List.length_nil, List.length_append, List.append_assoc, List.take_succ_cons, List.take_zero, List.drop_succ_cons, List.drop_zero, List.set_cons_zero, List.set_cons_succ, true_or, or_true, and_self, Bool.false_eq_true, Nat.le_refl, Option.bind_some, Option.map_some, Option.getD_some, Option.isSome_some, List.map_cons, List.map_nil, List.cons_append, List.nil_append, List.append_nil, List.getElem?_cons_zero, List.getElem?_cons_succ, eq_self, Int.reduceLT, Int.reduceLE, Int.reduceNeg, Int.reduceEq]
        exact no _ s.ext (.inr (.inr c4))
      | true =>
        have hask : askM p d = true := by unfold askM; rw [c1, c4, decide_eq_true (show 0 < p.length by omega)]; rfl
        unfold ordM at hQ
        rw [if_pos hask] at hQ
        simp (disch := omega) only [VW, VY, VZ, VA, VB, VC, VE, TY, ↓reduceIte, Nat.reduceEqDiff, Nat.reduceAdd, Nat.reduceMul, Nat.reduceSub, Nat.reduceLeDiff, List.length_cons, List.length_nil, List.length_append, List.append_assoc, List.take_succ_cons, List.take_zero, List.drop_succ_cons, List.drop_zero, List.set_cons_zero, List.set_cons_succ, true_or, or_true, and_self, Bool.false_eq_true, Nat.le_refl, Option.bind_some, Option.map_some, Option.getD_some, Option.isSome_some, List.map_cons, List.map_nil, List.cons_append, List.nil_append, List.append_nil, List.getElem?_cons_zero, List.getElem?_cons_succ, eq_self, Int.reduceLT, Int.reduceLE, Int.reduceNeg, Int.reduceEq, ga]
        refine .inl ⟨by kernel_rfl, ?_⟩; refine orderAt_c (r.mono s.ext) hask fun h3 E3 => ?_
        simp (disch := omega) only [VW, VY, VZ, VA, VB, VC, VE, TY, ↓reduceIte, Nat.reduceEqDiff, Nat.reduceAdd, Nat.reduceMul, Nat.reduceSub, Nat.reduceLeDiff, List.length_cons, List.length_nil, List.length_append, List.append_assoc, List.take_succ_cons, List.take_zero, List.drop_succ_cons, List.drop_zero, List.set_cons_zero, List.set_cons_succ, true_or, or_true, and_self, Bool.false_eq_true, Nat.le_refl, Option.bind_some, Option.map_some, Option.getD_some, Option.isSome_some, List.map_cons, List.map_nil, List.cons_append, List.nil_append, List.append_nil, List.getElem?_cons_zero, List.getElem?_cons_succ, eq_self, Int.reduceLT, Int.reduceLE, Int.reduceNeg, Int.reduceEq]
        exact hQ _ (s.ext.trans E3)
theorem OrderAt_s {p : List Int} {d : Dy} {v : Value} {cs : List Value} {h : Heap} {Q : Value → Heap → Prop} (r : Row h p v) (hd : Here h d cs)
    (hQ : ∀ h', Ext h h' → Q (.tuple #[.int .i64 (ordM p d).1, .bool (ordM p d).2]) h') : CallsV Try.prog 10 [v, .agg cs.toArray] h Q := by
  obtain ⟨rfl, f1, f2⟩ := here_Dy hd
  refine CallsV.start Try.func10 rfl (by rw [Try.results10]) (by kernel_rfl) (by rw [Try.ntmps10]; simp) ?_
  have s := Sep.blk1 h (dyC d) 28 true
  have ga := s.rdAll (n := 2) rfl
  unfold ordM at hQ
  simp (disch := omega) only [VW, VY, VZ, VA, VB, VC, VE, TY, ↓reduceIte, Nat.reduceEqDiff, Nat.reduceAdd, Nat.reduceMul, Nat.reduceSub, Nat.reduceLeDiff, List.length_cons, List.length_nil, List.length_append, List.append_assoc, List.take_succ_cons, List.take_zero, List.drop_succ_cons, List.drop_zero, List.set_cons_zero, List.set_cons_succ, true_or, or_true, and_self, Bool.false_eq_true, Nat.le_refl, Option.bind_some, Option.map_some, Option.getD_some, Option.isSome_some, List.map_cons, List.map_nil, List.cons_append, List.nil_append, List.append_nil, List.getElem?_cons_zero, List.getElem?_cons_succ, eq_self, Int.reduceLT, Int.reduceLE, Int.reduceNeg, Int.reduceEq, ga]
  refine .inl ⟨by kernel_rfl, ?_⟩; refine muAsked_c (r.mono s.ext) fun h2 E2 => ?_
  have s := s.mono E2
  have ga := s.rdAll (n := 2) rfl
  cases c1 : askM p d with
  | false =>
    rw [c1, if_neg (by decide)] at hQ
    simp (disch := omega) only [VW, VY, VZ, VA, VB, VC, VE, TY, ↓reduceIte, Nat.reduceEqDiff, Nat.reduceAdd, Nat.reduceMul, Nat.reduceSub, Nat.reduceLeDiff, List.length_cons, List.length_nil, List.length_append, List.append_assoc, List.take_succ_cons, List.take_zero, List.drop_succ_cons, List.drop_zero, List.set_cons_zero, List.set_cons_succ, true_or, or_true, and_self, Bool.false_eq_true, Nat.le_refl, Option.bind_some, Option.map_some, Option.getD_some, Option.isSome_some, List.map_cons, List.map_nil, List.cons_append, List.nil_append, List.append_nil, List.getElem?_cons_zero, List.getElem?_cons_succ, eq_self, Int.reduceLT, Int.reduceLE, Int.reduceNeg, Int.reduceEq]
    exact hQ _ s.ext
  | true =>
    rw [if_pos c1] at hQ
    simp (disch := omega) only [VW, VY, VZ, VA, VB, VC, VE, TY, ↓reduceIte, Nat.reduceEqDiff, Nat.reduceAdd, Nat.reduceMul, Nat.reduceSub, Nat.reduceLeDiff, List.length_cons, List.length_nil, List.length_append, List.append_assoc, List.take_succ_cons, List.take_zero, List.drop_succ_cons, List.drop_zero, List.set_cons_zero, List.set_cons_succ, true_or, or_true, and_self, Bool.false_eq_true, Nat.le_refl, Option.bind_some, Option.map_some, Option.getD_some, Option.isSome_some, List.map_cons, List.map_nil, List.cons_append, List.nil_append, List.append_nil, List.getElem?_cons_zero, List.getElem?_cons_succ, eq_self, Int.reduceLT, Int.reduceLE, Int.reduceNeg, Int.reduceEq, ga]
    refine .inl ⟨by kernel_rfl, ?_⟩; refine muOrder_c (r.mono s.ext) c1 fun h3 E3 => ?_
    simp (disch := omega) only [VW, VY, VZ, VA, VB, VC, VE, TY, ↓reduceIte, Nat.reduceEqDiff, Nat.reduceAdd, Nat.reduceMul, Nat.reduceSub, Nat.reduceLeDiff, List.length_cons, List.length_nil, List.length_append, List.append_assoc, List.take_succ_cons, List.take_zero, List.drop_succ_cons, List.drop_zero, List.set_cons_zero, List.set_cons_succ, true_or, or_true, and_self, Bool.false_eq_true, Nat.le_refl, Option.bind_some, Option.map_some, Option.getD_some, Option.isSome_some, List.map_cons, List.map_nil, List.cons_append, List.nil_append, List.append_nil, List.getElem?_cons_zero, List.getElem?_cons_succ, eq_self, Int.reduceLT, Int.reduceLE, Int.reduceNeg, Int.reduceEq]
    exact hQ _ (s.ext.trans E3)
end Go.Proofs
