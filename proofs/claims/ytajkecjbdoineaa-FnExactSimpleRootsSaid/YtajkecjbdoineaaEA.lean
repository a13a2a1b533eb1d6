/- Contracts of functions, facts of types, or the plain law behind one statement (own work): EA. Conditions: those told in each theorem. -/
import Derived.Test.YtajkecjbdoineaaC00
import Derived.Test.YtajkecjbdoineaaPD
import Derived.Test.YtajkecjbdoineaaTI
set_option linter.all false
set_option linter.unusedSimpArgs false
set_option linter.unusedVariables false
set_option maxRecDepth 4000
namespace Go.Proofs
open Go Go.V
open Nat (reduceEqDiff reduceAdd reduceMul reduceSub reduceLeDiff)
open Int (reduceLT reduceLE reduceNeg reduceEq)
/- Single polynomials: what may be asked; contents and parts. -/
def coefB (x : Int) : Bool := decide (-1000000 ≤ x ∧ x ≤ 1000000)
def lastI (p : List Int) : Int := p[p.length - 1]?.getD 0
def singM (p : List Int) : Bool := decide (p.length ≤ 9) && p.all coefB && (decide (p.length = 0) || decide (lastI p ≠ 0))
theorem all_take {f : Int → Bool} {l : List Int} {i : Nat} {x : Int} (hx : l[i]? = some x) (h : (l.take i).all f = true) (hf : f x = true) : (l.take (i + 1)).all f = true := by
  rw [List.take_add_one, hx, List.all_append, h]; simp [hf]
theorem all_no {f : Int → Bool} {l : List Int} {i : Nat} {x : Int} (hx : l[i]? = some x) (hf : f x = false) : l.all f = false := by
  cases h : l.all f with
  | false => rfl
  | true =>
    rw [List.all_eq_true] at h
    have := h x (List.mem_of_getElem? hx)
    rw [hf] at this; cases this
theorem l1AllI_c {p : List Int} {v : Value} {lo up : Int} {h : Heap} {Q : Value → Heap → Prop} (r : Row h p v) (hQ : Q (.bool (p.all fun x => decide (lo ≤ x ∧ x ≤ up))) h) : CallsV Try.prog 47 [v, .int .i64 lo, .int .i64 up] h Q := by
  refine CallsV.start Try.func47 rfl (by rw [Try.results47]) (by kernel_rfl) (by rw [Try.ntmps47]; simp) ?_
  have hle := r.le
  simp (disch := omega) only [WA, ↓reduceIte, reduceEqDiff, reduceAdd, reduceMul, reduceSub, reduceLeDiff, reduceLT, reduceLE, reduceNeg, reduceEq, r.isRow.len]
  refine loop_rule (fun n e h' => ∃ (i : Nat), e 1 = .int .i64 lo ∧ e 2 = .int .i64 up ∧ e 9 = v ∧ e 10 = .int .i64 p.length ∧ e 11 = .int .i64 i ∧ i ≤ p.length ∧ n = p.length - i ∧ (p.take i).all (fun x => decide (lo ≤ x ∧ x ≤ up)) = true ∧ h' = h) ?_ p.length _ _ ⟨0, rfl, rfl, rfl, rfl, rfl, Nat.zero_le _, rfl, rfl, rfl⟩
  rintro n e h' ⟨i, e1, e2, e9, e10, e11, hi, rfl, hv, rfl⟩
  simp (disch := omega) only [WA, ↓reduceIte, reduceEqDiff, reduceAdd, reduceMul, reduceSub, reduceLeDiff, reduceLT, reduceLE, reduceNeg, reduceEq, e10, e11]
  by_cases hlt : i < p.length
  · obtain ⟨x, hx⟩ := get_some hlt
    have c1 : (i : Int) < (p.length : Int) := by omega
    obtain ⟨x3, x4⟩ := row_int r hx
    simp (disch := omega) only [WA, ↓reduceIte, reduceEqDiff, reduceAdd, reduceMul, reduceSub, reduceLeDiff, reduceLT, reduceLE, reduceNeg, reduceEq, c1, e9, e11, e1, e2, r.isRow.ix, x3]
    refine .inl ⟨by kernel_rfl, ?_⟩; refine l1In_c ?_
    by_cases c : lo ≤ x ∧ x ≤ up
    · have c' := decide_eq_true c
      simp (disch := omega) only [WA, ↓reduceIte, reduceEqDiff, reduceAdd, reduceMul, reduceSub, reduceLeDiff, reduceLT, reduceLE, reduceNeg, reduceEq, c', e1, e2, e9, e10, e11, wrap_in]
      exact ⟨_, by omega, i + 1, by simp, by omega, rfl, all_take hx hv c'⟩
    · have c' := decide_eq_false c
      rw [all_no (f := fun x => decide (lo ≤ x ∧ x ≤ up)) hx c'] at hQ
      simp (disch := omega) only [WA, ↓reduceIte, reduceEqDiff, reduceAdd, reduceMul, reduceSub, reduceLeDiff, reduceLT, reduceLE, reduceNeg, reduceEq, c']
      exact hQ
  · obtain rfl : i = p.length := by omega
    have c1 : ¬ (p.length : Int) < (p.length : Int) := by omega
    rw [List.take_length] at hv
    rw [hv] at hQ
    simp (disch := omega) only [WA, ↓reduceIte, reduceEqDiff, reduceAdd, reduceMul, reduceSub, reduceLeDiff, reduceLT, reduceLE, reduceNeg, reduceEq, c1]
    exact hQ
theorem last_get {p : List Int} (h : p.length ≠ 0) : p[p.length - 1]? = some (lastI p) := by
  unfold lastI
  rw [List.getElem?_eq_getElem (by omega)]; rfl
theorem sgGood_c {p : List Int} {v : Value} {h : Heap} {Q : Value → Heap → Prop} (r : Row h p v) (hQ : Q (.bool (singM p)) h) : CallsV Try.prog 28 [v] h Q := by
  refine CallsV.start Try.func28 rfl (by rw [Try.results28]) (by kernel_rfl) (by rw [Try.ntmps28]; simp) ?_
  unfold singM at hQ
  have lenP := r.isRow.len Try.prog
  by_cases c1 : p.length ≤ 9
  · have d1 : ¬ (9 : Int) < (p.length : Int) := by omega
    rw [decide_eq_true c1] at hQ
    simp (disch := omega) only [WA, ↓reduceIte, reduceEqDiff, reduceAdd, reduceMul, reduceSub, reduceLeDiff, reduceLT, reduceLE, reduceNeg, reduceEq, lenP, d1]
    refine .inl ⟨by kernel_rfl, ?_⟩; refine l1AllI_c r ?_
    have ea : (p.all fun x => decide (-1000000 ≤ x ∧ x ≤ 1000000)) = p.all coefB := rfl
    rw [ea]
    cases c2 : p.all coefB with
    | false =>
      rw [c2] at hQ
      simp (disch := omega) only [WA, ↓reduceIte, reduceEqDiff, reduceAdd, reduceMul, reduceSub, reduceLeDiff, reduceLT, reduceLE, reduceNeg, reduceEq]
      exact hQ
    | true =>
      rw [c2] at hQ
      simp (disch := omega) only [WA, ↓reduceIte, reduceEqDiff, reduceAdd, reduceMul, reduceSub, reduceLeDiff, reduceLT, reduceLE, reduceNeg, reduceEq, lenP]
      by_cases c3 : p.length = 0
      · have d3 : (p.length : Int) = 0 := by omega
        rw [decide_eq_true c3] at hQ
        simp (disch := omega) only [WA, ↓reduceIte, reduceEqDiff, reduceAdd, reduceMul, reduceSub, reduceLeDiff, reduceLT, reduceLE, reduceNeg, reduceEq, d3]
        exact hQ
      · have d3 : ¬ (p.length : Int) = 0 := by omega
        have hx := last_get c3
        obtain ⟨x3, x4⟩ := row_int r hx
        have e1 : (p.length : Int) - 1 = ((p.length - 1 : Nat) : Int) := by omega
        rw [decide_eq_false c3] at hQ
        simp (disch := omega) only [WA, ↓reduceIte, reduceEqDiff, reduceAdd, reduceMul, reduceSub, reduceLeDiff, reduceLT, reduceLE, reduceNeg, reduceEq, d3, lenP, e1, wrap_in, r.isRow.ix, x3]
        simpa using hQ
  · have d1 : (9 : Int) < (p.length : Int) := by omega
    rw [decide_eq_false c1] at hQ
    simp (disch := omega) only [WA, ↓reduceIte, reduceEqDiff, reduceAdd, reduceMul, reduceSub, reduceLeDiff, reduceLT, reduceLE, reduceNeg, reduceEq, lenP, d1]
    exact hQ
theorem isSingle_c {p : List Int} {v : Value} {h : Heap} {Q : Value → Heap → Prop} (r : Row h p v) (hQ : Q (.bool (singM p)) h) : CallsV Try.prog 21 [v] h Q := by
  refine CallsV.start Try.func21 rfl (by rw [Try.results21]) (by kernel_rfl) (by rw [Try.ntmps21]; simp) ?_
  unfold singM at hQ
  have lenP := r.isRow.len Try.prog
  have hle := r.le
  simp (disch := omega) only [WA, ↓reduceIte, reduceEqDiff, reduceAdd, reduceMul, reduceSub, reduceLeDiff, reduceLT, reduceLE, reduceNeg, reduceEq, lenP]
  refine loop_rule (fun n e h' => ∃ (i : Nat), e 0 = v ∧ e 5 = v ∧ e 6 = .int .i64 p.length ∧ e 7 = .int .i64 i ∧ i ≤ p.length ∧ n = p.length - i ∧ (p.take i).all coefB = true ∧ h' = h) ?_ p.length _ _ ⟨0, rfl, rfl, rfl, rfl, Nat.zero_le _, rfl, rfl, rfl⟩
  rintro n e h' ⟨i, e0, e5, e6, e7, hi, rfl, hv, rfl⟩
  simp (disch := omega) only [WA, ↓reduceIte, reduceEqDiff, reduceAdd, reduceMul, reduceSub, reduceLeDiff, reduceLT, reduceLE, reduceNeg, reduceEq, e6, e7]
  by_cases hlt : i < p.length
  · obtain ⟨x, hx⟩ := get_some hlt
    have c1 : (i : Int) < (p.length : Int) := by omega
    obtain ⟨x3, x4⟩ := row_int r hx
    simp (disch := omega) only [WA, ↓reduceIte, reduceEqDiff, reduceAdd, reduceMul, reduceSub, reduceLeDiff, reduceLT, reduceLE, reduceNeg, reduceEq, c1, e5, e7, r.isRow.ix, x3]
    refine .inl ⟨by kernel_rfl, ?_⟩; refine inside_c ?_
    by_cases c : -1000000 ≤ x ∧ x ≤ 1000000
    · have c' := decide_eq_true c
      simp (disch := omega) only [WA, ↓reduceIte, reduceEqDiff, reduceAdd, reduceMul, reduceSub, reduceLeDiff, reduceLT, reduceLE, reduceNeg, reduceEq, c', e0, e5, e6, e7, wrap_in]
      exact ⟨_, by omega, i + 1, by simp, by omega, rfl, all_take (f := coefB) hx hv c'⟩
    · have c' := decide_eq_false c
      rw [all_no (f := coefB) hx c', Bool.and_false, Bool.false_and] at hQ
      simp (disch := omega) only [WA, ↓reduceIte, reduceEqDiff, reduceAdd, reduceMul, reduceSub, reduceLeDiff, reduceLT, reduceLE, reduceNeg, reduceEq, c']
      exact hQ
  · obtain rfl : i = p.length := by omega
    have c1 : ¬ (p.length : Int) < (p.length : Int) := by omega
    rw [List.take_length] at hv
    rw [hv] at hQ
    simp (disch := omega) only [WA, ↓reduceIte, reduceEqDiff, reduceAdd, reduceMul, reduceSub, reduceLeDiff, reduceLT, reduceLE, reduceNeg, reduceEq, c1, e0, lenP]
    by_cases c3 : p.length = 0
    · have d3 : (p.length : Int) = 0 := by omega
      rw [decide_eq_true (show p.length ≤ 9 by omega), decide_eq_true c3] at hQ
      simp (disch := omega) only [WA, ↓reduceIte, reduceEqDiff, reduceAdd, reduceMul, reduceSub, reduceLeDiff, reduceLT, reduceLE, reduceNeg, reduceEq, d3]
      exact hQ
    · have d3 : ¬ (p.length : Int) = 0 := by omega
      rw [decide_eq_false c3] at hQ
      by_cases c4 : p.length ≤ 9
      · have d4 : (p.length : Int) ≤ 9 := by omega
        have hx := last_get c3
        obtain ⟨x3, x4⟩ := row_int r hx
        have e1 : (p.length : Int) - 1 = ((p.length - 1 : Nat) : Int) := by omega
        rw [decide_eq_true c4] at hQ
        simp (disch := omega) only [WA, ↓reduceIte, reduceEqDiff, reduceAdd, reduceMul, reduceSub, reduceLeDiff, reduceLT, reduceLE, reduceNeg, reduceEq, d3, d4, e0, lenP, e1, wrap_in, r.isRow.ix, x3]
        simpa using hQ
      · have d4 : ¬ (p.length : Int) ≤ 9 := by omega
        rw [decide_eq_false c4] at hQ
        simp (disch := omega) only [WA, ↓reduceIte, reduceEqDiff, reduceAdd, reduceMul, reduceSub, reduceLeDiff, reduceLT, reduceLE, reduceNeg, reduceEq, d3, d4, e0, lenP]
        exact hQ
theorem stAsked_c {p : List Int} {v : Value} {h : Heap} {Q : Value → Heap → Prop} (r : Row h p v) (hQ : Q (.bool (singM p && decide (0 < p.length))) h) : CallsV Try.prog 18 [v] h Q := by
  refine CallsV.start Try.func18 rfl (by rw [Try.results18]) (by kernel_rfl) (by rw [Try.ntmps18]; simp) ?_
  simp (disch := omega) only [WA, ↓reduceIte, reduceEqDiff, reduceAdd, reduceMul, reduceSub, reduceLeDiff, reduceLT, reduceLE, reduceNeg, reduceEq]
  refine .inl ⟨by kernel_rfl, ?_⟩; refine sgGood_c r ?_
  cases c : singM p with
  | false =>
    rw [c] at hQ
    simp (disch := omega) only [WA, ↓reduceIte, reduceEqDiff, reduceAdd, reduceMul, reduceSub, reduceLeDiff, reduceLT, reduceLE, reduceNeg, reduceEq]
    exact hQ
  | true =>
    rw [c] at hQ
    simp (disch := omega) only [WA, ↓reduceIte, reduceEqDiff, reduceAdd, reduceMul, reduceSub, reduceLeDiff, reduceLT, reduceLE, reduceNeg, reduceEq, r.isRow.len]
    simpa using hQ
theorem cloneI_c {l : List Int} {v : Value} {h : Heap} {Q : Value → Heap → Prop} (r : Row h l v) (hn : l.length ≤ 1000000000) (hQ : ∀ w h', Sep h h' [ownA 3 l w] → Q w h') :
    CallsV Try.prog 53 [v] h Q := by
  refine CallsV.start Try.func53 rfl (by rw [Try.results53]) (by kernel_rfl) (by rw [Try.ntmps53]; simp) ?_
  rcases r.nil_or with ⟨rfl, rfl⟩ | ⟨b, off, n, c, rfl⟩
  · simp (disch := omega) only [WA, ↓reduceIte, reduceEqDiff, reduceAdd, reduceMul, reduceSub, reduceLeDiff, reduceLT, reduceLE, reduceNeg, reduceEq]
    exact hQ _ _ ((Sep.nil (.refl h)).nilA _)
  · simp (disch := omega) only [WA, ↓reduceIte, reduceEqDiff, reduceAdd, reduceMul, reduceSub, reduceLeDiff, reduceLT, reduceLE, reduceNeg, reduceEq]
    refine sep_appendRow ((Sep.nil (.refl h)).empty (α := Int) 3 true) (r.mono (.one h _)) te22 tk3 rfl (by decide) (by simp; omega) fun w h2 s => ?_
    simp (disch := omega) only [WA, ↓reduceIte, reduceEqDiff, reduceAdd, reduceMul, reduceSub, reduceLeDiff, reduceLT, reduceLE, reduceNeg, reduceEq]
    exact hQ _ _ s
theorem l1Own_c {l : List Int} {v : Value} {h : Heap} {Q : Value → Heap → Prop} (r : Row h l v) (hn : l.length ≤ 1000000000) (hQ : ∀ w h', Sep h h' [ownA 3 l w] → Q w h') :
    CallsV Try.prog 49 [v] h Q := by
  refine CallsV.start Try.func49 rfl (by rw [Try.results49]) (by kernel_rfl) (by rw [Try.ntmps49]; simp) ?_
  simp (disch := omega) only [WA, ↓reduceIte, reduceEqDiff, reduceAdd, reduceMul, reduceSub, reduceLeDiff, reduceLT, reduceLE, reduceNeg, reduceEq]
  refine sep_appendRow ((Sep.nil (.refl h)).empty (α := Int) 3 true) (r.mono (.one h _)) te22 tk3 rfl (by decide) (by simp; omega) fun w h2 s => ?_
  simp (disch := omega) only [WA, ↓reduceIte, reduceEqDiff, reduceAdd, reduceMul, reduceSub, reduceLeDiff, reduceLT, reduceLE, reduceNeg, reduceEq]
  exact hQ _ _ s

/-- Coefficients up to B, nine at most. -/
structure Sm (B : Int) (p : List Int) : Prop where
  len : p.length ≤ 9
  bd : ∀ x ∈ p, -B ≤ x ∧ x ≤ B
theorem Sm.mono {A B : Int} {p : List Int} (h : Sm A p) (hab : A ≤ B) : Sm B p := ⟨h.len, fun x hx => by have := h.bd x hx; omega⟩
theorem sing_top {p : List Int} (h : singM p = true) (h0 : 0 < p.length) : Top p := by
  unfold singM at h
  simp only [Bool.and_eq_true, Bool.or_eq_true, decide_eq_true_eq] at h
  obtain ⟨⟨h1, h2⟩, h3⟩ := h
  have hl : lastI p = cf p (p.length - 1) := rfl
  refine ⟨ldd_of fun _ => ?_, List.length_pos_iff.1 h0, h1, fun x hx => ?_⟩
  · rw [← hl]; rcases h3 with h | h; omega; exact h
  · exact of_decide_eq_true (List.all_eq_true.1 h2 x hx)
theorem stripped_c {l : List Int} {v : Value} {h : Heap} {Q : Value → Heap → Prop} (r : Row h l v) (hn : l.length ≤ 1000000000) (hQ : ∀ w h', Sep h h' [ownA 3 (trmL l) w] → Q w h') :
    CallsV Try.prog 52 [v] h Q := by
  refine CallsV.start Try.func52 rfl (by rw [Try.results52]) (by kernel_rfl) (by rw [Try.ntmps52]; simp) ?_
  have hle := r.le
  have cap := r.isRow.cap
  simp (disch := omega) only [WA, ↓reduceIte, reduceEqDiff, reduceAdd, reduceMul, reduceSub, reduceLeDiff, reduceLT, reduceLE, reduceNeg, reduceEq]
  refine loop_rule (fun n e h' => ∃ (j : Nat) (w : Value), e 0 = w ∧ Row h (l.take j) w ∧ j ≤ l.length ∧ n = j ∧ trmL (l.take j) = trmL l ∧ h' = h) ?_ l.length _ _ ⟨l.length, v, rfl, by rw [List.take_length]; exact r, Nat.le_refl _, rfl, by rw [List.take_length], rfl⟩
  rintro n e h' ⟨j, w, e0, rj, hj, rfl, ht, rfl⟩
  have hlen : (l.take n).length = n := by rw [List.length_take]; omega
  have lenP := rj.isRow.len Try.prog
  have ixP := rj.isRow.ix Try.prog
  have slP := rj.isRow.sl Try.prog
  have cap := rj.isRow.cap
  rw [hlen] at lenP ixP slP cap
  by_cases c : n = 0
  · have c1 : ¬ (0 : Int) < (n : Int) := by omega
    simp (disch := omega) only [WA, ↓reduceIte, reduceEqDiff, reduceAdd, reduceMul, reduceSub, reduceLeDiff, reduceLT, reduceLE, reduceNeg, reduceEq, e0, lenP, c1]
    refine .inl ⟨by kernel_rfl, ?_⟩; refine cloneI_c rj (by omega) fun w h2 s => ?_
    simp (disch := omega) only [WA, ↓reduceIte, reduceEqDiff, reduceAdd, reduceMul, reduceSub, reduceLeDiff, reduceLT, reduceLE, reduceNeg, reduceEq]
    refine hQ _ _ ?_
    subst c
    rw [← ht]
    exact s
  · have c1 : (0 : Int) < (n : Int) := by omega
    have hx : (l.take n)[n - 1]? = some (cf l (n - 1)) := by rw [List.getElem?_take, if_pos (by omega)]; exact cf_get (by omega)
    obtain ⟨x3, x4⟩ := row_int rj hx
    have e1 : (n : Int) - 1 = ((n - 1 : Nat) : Int) := by omega
    have e2 : l.take n = l.take (n - 1) ++ [cf l (n - 1)] := by
      have : n = (n - 1) + 1 := by omega
      conv => lhs; rw [this, List.take_add_one, cf_get (show n - 1 < l.length by omega)]
      rfl
    have q1 : ((n - 1 : Nat) : Int) < (n : Int) := by omega
    have n1 : (0 : Int) ≤ ((n - 1 : Nat) : Int) := by omega
    have n2 : ((n - 1 : Nat) : Int) ≤ (rowC w : Int) := by omega
    have n3 : n - 1 ≤ rowC w := by omega
    have n4 : (((n - 1 : Nat)) : Int).toNat = n - 1 := rfl
    by_cases z : cf l (n - 1) = 0
    · simp (disch := omega) only [WA, ↓reduceIte, reduceEqDiff, reduceAdd, reduceMul, reduceSub, reduceLeDiff, reduceLT, reduceLE, reduceNeg, reduceEq, e0, lenP, c1, e1, wrap_in, ixP, q1, x3, z, slP, n1, n2, n3, n4]
      have rc := rj.cut (lo := 0) (m := n - 1) (by omega) (by omega)
      rw [List.drop_zero, List.take_take, Nat.min_eq_left (by omega)] at rc
      refine ⟨n - 1, by omega, n - 1, _, rfl, rc, by omega, rfl, ?_⟩
      rw [← ht, e2, trm_snoc, if_pos z]
    · have c2 : decide (cf l (n - 1) = 0) = false := decide_eq_false z
      simp (disch := omega) only [WA, ↓reduceIte, reduceEqDiff, reduceAdd, reduceMul, reduceSub, reduceLeDiff, reduceLT, reduceLE, reduceNeg, reduceEq, e0, lenP, c1, e1, wrap_in, ixP, q1, x3, z, c2]
      refine .inl ⟨by kernel_rfl, ?_⟩; refine cloneI_c rj (by omega) fun w h2 s => ?_
      simp (disch := omega) only [WA, ↓reduceIte, reduceEqDiff, reduceAdd, reduceMul, reduceSub, reduceLeDiff, reduceLT, reduceLE, reduceNeg, reduceEq]
      refine hQ _ _ ?_
      have : trmL l = l.take n := by rw [← ht, e2, trm_snoc, if_neg z]
      rw [this]
      exact s
theorem sgTrim_c {l : List Int} {v : Value} {h : Heap} {Q : Value → Heap → Prop} (r : Row h l v) (hn : l.length ≤ 1000000000) (hQ : ∀ w h', Sep h h' [ownA 3 (trmL l) w] → Q w h') :
    CallsV Try.prog 67 [v] h Q := by
  refine CallsV.start Try.func67 rfl (by rw [Try.results67]) (by kernel_rfl) (by rw [Try.ntmps67]; simp) ?_
  have hle := r.le
  have cap := r.isRow.cap
  simp (disch := omega) only [WA, ↓reduceIte, reduceEqDiff, reduceAdd, reduceMul, reduceSub, reduceLeDiff, reduceLT, reduceLE, reduceNeg, reduceEq]
  refine loop_rule (fun n e h' => ∃ (j : Nat) (w : Value), e 0 = w ∧ Row h (l.take j) w ∧ j ≤ l.length ∧ n = j ∧ trmL (l.take j) = trmL l ∧ h' = h) ?_ l.length _ _ ⟨l.length, v, rfl, by rw [List.take_length]; exact r, Nat.le_refl _, rfl, by rw [List.take_length], rfl⟩
  rintro n e h' ⟨j, w, e0, rj, hj, rfl, ht, rfl⟩
  have hlen : (l.take n).length = n := by rw [List.length_take]; omega
  have lenP := rj.isRow.len Try.prog
  have ixP := rj.isRow.ix Try.prog
  have slP := rj.isRow.sl Try.prog
  have cap := rj.isRow.cap
  rw [hlen] at lenP ixP slP cap
  by_cases c : n = 0
  · have c1 : ¬ (0 : Int) < (n : Int) := by omega
    simp (disch := omega) only [WA, ↓reduceIte, reduceEqDiff, reduceAdd, reduceMul, reduceSub, reduceLeDiff, reduceLT, reduceLE, reduceNeg, reduceEq, e0, lenP, c1]
    refine .inl ⟨by kernel_rfl, ?_⟩; refine l1Own_c rj (by omega) fun w h2 s => ?_
    simp (disch := omega) only [WA, ↓reduceIte, reduceEqDiff, reduceAdd, reduceMul, reduceSub, reduceLeDiff, reduceLT, reduceLE, reduceNeg, reduceEq]
    refine hQ _ _ ?_
    subst c
    rw [← ht]
    exact s
  · have c1 : (0 : Int) < (n : Int) := by omega
    have hx : (l.take n)[n - 1]? = some (cf l (n - 1)) := by rw [List.getElem?_take, if_pos (by omega)]; exact cf_get (by omega)
    obtain ⟨x3, x4⟩ := row_int rj hx
    have e1 : (n : Int) - 1 = ((n - 1 : Nat) : Int) := by omega
    have e2 : l.take n = l.take (n - 1) ++ [cf l (n - 1)] := by
      have : n = (n - 1) + 1 := by omega
      conv => lhs; rw [this, List.take_add_one, cf_get (show n - 1 < l.length by omega)]
      rfl
    have q1 : ((n - 1 : Nat) : Int) < (n : Int) := by omega
    have n1 : (0 : Int) ≤ ((n - 1 : Nat) : Int) := by omega
    have n2 : ((n - 1 : Nat) : Int) ≤ (rowC w : Int) := by omega
    have n3 : n - 1 ≤ rowC w := by omega
    have n4 : (((n - 1 : Nat)) : Int).toNat = n - 1 := rfl
    by_cases z : cf l (n - 1) = 0
    · simp (disch := omega) only [WA, ↓reduceIte, reduceEqDiff, reduceAdd, reduceMul, reduceSub, reduceLeDiff, reduceLT, reduceLE, reduceNeg, reduceEq, e0, lenP, c1, e1, wrap_in, ixP, q1, x3, z, slP, n1, n2, n3, n4]
      have rc := rj.cut (lo := 0) (m := n - 1) (by omega) (by omega)
      rw [List.drop_zero, List.take_take, Nat.min_eq_left (by omega)] at rc
      refine ⟨n - 1, by omega, n - 1, _, rfl, rc, by omega, rfl, ?_⟩
      rw [← ht, e2, trm_snoc, if_pos z]
    · have c2 : decide (cf l (n - 1) = 0) = false := decide_eq_false z
      simp (disch := omega) only [WA, ↓reduceIte, reduceEqDiff, reduceAdd, reduceMul, reduceSub, reduceLeDiff, reduceLT, reduceLE, reduceNeg, reduceEq, e0, lenP, c1, e1, wrap_in, ixP, q1, x3, z, c2]
      refine .inl ⟨by kernel_rfl, ?_⟩; refine l1Own_c rj (by omega) fun w h2 s => ?_
      simp (disch := omega) only [WA, ↓reduceIte, reduceEqDiff, reduceAdd, reduceMul, reduceSub, reduceLeDiff, reduceLT, reduceLE, reduceNeg, reduceEq]
      refine hQ _ _ ?_
      have : trmL l = l.take n := by rw [← ht, e2, trm_snoc, if_neg z]
      rw [this]
      exact s
end Go.Proofs
