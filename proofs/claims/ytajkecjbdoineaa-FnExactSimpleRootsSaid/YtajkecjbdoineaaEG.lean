/- Contracts of functions, facts of types, or the plain law behind one statement (own work): EG. Conditions: those told in each theorem. -/
import Derived.Test.YtajkecjbdoineaaEF
set_option linter.all false
set_option linter.unusedSimpArgs false
set_option linter.unusedVariables false
set_option maxRecDepth 4000
namespace Go.Proofs
open Go Go.V
open Nat (reduceEqDiff reduceAdd reduceMul reduceSub reduceLeDiff)
open Int (reduceLT reduceLE reduceNeg reduceEq)
/- Common divisors and derivatives: the walks. -/
theorem comA_fuel : ∀ (m : Nat) (p q : List Int), Ldd p → Ldd q → q.length ≤ m → ∀ n, q.length < n → comA n p q = comA (q.length + 1) p q := by
  intro m
  induction m with
  | zero =>
    intro p q _ _ hm n hn
    obtain ⟨n, rfl⟩ : ∃ k, n = k + 1 := ⟨n - 1, by omega⟩
    have : q = [] := List.length_eq_zero_iff.1 (by omega)
    subst this
    rfl
  | succ m ih =>
    intro p q lp lq hm n hn
    obtain ⟨n, rfl⟩ : ∃ k, n = k + 1 := ⟨n - 1, by omega⟩
    simp only [comA]
    by_cases c : q = []
    · rw [if_pos c, if_pos c]
    · rw [if_neg c, if_neg c]
      cases hr : remL p q with
      | none => rfl
      | some r =>
        obtain ⟨h1, h2, _⟩ := rem_fact lp lq c hr
        show comA n q r = comA q.length q r
        rw [ih q r lq h1 (by omega) n (by omega), ih q r lq h1 (by omega) q.length (by omega)]
theorem com_zero (p : List Int) : comL p [] = some (upS p) := rfl
theorem com_none {p q : List Int} (q0 : q ≠ []) (h : remL p q = none) : comL p q = none := by
  unfold comL; simp only [comA]; rw [if_neg q0, h]
theorem com_next {p q r : List Int} (lp : Ldd p) (lq : Ldd q) (q0 : q ≠ []) (h : remL p q = some r) : comL p q = comL q r := by
  obtain ⟨h1, h2, _⟩ := rem_fact lp lq q0 h
  unfold comL
  conv => lhs; simp only [comA]
  rw [if_neg q0, h]
  exact comA_fuel _ q r lq h1 (Nat.le_refl _) _ h2
theorem rem_sm {p q r : List Int} (hp : Sm 1000000000 p) (hq : Sm 1000000000 q) (lp : Ldd p) (lq : Ldd q) (q0 : q ≠ []) (h : remL p q = some r) : Sm 1000000000 r := by
  obtain ⟨h1, h2, h3, h4⟩ := rem_fact lp lq q0 h
  rcases h4 with rfl | h4
  · exact hp.part
  · exact inP_sm h4 (by have := hq.len; omega)
theorem Sm.sgn {B : Int} {l : List Int} (h : Sm B l) : Sm B (sgnL l) := ⟨by rw [sgn_len]; exact h.len, fun x hx => by
  unfold sgnL at hx
  split at hx
  · unfold negL at hx
    obtain ⟨y, hy, rfl⟩ := List.mem_map.1 hx
    have := h.bd y hy
    omega
  · exact h.bd x hx⟩
theorem Sm.up {B : Int} {l : List Int} (h : Sm B l) : Sm B (upS l) := h.part.sgn
theorem commonDivisor_c {p q : List Int} {v w : Value} {h : Heap} {Q : Value → Heap → Prop} (rp : Row h p v) (rq : Row h q w) (hp : Sm 1000000000 p) (hq : Sm 1000000000 q) (lp : Ldd p) (lq : Ldd q) (h0 : p ≠ [] ∨ q ≠ [])
    (hQ : ∀ v h', Sep h h' [ownA 3 ((comL p q).getD []) v] → Q (.tuple #[v, .bool (comL p q).isSome]) h') : CallsV Try.prog 35 [v, w] h Q := by
  refine CallsV.start Try.func35 rfl (by rw [Try.results35]) (by kernel_rfl) (by rw [Try.ntmps35]; simp) ?_
  simp (disch := omega) only [WA, ↓reduceIte, reduceEqDiff, reduceAdd, reduceMul, reduceSub, reduceLeDiff, reduceLT, reduceLE, reduceNeg, reduceEq]
  refine loop_rule (fun m e h' => ∃ (c d : List Int) (vc vd : Value), e 0 = vc ∧ e 1 = vd ∧ m = d.length ∧ Row h' c vc ∧ Row h' d vd ∧ Sm 1000000000 c ∧ Sm 1000000000 d ∧ Ldd c ∧ Ldd d ∧ (c ≠ [] ∨ d ≠ []) ∧ comL c d = comL p q ∧ Ext h h') ?_ q.length _ _
    ⟨p, q, v, w, rfl, rfl, rfl, rp, rq, hp, hq, lp, lq, h0, rfl, .refl h⟩
  rintro m e h2 ⟨c, d, vc, vd, e0, e1, rfl, rc, rd, hc, hd, lc, ld, hcd, hcom, E⟩
  by_cases k : d = []
  · subst k
    have k1 : ¬ (0 : Int) < ((0 : Nat) : Int) := by decide
    have hc0 : c ≠ [] := by rcases hcd with h | h; exact h; exact absurd rfl h
    rw [com_zero] at hcom
    rw [← hcom] at hQ
    simp (disch := omega) only [WA, ↓reduceIte, reduceEqDiff, reduceAdd, reduceMul, reduceSub, reduceLeDiff, reduceLT, reduceLE, reduceNeg, reduceEq, e0, e1, rd.isRow.len, k1]
    refine .inl ⟨by kernel_rfl, ?_⟩; refine divided_c rc (hc.nin (by decide)) (by have := hc.len; omega) fun v3 h3 s => ?_
    simp (disch := omega) only [WA, ↓reduceIte, reduceEqDiff, reduceAdd, reduceMul, reduceSub, reduceLeDiff, reduceLT, reduceLE, reduceNeg, reduceEq]
    refine .inl ⟨by kernel_rfl, ?_⟩; refine withSign_c s (hc.part.nin (by decide)) (by rw [part_len]; have := hc.len; omega) fun v4 h4 s => ?_
    have s := s.back E
    have pl := s.row.isRow.plain
    simp (disch := omega) only [WA, ↓reduceIte, reduceEqDiff, reduceAdd, reduceMul, reduceSub, reduceLeDiff, reduceLT, reduceLE, reduceNeg, reduceEq, pl]
    exact hQ _ _ s
  · have kl := List.length_pos_iff.2 k
    have k1 : (0 : Int) < (d.length : Int) := by omega
    simp (disch := omega) only [WA, ↓reduceIte, reduceEqDiff, reduceAdd, reduceMul, reduceSub, reduceLeDiff, reduceLT, reduceLE, reduceNeg, reduceEq, e0, e1, rd.isRow.len, k1]
    refine .inl ⟨by kernel_rfl, ?_⟩; refine remainder_c rc rd hc hd lc ld k fun v3 h3 s => ?_
    cases hr : remL c d with
    | none =>
      rw [com_none k hr] at hcom
      rw [← hcom] at hQ
      simp (disch := omega) only [WA, ↓reduceIte, reduceEqDiff, reduceAdd, reduceMul, reduceSub, reduceLeDiff, reduceLT, reduceLE, reduceNeg, reduceEq, Option.isSome_none]
      exact hQ _ _ ((Sep.nil (E.trans s.ext)).nilA _)
    | some r =>
      obtain ⟨h1, h2', _⟩ := rem_fact lc ld k hr
      rw [hr] at s
      simp (disch := omega) only [WA, ↓reduceIte, reduceEqDiff, reduceAdd, reduceMul, reduceSub, reduceLeDiff, reduceLT, reduceLE, reduceNeg, reduceEq, Option.isSome_some, e1]
      exact ⟨_, h2', d, r, vd, v3, rfl, rfl, rfl, rd.mono s.ext, s.row, hd, rem_sm hc hd lc ld k hr, ld, h1, .inl k, by rw [← com_next lc ld k hr]; exact hcom, E.trans s.ext⟩
theorem sgCommon_c {p q : List Int} {v w : Value} {h : Heap} {Q : Value → Heap → Prop} (rp : Row h p v) (rq : Row h q w) (hp : Sm 1000000000 p) (hq : Sm 1000000000 q) (lp : Ldd p) (lq : Ldd q) (h0 : p ≠ [] ∨ q ≠ [])
    (hQ : ∀ v h', Sep h h' [ownA 3 ((comL p q).getD []) v] → Q (.tuple #[v, .bool (comL p q).isSome]) h') : CallsV Try.prog 29 [v, w] h Q := by
  refine CallsV.start Try.func29 rfl (by rw [Try.results29]) (by kernel_rfl) (by rw [Try.ntmps29]; simp) ?_
  simp (disch := omega) only [WA, ↓reduceIte, reduceEqDiff, reduceAdd, reduceMul, reduceSub, reduceLeDiff, reduceLT, reduceLE, reduceNeg, reduceEq]
  refine loop_rule (fun m e h' => ∃ (c d : List Int) (vc vd : Value), e 0 = vc ∧ e 1 = vd ∧ m = d.length ∧ Row h' c vc ∧ Row h' d vd ∧ Sm 1000000000 c ∧ Sm 1000000000 d ∧ Ldd c ∧ Ldd d ∧ (c ≠ [] ∨ d ≠ []) ∧ comL c d = comL p q ∧ Ext h h') ?_ q.length _ _
    ⟨p, q, v, w, rfl, rfl, rfl, rp, rq, hp, hq, lp, lq, h0, rfl, .refl h⟩
  rintro m e h2 ⟨c, d, vc, vd, e0, e1, rfl, rc, rd, hc, hd, lc, ld, hcd, hcom, E⟩
  by_cases k : d = []
  · subst k
    have k1 : ¬ (0 : Int) < ((0 : Nat) : Int) := by decide
    have hc0 : c ≠ [] := by rcases hcd with h | h; exact h; exact absurd rfl h
    rw [com_zero] at hcom
    rw [← hcom] at hQ
    simp (disch := omega) only [WA, ↓reduceIte, reduceEqDiff, reduceAdd, reduceMul, reduceSub, reduceLeDiff, reduceLT, reduceLE, reduceNeg, reduceEq, e0, e1, rd.isRow.len, k1]
    refine .inl ⟨by kernel_rfl, ?_⟩; refine sgUp_c rc (hc.nin (by decide)) (by have := hc.len; omega) lc fun v3 h3 s => ?_
    have s := s.back E
    have pl := s.row.isRow.plain
    simp (disch := omega) only [WA, ↓reduceIte, reduceEqDiff, reduceAdd, reduceMul, reduceSub, reduceLeDiff, reduceLT, reduceLE, reduceNeg, reduceEq, pl]
    exact hQ _ _ s
  · have kl := List.length_pos_iff.2 k
    have k1 : (0 : Int) < (d.length : Int) := by omega
    simp (disch := omega) only [WA, ↓reduceIte, reduceEqDiff, reduceAdd, reduceMul, reduceSub, reduceLeDiff, reduceLT, reduceLE, reduceNeg, reduceEq, e0, e1, rd.isRow.len, k1]
    refine .inl ⟨by kernel_rfl, ?_⟩; refine sgRemainder_c rc rd hc hd lc ld k fun v3 h3 s => ?_
    cases hr : remL c d with
    | none =>
      rw [com_none k hr] at hcom
      rw [← hcom] at hQ
      simp (disch := omega) only [WA, ↓reduceIte, reduceEqDiff, reduceAdd, reduceMul, reduceSub, reduceLeDiff, reduceLT, reduceLE, reduceNeg, reduceEq, Option.isSome_none]
      exact hQ _ _ ((Sep.nil (E.trans s.ext)).nilA _)
    | some r =>
      obtain ⟨h1, h2', _⟩ := rem_fact lc ld k hr
      rw [hr] at s
      simp (disch := omega) only [WA, ↓reduceIte, reduceEqDiff, reduceAdd, reduceMul, reduceSub, reduceLeDiff, reduceLT, reduceLE, reduceNeg, reduceEq, Option.isSome_some, e1]
      exact ⟨_, h2', d, r, vd, v3, rfl, rfl, rfl, rd.mono s.ext, s.row, hd, rem_sm hc hd lc ld k hr, ld, h1, .inl k, by rw [← com_next lc ld k hr]; exact hcom, E.trans s.ext⟩
theorem dv_get {p : List Int} {i : Nat} (h : i + 1 < p.length) : (dvL p)[i]? = some (((i : Int) + 1) * cf p (i + 1)) := by
  rw [cf_get (by rw [dv_len]; omega), cf_dv]
theorem dv_sm {B : Int} {p : List Int} (hB : 0 ≤ B) (h : Sm B p) : Sm (8 * B) (dvL p) := ⟨by rw [dv_len]; have := h.len; omega, fun x hx => by
  obtain ⟨i, hi⟩ := List.mem_iff_getElem?.1 hx
  have hlt : i < (dvL p).length := by obtain ⟨h1, _⟩ := List.getElem?_eq_some_iff.1 hi; exact h1
  rw [dv_len] at hlt
  have := h.len
  rw [dv_get (by omega)] at hi
  cases hi
  exact mul_in (A := 8) (B := B) (by decide) hB ⟨by omega, by omega⟩ (h.cf hB (i + 1))⟩
theorem deriveSingle_c {p : List Int} {v : Value} {h : Heap} {Q : Value → Heap → Prop} (r : Row h p v) (hp : Sm 1000000000 p) (lp : Ldd p) (hQ : ∀ w h', Sep h h' [ownA 3 (dvL p) w] → Q w h') : CallsV Try.prog 36 [v] h Q := by
  have hl := hp.len
  refine CallsV.start Try.func36 rfl (by rw [Try.results36]) (by kernel_rfl) (by rw [Try.ntmps36]; simp) ?_
  simp (disch := omega) only [WA, ↓reduceIte, reduceEqDiff, reduceAdd, reduceMul, reduceSub, reduceLeDiff, reduceLT, reduceLE, reduceNeg, reduceEq]
  refine loop_rule (fun m e h' => ∃ (i : Nat) (vo : Value), e 0 = v ∧ e 3 = vo ∧ e 4 = .int .i64 ((i : Int) + 1) ∧ i ≤ p.length ∧ m = p.length - i ∧ Sep h h' [ownA 3 ((dvL p).take i) vo]) ?_ p.length _ _ ⟨0, _, rfl, rfl, rfl, Nat.zero_le _, rfl, (Sep.nil (.refl h)).nilA _⟩
  rintro m e h2 ⟨i, vo, e0, e3, e4, hi, rfl, s⟩
  have r1 := r.mono s.ext
  by_cases c : i + 1 < p.length
  · have c1 : (i : Int) + 1 < (p.length : Int) := by omega
    have k1 : (i : Int) + 1 = ((i + 1 : Nat) : Int) := by omega
    have q1 : ((i + 1 : Nat) : Int) < (p.length : Int) := by omega
    have X1 := (row_int r1 (cf_get c)).1
    have m1 := mul_in (A := 8) (B := 1000000000) (by decide) (by decide) (a := ((i + 1 : Nat) : Int)) ⟨by omega, by omega⟩ (hp.cf (by decide) (i + 1))
    have w1 := wrap9 (x := ((i + 1 : Nat) : Int) * cf p (i + 1)) (by omega)
    simp (disch := omega) only [WA, ↓reduceIte, reduceEqDiff, reduceAdd, reduceMul, reduceSub, reduceLeDiff, reduceLT, reduceLE, reduceNeg, reduceEq, e0, e3, e4, r1.isRow.len, k1, q1, r1.isRow.ix, X1, w1]
    have s := (s.rep0 (x := ((i + 1 : Nat) : Int) * cf p (i + 1)) (rep_int ⟨by omega, by omega⟩)).swap
    refine sep_append (y := ((i + 1 : Nat) : Int) * cf p (i + 1)) s rfl rfl te22 tk3 rfl (by decide) (by simp only [List.length_take]; omega) fun w5 h5 s => ?_
    have w2 := wrap9 (x := ((i + 1 : Nat) : Int) + 1) (by omega)
    simp (disch := omega) only [WA, ↓reduceIte, reduceEqDiff, reduceAdd, reduceMul, reduceSub, reduceLeDiff, reduceLT, reduceLE, reduceNeg, reduceEq, e4, k1, w2]
    refine ⟨_, by omega, i + 1, w5, e0, rfl, by simp, by omega, rfl, ?_⟩
    rw [List.take_add_one, dv_get c, k1]
    exact s
  · have c1 : ¬ (i : Int) + 1 < (p.length : Int) := by omega
    rw [List.take_of_length_le (by rw [dv_len]; omega)] at s
    simp (disch := omega) only [WA, ↓reduceIte, reduceEqDiff, reduceAdd, reduceMul, reduceSub, reduceLeDiff, reduceLT, reduceLE, reduceNeg, reduceEq, e0, e3, e4, r1.isRow.len, c1]
    refine .inl ⟨by kernel_rfl, ?_⟩; refine stripped_c s.row (by rw [dv_len]; omega) fun v6 h6 t6 => ?_
    rw [trm_id (dv_ldd lp)] at t6
    simp (disch := omega) only [WA, ↓reduceIte, reduceEqDiff, reduceAdd, reduceMul, reduceSub, reduceLeDiff, reduceLT, reduceLE, reduceNeg, reduceEq]
    exact hQ _ _ (t6.back s.ext)
theorem sgDerive_c {p : List Int} {v : Value} {h : Heap} {Q : Value → Heap → Prop} (r : Row h p v) (hp : Sm 1000000000 p) (hQ : ∀ w h', Sep h h' [ownA 3 (dvL p) w] → Q w h') : CallsV Try.prog 30 [v] h Q := by
  have hl := hp.len
  refine CallsV.start Try.func30 rfl (by rw [Try.results30]) (by kernel_rfl) (by rw [Try.ntmps30]; simp) ?_
  simp (disch := omega) only [WA, ↓reduceIte, reduceEqDiff, reduceAdd, reduceMul, reduceSub, reduceLeDiff, reduceLT, reduceLE, reduceNeg, reduceEq, r.isRow.len]
  refine loop_rule (fun m e h' => ∃ (i : Nat) (vo : Value), e 3 = vo ∧ e 6 = v ∧ e 7 = .int .i64 p.length ∧ e 8 = .int .i64 i ∧ i ≤ p.length ∧ m = p.length - i ∧ Sep h h' [ownA 3 ((dvL p).take (i - 1)) vo]) ?_ p.length _ _ ⟨0, _, rfl, rfl, rfl, rfl, Nat.zero_le _, rfl, (Sep.nil (.refl h)).nilA _⟩
  rintro m e h2 ⟨i, vo, e3, e6, e7, e8, hi, rfl, s⟩
  have r1 := r.mono s.ext
  simp (disch := omega) only [WA, ↓reduceIte, reduceEqDiff, reduceAdd, reduceMul, reduceSub, reduceLeDiff, reduceLT, reduceLE, reduceNeg, reduceEq, e7, e8]
  by_cases c : i < p.length
  · have c1 : (i : Int) < (p.length : Int) := by omega
    have X1 := (row_int r1 (cf_get c)).1
    by_cases z : i = 0
    · subst z
      have z1 : ¬ (0 : Int) < ((0 : Nat) : Int) := by decide
      have X0 : getC h2 (rowB v) (rowO v) = some (.int .i64 (cf p 0)) := X1
      simp (disch := omega) only [WA, ↓reduceIte, reduceEqDiff, reduceAdd, reduceMul, reduceSub, reduceLeDiff, reduceLT, reduceLE, reduceNeg, reduceEq, c1, e6, e8, r1.isRow.ix, X1, X0, z1, wrap_in]
      exact ⟨_, by omega, 1, vo, e3, e7, by simp, by omega, rfl, s⟩
    · have z1 : (0 : Int) < (i : Int) := by omega
      have m1 := mul_in (A := 8) (B := 1000000000) (by decide) (by decide) (a := (i : Int)) ⟨by omega, by omega⟩ (hp.cf (by decide) i)
      have w1 := wrap9 (x := (i : Int) * cf p i) (by omega)
      simp (disch := omega) only [WA, ↓reduceIte, reduceEqDiff, reduceAdd, reduceMul, reduceSub, reduceLeDiff, reduceLT, reduceLE, reduceNeg, reduceEq, c1, e3, e6, e8, r1.isRow.ix, X1, z1, w1]
      have s := (s.rep0 (x := (i : Int) * cf p i) (rep_int ⟨by omega, by omega⟩)).swap
      refine sep_append (y := (i : Int) * cf p i) s rfl rfl te22 tk3 rfl (by decide) (by simp only [List.length_take]; omega) fun w5 h5 s => ?_
      simp (disch := omega) only [WA, ↓reduceIte, reduceEqDiff, reduceAdd, reduceMul, reduceSub, reduceLeDiff, reduceLT, reduceLE, reduceNeg, reduceEq, e8, wrap_in]
      refine ⟨_, by omega, i + 1, w5, rfl, e6, e7, by simp, by omega, rfl, ?_⟩
      have hg := dv_get (p := p) (i := i - 1) (by omega)
      have k1 : ((i - 1 : Nat) : Int) + 1 = (i : Int) := by omega
      rw [k1, show i - 1 + 1 = i by omega] at hg
      have : (dvL p).take (i + 1 - 1) = (dvL p).take (i - 1) ++ [(i : Int) * cf p i] := by
        rw [show i + 1 - 1 = (i - 1) + 1 by omega, List.take_add_one, hg]; rfl
      rw [this]
      exact s
  · obtain rfl : i = p.length := by omega
    have c1 : ¬ (p.length : Int) < (p.length : Int) := by omega
    rw [List.take_of_length_le (by rw [dv_len]; omega)] at s
    simp (disch := omega) only [WA, ↓reduceIte, reduceEqDiff, reduceAdd, reduceMul, reduceSub, reduceLeDiff, reduceLT, reduceLE, reduceNeg, reduceEq, c1, e3]
    exact hQ _ _ s
end Go.Proofs
