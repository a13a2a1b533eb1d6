/- Contracts of functions, facts of types, or the plain law behind one statement (own work): EF. Conditions: those told in each theorem. -/
import Derived.Test.YtajkecjbdoineaaEE
set_option linter.all false
set_option linter.unusedSimpArgs false
set_option linter.unusedVariables false
set_option maxRecDepth 4000
namespace Go.Proofs
open Go Go.V
open Nat (reduceEqDiff reduceAdd reduceMul reduceSub reduceLeDiff)
open Int (reduceLT reduceLE reduceNeg reduceEq)
/- Remainders: the reference's walk. -/
theorem sgStep_c {p q : List Int} {v w : Value} {h : Heap} {Q : Value → Heap → Prop} (rp : Row h p v) (rq : Row h q w) (hp : Sm 1000000000 p) (hq : Sm 1000000000 q) (lp : Ldd p) (lq : Ldd q) (q0 : q ≠ []) (hle : q.length ≤ p.length)
    (hQ : ∀ v h', Sep h h' [ownA 3 (stpL p q) v] → Q (.tuple #[v, .bool (inP (stpL p q))]) h') : CallsV Try.prog 62 [v, w] h Q := by
  have hql := List.length_pos_iff.2 q0
  have hq9 := hq.len
  have hp9 := hp.len
  have c0 : p.length ≠ 0 := by omega
  have X1 := (row_int rp (last_cf c0)).1
  have X2 := (row_int rq (last_cf (p := q) (by omega))).1
  have e1 : (q.length : Int) - 1 = ((q.length - 1 : Nat) : Int) := by omega
  have q1 : ((q.length - 1 : Nat) : Int) < (q.length : Int) := by omega
  have e2 : (p.length : Int) - 1 = ((p.length - 1 : Nat) : Int) := by omega
  have q2 : ((p.length - 1 : Nat) : Int) < (p.length : Int) := by omega
  have ha9 := hp.cf (by decide) (p.length - 1)
  have hb9 := hq.cf (by decide) (q.length - 1)
  have hb0 := ldd_cf lq q0
  obtain ⟨hu, hd⟩ := raw_sm hp hq lq q0
  obtain ⟨g0, _, _⟩ := gcd_facts (a := cf p (p.length - 1)) hb0
  obtain ⟨G, hG⟩ : ∃ G : Nat, Nat.gcd (cf p (p.length - 1)).natAbs (cf q (q.length - 1)).natAbs = G := ⟨_, rfl⟩
  rw [hG] at g0
  have hup : Int.tdiv ((cf q (q.length - 1)).natAbs : Int) G = upN p q := by unfold upN; rw [hG, Int.tdiv_eq_ediv_of_nonneg (by omega)]
  have hdn : dnN p q = if cf q (q.length - 1) < 0 then -Int.tdiv (cf p (p.length - 1)) G else Int.tdiv (cf p (p.length - 1)) G := by unfold dnN; rw [hG]
  have gn : ¬ (G : Int) = 0 := by omega
  have t3 := Int.natAbs_tdiv_le_natAbs (cf p (p.length - 1)) G
  have w1 := wrap9 (x := upN p q) (by omega)
  have w3 := wrap9 (x := Int.tdiv (cf p (p.length - 1)) G) (by omega)
  refine CallsV.start Try.func62 rfl (by rw [Try.results62]) (by kernel_rfl) (by rw [Try.ntmps62]; simp) ?_
  simp (disch := omega) only [WA, ↓reduceIte, reduceEqDiff, reduceAdd, reduceMul, reduceSub, reduceLeDiff, reduceLT, reduceLE, reduceNeg, reduceEq]
  refine draw_ord [0, 1, 2, 3, 4, 5, 6, 7, 8, 9, 10, 11, 12, 13] (by kernel_rfl) (by simp only [List.filterMap_cons, List.filterMap_nil, List.getElem?_cons_zero, List.getElem?_cons_succ]; rfl) ?_
  simp (disch := omega) only [WA, ↓reduceIte, reduceEqDiff, reduceAdd, reduceMul, reduceSub, reduceLeDiff, reduceLT, reduceLE, reduceNeg, reduceEq, rp.isRow.len, rq.isRow.len, e1, e2, wrap_in, rp.isRow.ix, rq.isRow.ix, q1, q2, X1, X2]
  refine .inl ⟨by kernel_rfl, ?_⟩; refine l1Abs_c (by omega) ?_
  simp (disch := omega) only [WA, ↓reduceIte, reduceEqDiff, reduceAdd, reduceMul, reduceSub, reduceLeDiff, reduceLT, reduceLE, reduceNeg, reduceEq]
  refine .inl ⟨by kernel_rfl, ?_⟩; refine l1Abs_c (by omega) ?_
  simp (disch := omega) only [WA, ↓reduceIte, reduceEqDiff, reduceAdd, reduceMul, reduceSub, reduceLeDiff, reduceLT, reduceLE, reduceNeg, reduceEq]
  refine .inl ⟨by kernel_rfl, ?_⟩; refine sgGcd_c (by omega) (by omega) ?_
  rw [Int.natAbs_natCast, Int.natAbs_natCast, hG]
  simp (disch := omega) only [WA, ↓reduceIte, reduceEqDiff, reduceAdd, reduceMul, reduceSub, reduceLeDiff, reduceLT, reduceLE, reduceNeg, reduceEq]
  refine draw_ord [0, 2, 4, 5, 6, 1, 3, 7, 8] (by kernel_rfl) (by simp only [List.filterMap_cons, List.filterMap_nil, List.getElem?_cons_zero, List.getElem?_cons_succ]; rfl) ?_
  simp (disch := omega) only [WA, ↓reduceIte, reduceEqDiff, reduceAdd, reduceMul, reduceSub, reduceLeDiff, reduceLT, reduceLE, reduceNeg, reduceEq, gn, w3]
  refine .inl ⟨by kernel_rfl, ?_⟩; refine l1Abs_c (by omega) ?_
  simp (disch := omega) only [WA, ↓reduceIte, reduceEqDiff, reduceAdd, reduceMul, reduceSub, reduceLeDiff, reduceLT, reduceLE, reduceNeg, reduceEq, gn, hup, w1, w3]
  refine cond_join (fun e' h' => e' 0 = v ∧ e' 1 = w ∧ e' 9 = .int .i64 (upN p q) ∧ e' 10 = .int .i64 (dnN p q) ∧ h = h') (fun K' hK' => ?_) ?_
  · by_cases z : cf q (q.length - 1) < 0
    · have w5 : IntKind.i64.wrap (0 - Int.tdiv (cf p (p.length - 1)) G) = dnN p q := by rw [hdn, if_pos z, wrap9 (by omega)]; omega
      simp (disch := omega) only [WA, ↓reduceIte, reduceEqDiff, reduceAdd, reduceMul, reduceSub, reduceLeDiff, reduceLT, reduceLE, reduceNeg, reduceEq, z, w5]
      exact hK' _ _ ⟨rfl, rfl, rfl, rfl, rfl⟩
    · rw [if_neg z] at hdn
      simp (disch := omega) only [WA, ↓reduceIte, reduceEqDiff, reduceAdd, reduceMul, reduceSub, reduceLeDiff, reduceLT, reduceLE, reduceNeg, reduceEq, z]
      exact hK' _ _ ⟨rfl, rfl, rfl, by rw [hdn]; rfl, rfl⟩
  clear w1 w3 t3 hup hdn
  rintro e _ ⟨e0, e1', e9, e10, rfl⟩
  simp (disch := omega) only [WA, ↓reduceIte, reduceEqDiff, reduceAdd, reduceMul, reduceSub, reduceLeDiff, reduceLT, reduceLE, reduceNeg, reduceEq, e0, rp.isRow.len]
  refine loop_rule (fun m e h' => ∃ (i : Nat) (vo : Value), e 0 = v ∧ e 1 = w ∧ e 9 = .int .i64 (upN p q) ∧ e 10 = .int .i64 (dnN p q) ∧ e 11 = vo ∧ e 44 = v ∧ e 45 = .int .i64 p.length ∧ e 46 = .int .i64 i ∧ i ≤ p.length ∧ m = p.length - i ∧
    Sep h h' [ownA 3 ((sclL (upN p q) p).take i) vo]) ?_ p.length _ _ ⟨0, _, e0, e1', e9, e10, rfl, rfl, rfl, rfl, by omega, by omega, (Sep.nil (.refl h)).nilA _⟩
  rintro m e h4 ⟨i, vo, e0, e1', e9, e10, e11, e44, e45, e46, hi, rfl, s⟩
  have rp1 := rp.mono s.ext
  simp (disch := omega) only [WA, ↓reduceIte, reduceEqDiff, reduceAdd, reduceMul, reduceSub, reduceLeDiff, reduceLT, reduceLE, reduceNeg, reduceEq, e45, e46]
  by_cases k2 : i < p.length
  · have c2 : (i : Int) < (p.length : Int) := by omega
    have hx := cf_get k2
    have X3 := (row_int rp1 hx).1
    have m1 := mul_in (A := 1000000000) (B := 1000000000) (by decide) (by decide) ⟨by omega, hu.2⟩ (hp.cf (by decide) i)
    have cm : cf p i * upN p q = upN p q * cf p i := Int.mul_comm _ _
    have w6 := wrap9 (x := upN p q * cf p i) (by omega)
    simp (disch := omega) only [WA, ↓reduceIte, reduceEqDiff, reduceAdd, reduceMul, reduceSub, reduceLeDiff, reduceLT, reduceLE, reduceNeg, reduceEq, c2, e9, e11, e44, e46, rp1.isRow.ix, X3, cm, w6]
    have s := (s.rep0 (x := upN p q * cf p i) (rep_int ⟨by omega, by omega⟩)).swap
    refine sep_append (y := upN p q * cf p i) s rfl rfl te22 tk3 rfl (by decide) (by simp only [List.length_take]; omega) fun w5 h5 s => ?_
    simp (disch := omega) only [WA, ↓reduceIte, reduceEqDiff, reduceAdd, reduceMul, reduceSub, reduceLeDiff, reduceLT, reduceLE, reduceNeg, reduceEq, e46, wrap_in]
    refine ⟨_, by omega, i + 1, w5, e0, e1', e9, e10, rfl, e44, e45, by simp, by omega, rfl, ?_⟩
    have hg : (sclL (upN p q) p)[i]? = some (upN p q * cf p i) := by unfold sclL; rw [List.getElem?_map, hx]; rfl
    rw [List.take_add_one, hg]
    exact s
  · obtain rfl : i = p.length := by omega
    have c2 : ¬ (p.length : Int) < (p.length : Int) := by omega
    rw [List.take_of_length_le (by rw [scl_len]; omega), ← rw_zero (upN p q) (dnN p q) p q] at s
    have rq3 := rq.mono s.ext
    simp (disch := omega) only [WA, ↓reduceIte, reduceEqDiff, reduceAdd, reduceMul, reduceSub, reduceLeDiff, reduceLT, reduceLE, reduceNeg, reduceEq, c2, e1', rq3.isRow.len]
    refine loop_rule (fun m e h' => ∃ (i : Nat), e 0 = v ∧ e 1 = w ∧ e 10 = .int .i64 (dnN p q) ∧ e 11 = vo ∧ e 57 = w ∧ e 58 = .int .i64 q.length ∧ e 59 = .int .i64 i ∧ i ≤ q.length ∧ m = q.length - i ∧
      Sep h h' [ownA 3 (rwL (upN p q) (dnN p q) p q i) vo]) ?_ q.length _ _ ⟨0, e0, e1', e10, e11, rfl, rfl, rfl, by omega, by omega, s⟩
    clear s rq3 rp1 e0 e1' e9 e10 e11 e44 e45 e46
    rintro m e h5 ⟨i, e0, e1', e10, e11, e57, e58, e59, hi, rfl, s⟩
    have rn := s.row
    have rp1 := rp.mono s.ext
    have rq3 := rq.mono s.ext
    have ixn := rn.isRow.ix Try.prog
    rw [rw_len] at ixn
    simp (disch := omega) only [WA, ↓reduceIte, reduceEqDiff, reduceAdd, reduceMul, reduceSub, reduceLeDiff, reduceLT, reduceLE, reduceNeg, reduceEq, e58, e59]
    by_cases k3 : i < q.length
    · have c3 : (i : Int) < (q.length : Int) := by omega
      have X3 := (row_int rq3 (cf_get k3)).1
      have X4 := (row_int rn (rw_at (u := upN p q) (d := dnN p q) k3 hle)).1
      have m1 := mul_in (A := 1000000000) (B := 1000000000) (by decide) (by decide) ⟨by omega, hu.2⟩ (hp.cf (by decide) (i + p.length - q.length))
      have m2 := mul_in (A := 1000000000) (B := 1000000000) (by decide) (by decide) hd (hq.cf (by decide) i)
      have cm : cf q i * dnN p q = dnN p q * cf q i := Int.mul_comm _ _
      have w6 := wrap9 (x := dnN p q * cf q i) (by omega)
      have w7 := wrap9 (x := upN p q * cf p (i + p.length - q.length) - dnN p q * cf q i) (by omega)
      have w8 := wrap9 (x := (i : Int) + (p.length : Int)) (by omega)
      have w9 := wrap9 (x := ((i + p.length - q.length : Nat) : Int)) (by omega)
      have k9 : (i : Int) + (p.length : Int) - (q.length : Int) = ((i + p.length - q.length : Nat) : Int) := by omega
      have q9 : ((i + p.length - q.length : Nat) : Int) < (p.length : Int) := by omega
      simp (disch := omega) only [WA, ↓reduceIte, reduceEqDiff, reduceAdd, reduceMul, reduceSub, reduceLeDiff, reduceLT, reduceLE, reduceNeg, reduceEq, c3, e0, e1', e10, e11, e57, e59, rq3.isRow.ix, X3, rp1.isRow.len, rq3.isRow.len, w8, k9, w9, ixn, q9, X4, cm, w6, w7]
      have s := (s.rep0 (x := upN p q * cf p (i + p.length - q.length) - dnN p q * cf q i) (rep_int ⟨by omega, by omega⟩)).swap
      refine sep_set1 (i := i + p.length - q.length) (y := upN p q * cf p (i + p.length - q.length) - dnN p q * cf q i) s rfl (by rw [rw_len]; omega) fun h6 s => ?_
      rw [rw_set k3 hle] at s
      simp (disch := omega) only [WA, ↓reduceIte, reduceEqDiff, reduceAdd, reduceMul, reduceSub, reduceLeDiff, reduceLT, reduceLE, reduceNeg, reduceEq, e59, wrap_in]
      exact ⟨_, by omega, i + 1, e0, e1', e10, e11, e57, e58, by simp, by omega, rfl, s⟩
    · obtain rfl : i = q.length := by omega
      have c3 : ¬ (q.length : Int) < (q.length : Int) := by omega
      rw [rw_full hle] at s
      have hnr := raw_nin hp hq lq q0 hle
      have hlr := raw_len (p := p) (q := q) hle
      simp (disch := omega) only [WA, ↓reduceIte, reduceEqDiff, reduceAdd, reduceMul, reduceSub, reduceLeDiff, reduceLT, reduceLE, reduceNeg, reduceEq, c3, e11]
      refine .inl ⟨by kernel_rfl, ?_⟩; refine sgTrim_c s.row (by omega) fun v6 h6 t6 => ?_
      have s := s.add t6
      have htl := trm_len (rawL p q)
      simp (disch := omega) only [WA, ↓reduceIte, reduceEqDiff, reduceAdd, reduceMul, reduceSub, reduceLeDiff, reduceLT, reduceLE, reduceNeg, reduceEq]
      refine .inl ⟨by kernel_rfl, ?_⟩; refine sgPart_c (s.pull 0 rfl).row (fun x hx => hnr x (trm_mem hx)) (by omega) (trm_ldd _) fun v7 h7 t7 => ?_
      have s := s.add t7
      have hst : partL (trmL (rawL p q)) = stpL p q := rfl
      rw [hst] at s
      simp (disch := omega) only [WA, ↓reduceIte, reduceEqDiff, reduceAdd, reduceMul, reduceSub, reduceLeDiff, reduceLT, reduceLE, reduceNeg, reduceEq]
      refine .inl ⟨by kernel_rfl, ?_⟩; refine l1AllI_c (s.pull 0 rfl).row ?_
      have hin : ((stpL p q).all fun x => decide (-1000000000 ≤ x ∧ x ≤ 1000000000)) = inP (stpL p q) := rfl
      rw [hin]
      have pl := (s.pull 0 rfl).row.isRow.plain
      simp (disch := omega) only [WA, ↓reduceIte, reduceEqDiff, reduceAdd, reduceMul, reduceSub, reduceLeDiff, reduceLT, reduceLE, reduceNeg, reduceEq, pl]
      exact hQ _ _ s.head
theorem sgRemainder_c {p q : List Int} {v w : Value} {h : Heap} {Q : Value → Heap → Prop} (rp : Row h p v) (rq : Row h q w) (hp : Sm 1000000000 p) (hq : Sm 1000000000 q) (lp : Ldd p) (lq : Ldd q) (q0 : q ≠ [])
    (hQ : ∀ v h', Sep h h' [ownA 3 ((remL p q).getD []) v] → Q (.tuple #[v, .bool (remL p q).isSome]) h') : CallsV Try.prog 48 [v, w] h Q := by
  have hql := List.length_pos_iff.2 q0
  have hq9 := hq.len
  have hp9 := hp.len
  refine CallsV.start Try.func48 rfl (by rw [Try.results48]) (by kernel_rfl) (by rw [Try.ntmps48]; simp) ?_
  simp (disch := omega) only [WA, ↓reduceIte, reduceEqDiff, reduceAdd, reduceMul, reduceSub, reduceLeDiff, reduceLT, reduceLE, reduceNeg, reduceEq]
  refine .inl ⟨by kernel_rfl, ?_⟩; refine sgPart_c rp (hp.nin (by decide)) (by omega) lp fun vc h1 s => ?_
  have hpl := part_len p
  have hrem : remA q ((partL p).length + 1) (partL p) = remL p q := by unfold remL; rw [hpl]
  have hps := hp.part
  have lps := part_ldd lp
  simp (disch := omega) only [WA, ↓reduceIte, reduceEqDiff, reduceAdd, reduceMul, reduceSub, reduceLeDiff, reduceLT, reduceLE, reduceNeg, reduceEq]
  generalize partL p = p0 at *
  refine loop_rule (fun m e h' => ∃ (c : List Int) (vc : Value), e 0 = vc ∧ e 1 = w ∧ m = c.length ∧ Ldd c ∧ Sm 1000000000 c ∧ remA q (c.length + 1) c = remL p q ∧ Sep h h' [ownA 3 c vc]) ?_ p0.length _ _
    ⟨p0, vc, rfl, rfl, rfl, lps, hps, hrem, s⟩
  clear s hrem hps lps hpl
  rintro m e h2 ⟨c, vc, e0, e1', rfl, lc, hc, hrem, s⟩
  have rc := s.row
  have rq2 := rq.mono s.ext
  have hc9 := hc.len
  by_cases k : c.length < q.length
  · have k1 : ¬ (q.length : Int) ≤ (c.length : Int) := by omega
    have hr : remL p q = some c := by rw [← hrem]; exact rem_stop k
    rw [hr] at hQ
    have pl := rc.isRow.plain
    simp (disch := omega) only [WA, ↓reduceIte, reduceEqDiff, reduceAdd, reduceMul, reduceSub, reduceLeDiff, reduceLT, reduceLE, reduceNeg, reduceEq, e0, e1', rc.isRow.len, rq2.isRow.len, k1, pl]
    exact hQ _ _ s
  · have k1 : (q.length : Int) ≤ (c.length : Int) := by omega
    simp (disch := omega) only [WA, ↓reduceIte, reduceEqDiff, reduceAdd, reduceMul, reduceSub, reduceLeDiff, reduceLT, reduceLE, reduceNeg, reduceEq, e0, e1', rc.isRow.len, rq2.isRow.len, k1]
    refine .inl ⟨by kernel_rfl, ?_⟩; refine sgStep_c rc rq2 hc hq lc lq q0 (by omega) fun v7 h7 t7 => ?_
    have s := s.add t7
    have hlt := stp_lt (p := c) lq q0 (by omega)
    cases hb : inP (stpL c q) with
    | false =>
      have hr : remL p q = none := by rw [← hrem]; exact rem_bad (by omega) hb
      rw [hr] at hQ
      simp (disch := omega) only [WA, ↓reduceIte, reduceEqDiff, reduceAdd, reduceMul, reduceSub, reduceLeDiff, reduceLT, reduceLE, reduceNeg, reduceEq]
      exact hQ _ _ ((Sep.nil s.ext).nilA _)
    | true =>
      simp (disch := omega) only [WA, ↓reduceIte, reduceEqDiff, reduceAdd, reduceMul, reduceSub, reduceLeDiff, reduceLT, reduceLE, reduceNeg, reduceEq]
      refine ⟨_, hlt, stpL c q, v7, rfl, e1', rfl, stp_ldd c q, inP_sm hb (by omega), ?_, s.head⟩
      rw [← rem_go lq q0 (by omega) hb]; exact hrem
end Go.Proofs
