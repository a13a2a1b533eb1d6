/- Contracts of functions, facts of types, or the plain law behind one statement (own work): EE. Conditions: those told in each theorem. -/
import Derived.Test.YtajkecjbdoineaaED
set_option linter.all false
set_option linter.unusedSimpArgs false
set_option linter.unusedVariables false
set_option maxRecDepth 4000
namespace Go.Proofs
open Go Go.V
open Nat (reduceEqDiff reduceAdd reduceMul reduceSub reduceLeDiff)
open Int (reduceLT reduceLE reduceNeg reduceEq)
/- Remainders: the walks. -/
theorem cond_join {P : Program} [Laid P] {b : Value} {A B : Code} {e : Env} {h : Heap} {K : VX → Env → Heap → Prop} (I : Env → Heap → Prop)
    (hA : ∀ K' : VX → Env → Heap → Prop, (∀ e' h', I e' h' → K' .norm e' h') → condK P b A B e h K') (hK : ∀ e' h', I e' h' → K .norm e' h') : condK P b A B e h K := hA K hK
theorem remainder_c {p q : List Int} {v w : Value} {h : Heap} {Q : Value → Heap → Prop} (rp : Row h p v) (rq : Row h q w) (hp : Sm 1000000000 p) (hq : Sm 1000000000 q) (lp : Ldd p) (lq : Ldd q) (q0 : q ≠ [])
    (hQ : ∀ v h', Sep h h' [ownA 3 ((remL p q).getD []) v] → Q (.tuple #[v, .bool (remL p q).isSome]) h') : CallsV Try.prog 43 [v, w] h Q := by
  have hql := List.length_pos_iff.2 q0
  have hq9 := hq.len
  have hp9 := hp.len
  refine CallsV.start Try.func43 rfl (by rw [Try.results43]) (by kernel_rfl) (by rw [Try.ntmps43]; simp) ?_
  simp (disch := omega) only [WA, ↓reduceIte, reduceEqDiff, reduceAdd, reduceMul, reduceSub, reduceLeDiff, reduceLT, reduceLE, reduceNeg, reduceEq]
  refine .inl ⟨by kernel_rfl, ?_⟩; refine divided_c rp (hp.nin (by decide)) (by omega) fun vc h1 s => ?_
  have rq1 := rq.mono s.ext
  have X1 := (row_int rq1 (last_cf (p := q) (by omega))).1
  have e1 : (q.length : Int) - 1 = ((q.length - 1 : Nat) : Int) := by omega
  have q1 : ((q.length - 1 : Nat) : Int) < (q.length : Int) := by omega
  have hpl := part_len p
  have hrem : remA q ((partL p).length + 1) (partL p) = remL p q := by unfold remL; rw [hpl]
  have hps := hp.part
  have lps := part_ldd lp
  have hb9 := hq.cf (by decide) (q.length - 1)
  have hb0 := ldd_cf lq q0
  simp (disch := omega) only [WA, ↓reduceIte, reduceEqDiff, reduceAdd, reduceMul, reduceSub, reduceLeDiff, reduceLT, reduceLE, reduceNeg, reduceEq, rq1.isRow.len, e1, wrap_in, rq1.isRow.ix, q1, X1]
  generalize partL p = p0 at *
  clear X1 rq1
  refine loop_rule (fun m e h' => ∃ (c : List Int) (vc : Value), e 0 = vc ∧ e 1 = w ∧ e 6 = .int .i64 (cf q (q.length - 1)) ∧ m = c.length ∧ Ldd c ∧ Sm 1000000000 c ∧ remA q (c.length + 1) c = remL p q ∧ Sep h h' [ownA 3 c vc]) ?_ p0.length _ _
    ⟨p0, vc, rfl, rfl, rfl, rfl, lps, hps, hrem, s⟩
  clear s hrem hps lps hpl
  rintro m e h2 ⟨c, vc, e0, e1', e6, rfl, lc, hc, hrem, s⟩
  have rc := s.row
  have rq2 := rq.mono s.ext
  have hc9 := hc.len
  by_cases k : c.length < q.length
  · have k1 : ¬ (q.length : Int) ≤ (c.length : Int) := by omega
    have hr : remL p q = some c := by rw [← hrem]; exact rem_stop k
    rw [hr] at hQ
    have pl := rc.isRow.plain
    simp (disch := omega) only [WA, ↓reduceIte, reduceEqDiff, reduceAdd, reduceMul, reduceSub, reduceLeDiff, reduceLT, reduceLE, reduceNeg, reduceEq, e0, e1', rc.isRow.len, rq2.isRow.len, k1, pl]
    exact hQ _ _ s
  · have k1 : (q.length : Int) ≤ (c.length : Int) := by omega
    have c0 : c.length ≠ 0 := by omega
    have X1 := (row_int rc (last_cf c0)).1
    have e2 : (c.length : Int) - 1 = ((c.length - 1 : Nat) : Int) := by omega
    have q2 : ((c.length - 1 : Nat) : Int) < (c.length : Int) := by omega
    have ha9 := hc.cf (by decide) (c.length - 1)
    obtain ⟨hu, hd⟩ := raw_sm hc hq lq q0
    obtain ⟨g0, _, _⟩ := gcd_facts (a := cf c (c.length - 1)) hb0
    have hgle : Nat.gcd (cf c (c.length - 1)).natAbs (cf q (q.length - 1)).natAbs ≤ (cf q (q.length - 1)).natAbs := Nat.le_of_dvd (by omega) (Nat.gcd_dvd_right _ _)
    obtain ⟨G, hG⟩ : ∃ G : Nat, Nat.gcd (cf c (c.length - 1)).natAbs (cf q (q.length - 1)).natAbs = G := ⟨_, rfl⟩
    rw [hG] at g0 hgle
    have hup : max (Int.tdiv (cf q (q.length - 1)) G) (Int.tdiv (0 - cf q (q.length - 1)) G) = upN c q := by rw [up_max g0]; unfold upN; rw [hG]
    have hdn : dnN c q = if cf q (q.length - 1) < 0 then -Int.tdiv (cf c (c.length - 1)) G else Int.tdiv (cf c (c.length - 1)) G := by unfold dnN; rw [hG]
    have gn : ¬ (G : Int) = 0 := by omega
    have t1 := Int.natAbs_tdiv_le_natAbs (cf q (q.length - 1)) G
    have t2 := Int.natAbs_tdiv_le_natAbs (0 - cf q (q.length - 1)) G
    have t3 := Int.natAbs_tdiv_le_natAbs (cf c (c.length - 1)) G
    have w1 := wrap9 (x := Int.tdiv (cf q (q.length - 1)) G) (by omega)
    have w2 := wrap9 (x := Int.tdiv (0 - cf q (q.length - 1)) G) (by omega)
    have w3 := wrap9 (x := Int.tdiv (cf c (c.length - 1)) G) (by omega)
    have w4 := wrap9 (x := 0 - cf q (q.length - 1)) (by omega)
    simp (disch := omega) only [WA, ↓reduceIte, reduceEqDiff, reduceAdd, reduceMul, reduceSub, reduceLeDiff, reduceLT, reduceLE, reduceNeg, reduceEq, e0, e1', e6, rc.isRow.len, rq2.isRow.len, k1, e2, wrap_in, rc.isRow.ix, q2, X1]
    refine .inl ⟨by kernel_rfl, ?_⟩; refine gcd_c (by omega) (by omega) ?_
    rw [hG]
    simp (disch := omega) only [WA, ↓reduceIte, reduceEqDiff, reduceAdd, reduceMul, reduceSub, reduceLeDiff, reduceLT, reduceLE, reduceNeg, reduceEq]
    refine draw_ord [0, 1, 2, 3, 4, 5, 6, 7, 8, 9, 10, 11, 12] (by kernel_rfl) (by simp only [List.filterMap_cons, List.filterMap_nil, List.getElem?_cons_zero, List.getElem?_cons_succ]; rfl) ?_
    simp (disch := omega) only [WA, ↓reduceIte, reduceEqDiff, reduceAdd, reduceMul, reduceSub, reduceLeDiff, reduceLT, reduceLE, reduceNeg, reduceEq, e6, gn, w1, w2, w3, w4, hup]
    refine cond_join (fun e' h' => e' 0 = vc ∧ e' 1 = w ∧ e' 6 = .int .i64 (cf q (q.length - 1)) ∧ e' 9 = .int .i64 (upN c q) ∧ e' 10 = .int .i64 (dnN c q) ∧ h' = h2) (fun K' hK' => ?_) ?_
    · by_cases z : cf q (q.length - 1) < 0
      · have w5 : IntKind.i64.wrap (0 - Int.tdiv (cf c (c.length - 1)) G) = dnN c q := by rw [hdn, if_pos z, wrap9 (by omega)]; omega
        simp (disch := omega) only [WA, ↓reduceIte, reduceEqDiff, reduceAdd, reduceMul, reduceSub, reduceLeDiff, reduceLT, reduceLE, reduceNeg, reduceEq, z, w5]
        exact hK' _ _ ⟨e0, e1', e6, rfl, rfl, rfl⟩
      · rw [if_neg z] at hdn
        simp (disch := omega) only [WA, ↓reduceIte, reduceEqDiff, reduceAdd, reduceMul, reduceSub, reduceLeDiff, reduceLT, reduceLE, reduceNeg, reduceEq, z]
        exact hK' _ _ ⟨e0, e1', e6, rfl, by rw [hdn]; rfl, rfl⟩
    clear e0 e1' e6 w1 w2 w3 w4 t1 t2 t3 hup hdn
    rintro e _ ⟨e0, e1', e6, e9, e10, rfl⟩
    simp (disch := omega) only [WA, ↓reduceIte, reduceEqDiff, reduceAdd, reduceMul, reduceSub, reduceLeDiff, reduceLT, reduceLE, reduceNeg, reduceEq, e0, rc.isRow.len]
    refine sep_make (α := Int) 0 s te22 tk3 (fun _ => rep_int ⟨by decide, by decide⟩) (by decide) (by simp only []; omega) fun vn h3 s hcn hvn => ?_
    have rc := (s.pull 1 rfl).row
    simp (disch := omega) only [WA, ↓reduceIte, reduceEqDiff, reduceAdd, reduceMul, reduceSub, reduceLeDiff, reduceLT, reduceLE, reduceNeg, reduceEq, e0, rc.isRow.len]
    have hrep : List.replicate c.length (0 : Int) = (sclL (upN c q) c).take 0 ++ (List.replicate c.length 0).drop 0 := by simp
    refine loop_rule (fun m e h' => ∃ (i : Nat), e 0 = vc ∧ e 1 = w ∧ e 6 = .int .i64 (cf q (q.length - 1)) ∧ e 9 = .int .i64 (upN c q) ∧ e 10 = .int .i64 (dnN c q) ∧ e 11 = vn ∧ e 56 = vc ∧ e 57 = .int .i64 c.length ∧ e 58 = .int .i64 i ∧ i ≤ c.length ∧ m = c.length - i ∧
      Sep h h' [ownA 3 ((sclL (upN c q) c).take i ++ (List.replicate c.length 0).drop i) vn, ownA 3 c vc]) ?_ c.length _ _ ⟨0, e0, e1', e6, e9, e10, rfl, rfl, rfl, rfl, by omega, by omega, by rw [← hrep]; exact s⟩
    clear s rc
    rintro m e h4 ⟨i, e0, e1', e6, e9, e10, e11, e56, e57, e58, hi, rfl, s⟩
    have rn := s.row
    have rc := (s.pull 1 rfl).row
    have hln : ((sclL (upN c q) c).take i ++ (List.replicate c.length (0 : Int)).drop i).length = c.length := by simp [scl_len]; omega
    have ixn := rn.isRow.ix Try.prog
    rw [hln] at ixn
    simp (disch := omega) only [WA, ↓reduceIte, reduceEqDiff, reduceAdd, reduceMul, reduceSub, reduceLeDiff, reduceLT, reduceLE, reduceNeg, reduceEq, e57, e58]
    by_cases k2 : i < c.length
    · have c2 : (i : Int) < (c.length : Int) := by omega
      have hx := cf_get k2
      have X2 := (row_int rc hx).1
      have m1 := mul_in (A := 1000000000) (B := 1000000000) (by decide) (by decide) ⟨by omega, hu.2⟩ (hc.cf (by decide) i)
      have w6 := wrap9 (x := upN c q * cf c i) (by omega)
      simp (disch := omega) only [WA, ↓reduceIte, reduceEqDiff, reduceAdd, reduceMul, reduceSub, reduceLeDiff, reduceLT, reduceLE, reduceNeg, reduceEq, c2, e9, e11, e56, e58, rc.isRow.ix, X2, w6, ixn]
      have s := (s.rep0 (x := upN c q * cf c i) (rep_int ⟨by omega, by omega⟩)).swap
      refine sep_set1 (i := i) (y := upN c q * cf c i) s rfl (by rw [hln]; omega) fun h5 s => ?_
      simp (disch := omega) only [WA, ↓reduceIte, reduceEqDiff, reduceAdd, reduceMul, reduceSub, reduceLeDiff, reduceLT, reduceLE, reduceNeg, reduceEq, e58, wrap_in]
      refine ⟨_, by omega, i + 1, e0, e1', e6, e9, e10, e11, e56, e57, by simp, by omega, rfl, ?_⟩
      have hset : ((sclL (upN c q) c).take i ++ (List.replicate c.length (0 : Int)).drop i).set i (upN c q * cf c i) = (sclL (upN c q) c).take (i + 1) ++ (List.replicate c.length (0 : Int)).drop (i + 1) := by
        have hg : (sclL (upN c q) c)[i]? = some (upN c q * cf c i) := by unfold sclL; rw [List.getElem?_map, hx]; rfl
        rw [List.set_append_right _ _ (by rw [List.length_take, scl_len]; omega), List.length_take, scl_len, show i - min i c.length = 0 by omega]
        rw [List.take_add_one, hg, List.drop_replicate, List.drop_replicate, show c.length - i = (c.length - (i + 1)) + 1 by omega, List.replicate_succ, List.set_cons_zero]
        simp
      rw [hset] at s
      exact s
    · obtain rfl : i = c.length := by omega
      have c2 : ¬ (c.length : Int) < (c.length : Int) := by omega
      rw [List.take_of_length_le (by rw [scl_len]; omega), List.drop_of_length_le (by simp), List.append_nil, ← rw_zero (upN c q) (dnN c q) c q] at s
      have rq3 := rq.mono s.ext
      simp (disch := omega) only [WA, ↓reduceIte, reduceEqDiff, reduceAdd, reduceMul, reduceSub, reduceLeDiff, reduceLT, reduceLE, reduceNeg, reduceEq, c2, e1', rq3.isRow.len]
      refine loop_rule (fun m e h' => ∃ (i : Nat), e 0 = vc ∧ e 1 = w ∧ e 6 = .int .i64 (cf q (q.length - 1)) ∧ e 10 = .int .i64 (dnN c q) ∧ e 11 = vn ∧ e 70 = w ∧ e 71 = .int .i64 q.length ∧ e 72 = .int .i64 i ∧ i ≤ q.length ∧ m = q.length - i ∧
        Sep h h' [ownA 3 (rwL (upN c q) (dnN c q) c q i) vn, ownA 3 c vc]) ?_ q.length _ _ ⟨0, e0, e1', e6, e10, e11, rfl, rfl, rfl, by omega, by omega, s⟩
      clear s rq3 rn rc ixn hln e0 e1' e6 e9 e10 e11 e56 e57 e58 hrep
      rintro m e h5 ⟨i, e0, e1', e6, e10, e11, e70, e71, e72, hi, rfl, s⟩
      have rn := s.row
      have rc := (s.pull 1 rfl).row
      have rq3 := rq.mono s.ext
      have ixn := rn.isRow.ix Try.prog
      rw [rw_len] at ixn
      simp (disch := omega) only [WA, ↓reduceIte, reduceEqDiff, reduceAdd, reduceMul, reduceSub, reduceLeDiff, reduceLT, reduceLE, reduceNeg, reduceEq, e71, e72]
      by_cases k3 : i < q.length
      · have c3 : (i : Int) < (q.length : Int) := by omega
        have X3 := (row_int rq3 (cf_get k3)).1
        have X4 := (row_int rn (rw_at (u := upN c q) (d := dnN c q) k3 (show q.length ≤ c.length by omega))).1
        have m1 := mul_in (A := 1000000000) (B := 1000000000) (by decide) (by decide) ⟨by omega, hu.2⟩ (hc.cf (by decide) (i + c.length - q.length))
        have m2 := mul_in (A := 1000000000) (B := 1000000000) (by decide) (by decide) hd (hq.cf (by decide) i)
        have w6 := wrap9 (x := dnN c q * cf q i) (by omega)
        have w7 := wrap9 (x := upN c q * cf c (i + c.length - q.length) - dnN c q * cf q i) (by omega)
        have w8 := wrap9 (x := (i : Int) + (c.length : Int)) (by omega)
        have w9 := wrap9 (x := ((i + c.length - q.length : Nat) : Int)) (by omega)
        have k9 : (i : Int) + (c.length : Int) - (q.length : Int) = ((i + c.length - q.length : Nat) : Int) := by omega
        have q9 : ((i + c.length - q.length : Nat) : Int) < (c.length : Int) := by omega
        simp (disch := omega) only [WA, ↓reduceIte, reduceEqDiff, reduceAdd, reduceMul, reduceSub, reduceLeDiff, reduceLT, reduceLE, reduceNeg, reduceEq, c3, e0, e1', e10, e11, e70, e72, rq3.isRow.ix, X3, rc.isRow.len, rq3.isRow.len, w8, k9, w9, ixn, q9, X4, w6, w7]
        have s := (s.rep0 (x := upN c q * cf c (i + c.length - q.length) - dnN c q * cf q i) (rep_int ⟨by omega, by omega⟩)).swap
        refine sep_set1 (i := i + c.length - q.length) (y := upN c q * cf c (i + c.length - q.length) - dnN c q * cf q i) s rfl (by rw [rw_len]; omega) fun h6 s => ?_
        rw [rw_set k3 (by omega)] at s
        simp (disch := omega) only [WA, ↓reduceIte, reduceEqDiff, reduceAdd, reduceMul, reduceSub, reduceLeDiff, reduceLT, reduceLE, reduceNeg, reduceEq, e72, wrap_in]
        exact ⟨_, by omega, i + 1, e0, e1', e6, e10, e11, e70, e71, by simp, by omega, rfl, s⟩
      · obtain rfl : i = q.length := by omega
        have c3 : ¬ (q.length : Int) < (q.length : Int) := by omega
        rw [rw_full (by omega)] at s
        have hnr := raw_nin hc hq lq q0 (show q.length ≤ c.length by omega)
        have hlr := raw_len (p := c) (q := q) (by omega)
        simp (disch := omega) only [WA, ↓reduceIte, reduceEqDiff, reduceAdd, reduceMul, reduceSub, reduceLeDiff, reduceLT, reduceLE, reduceNeg, reduceEq, c3, e11]
        refine .inl ⟨by kernel_rfl, ?_⟩; refine stripped_c s.row (by omega) fun v6 h6 t6 => ?_
        have s := s.add t6
        have htl := trm_len (rawL c q)
        simp (disch := omega) only [WA, ↓reduceIte, reduceEqDiff, reduceAdd, reduceMul, reduceSub, reduceLeDiff, reduceLT, reduceLE, reduceNeg, reduceEq]
        refine .inl ⟨by kernel_rfl, ?_⟩; refine divided_c (s.pull 0 rfl).row (fun x hx => hnr x (trm_mem hx)) (by omega) fun v7 h7 t7 => ?_
        have s := s.add t7
        have hst : partL (trmL (rawL c q)) = stpL c q := rfl
        rw [hst] at s
        have hlt := stp_lt (p := c) lq q0 (by omega)
        simp (disch := omega) only [WA, ↓reduceIte, reduceEqDiff, reduceAdd, reduceMul, reduceSub, reduceLeDiff, reduceLT, reduceLE, reduceNeg, reduceEq]
        refine .inl ⟨by kernel_rfl, ?_⟩; refine containsBig_c (s.pull 0 rfl).row ?_
        rw [any_big]
        cases hb : inP (stpL c q) with
        | false =>
          have hr : remL p q = none := by rw [← hrem]; exact rem_bad (by omega) hb
          rw [hr] at hQ
          simp (disch := omega) only [WA, ↓reduceIte, reduceEqDiff, reduceAdd, reduceMul, reduceSub, reduceLeDiff, reduceLT, reduceLE, reduceNeg, reduceEq, Bool.not_false]
          exact hQ _ _ ((Sep.nil s.ext).nilA _)
        | true =>
          simp (disch := omega) only [WA, ↓reduceIte, reduceEqDiff, reduceAdd, reduceMul, reduceSub, reduceLeDiff, reduceLT, reduceLE, reduceNeg, reduceEq, Bool.not_true]
          refine ⟨_, hlt, stpL c q, v7, rfl, e1', e6, rfl, stp_ldd c q, inP_sm hb (by omega), ?_, s.head⟩
          rw [← rem_go lq q0 (by omega) hb]; exact hrem
end Go.Proofs
