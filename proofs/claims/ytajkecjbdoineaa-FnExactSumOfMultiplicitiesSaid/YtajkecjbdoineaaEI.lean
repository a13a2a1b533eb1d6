/- Contracts of functions, facts of types, or the plain law behind one statement (own work): EI. Conditions: those told in each theorem. -/
import Derived.Test.YtajkecjbdoineaaEH
set_option linter.all false
set_option linter.unusedSimpArgs false
set_option linter.unusedVariables false
set_option maxRecDepth 4000
namespace Go.Proofs
open Go Go.V
open Nat (reduceEqDiff reduceAdd reduceMul reduceSub reduceLeDiff)
open Int (reduceLT reduceLE reduceNeg reduceEq)
/- Exact quotients: the reference's walk. -/
theorem pr_zero (q B : List Int) (n : Nat) : (prL q (B.take 0) n).all (fun x => decide (0 ≤ x ∧ x ≤ 0)) = true := by
  rw [List.all_eq_true]
  intro x hx
  unfold prL at hx
  obtain ⟨i, _, rfl⟩ := List.mem_map.1 hx
  have : ∀ x, 1 ≤ x → Go.Proofs.ev (mulL q (B.take 0)) x = Go.Proofs.ev [] x := fun x _ => by rw [ev_mul]; simp [Go.Proofs.ev]
  rw [ev_inj this]
  rfl
theorem sgDivide_c {p q B : List Int} {v w : Value} {h : Heap} {Q : Value → Heap → Prop} (rp : Row h p v) (rq : Row h q w) (hQu : Quo p q B) (hQ : ∀ v h', Sep h h' [ownA 3 B v] → Q (.tuple #[v, .bool true]) h') :
    CallsV Try.prog 32 [v, w] h Q := by
  obtain ⟨hlen, hB0⟩ := hQu.len
  have hql := List.length_pos_iff.2 hQu.q0
  have hbl := List.length_pos_iff.2 hB0
  have hp9 := hQu.sp.len
  have hq9 := hQu.sq.len
  have hb9 := hQu.sb.len
  have hlead := ldd_cf hQu.lq hQu.q0
  have hleadb := hQu.sq.cf (by decide) (q.length - 1)
  have e1 : (q.length : Int) - 1 = ((q.length - 1 : Nat) : Int) := by omega
  have q1 : ((q.length - 1 : Nat) : Int) < (q.length : Int) := by omega
  have e2 : (p.length : Int) - (q.length : Int) = ((p.length - q.length : Nat) : Int) := by omega
  have e3 : ((p.length - q.length : Nat) : Int) + 1 = (B.length : Int) := by omega
  have n0 : ¬ (p.length : Int) < (q.length : Int) := by omega
  have w5 := wrap9 (x := (B.length : Int) - 1) (by omega)
  refine CallsV.start Try.func32 rfl (by rw [Try.results32]) (by kernel_rfl) (by rw [Try.ntmps32]; simp) ?_
  simp (disch := omega) only [WA, ↓reduceIte, reduceEqDiff, reduceAdd, reduceMul, reduceSub, reduceLeDiff, reduceLT, reduceLE, reduceNeg, reduceEq, rp.isRow.len, rq.isRow.len, n0]
  refine .inl ⟨by kernel_rfl, ?_⟩; refine l1Own_c rp (by omega) fun vr h1 s => ?_
  rw [hQu.start] at s
  have rq1 := rq.mono s.ext
  have rp1 := rp.mono s.ext
  simp (disch := omega) only [WA, ↓reduceIte, reduceEqDiff, reduceAdd, reduceMul, reduceSub, reduceLeDiff, reduceLT, reduceLE, reduceNeg, reduceEq, rq1.isRow.len, rp1.isRow.len, e2, e3, wrap_in]
  refine sep_make (α := Int) 0 s te22 tk3 (fun _ => rep_int ⟨by decide, by decide⟩) (by decide) (by simp only []; omega) fun vn h3 s hcn hvn => ?_
  have rn := (s.pull 0 rfl).row
  have lrep : (List.replicate B.length (0 : Int)).length = B.length := by simp
  have lenN := rn.isRow.len Try.prog
  rw [lrep] at lenN
  simp (disch := omega) only [WA, ↓reduceIte, reduceEqDiff, reduceAdd, reduceMul, reduceSub, reduceLeDiff, reduceLT, reduceLE, reduceNeg, reduceEq, lenN, w5]
  have hst : List.replicate B.length (0 : Int) = List.replicate B.length 0 ++ B.drop B.length := by simp
  rw [hst] at s
  refine loop_rule (fun m e h' => ∃ (i : Nat), e 0 = v ∧ e 1 = w ∧ e 6 = vr ∧ e 7 = vn ∧ e 8 = .int .i64 ((i : Int) - 1) ∧ i ≤ B.length ∧ m = i ∧
    Sep h h' [ownA 3 (List.replicate i 0 ++ B.drop i) vn, ownA 3 (prL q (B.take i) p.length) vr]) ?_ B.length _ _ ⟨B.length, rfl, rfl, rfl, rfl, rfl, Nat.le_refl _, rfl, s⟩
  clear s rn lenN rq1 rp1 hst
  rintro m e h4 ⟨i, e0, e1', e6, e7, e8, hi, rfl, s⟩
  have rq1 := rq.mono s.ext
  have rr := (s.pull 1 rfl).row
  have rn := (s.pull 0 rfl).row
  have lenr : (prL q (B.take m) p.length).length = p.length := pr_len _ _ _
  have ixr := rr.isRow.ix Try.prog
  rw [lenr] at ixr
  by_cases z : m = 0
  · subst z
    have z1 : ¬ (0 : Int) ≤ ((0 : Nat) : Int) - 1 := by decide
    have hz := pr_zero q B p.length
    simp (disch := omega) only [WA, ↓reduceIte, reduceEqDiff, reduceAdd, reduceMul, reduceSub, reduceLeDiff, reduceLT, reduceLE, reduceNeg, reduceEq, e8, z1, e6, e7]
    refine .inl ⟨by kernel_rfl, ?_⟩; refine l1AllI_c rr ?_
    rw [hz]
    have hB : List.replicate 0 (0 : Int) ++ B.drop 0 = B := by simp
    rw [hB] at s
    have pl := s.head.row.isRow.plain
    simp (disch := omega) only [WA, ↓reduceIte, reduceEqDiff, reduceAdd, reduceMul, reduceSub, reduceLeDiff, reduceLT, reduceLE, reduceNeg, reduceEq, pl]
    exact hQ _ _ s.head
  · obtain ⟨k, rfl⟩ : ∃ k, m = k + 1 := ⟨m - 1, by omega⟩
    have hk : k < B.length := by omega
    have k1 : ((k + 1 : Nat) : Int) - 1 = (k : Int) := by omega
    have k2 : (k : Int) + (q.length : Int) = ((k + q.length : Nat) : Int) := by omega
    have k3 : ((k + q.length : Nat) : Int) - 1 = ((k + q.length - 1 : Nat) : Int) := by omega
    have q3 : ((k + q.length - 1 : Nat) : Int) < (p.length : Int) := by omega
    have X1 := (row_int rq1 (last_cf (p := q) (by omega))).1
    have X2 := (row_int rr (pr_get (q := q) (C := B.take (k + 1)) (show k + q.length - 1 < p.length by omega))).1
    rw [hQu.top hk] at X2
    have hbk := hQu.sb.cf (by decide) k
    have t1 : Int.tmod (cf q (q.length - 1) * cf B k) (cf q (q.length - 1)) = 0 := Int.mul_tmod_right ..
    have t2 : Int.tdiv (cf q (q.length - 1) * cf B k) (cf q (q.length - 1)) = cf B k := Int.mul_tdiv_cancel_left _ hlead
    have w6 := wrap9 (x := cf B k) (by omega)
    have d1 : decide (-1000000000 ≤ cf B k ∧ cf B k ≤ 1000000000) = true := decide_eq_true (by omega)
    have lenn : (List.replicate (k + 1) (0 : Int) ++ B.drop (k + 1)).length = B.length := by simp; omega
    have ixn := rn.isRow.ix Try.prog
    rw [lenn] at ixn
    have q4 : (k : Int) < (B.length : Int) := by omega
    have e8 : e 8 = .int .i64 (k : Int) := by rw [e8, k1]
    have z5 : (0 : Int) ≤ (k : Int) := by omega
    simp (disch := omega) only [WA, ↓reduceIte, reduceEqDiff, reduceAdd, reduceMul, reduceSub, reduceLeDiff, reduceLT, reduceLE, reduceNeg, reduceEq, e8, z5]
    refine draw_ord [0, 1, 2, 3, 4, 5, 6, 7, 8, 9, 10, 11, 12, 13, 14, 15] (by kernel_rfl) (by simp only [List.filterMap_cons, List.filterMap_nil, List.getElem?_cons_zero, List.getElem?_cons_succ]; rfl) ?_
    simp (disch := omega) only [WA, ↓reduceIte, reduceEqDiff, reduceAdd, reduceMul, reduceSub, reduceLeDiff, reduceLT, reduceLE, reduceNeg, reduceEq, e8, e1', e6, rq1.isRow.len, e1, k2, k3, wrap_in, ixr, q3, X2, rq1.isRow.ix, q1, X1, hlead, t1, t2, w6]
    refine .inl ⟨by kernel_rfl, ?_⟩; refine l1In_c ?_
    rw [d1]
    simp (disch := omega) only [WA, ↓reduceIte, reduceEqDiff, reduceAdd, reduceMul, reduceSub, reduceLeDiff, reduceLT, reduceLE, reduceNeg, reduceEq, e7, e8, hlead, t2, w6, ixn, q4]
    have s := (s.rep0 (x := cf B k) (rep_int ⟨by omega, by omega⟩)).swap
    refine sep_set1 (i := k) (y := cf B k) s rfl (by rw [lenn]; omega) fun h5 s => ?_
    rw [zs_set rfl hk] at s
    have rq2 := rq.mono s.ext
    simp (disch := omega) only [WA, ↓reduceIte, reduceEqDiff, reduceAdd, reduceMul, reduceSub, reduceLeDiff, reduceLT, reduceLE, reduceNeg, reduceEq, e1', rq2.isRow.len]
    rw [← sb_zero q (B.take (k + 1)) p.length k (cf B k)] at s
    refine loop_rule (fun m e h' => ∃ (j : Nat), e 0 = v ∧ e 1 = w ∧ e 6 = vr ∧ e 7 = vn ∧ e 8 = .int .i64 (k : Int) ∧ e 68 = w ∧ e 69 = .int .i64 q.length ∧ e 70 = .int .i64 j ∧ j ≤ q.length ∧ m = q.length - j ∧
      Sep h h' [ownA 3 (List.replicate k 0 ++ B.drop k) vn, ownA 3 (sbL q (B.take (k + 1)) p.length k (cf B k) j) vr]) ?_ q.length _ _ ⟨0, e0, e1', e6, e7, e8, rfl, rfl, rfl, by omega, by omega, s⟩
    clear s rq1 rq2 rr rn lenr ixr ixn X1 X2 e0 e1' e6 e7 e8
    rintro m e h6 ⟨j, e0, e1', e6, e7, e8, e68, e69, e70, hj, rfl, s⟩
    have rq1 := rq.mono s.ext
    have rr := (s.pull 1 rfl).row
    have rn := (s.pull 0 rfl).row
    have ixr := rr.isRow.ix Try.prog
    rw [sb_len] at ixr
    have lenn2 : (List.replicate k (0 : Int) ++ B.drop k).length = B.length := by simp; omega
    have ixn := rn.isRow.ix Try.prog
    rw [lenn2] at ixn
    simp (disch := omega) only [WA, ↓reduceIte, reduceEqDiff, reduceAdd, reduceMul, reduceSub, reduceLeDiff, reduceLT, reduceLE, reduceNeg, reduceEq, e69, e70]
    by_cases c : j < q.length
    · have c1 : (j : Int) < (q.length : Int) := by omega
      have X3 := (row_int rq1 (cf_get c)).1
      have X4 := (row_int rr (sb_at (q := q) (C := B.take (k + 1)) (d := cf B k) (show k + j < p.length by omega))).1
      have hgB : (List.replicate k (0 : Int) ++ B.drop k)[k]? = some (cf B k) := by
        rw [List.getElem?_append_right (by simp)]; simp; exact cf_get hk
      have X5 := (row_int rn hgB).1
      have m2 := mul_in (A := 40000000) (B := 40000000) (by decide) (by decide) hbk (hQu.sq.cf (by decide) j)
      have m3 := hQu.bound (k + 1) (k + j)
      have w7 := wrap9 (x := cf B k * cf q j) (by omega)
      have w8 := wrap9 (x := cf (mulL q (B.take (k + 1))) (k + j) - cf B k * cf q j) (by omega)
      have k4 : (k : Int) + (j : Int) = ((k + j : Nat) : Int) := by omega
      have q5 : ((k + j : Nat) : Int) < (p.length : Int) := by omega
      simp (disch := omega) only [WA, ↓reduceIte, reduceEqDiff, reduceAdd, reduceMul, reduceSub, reduceLeDiff, reduceLT, reduceLE, reduceNeg, reduceEq, c1, e68, e70, rq1.isRow.ix, X3]
      refine draw_tail [0, 1, 2, 3, 4, 5, 6, 7, 8, 9, 10, 11, 12, 13] [14] (by kernel_rfl) (by simp only [List.filterMap_cons, List.filterMap_nil, List.getElem?_cons_zero, List.getElem?_cons_succ]; rfl) ?_
      simp (disch := omega) only [WA, ↓reduceIte, reduceEqDiff, reduceAdd, reduceMul, reduceSub, reduceLeDiff, reduceLT, reduceLE, reduceNeg, reduceEq, e6, e7, e8, k4, wrap_in, ixr, q5, X4, ixn, q4, X5, w7, w8]
      refine tail_step [(14, [], [], true)] (by kernel_rfl) (by kernel_rfl) (a_cut (by simp only [List.filterMap_cons, List.filterMap_nil, List.getElem?_cons_zero, List.getElem?_cons_succ]; rfl) (by kernel_rfl) ?_ trivial)
      try simp (disch := omega) only [WA, ↓reduceIte, reduceEqDiff, reduceAdd, reduceMul, reduceSub, reduceLeDiff, reduceLT, reduceLE, reduceNeg, reduceEq]
      have s := (((s.pull 1 rfl).rep0 (x := cf (mulL q (B.take (k + 1))) (k + j) - cf B k * cf q j) (rep_int ⟨by omega, by omega⟩)).swap)
      refine sep_set1 (i := k + j) (y := cf (mulL q (B.take (k + 1))) (k + j) - cf B k * cf q j) s rfl (by rw [sb_len]; omega) fun h7 s => ?_
      rw [sb_set (by omega)] at s
      have w9 := wrap9 (x := (j : Int) + 1) (by omega)
      simp (disch := omega) only [WA, ↓reduceIte, reduceEqDiff, reduceAdd, reduceMul, reduceSub, reduceLeDiff, reduceLT, reduceLE, reduceNeg, reduceEq, e70, w9]
      exact ⟨_, by omega, j + 1, e0, e1', e6, e7, e8, e68, e69, by simp, by omega, rfl, s.swap⟩
    · obtain rfl : j = q.length := by omega
      have c1 : ¬ (q.length : Int) < (q.length : Int) := by omega
      have w9 := wrap9 (x := (k : Int) - 1) (by omega)
      rw [sb_full hk] at s
      simp (disch := omega) only [WA, ↓reduceIte, reduceEqDiff, reduceAdd, reduceMul, reduceSub, reduceLeDiff, reduceLT, reduceLE, reduceNeg, reduceEq, c1, e8, w9]
      exact ⟨_, by omega, k, e0, e1', e6, e7, rfl, by omega, rfl, s⟩
end Go.Proofs
