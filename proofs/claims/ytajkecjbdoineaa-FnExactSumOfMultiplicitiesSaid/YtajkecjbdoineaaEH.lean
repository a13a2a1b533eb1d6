/- Contracts of functions, facts of types, or the plain law behind one statement (own work): EH. Conditions: those told in each theorem. -/
import Derived.Test.YtajkecjbdoineaaEG
set_option linter.all false
set_option linter.unusedSimpArgs false
set_option linter.unusedVariables false
set_option maxRecDepth 4000
namespace Go.Proofs
open Go Go.V
open Nat (reduceEqDiff reduceAdd reduceMul reduceSub reduceLeDiff)
open Int (reduceLT reduceLE reduceNeg reduceEq)
/- Exact quotients. -/
def prL (q C : List Int) (n : Nat) : List Int := (List.range n).map fun j => cf (mulL q C) j
def sbL (q C : List Int) (n o : Nat) (d : Int) (k : Nat) : List Int := (List.range n).map fun j => cf (mulL q C) j - (if o ≤ j ∧ j < o + k then d * cf q (j - o) else 0)
theorem pr_len (q C : List Int) (n : Nat) : (prL q C n).length = n := by simp [prL]
theorem sb_len (q C : List Int) (n o : Nat) (d : Int) (k : Nat) : (sbL q C n o d k).length = n := by simp [sbL]
theorem pr_get {q C : List Int} {n j : Nat} (h : j < n) : (prL q C n)[j]? = some (cf (mulL q C) j) := by
  unfold prL; rw [List.getElem?_map, List.getElem?_range h]; rfl
theorem sb_get {q C : List Int} {n o k j : Nat} {d : Int} (h : j < n) : (sbL q C n o d k)[j]? = some (cf (mulL q C) j - (if o ≤ j ∧ j < o + k then d * cf q (j - o) else 0)) := by
  unfold sbL; rw [List.getElem?_map, List.getElem?_range h]; rfl
theorem sb_zero (q C : List Int) (n o : Nat) (d : Int) : sbL q C n o d 0 = prL q C n := by
  unfold sbL prL
  refine List.map_congr_left fun j _ => ?_
  rw [if_neg (by omega), Int.sub_zero]
theorem cf_take {B : List Int} {i : Nat} (hi : i < B.length) (q : List Int) (j : Nat) : cf (mulL q (B.take (i + 1))) j = cf (mulL q (B.take i)) j + (if i ≤ j then cf B i * cf q (j - i) else 0) := by
  have h1 : ∀ x, 1 ≤ x → ev (mulL q (B.take (i + 1))) x = ev (addL (mulL q (B.take i)) (shfL i (sclL (cf B i) q))) x := by
    intro x _
    have e1 : B.take (i + 1) = B.take i ++ [cf B i] := by rw [List.take_add_one, cf_get hi]; rfl
    rw [ev_add, ev_mul, ev_mul, ev_shf, ev_scl, e1, ev_append, List.length_take, Nat.min_eq_left (by omega)]
    simp only [ev]
    grind
  rw [ev_inj h1 j, cf_add, cf_shf]
  congr 1
  by_cases c : j < i
  · rw [if_pos c, if_neg (by omega)]
  · rw [if_neg c, if_pos (by omega), cf_scl]
theorem sb_full {q B : List Int} {n i : Nat} (hi : i < B.length) : sbL q (B.take (i + 1)) n i (cf B i) q.length = prL q (B.take i) n := by
  unfold sbL prL
  refine List.map_congr_left fun j _ => ?_
  rw [cf_take hi]
  by_cases c : i ≤ j
  · by_cases c2 : j < i + q.length
    · rw [if_pos c, if_pos ⟨c, c2⟩]; omega
    · rw [if_pos c, if_neg (by omega), cf_out (l := q) (by omega)]; omega
  · rw [if_neg c, if_neg (by omega)]; omega
theorem sb_at {q C : List Int} {n o k : Nat} {d : Int} (h : o + k < n) : (sbL q C n o d k)[o + k]? = some (cf (mulL q C) (o + k)) := by
  rw [sb_get h, if_neg (by omega), Int.sub_zero]
theorem sb_set {q C : List Int} {n o k : Nat} {d : Int} (h : o + k < n) : (sbL q C n o d k).set (o + k) (cf (mulL q C) (o + k) - d * cf q k) = sbL q C n o d (k + 1) := by
  apply List.ext_getElem?
  intro j
  rw [List.getElem?_set, sb_len]
  by_cases c : j < n
  · rw [sb_get (k := k + 1) c]
    by_cases e : o + k = j
    · rw [if_pos e, if_pos h, if_pos (by omega), ← e]
      congr 3
      congr 1
      omega
    · rw [if_neg e, sb_get c]
      congr 2
      by_cases k2 : o ≤ j ∧ j < o + k
      · rw [if_pos k2, if_pos (by omega)]
      · rw [if_neg k2, if_neg (by omega)]
  · have e1 : (sbL q C n o d (k + 1))[j]? = none := List.getElem?_eq_none (by rw [sb_len]; omega)
    have e2 : (sbL q C n o d k)[j]? = none := List.getElem?_eq_none (by rw [sb_len]; omega)
    rw [e1, e2]
    by_cases e : o + k = j
    · omega
    · rw [if_neg e]
theorem mul_bound {A D : Int} (hA : 0 ≤ A) (hD : 0 ≤ D) {C : List Int} (hC : ∀ i, -D ≤ cf C i ∧ cf C i ≤ D) : ∀ (q : List Int), (∀ x ∈ q, -A ≤ x ∧ x ≤ A) → ∀ j, -(q.length * (A * D)) ≤ cf (mulL q C) j ∧ cf (mulL q C) j ≤ q.length * (A * D) := by
  have hAD : 0 ≤ A * D := Int.mul_nonneg hA hD
  intro q
  induction q with
  | nil => intro _ j; simp [mulL, cf_nil]
  | cons a q ih =>
    intro h j
    simp only [mulL, cf_add, cf_scl]
    have m1 := mul_in hA hD (h a (by simp)) (hC j)
    have hq := ih fun x hx => h x (by simp [hx])
    have e : (((a :: q).length : Nat) : Int) * (A * D) = (q.length : Int) * (A * D) + A * D := by
      rw [List.length_cons, Int.natCast_add, Int.add_mul]; simp
    rw [e]
    have hn : (0 : Int) ≤ (q.length : Int) * (A * D) := Int.mul_nonneg (by omega) hAD
    cases j with
    | zero => rw [cf_zero]; omega
    | succ j =>
      rw [cf_succ]
      have := hq j
      omega
theorem trm_all_zero {l : List Int} (h : ∀ i, cf l i = 0) : trmL l = [] := by
  by_cases c : trmL l = []
  · exact c
  · have h1 := ldd_cf (trm_ldd l) c
    rw [trm_cf, h] at h1
    exact absurd rfl h1
/-- All that is asked of an exact quotient. -/
structure Quo (p q B : List Int) : Prop where
  lp : Ldd p
  lq : Ldd q
  lb : Ldd B
  p0 : p ≠ []
  q0 : q ≠ []
  sp : Sm 40000000 p
  sq : Sm 40000000 q
  sb : Sm 40000000 B
  ev : ∀ x, 1 ≤ x → Go.Proofs.ev p x = Go.Proofs.ev q x * Go.Proofs.ev B x
theorem Quo.len {p q B : List Int} (h : Quo p q B) : p.length + 1 = q.length + B.length ∧ B ≠ [] := by
  obtain ⟨h1, h2, h3, _⟩ := mul_len h.lp h.lq h.lb h.p0 h.ev
  exact ⟨h3, h2⟩
theorem Quo.start {p q B : List Int} (h : Quo p q B) : p = prL q (B.take B.length) p.length := by
  refine cf_list (by rw [pr_len]) fun i => ?_
  rw [List.take_length]
  by_cases c : i < p.length
  · rw [cf_in (pr_get c)]
    exact ev_inj (fun x hx => by rw [ev_mul]; exact h.ev x hx) i
  · rw [cf_out (by omega), cf_out (by rw [pr_len]; omega)]
theorem Quo.bound {p q B : List Int} (h : Quo p q B) (i j : Nat) : -18000000000000000 ≤ cf (mulL q (B.take i)) j ∧ cf (mulL q (B.take i)) j ≤ 18000000000000000 := by
  have hC : ∀ k, -40000000 ≤ cf (B.take i) k ∧ cf (B.take i) k ≤ 40000000 := cf_bd (by decide) fun x hx => h.sb.bd x (List.mem_of_mem_take hx)
  have := mul_bound (A := 40000000) (D := 40000000) (by decide) (by decide) hC q h.sq.bd j
  have hl := h.sq.len
  omega
theorem Quo.top {p q B : List Int} (h : Quo p q B) {i : Nat} (hi : i < B.length) : cf (mulL q (B.take (i + 1))) (i + q.length - 1) = cf q (q.length - 1) * cf B i := by
  have l1 := List.length_pos_iff.2 h.q0
  have hl : (B.take (i + 1)).length = i + 1 := by rw [List.length_take]; omega
  have h0 : B.take (i + 1) ≠ [] := by rw [← List.length_pos_iff, hl]; omega
  have := cf_mul_top h.q0 h0
  rw [hl] at this
  have e1 : q.length - 1 + (i + 1 - 1) = i + q.length - 1 := by omega
  rw [e1] at this
  rw [this]
  congr 1
  have : (B.take (i + 1))[i]? = some (cf B i) := by rw [List.getElem?_take, if_pos (by omega)]; exact cf_get hi
  exact cf_in this
theorem Quo.zero (p q B : List Int) (n : Nat) : trmL (prL q (B.take 0) n) = [] := by
  refine trm_all_zero fun i => ?_
  by_cases c : i < n
  · rw [cf_in (pr_get c)]
    have : ∀ x, 1 ≤ x → Go.Proofs.ev (mulL q (B.take 0)) x = Go.Proofs.ev [] x := fun x _ => by rw [ev_mul]; simp [Go.Proofs.ev]
    rw [ev_inj this]; rfl
  · rw [cf_out (by rw [pr_len]; omega)]
theorem zs_set {B : List Int} {i n : Nat} (hn : n = B.length) (hi : i < n) : (List.replicate (i + 1) (0 : Int) ++ B.drop (i + 1)).set i (cf B i) = List.replicate i (0 : Int) ++ B.drop i := by
  rw [List.set_append_left _ _ (by simp), show List.replicate (i + 1) (0 : Int) = List.replicate i 0 ++ [0] from List.replicate_succ' .., List.set_append_right _ _ (by simp)]
  simp only [List.length_replicate, Nat.sub_self, List.set_cons_zero, List.append_assoc, List.cons_append, List.nil_append]
  congr 1
  rw [drop_cons (cf_get (show i < B.length by omega))]
theorem quotient_c {p q B : List Int} {v w : Value} {h : Heap} {Q : Value → Heap → Prop} (rp : Row h p v) (rq : Row h q w) (hQu : Quo p q B) (hQ : ∀ v h', Sep h h' [ownA 3 B v] → Q (.tuple #[v, .bool true]) h') :
    CallsV Try.prog 38 [v, w] h Q := by
  obtain ⟨hlen, hB0⟩ := hQu.len
  have hql := List.length_pos_iff.2 hQu.q0
  have hbl := List.length_pos_iff.2 hB0
  have hp9 := hQu.sp.len
  have hq9 := hQu.sq.len
  have hb9 := hQu.sb.len
  have hlead := ldd_cf hQu.lq hQu.q0
  have hleadb := hQu.sq.cf (by decide) (q.length - 1)
  have e1 : (q.length : Int) - 1 = ((q.length - 1 : Nat) : Int) := by omega
  have q1 : ((q.length - 1 : Nat) : Int) < (q.length : Int) := by omega
  have e2 : (p.length : Int) - (q.length : Int) = ((p.length - q.length : Nat) : Int) := by omega
  have e3 : ((p.length - q.length : Nat) : Int) + 1 = (B.length : Int) := by omega
  have e4 : max (B.length : Int) 0 = (B.length : Int) := by omega
  have e5 : (B.length : Int) - 1 = (B.length : Int) - 1 := rfl
  have w5 := wrap9 (x := (B.length : Int) - 1) (by omega)
  refine CallsV.start Try.func38 rfl (by rw [Try.results38]) (by kernel_rfl) (by rw [Try.ntmps38]; simp) ?_
  simp (disch := omega) only [WA, ↓reduceIte, reduceEqDiff, reduceAdd, reduceMul, reduceSub, reduceLeDiff, reduceLT, reduceLE, reduceNeg, reduceEq]
  refine .inl ⟨by kernel_rfl, ?_⟩; refine cloneI_c rp (by omega) fun vr h1 s => ?_
  rw [hQu.start] at s
  have rq1 := rq.mono s.ext
  have rp1 := rp.mono s.ext
  have X1 := (row_int rq1 (last_cf (p := q) (by omega))).1
  simp (disch := omega) only [WA, ↓reduceIte, reduceEqDiff, reduceAdd, reduceMul, reduceSub, reduceLeDiff, reduceLT, reduceLE, reduceNeg, reduceEq, rq1.isRow.len, rp1.isRow.len, e1, e2, e3, e4, wrap_in, rq1.isRow.ix, q1, X1]
  refine sep_make (α := Int) 0 s te22 tk3 (fun _ => rep_int ⟨by decide, by decide⟩) (by decide) (by simp only []; omega) fun vn h3 s hcn hvn => ?_
  have rn := (s.pull 0 rfl).row
  have lrep : (List.replicate B.length (0 : Int)).length = B.length := by simp
  have lenN := rn.isRow.len Try.prog
  rw [lrep] at lenN
  simp (disch := omega) only [WA, ↓reduceIte, reduceEqDiff, reduceAdd, reduceMul, reduceSub, reduceLeDiff, reduceLT, reduceLE, reduceNeg, reduceEq, lenN, w5]
  have hst : List.replicate B.length (0 : Int) = List.replicate B.length 0 ++ B.drop B.length := by simp
  rw [hst] at s
  refine loop_rule (fun m e h' => ∃ (i : Nat), e 0 = v ∧ e 1 = w ∧ e 6 = vr ∧ e 7 = .int .i64 (cf q (q.length - 1)) ∧ e 8 = vn ∧ e 9 = .int .i64 ((i : Int) - 1) ∧ i ≤ B.length ∧ m = i ∧
    Sep h h' [ownA 3 (List.replicate i 0 ++ B.drop i) vn, ownA 3 (prL q (B.take i) p.length) vr]) ?_ B.length _ _ ⟨B.length, rfl, rfl, rfl, rfl, rfl, rfl, Nat.le_refl _, rfl, s⟩
  clear s rn lenN X1 rq1 rp1 hst
  rintro m e h4 ⟨i, e0, e1', e6, e7, e8, e9, hi, rfl, s⟩
  have rq1 := rq.mono s.ext
  have rr := (s.pull 1 rfl).row
  have rn := (s.pull 0 rfl).row
  have lenr : (prL q (B.take m) p.length).length = p.length := pr_len _ _ _
  have ixr := rr.isRow.ix Try.prog
  rw [lenr] at ixr
  by_cases z : m = 0
  · subst z
    have z1 : ¬ (0 : Int) ≤ ((0 : Nat) : Int) - 1 := by decide
    have hz := Quo.zero p q B p.length
    simp (disch := omega) only [WA, ↓reduceIte, reduceEqDiff, reduceAdd, reduceMul, reduceSub, reduceLeDiff, reduceLT, reduceLE, reduceNeg, reduceEq, e9, z1, e6]
    refine .inl ⟨by kernel_rfl, ?_⟩; refine stripped_c rr (by rw [lenr]; omega) fun v5 h5 t5 => ?_
    rw [hz] at t5
    have s := s.add t5
    have l0 := (s.pull 0 rfl).row.isRow.len Try.prog
    have z2 : ¬ (0 : Int) < (([] : List Int).length : Int) := by simp
    have z3 : ¬ (0 : Int) < ((0 : Nat) : Int) := by decide
    have z4 : ([] : List Int).length = 0 := rfl
    rw [z4] at l0
    have rn := (s.pull 1 rfl).row
    simp (disch := omega) only [WA, ↓reduceIte, reduceEqDiff, reduceAdd, reduceMul, reduceSub, reduceLeDiff, reduceLT, reduceLE, reduceNeg, reduceEq, l0, z3, e8]
    have hB : List.replicate 0 (0 : Int) ++ B.drop 0 = B := by simp
    rw [hB] at rn
    refine .inl ⟨by kernel_rfl, ?_⟩; refine stripped_c rn (by omega) fun v6 h6 t6 => ?_
    rw [trm_id hQu.lb] at t6
    have pl := t6.row.isRow.plain
    simp (disch := omega) only [WA, ↓reduceIte, reduceEqDiff, reduceAdd, reduceMul, reduceSub, reduceLeDiff, reduceLT, reduceLE, reduceNeg, reduceEq, pl]
    exact hQ _ _ (t6.back s.ext)
  · obtain ⟨k, rfl⟩ : ∃ k, m = k + 1 := ⟨m - 1, by omega⟩
    have hk : k < B.length := by omega
    have z1 : (0 : Int) ≤ ((k + 1 : Nat) : Int) - 1 := by omega
    have k1 : ((k + 1 : Nat) : Int) - 1 = (k : Int) := by omega
    have k2 : (k : Int) + (q.length : Int) = ((k + q.length : Nat) : Int) := by omega
    have k3 : ((k + q.length : Nat) : Int) - 1 = ((k + q.length - 1 : Nat) : Int) := by omega
    have q3 : ((k + q.length - 1 : Nat) : Int) < (p.length : Int) := by omega
    have X2 := (row_int rr (pr_get (q := q) (C := B.take (k + 1)) (show k + q.length - 1 < p.length by omega))).1
    rw [hQu.top hk] at X2
    have hbk := hQu.sb.cf (by decide) k
    have t1 : Int.tmod (cf q (q.length - 1) * cf B k) (cf q (q.length - 1)) = 0 := Int.mul_tmod_right ..
    have t2 : Int.tdiv (cf q (q.length - 1) * cf B k) (cf q (q.length - 1)) = cf B k := Int.mul_tdiv_cancel_left _ hlead
    have w6 := wrap9 (x := cf B k) (by omega)
    have lenn : (List.replicate (k + 1) (0 : Int) ++ B.drop (k + 1)).length = B.length := by simp; omega
    have ixn := rn.isRow.ix Try.prog
    rw [lenn] at ixn
    have q4 : (k : Int) < (B.length : Int) := by omega
    have e9 : e 9 = .int .i64 (k : Int) := by rw [e9, k1]
    have z5 : (0 : Int) ≤ (k : Int) := by omega
    simp (disch := omega) only [WA, ↓reduceIte, reduceEqDiff, reduceAdd, reduceMul, reduceSub, reduceLeDiff, reduceLT, reduceLE, reduceNeg, reduceEq, e9, z5, e1', e6, e7, e8, rq1.isRow.len, k2, k3, wrap_in, ixr, q3, X2, hlead, t1, t2, w6, ixn, q4]
    have s := (s.rep0 (x := cf B k) (rep_int ⟨by omega, by omega⟩)).swap
    refine sep_set1 (i := k) (y := cf B k) s rfl (by rw [lenn]; omega) fun h5 s => ?_
    rw [zs_set rfl hk] at s
    have rq2 := rq.mono s.ext
    simp (disch := omega) only [WA, ↓reduceIte, reduceEqDiff, reduceAdd, reduceMul, reduceSub, reduceLeDiff, reduceLT, reduceLE, reduceNeg, reduceEq, e1', rq2.isRow.len]
    rw [← sb_zero q (B.take (k + 1)) p.length k (cf B k)] at s
    refine loop_rule (fun m e h' => ∃ (j : Nat), e 0 = v ∧ e 1 = w ∧ e 6 = vr ∧ e 7 = .int .i64 (cf q (q.length - 1)) ∧ e 8 = vn ∧ e 9 = .int .i64 (k : Int) ∧ e 54 = w ∧ e 55 = .int .i64 q.length ∧ e 56 = .int .i64 j ∧ j ≤ q.length ∧ m = q.length - j ∧
      Sep h h' [ownA 3 (List.replicate k 0 ++ B.drop k) vn, ownA 3 (sbL q (B.take (k + 1)) p.length k (cf B k) j) vr]) ?_ q.length _ _ ⟨0, e0, e1', e6, e7, e8, e9, rfl, rfl, rfl, by omega, by omega, s⟩
    clear s rq1 rq2 rr rn lenr ixr ixn X2 e0 e1' e6 e7 e8 e9
    rintro m e h6 ⟨j, e0, e1', e6, e7, e8, e9, e54, e55, e56, hj, rfl, s⟩
    have rq1 := rq.mono s.ext
    have rr := (s.pull 1 rfl).row
    have rn := (s.pull 0 rfl).row
    have ixr := rr.isRow.ix Try.prog
    rw [sb_len] at ixr
    have lenn2 : (List.replicate k (0 : Int) ++ B.drop k).length = B.length := by simp; omega
    have ixn := rn.isRow.ix Try.prog
    rw [lenn2] at ixn
    simp (disch := omega) only [WA, ↓reduceIte, reduceEqDiff, reduceAdd, reduceMul, reduceSub, reduceLeDiff, reduceLT, reduceLE, reduceNeg, reduceEq, e55, e56]
    by_cases c : j < q.length
    · have c1 : (j : Int) < (q.length : Int) := by omega
      have X3 := (row_int rq1 (cf_get c)).1
      have X4 := (row_int rr (sb_at (q := q) (C := B.take (k + 1)) (d := cf B k) (show k + j < p.length by omega))).1
      have hgB : (List.replicate k (0 : Int) ++ B.drop k)[k]? = some (cf B k) := by
        rw [List.getElem?_append_right (by simp)]; simp; exact cf_get hk
      have X5 := (row_int rn hgB).1
      have m2 := mul_in (A := 40000000) (B := 40000000) (by decide) (by decide) hbk (hQu.sq.cf (by decide) j)
      have m3 := hQu.bound (k + 1) (k + j)
      have w7 := wrap9 (x := cf B k * cf q j) (by omega)
      have w8 := wrap9 (x := cf (mulL q (B.take (k + 1))) (k + j) - cf B k * cf q j) (by omega)
      have k4 : (k : Int) + (j : Int) = ((k + j : Nat) : Int) := by omega
      have q5 : ((k + j : Nat) : Int) < (p.length : Int) := by omega
      simp (disch := omega) only [WA, ↓reduceIte, reduceEqDiff, reduceAdd, reduceMul, reduceSub, reduceLeDiff, reduceLT, reduceLE, reduceNeg, reduceEq, c1, e54, e56, rq1.isRow.ix, X3]
      refine draw_tail [0, 1, 2, 3, 4, 5, 6, 7, 8, 9, 10, 11, 12, 13] [14] (by kernel_rfl) (by simp only [List.filterMap_cons, List.filterMap_nil, List.getElem?_cons_zero, List.getElem?_cons_succ]; rfl) ?_
      simp (disch := omega) only [WA, ↓reduceIte, reduceEqDiff, reduceAdd, reduceMul, reduceSub, reduceLeDiff, reduceLT, reduceLE, reduceNeg, reduceEq, e6, e8, e9, k4, wrap_in, ixr, q5, X4, ixn, q4, X5, w7, w8]
      refine tail_step [(14, [], [], true)] (by kernel_rfl) (by kernel_rfl) (a_cut (by simp only [List.filterMap_cons, List.filterMap_nil, List.getElem?_cons_zero, List.getElem?_cons_succ]; rfl) (by kernel_rfl) ?_ trivial)
      try simp (disch := omega) only [WA, ↓reduceIte, reduceEqDiff, reduceAdd, reduceMul, reduceSub, reduceLeDiff, reduceLT, reduceLE, reduceNeg, reduceEq]
      have s := (((s.pull 1 rfl).rep0 (x := cf (mulL q (B.take (k + 1))) (k + j) - cf B k * cf q j) (rep_int ⟨by omega, by omega⟩)).swap)
      refine sep_set1 (i := k + j) (y := cf (mulL q (B.take (k + 1))) (k + j) - cf B k * cf q j) s rfl (by rw [sb_len]; omega) fun h7 s => ?_
      rw [sb_set (by omega)] at s
      have w9 := wrap9 (x := (j : Int) + 1) (by omega)
      simp (disch := omega) only [WA, ↓reduceIte, reduceEqDiff, reduceAdd, reduceMul, reduceSub, reduceLeDiff, reduceLT, reduceLE, reduceNeg, reduceEq, e56, w9]
      exact ⟨_, by omega, j + 1, e0, e1', e6, e7, e8, e9, e54, e55, by simp, by omega, rfl, s.swap⟩
    · obtain rfl : j = q.length := by omega
      have c1 : ¬ (q.length : Int) < (q.length : Int) := by omega
      have w9 := wrap9 (x := (k : Int) - 1) (by omega)
      rw [sb_full hk] at s
      simp (disch := omega) only [WA, ↓reduceIte, reduceEqDiff, reduceAdd, reduceMul, reduceSub, reduceLeDiff, reduceLT, reduceLE, reduceNeg, reduceEq, c1, e9, w9]
      exact ⟨_, by omega, k, e0, e1', e6, e7, e8, rfl, by omega, rfl, s⟩
end Go.Proofs
