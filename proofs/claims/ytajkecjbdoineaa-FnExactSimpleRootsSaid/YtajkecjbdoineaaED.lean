/- Contracts of functions, facts of types, or the plain law behind one statement (own work): ED. Conditions: those told in each theorem. -/
import Derived.Test.YtajkecjbdoineaaEC
set_option linter.all false
set_option linter.unusedSimpArgs false
set_option linter.unusedVariables false
set_option maxRecDepth 4000
namespace Go.Proofs
open Go Go.V
open Nat (reduceEqDiff reduceAdd reduceMul reduceSub reduceLeDiff)
open Int (reduceLT reduceLE reduceNeg reduceEq)
/- Remainders: what both codes share; the program's. -/
def bigI (n : Int) : Bool := !decide (-1000000000 ≤ n ∧ n ≤ 1000000000)
theorem bigI_c {n : Int} {h : Heap} {Q : Value → Heap → Prop} (hQ : Q (.bool (bigI n)) h) : CallsV Try.prog 60 [.int .i64 n] h Q := by
  refine CallsV.start Try.func60 rfl (by rw [Try.results60]) (by kernel_rfl) (by rw [Try.ntmps60]; simp) ?_
  simp (disch := omega) only [WA, ↓reduceIte, reduceEqDiff, reduceAdd, reduceMul, reduceSub, reduceLeDiff, reduceLT, reduceLE, reduceNeg, reduceEq]
  refine .inl ⟨by kernel_rfl, ?_⟩; refine inside_c ?_
  simp (disch := omega) only [WA, ↓reduceIte, reduceEqDiff, reduceAdd, reduceMul, reduceSub, reduceLeDiff, reduceLT, reduceLE, reduceNeg, reduceEq]
  exact hQ
theorem any_big (l : List Int) : l.any bigI = !inP l := by
  unfold inP bigI
  induction l with
  | nil => rfl
  | cons a l ih => rw [List.any_cons, List.all_cons, ih, Bool.not_and]
theorem indexBig_c {l : List Int} {v : Value} {h : Heap} {Q : Value → Heap → Prop} (hl : Row h l v)
    (hQ : ∀ (i : Int), (0 ≤ i ↔ l.any bigI = true) → Q (.int .i64 i) h) : CallsV Try.prog 64 [v, .func (.func 60) #[] #[]] h Q := by
  refine CallsV.start Try.func64 rfl (by rw [Try.results64]) (by kernel_rfl) (by rw [Try.ntmps64]; simp) ?_
  have hle := hl.le
  simp (disch := omega) only [WA, ↓reduceIte, reduceEqDiff, reduceAdd, reduceMul, reduceSub, reduceLeDiff, reduceLT, reduceLE, reduceNeg, reduceEq, hl.isRow.len]
  refine loop_rule (fun n e h' => ∃ (i : Nat), e 0 = v ∧ e 1 = .func (.func 60) #[] #[] ∧ e 7 = .int .i64 l.length ∧ e 8 = .int .i64 (i : Int) ∧ (l.take i).any bigI = false ∧ i ≤ l.length ∧ n = l.length - i ∧ h = h') ?_ l.length _ _ ⟨0, rfl, rfl, rfl, rfl, rfl, Nat.zero_le _, rfl, rfl⟩
  rintro n e h1 ⟨i, e0, e1, e7, e8, ha, hi, rfl, rfl⟩
  simp (disch := omega) only [WA, ↓reduceIte, reduceEqDiff, reduceAdd, reduceMul, reduceSub, reduceLeDiff, reduceLT, reduceLE, reduceNeg, reduceEq, e7, e8]
  by_cases hlt : i < l.length
  · obtain ⟨x, hx⟩ := get_some hlt
    have c1 : (i : Int) < (l.length : Int) := by omega
    obtain ⟨x1, x2⟩ := row_int hl hx
    have at1 := any_take bigI hx
    rw [ha, Bool.false_or] at at1
    simp (disch := omega) only [WA, ↓reduceIte, reduceEqDiff, reduceAdd, reduceMul, reduceSub, reduceLeDiff, reduceLT, reduceLE, reduceNeg, reduceEq, c1, e0, e1, e8, hl.isRow.ix, x1]
    refine .inl ⟨by kernel_rfl, bigI_c ?_⟩
    cases hp : bigI x with
    | true =>
      have hQ := hQ (i : Int) ⟨fun _ => any_true hx hp, fun _ => by omega⟩
      simp (disch := omega) only [WA, ↓reduceIte, reduceEqDiff, reduceAdd, reduceMul, reduceSub, reduceLeDiff, reduceLT, reduceLE, reduceNeg, reduceEq]
      exact hQ
    | false =>
      simp (disch := omega) only [WA, ↓reduceIte, reduceEqDiff, reduceAdd, reduceMul, reduceSub, reduceLeDiff, reduceLT, reduceLE, reduceNeg, reduceEq, e0, e1, e7, e8, wrap_in]
      exact ⟨_, by omega, i + 1, by simp, by rw [at1, hp], by omega, rfl⟩
  · obtain rfl : i = l.length := by omega
    have c1 : ¬ (l.length : Int) < (l.length : Int) := by omega
    rw [List.take_length] at ha
    have hQ := hQ (-1) ⟨fun h => by omega, fun h => by rw [ha] at h; cases h⟩
    simp (disch := omega) only [WA, ↓reduceIte, reduceEqDiff, reduceAdd, reduceMul, reduceSub, reduceLeDiff, reduceLT, reduceLE, reduceNeg, reduceEq, c1]
    exact hQ
theorem containsBig_c {l : List Int} {v : Value} {h : Heap} {Q : Value → Heap → Prop} (hl : Row h l v)
    (hQ : Q (.bool (l.any bigI)) h) : CallsV Try.prog 59 [v, .func (.func 60) #[] #[]] h Q := by
  refine CallsV.start Try.func59 rfl (by rw [Try.results59]) (by kernel_rfl) (by rw [Try.ntmps59]; simp) ?_
  simp (disch := omega) only [WA, ↓reduceIte, reduceEqDiff, reduceAdd, reduceMul, reduceSub, reduceLeDiff, reduceLT, reduceLE, reduceNeg, reduceEq]
  refine .inl ⟨by kernel_rfl, ?_⟩; refine indexBig_c hl fun i hi => ?_
  by_cases c : 0 ≤ i
  · rw [hi.1 c] at hQ
    simp (disch := omega) only [WA, ↓reduceIte, reduceEqDiff, reduceAdd, reduceMul, reduceSub, reduceLeDiff, reduceLT, reduceLE, reduceNeg, reduceEq, c]
    exact hQ
  · have : l.any bigI = false := by
      cases hh : l.any bigI with
      | true => exact absurd (hi.2 hh) c
      | false => rfl
    rw [this] at hQ
    simp (disch := omega) only [WA, ↓reduceIte, reduceEqDiff, reduceAdd, reduceMul, reduceSub, reduceLeDiff, reduceLT, reduceLE, reduceNeg, reduceEq, c]
    exact hQ
/-- A step, after i places of the divisor. -/
def rwL (u d : Int) (p q : List Int) (i : Nat) : List Int := (List.range p.length).map fun j => u * cf p j - (if p.length - q.length ≤ j ∧ j < p.length - q.length + i then d * cf q (j - (p.length - q.length)) else 0)
theorem rw_len (u d : Int) (p q : List Int) (i : Nat) : (rwL u d p q i).length = p.length := by simp [rwL]
theorem rw_get (u d : Int) (p q : List Int) (i : Nat) {j : Nat} (h : j < p.length) : (rwL u d p q i)[j]? = some (u * cf p j - (if p.length - q.length ≤ j ∧ j < p.length - q.length + i then d * cf q (j - (p.length - q.length)) else 0)) := by
  unfold rwL
  rw [List.getElem?_map, List.getElem?_range h]; rfl
theorem rw_zero (u d : Int) (p q : List Int) : rwL u d p q 0 = sclL u p := by
  refine cf_list (by rw [rw_len, scl_len]) fun j => ?_
  rw [cf_scl]
  by_cases c : j < p.length
  · rw [cf_in (rw_get u d p q 0 c), if_neg (by omega)]; omega
  · rw [cf_out (by rw [rw_len]; omega), cf_out (by omega)]; simp
theorem rw_full {p q : List Int} (h : q.length ≤ p.length) : rwL (upN p q) (dnN p q) p q q.length = rawL p q := by
  refine cf_list (by rw [rw_len, raw_len h]) fun j => ?_
  unfold rawL
  rw [cf_add, cf_scl, cf_scl, cf_shf]
  by_cases c : j < p.length
  · rw [cf_in (rw_get _ _ p q _ c)]
    by_cases k : j < p.length - q.length
    · rw [if_neg (by omega), if_pos k]; omega
    · rw [if_pos (by omega), if_neg k, Int.neg_mul]; omega
  · rw [cf_out (by rw [rw_len]; omega), cf_out (l := p) (by omega), if_neg (by omega), cf_out (l := q) (by omega)]; simp
theorem rw_set {u d : Int} {p q : List Int} {i : Nat} (hi : i < q.length) (h : q.length ≤ p.length) :
    (rwL u d p q i).set (i + p.length - q.length) (u * cf p (i + p.length - q.length) - d * cf q i) = rwL u d p q (i + 1) := by
  apply List.ext_getElem?
  intro j
  rw [List.getElem?_set]
  by_cases c : j < p.length
  · rw [rw_get u d p q (i + 1) c, rw_len]
    by_cases k : i + p.length - q.length = j
    · rw [if_pos k, if_pos (by omega), if_pos (by omega), ← k]
      congr 3
      congr 1
      omega
    · rw [if_neg k, rw_get u d p q i c]
      congr 2
      by_cases k2 : p.length - q.length ≤ j ∧ j < p.length - q.length + i
      · rw [if_pos k2, if_pos (by omega)]
      · rw [if_neg k2, if_neg (by omega)]
  · have e1 : (rwL u d p q (i + 1))[j]? = none := List.getElem?_eq_none (by rw [rw_len]; omega)
    rw [e1]
    have e2 : (rwL u d p q i)[j]? = none := List.getElem?_eq_none (by rw [rw_len]; omega)
    by_cases k : i + p.length - q.length = j
    · rw [if_pos k, if_neg (by rw [rw_len]; omega)]
    · rw [if_neg k, e2]
theorem rw_at {u d : Int} {p q : List Int} {i : Nat} (hi : i < q.length) (h : q.length ≤ p.length) : (rwL u d p q i)[i + p.length - q.length]? = some (u * cf p (i + p.length - q.length)) := by
  rw [rw_get u d p q i (by omega), if_neg (by omega), Int.sub_zero]
/-- Nothing on the way is too great. -/
theorem mul_in {a b A B : Int} (hA : 0 ≤ A) (hB : 0 ≤ B) (h1 : -A ≤ a ∧ a ≤ A) (h2 : -B ≤ b ∧ b ≤ B) : -(A * B) ≤ a * b ∧ a * b ≤ A * B := by
  have hn : (a * b).natAbs ≤ A.natAbs * B.natAbs := by rw [Int.natAbs_mul]; exact Nat.mul_le_mul (by omega) (by omega)
  have e : ((A.natAbs * B.natAbs : Nat) : Int) = A * B := by rw [Int.natCast_mul]; congr 1 <;> omega
  omega
theorem up_max {b : Int} {g : Nat} (hg : 0 < g) : max (Int.tdiv b g) (Int.tdiv (0 - b) g) = ((b.natAbs : Nat) : Int) / (g : Int) := by
  have h0 : (0 : Int) ≤ ((b.natAbs : Nat) : Int) / (g : Int) := Int.ediv_nonneg (by omega) (by omega)
  have e1 : ∀ x : Int, Int.tdiv (-x) g = -Int.tdiv x g := fun x => Int.neg_tdiv x g
  rcases Int.le_total 0 b with k | k
  · have e2 : Int.tdiv b g = ((b.natAbs : Nat) : Int) / (g : Int) := by rw [Int.tdiv_eq_ediv_of_nonneg k]; congr 1; omega
    rw [show (0 : Int) - b = -b by omega, e1, e2]; omega
  · have e2 : Int.tdiv (0 - b) g = ((b.natAbs : Nat) : Int) / (g : Int) := by rw [Int.tdiv_eq_ediv_of_nonneg (by omega)]; congr 1; omega
    have e3 : Int.tdiv b g = -Int.tdiv (0 - b) g := by rw [← e1]; congr 1; omega
    rw [e3, e2]; omega
theorem remA_fuel {q : List Int} (hq : Ldd q) (q0 : q ≠ []) : ∀ (m : Nat) (p : List Int), p.length ≤ m → ∀ n, p.length < n → remA q n p = remA q (p.length + 1) p := by
  intro m
  induction m with
  | zero =>
    intro p hp n hn
    obtain ⟨n, rfl⟩ : ∃ k, n = k + 1 := ⟨n - 1, by omega⟩
    have := List.length_pos_iff.2 q0
    simp only [remA]
    rw [if_pos (by omega), if_pos (by omega)]
  | succ m ih =>
    intro p hp n hn
    obtain ⟨n, rfl⟩ : ∃ k, n = k + 1 := ⟨n - 1, by omega⟩
    simp only [remA]
    by_cases c : p.length < q.length
    · rw [if_pos c, if_pos c]
    · rw [if_neg c, if_neg c]
      have hlt := stp_lt hq q0 (show q.length ≤ p.length by omega)
      rw [ih (stpL p q) (by omega) n (by omega), ih (stpL p q) (by omega) p.length (by omega)]
theorem rem_stop {p q : List Int} (h : p.length < q.length) : remA q (p.length + 1) p = some p := by simp only [remA]; rw [if_pos h]
theorem rem_bad {p q : List Int} (h : q.length ≤ p.length) (hb : inP (stpL p q) = false) : remA q (p.length + 1) p = none := by simp only [remA]; rw [if_neg (by omega), hb]; rfl
theorem rem_go {p q : List Int} (hq : Ldd q) (q0 : q ≠ []) (h : q.length ≤ p.length) (hb : inP (stpL p q) = true) : remA q (p.length + 1) p = remA q ((stpL p q).length + 1) (stpL p q) := by
  simp only [remA]
  rw [if_neg (by omega), hb, if_pos rfl]
  exact remA_fuel hq q0 _ _ (Nat.le_refl _) _ (stp_lt hq q0 h)
theorem inP_sm {l : List Int} (h : inP l = true) (hl : l.length ≤ 9) : Sm 1000000000 l := ⟨hl, fun x hx => of_decide_eq_true (List.all_eq_true.1 h x hx)⟩
theorem Sm.nin {B : Int} {l : List Int} (h : Sm B l) (hB : B ≤ 9000000000000000000) : Nin l := fun x hx => by have := h.bd x hx; omega
theorem Sm.cf {B : Int} {l : List Int} (h : Sm B l) (hB : 0 ≤ B) (i : Nat) : -B ≤ cf l i ∧ cf l i ≤ B := cf_bd hB h.bd i
theorem Sm.part {B : Int} {l : List Int} (h : Sm B l) : Sm B (partL l) := ⟨by rw [part_len]; exact h.len, fun x hx => by
  unfold partL at hx
  obtain ⟨y, hy, rfl⟩ := List.mem_map.1 hx
  have := h.bd y hy
  have := Int.natAbs_tdiv_le_natAbs y (conL l)
  omega⟩
theorem raw_sm {p q : List Int} (hp : Sm 1000000000 p) (hq : Sm 1000000000 q) (hl : Ldd q) (q0 : q ≠ []) : (0 < upN p q ∧ upN p q ≤ 1000000000) ∧ (-1000000000 ≤ dnN p q ∧ dnN p q ≤ 1000000000) := by
  obtain ⟨g, _, _, _, u0, u1, d1⟩ := up_dn (p := p) hl q0
  have a := hp.cf (by decide) (p.length - 1)
  have b := hq.cf (by decide) (q.length - 1)
  omega
theorem raw_nin {p q : List Int} (hp : Sm 1000000000 p) (hq : Sm 1000000000 q) (hl : Ldd q) (q0 : q ≠ []) (h : q.length ≤ p.length) : Nin (rawL p q) := by
  obtain ⟨hu, hd⟩ := raw_sm hp hq hl q0
  intro x hx
  rw [← rw_full h] at hx
  obtain ⟨j, hj⟩ := List.mem_iff_getElem?.1 hx
  have hlt : j < p.length := by
    by_cases c : j < p.length
    · exact c
    · rw [List.getElem?_eq_none (by rw [rw_len]; omega)] at hj; cases hj
  rw [rw_get _ _ p q _ hlt] at hj
  cases hj
  have m1 := mul_in (A := 1000000000) (B := 1000000000) (by decide) (by decide) ⟨by omega, hu.2⟩ (hp.cf (by decide) j)
  have m2 := mul_in (A := 1000000000) (B := 1000000000) (by decide) (by decide) hd (hq.cf (by decide) (j - (p.length - q.length)))
  split <;> omega
theorem trm_mem {l : List Int} {x : Int} (h : x ∈ trmL l) : x ∈ l := by
  induction l with
  | nil => exact h
  | cons a l ih =>
    unfold trmL at h
    split at h
    · simp at h
    · rcases List.mem_cons.1 h with rfl | h
      · simp
      · simp [ih h]
end Go.Proofs
