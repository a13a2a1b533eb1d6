/- Contracts of functions, facts of types, or the plain law behind one statement (own work): EB. Conditions: those told in each theorem. -/
import Derived.Test.YtajkecjbdoineaaEA
set_option linter.all false
set_option linter.unusedSimpArgs false
set_option linter.unusedVariables false
set_option maxRecDepth 4000
namespace Go.Proofs
open Go Go.V
open Nat (reduceEqDiff reduceAdd reduceMul reduceSub reduceLeDiff)
open Int (reduceLT reduceLE reduceNeg reduceEq)
/- Greatest common divisors, contents, parts, signs. -/
theorem wrap9 {x : Int} (h : -9000000000000000000 ≤ x ∧ x ≤ 9000000000000000000) : IntKind.i64.wrap x = x := wrap_in x (by omega)
theorem gcd_c {a b : Int} {h : Heap} {Q : Value → Heap → Prop} (ha : -9000000000000000000 ≤ a ∧ a ≤ 9000000000000000000) (hb : -9000000000000000000 ≤ b ∧ b ≤ 9000000000000000000) (hQ : Q (.int .i64 (Nat.gcd a.natAbs b.natAbs : Nat)) h) :
    CallsV Try.prog 58 [.int .i64 a, .int .i64 b] h Q := by
  refine CallsV.start Try.func58 rfl (by rw [Try.results58]) (by kernel_rfl) (by rw [Try.ntmps58]; simp) ?_
  simp (disch := omega) only [WA, ↓reduceIte, reduceEqDiff, reduceAdd, reduceMul, reduceSub, reduceLeDiff, reduceLT, reduceLE, reduceNeg, reduceEq]
  refine loop_rule (fun n e h' => ∃ (c d : Int), e 0 = .int .i64 c ∧ e 1 = .int .i64 d ∧ n = d.natAbs ∧ Nat.gcd c.natAbs d.natAbs = Nat.gcd a.natAbs b.natAbs ∧ (-9000000000000000000 ≤ c ∧ c ≤ 9000000000000000000) ∧ (-9000000000000000000 ≤ d ∧ d ≤ 9000000000000000000) ∧ h' = h) ?_ b.natAbs _ _ ⟨a, b, rfl, rfl, rfl, rfl, ha, hb, rfl⟩
  rintro n e h' ⟨c, d, e0, e1, rfl, hg, hc, hd, rfl⟩
  by_cases z : d = 0
  · subst z
    have w1 : IntKind.i64.wrap (0 - c) = 0 - c := wrap_in _ (by omega)
    have hm : max c (0 - c) = ((Nat.gcd a.natAbs b.natAbs : Nat) : Int) := by rw [← hg]; simp; omega
    simp (disch := omega) only [WA, ↓reduceIte, reduceEqDiff, reduceAdd, reduceMul, reduceSub, reduceLeDiff, reduceLT, reduceLE, reduceNeg, reduceEq, e0, e1, w1, hm]
    exact hQ
  · simp (disch := omega) only [WA, ↓reduceIte, reduceEqDiff, reduceAdd, reduceMul, reduceSub, reduceLeDiff, reduceLT, reduceLE, reduceNeg, reduceEq, e1, z]
    refine draw_ord [0, 1, 2, 3, 4, 5] (by kernel_rfl) (by simp only [List.filterMap_cons, List.filterMap_nil, List.getElem?_cons_zero, List.getElem?_cons_succ]; rfl) ?_
    have ht : (Int.tmod c d).natAbs = c.natAbs % d.natAbs := Int.natAbs_tmod c d
    have hlt : c.natAbs % d.natAbs < d.natAbs := Nat.mod_lt _ (by omega)
    simp (disch := omega) only [WA, ↓reduceIte, reduceEqDiff, reduceAdd, reduceMul, reduceSub, reduceLeDiff, reduceLT, reduceLE, reduceNeg, reduceEq, e0, e1, z]
    refine ⟨_, by omega, d, Int.tmod c d, rfl, rfl, rfl, ?_, hd, by omega⟩
    rw [ht, ← hg, Nat.gcd_comm c.natAbs, Nat.gcd_rec d.natAbs c.natAbs, Nat.gcd_comm]
theorem sgGcd_c {a b : Int} {h : Heap} {Q : Value → Heap → Prop} (ha : 0 ≤ a ∧ a ≤ 9000000000000000000) (hb : 0 ≤ b ∧ b ≤ 9000000000000000000) (hQ : Q (.int .i64 (Nat.gcd a.natAbs b.natAbs : Nat)) h) :
    CallsV Try.prog 65 [.int .i64 a, .int .i64 b] h Q := by
  refine CallsV.start Try.func65 rfl (by rw [Try.results65]) (by kernel_rfl) (by rw [Try.ntmps65]; simp) ?_
  simp (disch := omega) only [WA, ↓reduceIte, reduceEqDiff, reduceAdd, reduceMul, reduceSub, reduceLeDiff, reduceLT, reduceLE, reduceNeg, reduceEq]
  refine loop_rule (fun n e h' => ∃ (c d : Int), e 0 = .int .i64 c ∧ e 1 = .int .i64 d ∧ n = d.natAbs ∧ Nat.gcd c.natAbs d.natAbs = Nat.gcd a.natAbs b.natAbs ∧ (0 ≤ c ∧ c ≤ 9000000000000000000) ∧ (0 ≤ d ∧ d ≤ 9000000000000000000) ∧ h' = h) ?_ b.natAbs _ _ ⟨a, b, rfl, rfl, rfl, rfl, ha, hb, rfl⟩
  rintro n e h' ⟨c, d, e0, e1, rfl, hg, hc, hd, rfl⟩
  by_cases z : d = 0
  · subst z
    have z1 : ¬ (0 : Int) < 0 := by decide
    have hm : c = ((Nat.gcd a.natAbs b.natAbs : Nat) : Int) := by rw [← hg]; simp; omega
    simp (disch := omega) only [WA, ↓reduceIte, reduceEqDiff, reduceAdd, reduceMul, reduceSub, reduceLeDiff, reduceLT, reduceLE, reduceNeg, reduceEq, e0, e1]
    rw [hm]
    exact hQ
  · have z1 : 0 < d := by omega
    have ht : (Int.tmod c d).natAbs = c.natAbs % d.natAbs := Int.natAbs_tmod c d
    have hlt : c.natAbs % d.natAbs < d.natAbs := Nat.mod_lt _ (by omega)
    have h0 : 0 ≤ Int.tmod c d := Int.tmod_nonneg d hc.1
    simp (disch := omega) only [WA, ↓reduceIte, reduceEqDiff, reduceAdd, reduceMul, reduceSub, reduceLeDiff, reduceLT, reduceLE, reduceNeg, reduceEq, e0, e1, z, z1]
    refine ⟨_, by omega, d, Int.tmod c d, rfl, rfl, rfl, ?_, hd, by omega⟩
    rw [ht, ← hg, Nat.gcd_comm c.natAbs, Nat.gcd_rec d.natAbs c.natAbs, Nat.gcd_comm]
theorem l1Most_c {a b : Int} {h : Heap} {Q : Value → Heap → Prop} (hQ : Q (.int .i64 (max a b)) h) : CallsV Try.prog 68 [.int .i64 a, .int .i64 b] h Q := by
  refine CallsV.start Try.func68 rfl (by rw [Try.results68]) (by kernel_rfl) (by rw [Try.ntmps68]; simp) ?_
  by_cases c : b < a
  · rw [show max a b = a by omega] at hQ
    simp (disch := omega) only [WA, ↓reduceIte, reduceEqDiff, reduceAdd, reduceMul, reduceSub, reduceLeDiff, reduceLT, reduceLE, reduceNeg, reduceEq, c]
    exact hQ
  · rw [show max a b = b by omega] at hQ
    simp (disch := omega) only [WA, ↓reduceIte, reduceEqDiff, reduceAdd, reduceMul, reduceSub, reduceLeDiff, reduceLT, reduceLE, reduceNeg, reduceEq, c]
    exact hQ
theorem l1Abs_c {a : Int} {h : Heap} {Q : Value → Heap → Prop} (ha : -9000000000000000000 ≤ a ∧ a ≤ 9000000000000000000) (hQ : Q (.int .i64 (a.natAbs : Nat)) h) : CallsV Try.prog 66 [.int .i64 a] h Q := by
  refine CallsV.start Try.func66 rfl (by rw [Try.results66]) (by kernel_rfl) (by rw [Try.ntmps66]; simp) ?_
  have w1 : IntKind.i64.wrap (0 - a) = 0 - a := wrap_in _ (by omega)
  simp (disch := omega) only [WA, ↓reduceIte, reduceEqDiff, reduceAdd, reduceMul, reduceSub, reduceLeDiff, reduceLT, reduceLE, reduceNeg, reduceEq, w1]
  refine .inl ⟨by kernel_rfl, ?_⟩; refine l1Most_c ?_
  rw [show max a (0 - a) = ((a.natAbs : Nat) : Int) by omega]
  simp (disch := omega) only [WA, ↓reduceIte, reduceEqDiff, reduceAdd, reduceMul, reduceSub, reduceLeDiff, reduceLT, reduceLE, reduceNeg, reduceEq]
  exact hQ
theorem conF_snoc (p : List Int) (x : Int) (d : Nat) : conF d (p ++ [x]) = Nat.gcd (conF d p) x.natAbs := by unfold conF; rw [List.foldl_append]; rfl
theorem con_take {p : List Int} {i : Nat} {x : Int} (h : p[i]? = some x) : conL (p.take (i + 1)) = Nat.gcd (conL (p.take i)) x.natAbs := by
  rw [List.take_add_one, h]; exact conF_snoc _ _ _
theorem conF_le (p : List Int) : ∀ (d B : Nat), d ≤ B → (∀ x ∈ p, x.natAbs ≤ B) → conF d p ≤ B := by
  induction p with
  | nil => intro d B h _; exact h
  | cons a p ih =>
    intro d B h1 h2
    refine ih _ B ?_ fun x hx => h2 x (by simp [hx])
    show Nat.gcd d a.natAbs ≤ B
    rcases Nat.eq_zero_or_pos d with e | e
    · rw [e, Nat.gcd_zero_left]; exact h2 a (by simp)
    · exact Nat.le_trans (Nat.le_of_dvd e (Nat.gcd_dvd_left _ _)) h1
def Nin (p : List Int) : Prop := ∀ x ∈ p, -9000000000000000000 ≤ x ∧ x ≤ 9000000000000000000
theorem con_le {p : List Int} (h : Nin p) (i : Nat) : conL (p.take i) ≤ 9000000000000000000 := conF_le _ _ _ (by omega) fun x hx => by have := h x (List.mem_of_mem_take hx); omega
theorem contentOf_c {p : List Int} {v : Value} {h : Heap} {Q : Value → Heap → Prop} (r : Row h p v) (hp : Nin p) (hQ : Q (.int .i64 (conL p : Nat)) h) : CallsV Try.prog 54 [v] h Q := by
  refine CallsV.start Try.func54 rfl (by rw [Try.results54]) (by kernel_rfl) (by rw [Try.ntmps54]; simp) ?_
  have hle := r.le
  simp (disch := omega) only [WA, ↓reduceIte, reduceEqDiff, reduceAdd, reduceMul, reduceSub, reduceLeDiff, reduceLT, reduceLE, reduceNeg, reduceEq, r.isRow.len]
  refine loop_rule (fun n e h' => ∃ (i : Nat), e 3 = .int .i64 (conL (p.take i) : Nat) ∧ e 6 = v ∧ e 7 = .int .i64 p.length ∧ e 8 = .int .i64 i ∧ i ≤ p.length ∧ n = p.length - i ∧ h' = h) ?_ p.length _ _ ⟨0, rfl, rfl, rfl, rfl, Nat.zero_le _, rfl, rfl⟩
  rintro n e h' ⟨i, e3, e6, e7, e8, hi, rfl, rfl⟩
  simp (disch := omega) only [WA, ↓reduceIte, reduceEqDiff, reduceAdd, reduceMul, reduceSub, reduceLeDiff, reduceLT, reduceLE, reduceNeg, reduceEq, e7, e8]
  by_cases hlt : i < p.length
  · obtain ⟨x, hx⟩ := get_some hlt
    have c1 : (i : Int) < (p.length : Int) := by omega
    obtain ⟨x3, x4⟩ := row_int r hx
    have hl := con_le hp i
    simp (disch := omega) only [WA, ↓reduceIte, reduceEqDiff, reduceAdd, reduceMul, reduceSub, reduceLeDiff, reduceLT, reduceLE, reduceNeg, reduceEq, c1, e6, e8, e3, r.isRow.ix, x3]
    refine .inl ⟨by kernel_rfl, ?_⟩; refine gcd_c (by omega) (hp x (List.mem_of_getElem? hx)) ?_
    rw [Int.natAbs_natCast, ← con_take hx]
    simp (disch := omega) only [WA, ↓reduceIte, reduceEqDiff, reduceAdd, reduceMul, reduceSub, reduceLeDiff, reduceLT, reduceLE, reduceNeg, reduceEq, e8, wrap_in]
    exact ⟨_, by omega, i + 1, rfl, e6, e7, by simp, by omega, rfl⟩
  · obtain rfl : i = p.length := by omega
    have c1 : ¬ (p.length : Int) < (p.length : Int) := by omega
    rw [List.take_length] at e3
    simp (disch := omega) only [WA, ↓reduceIte, reduceEqDiff, reduceAdd, reduceMul, reduceSub, reduceLeDiff, reduceLT, reduceLE, reduceNeg, reduceEq, c1, e3]
    exact hQ
theorem sgContent_c {p : List Int} {v : Value} {h : Heap} {Q : Value → Heap → Prop} (r : Row h p v) (hp : Nin p) (hQ : Q (.int .i64 (conL p : Nat)) h) : CallsV Try.prog 63 [v] h Q := by
  refine CallsV.start Try.func63 rfl (by rw [Try.results63]) (by kernel_rfl) (by rw [Try.ntmps63]; simp) ?_
  have hle := r.le
  simp (disch := omega) only [WA, ↓reduceIte, reduceEqDiff, reduceAdd, reduceMul, reduceSub, reduceLeDiff, reduceLT, reduceLE, reduceNeg, reduceEq, r.isRow.len]
  refine loop_rule (fun n e h' => ∃ (i : Nat), e 3 = .int .i64 (conL (p.take i) : Nat) ∧ e 6 = v ∧ e 7 = .int .i64 p.length ∧ e 8 = .int .i64 i ∧ i ≤ p.length ∧ n = p.length - i ∧ h' = h) ?_ p.length _ _ ⟨0, rfl, rfl, rfl, rfl, Nat.zero_le _, rfl, rfl⟩
  rintro n e h' ⟨i, e3, e6, e7, e8, hi, rfl, rfl⟩
  simp (disch := omega) only [WA, ↓reduceIte, reduceEqDiff, reduceAdd, reduceMul, reduceSub, reduceLeDiff, reduceLT, reduceLE, reduceNeg, reduceEq, e7, e8]
  by_cases hlt : i < p.length
  · obtain ⟨x, hx⟩ := get_some hlt
    have c1 : (i : Int) < (p.length : Int) := by omega
    obtain ⟨x3, x4⟩ := row_int r hx
    have hl := con_le hp i
    have hxb := hp x (List.mem_of_getElem? hx)
    simp (disch := omega) only [WA, ↓reduceIte, reduceEqDiff, reduceAdd, reduceMul, reduceSub, reduceLeDiff, reduceLT, reduceLE, reduceNeg, reduceEq, c1, e6, e8, e3, r.isRow.ix, x3]
    refine .inl ⟨by kernel_rfl, ?_⟩; refine l1Abs_c hxb ?_
    simp (disch := omega) only [WA, ↓reduceIte, reduceEqDiff, reduceAdd, reduceMul, reduceSub, reduceLeDiff, reduceLT, reduceLE, reduceNeg, reduceEq, e3]
    refine .inl ⟨by kernel_rfl, ?_⟩; refine sgGcd_c (by omega) (by omega) ?_
    rw [Int.natAbs_natCast, Int.natAbs_natCast, ← con_take hx]
    simp (disch := omega) only [WA, ↓reduceIte, reduceEqDiff, reduceAdd, reduceMul, reduceSub, reduceLeDiff, reduceLT, reduceLE, reduceNeg, reduceEq, e8, wrap_in]
    exact ⟨_, by omega, i + 1, rfl, e6, e7, by simp, by omega, rfl⟩
  · obtain rfl : i = p.length := by omega
    have c1 : ¬ (p.length : Int) < (p.length : Int) := by omega
    rw [List.take_length] at e3
    simp (disch := omega) only [WA, ↓reduceIte, reduceEqDiff, reduceAdd, reduceMul, reduceSub, reduceLeDiff, reduceLT, reduceLE, reduceNeg, reduceEq, c1, e3]
    exact hQ
theorem tdiv_in {x : Int} (d : Int) (h : -9000000000000000000 ≤ x ∧ x ≤ 9000000000000000000) : -9000000000000000000 ≤ Int.tdiv x d ∧ Int.tdiv x d ≤ 9000000000000000000 := by
  have := Int.natAbs_tdiv_le_natAbs x d
  omega
theorem divided_c {p : List Int} {v : Value} {h : Heap} {Q : Value → Heap → Prop} (r : Row h p v) (hp : Nin p) (hl : p.length ≤ 1000) (hQ : ∀ w h', Sep h h' [ownA 3 (partL p) w] → Q w h') : CallsV Try.prog 40 [v] h Q := by
  refine CallsV.start Try.func40 rfl (by rw [Try.results40]) (by kernel_rfl) (by rw [Try.ntmps40]; simp) ?_
  have hle := r.le
  simp (disch := omega) only [WA, ↓reduceIte, reduceEqDiff, reduceAdd, reduceMul, reduceSub, reduceLeDiff, reduceLT, reduceLE, reduceNeg, reduceEq]
  refine .inl ⟨by kernel_rfl, ?_⟩; refine contentOf_c r hp ?_
  obtain ⟨D, hD⟩ : ∃ D : Int, max ((conL p : Nat) : Int) 1 = D := ⟨_, rfl⟩
  have hD0 : D ≠ 0 := by omega
  have hdiv : ∀ x ∈ p, Int.tdiv x D = Int.tdiv x (conL p : Int) := fun x hx => by
    rcases Nat.eq_zero_or_pos (conL p) with e | e
    · have : x = 0 := by have := con_dvd hx; rw [e] at this; exact Int.zero_dvd.1 this
      rw [this]; simp
    · rw [← hD, show max ((conL p : Nat) : Int) 1 = (conL p : Nat) by omega]
  simp (disch := omega) only [WA, ↓reduceIte, reduceEqDiff, reduceAdd, reduceMul, reduceSub, reduceLeDiff, reduceLT, reduceLE, reduceNeg, reduceEq, hD, r.isRow.len]
  refine loop_rule (fun n e h' => ∃ (i : Nat) (vo : Value), e 3 = .int .i64 D ∧ e 4 = vo ∧ e 10 = v ∧ e 11 = .int .i64 p.length ∧ e 12 = .int .i64 i ∧ i ≤ p.length ∧ n = p.length - i ∧ Sep h h' [ownA 3 ((partL p).take i) vo]) ?_ p.length _ _ ⟨0, _, rfl, rfl, rfl, rfl, rfl, Nat.zero_le _, rfl, (Sep.nil (.refl h)).nilA _⟩
  rintro n e h' ⟨i, vo, e3, e4, e10, e11, e12, hi, rfl, s⟩
  simp (disch := omega) only [WA, ↓reduceIte, reduceEqDiff, reduceAdd, reduceMul, reduceSub, reduceLeDiff, reduceLT, reduceLE, reduceNeg, reduceEq, e11, e12]
  by_cases hlt : i < p.length
  · obtain ⟨x, hx⟩ := get_some hlt
    have c1 : (i : Int) < (p.length : Int) := by omega
    have r1 := r.mono s.ext
    obtain ⟨x3, x4⟩ := row_int r1 hx
    have hb := tdiv_in D (hp x (List.mem_of_getElem? hx))
    have w1 := wrap9 hb
    have hpl := part_len p
    have ht : (partL p).take (i + 1) = (partL p).take i ++ [Int.tdiv x D] := by
      rw [List.take_add_one, hdiv x (List.mem_of_getElem? hx)]
      congr 1
      unfold partL
      rw [List.getElem?_map, hx]; rfl
    simp (disch := omega) only [WA, ↓reduceIte, reduceEqDiff, reduceAdd, reduceMul, reduceSub, reduceLeDiff, reduceLT, reduceLE, reduceNeg, reduceEq, c1, e10, e12, e3, e4, r1.isRow.ix, x3, hD0, w1]
    have s := (s.rep0 (x := Int.tdiv x D) (rep_int ⟨by omega, by omega⟩)).swap
    refine sep_append (y := Int.tdiv x D) s rfl rfl te22 tk3 rfl (by decide) (by simp only [List.length_take]; omega) fun w5 h5 s => ?_
    simp (disch := omega) only [WA, ↓reduceIte, reduceEqDiff, reduceAdd, reduceMul, reduceSub, reduceLeDiff, reduceLT, reduceLE, reduceNeg, reduceEq, e12, wrap_in]
    refine ⟨_, by omega, i + 1, w5, e3, rfl, e10, e11, by simp, by omega, rfl, ?_⟩
    rw [ht]; exact s
  · obtain rfl : i = p.length := by omega
    have c1 : ¬ (p.length : Int) < (p.length : Int) := by omega
    rw [List.take_of_length_le (by rw [part_len]; omega)] at s
    simp (disch := omega) only [WA, ↓reduceIte, reduceEqDiff, reduceAdd, reduceMul, reduceSub, reduceLeDiff, reduceLT, reduceLE, reduceNeg, reduceEq, c1, e4]
    exact hQ _ _ s
theorem sgPart_c {p : List Int} {v : Value} {h : Heap} {Q : Value → Heap → Prop} (r : Row h p v) (hp : Nin p) (hl : p.length ≤ 1000) (hd : Ldd p) (hQ : ∀ w h', Sep h h' [ownA 3 (partL p) w] → Q w h') : CallsV Try.prog 51 [v] h Q := by
  refine CallsV.start Try.func51 rfl (by rw [Try.results51]) (by kernel_rfl) (by rw [Try.ntmps51]; simp) ?_
  have hle := r.le
  simp (disch := omega) only [WA, ↓reduceIte, reduceEqDiff, reduceAdd, reduceMul, reduceSub, reduceLeDiff, reduceLT, reduceLE, reduceNeg, reduceEq]
  refine .inl ⟨by kernel_rfl, ?_⟩; refine sgContent_c r hp ?_
  obtain ⟨D, hD⟩ : ∃ D : Int, ((conL p : Nat) : Int) = D := ⟨_, rfl⟩
  simp (disch := omega) only [WA, ↓reduceIte, reduceEqDiff, reduceAdd, reduceMul, reduceSub, reduceLeDiff, reduceLT, reduceLE, reduceNeg, reduceEq, hD, r.isRow.len]
  refine loop_rule (fun n e h' => ∃ (i : Nat) (vo : Value), e 3 = .int .i64 D ∧ e 4 = vo ∧ e 9 = v ∧ e 10 = .int .i64 p.length ∧ e 11 = .int .i64 i ∧ i ≤ p.length ∧ n = p.length - i ∧ Sep h h' [ownA 3 ((partL p).take i) vo]) ?_ p.length _ _ ⟨0, _, rfl, rfl, rfl, rfl, rfl, Nat.zero_le _, rfl, (Sep.nil (.refl h)).nilA _⟩
  rintro n e h' ⟨i, vo, e3, e4, e9, e10, e11, hi, rfl, s⟩
  simp (disch := omega) only [WA, ↓reduceIte, reduceEqDiff, reduceAdd, reduceMul, reduceSub, reduceLeDiff, reduceLT, reduceLE, reduceNeg, reduceEq, e10, e11]
  by_cases hlt : i < p.length
  · obtain ⟨x, hx⟩ := get_some hlt
    have c1 : (i : Int) < (p.length : Int) := by omega
    have hcp := ldd_con hd (by rintro rfl; simp at hlt)
    have hD0 : D ≠ 0 := by omega
    have r1 := r.mono s.ext
    obtain ⟨x3, x4⟩ := row_int r1 hx
    have hb := tdiv_in D (hp x (List.mem_of_getElem? hx))
    have w1 := wrap9 hb
    have hpl := part_len p
    have ht : (partL p).take (i + 1) = (partL p).take i ++ [Int.tdiv x D] := by
      rw [List.take_add_one, ← hD]
      congr 1
      unfold partL
      rw [List.getElem?_map, hx]; rfl
    simp (disch := omega) only [WA, ↓reduceIte, reduceEqDiff, reduceAdd, reduceMul, reduceSub, reduceLeDiff, reduceLT, reduceLE, reduceNeg, reduceEq, c1, e9, e11, e3, e4, r1.isRow.ix, x3, hD0, w1]
    have s := (s.rep0 (x := Int.tdiv x D) (rep_int ⟨by omega, by omega⟩)).swap
    refine sep_append (y := Int.tdiv x D) s rfl rfl te22 tk3 rfl (by decide) (by simp only [List.length_take]; omega) fun w5 h5 s => ?_
    simp (disch := omega) only [WA, ↓reduceIte, reduceEqDiff, reduceAdd, reduceMul, reduceSub, reduceLeDiff, reduceLT, reduceLE, reduceNeg, reduceEq, e11, wrap_in]
    refine ⟨_, by omega, i + 1, w5, e3, rfl, e9, e10, by simp, by omega, rfl, ?_⟩
    rw [ht]; exact s
  · obtain rfl : i = p.length := by omega
    have c1 : ¬ (p.length : Int) < (p.length : Int) := by omega
    rw [List.take_of_length_le (by rw [part_len]; omega)] at s
    simp (disch := omega) only [WA, ↓reduceIte, reduceEqDiff, reduceAdd, reduceMul, reduceSub, reduceLeDiff, reduceLT, reduceLE, reduceNeg, reduceEq, c1, e4]
    exact hQ _ _ s
end Go.Proofs
