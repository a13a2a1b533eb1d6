/- Contracts of functions, facts of types, or the plain law behind one statement (own work): XG. Conditions: those told in each theorem. -/
import Derived.Test.YtiiolloielppeaaXF
set_option linter.all false
set_option linter.unusedSimpArgs false
set_option linter.unusedVariables false
set_option maxRecDepth 4000
namespace Go.Proofs
open Go Go.V
/- Halving (plain). -/
def ltP (p : Int × Int) : Bool := decide (p.1 < p.2)
def oddI (n : Int) : Bool := decide (¬ Int.tmod n 2 = 0)
def hv (i : Nat) (l : List Int) : List Int := (l.take i).map (Int.tdiv · 2) ++ l.drop i
theorem hv_zero (l : List Int) : hv 0 l = l := by simp [hv]
theorem hv_len (i : Nat) (l : List Int) : (hv i l).length = l.length := by unfold hv; simp; omega
theorem hv_get {l : List Int} {i : Nat} {x : Int} (h : l[i]? = some x) : (hv i l)[i]? = some x := by
  have hlt : i < l.length := by
    rcases Nat.lt_or_ge i l.length with k | k
    · exact k
    · rw [List.getElem?_eq_none k] at h; cases h
  unfold hv
  rw [List.getElem?_append_right (by simp; omega), List.length_map, List.length_take, Nat.min_eq_left (by omega), Nat.sub_self, List.getElem?_drop, Nat.add_zero]
  exact h
theorem hv_set {l : List Int} {i : Nat} {x : Int} (h : l[i]? = some x) : (hv i l).set i (Int.tdiv x 2) = hv (i + 1) l := by
  have hlt : i < l.length := by
    rcases Nat.lt_or_ge i l.length with k | k
    · exact k
    · rw [List.getElem?_eq_none k] at h; cases h
  have hd : l.drop i = x :: l.drop (i + 1) := by
    rw [List.drop_eq_getElem_cons hlt]
    congr 1
    rw [List.getElem?_eq_getElem hlt] at h
    exact Option.some.inj h
  unfold hv
  rw [List.set_append_right _ _ (by simp; omega), List.length_map, List.length_take, Nat.min_eq_left (by omega), Nat.sub_self, hd, List.set_cons_zero, List.take_add_one, h]
  simp
theorem hv_full (l : List Int) : hv l.length l = l.map (Int.tdiv · 2) := by unfold hv; simp
theorem even_half {n : Int} (h : oddI n = false) : n = 2 * Int.tdiv n 2 := by
  unfold oddI at h
  have h : Int.tmod n 2 = 0 := by simpa using h
  have := Int.mul_tdiv_add_tmod n 2
  omega
theorem any_pair : ∀ (l m : List Int), m.length = l.length → (l ++ m).any oddI = (l.zip m).any pairOdd
  | [], [], _ => rfl
  | x :: l, y :: m, h => by
    have ih := any_pair l m (by simpa using h)
    rw [List.any_append] at ih
    simp only [List.cons_append, List.any_cons, List.any_append, List.zip_cons_cons, ← ih]
    have : pairOdd (x, y) = (oddI x || oddI y) := rfl
    rw [this]
    cases oddI x <;> cases oddI y <;> cases l.any oddI <;> cases m.any oddI <;> rfl
theorem half_lt {l m : List Int} (h : (l.zip m).any pairOdd = false) : ((l.map (Int.tdiv · 2)).zip (m.map (Int.tdiv · 2))).all ltP = (l.zip m).all ltP := by
  rw [List.zip_map, List.all_map, Bool.eq_iff_iff, List.all_eq_true, List.all_eq_true]
  have key : ∀ p ∈ l.zip m, (ltP ∘ Prod.map (Int.tdiv · 2) (Int.tdiv · 2)) p = ltP p := fun p hp => by
    have h1 := List.any_eq_false.1 h p hp
    have h2 : oddI p.1 = false ∧ oddI p.2 = false := by
      have : pairOdd p = (oddI p.1 || oddI p.2) := rfl
      rw [this] at h1
      simpa using h1
    have e1 := even_half h2.1
    have e2 := even_half h2.2
    show ltP (Int.tdiv p.1 2, Int.tdiv p.2 2) = ltP p
    simp only [ltP, decide_eq_decide]; omega
  exact ⟨fun k p hp => by rw [← key p hp]; exact k p hp, fun k p hp => by rw [key p hp]; exact k p hp⟩
theorem half_small {l : List Int} {b : Int} (h : ∀ n ∈ l, -(2 * b) ≤ n ∧ n ≤ 2 * b) (he : ∀ n ∈ l, oddI n = false) : ∀ n ∈ l.map (Int.tdiv · 2), -b ≤ n ∧ n ≤ b := by
  intro n hn
  rw [List.mem_map] at hn
  obtain ⟨x, hx, rfl⟩ := hn
  have h1 := even_half (he x hx)
  have h2 := h x hx
  omega
theorem mostM_step (m : Nat) : mostM ((m + 1 : Nat) : Int) = 2 * mostM (m : Int) := by
  unfold mostM
  have e1 : (((m + 1 : Nat) : Int)).toNat = m + 1 := rfl
  have e2 : ((m : Int)).toNat = m := rfl
  rw [e1, e2, Int.pow_succ]; omega
theorem box_of {K : Int} {l m : List Int} (hK : 0 ≤ K ∧ K ≤ 8) (h1 : 1 ≤ l.length) (h3 : l.length ≤ 3) (hm : m.length = l.length) (b1 : ∀ n ∈ l, -mostM K ≤ n ∧ n ≤ mostM K) (b2 : ∀ n ∈ m, -mostM K ≤ n ∧ n ≤ mostM K)
    (ho : K = 0 ∨ (l.zip m).any pairOdd = true) : boxM ⟨K, l, m⟩ = (l.zip m).all ltP := by
  have hall : (l.zip m).all (pairOk (mostM K)) = (l.zip m).all ltP := by
    rw [Bool.eq_iff_iff, List.all_eq_true, List.all_eq_true]
    constructor
    · intro h p hp
      have := h p hp
      simp only [pairOk, decide_eq_true_eq] at this
      simp only [ltP, decide_eq_true_eq]; omega
    · intro h p hp
      have := h p hp
      simp only [ltP, decide_eq_true_eq] at this
      have q1 := b1 p.1 (List.of_mem_zip hp).1
      have q2 := b2 p.2 (List.of_mem_zip hp).2
      simp only [pairOk, decide_eq_true_eq]; omega
  unfold boxM
  simp only [hall]
  have e1 : decide (0 ≤ K ∧ K ≤ 8) = true := decide_eq_true hK
  have e2 : decide (1 ≤ (l.length : Int) ∧ (l.length : Int) ≤ 3) = true := decide_eq_true (by omega)
  have e3 : decide (m.length = l.length) = true := decide_eq_true hm
  have e4 : (decide (K = 0) || (l.zip m).any pairOdd) = true := by
    rcases ho with h | h
    · rw [decide_eq_true h]; rfl
    · rw [h, Bool.or_true]
  rw [e1, e2, e3, e4]
  simp
theorem oddI_c {n : Int} {h : Heap} {Q : Value → Heap → Prop} (hQ : Q (.bool (oddI n)) h) : CallsV Try.prog 116 [.int .i64 n] h Q := by
  refine CallsV.start Try.func116 rfl (by rw [Try.results116]) (by kernel_rfl) (by rw [Try.ntmps116]; simp) ?_
  have z2 : ¬ (2 : Int) = 0 := by decide
  unfold oddI at hQ
  by_cases c : Int.tmod n 2 = 0
  · simp (disch := omega) only [VW, VY, VZ, VA, VB, VC, VE, TY, ↓reduceIte, Nat.reduceEqDiff, Nat.reduceAdd, Nat.reduceMul, Nat.reduceSub, Nat.reduceLeDiff, List.length_cons, List.length_nil, List.length_append, List.append_assoc, List.take_succ_cons, List.take_zero, List.drop_succ_cons, List.drop_zero, List.set_cons_zero, List.set_cons_succ, true_or, or_true, and_self, Bool.false_eq_true, Nat.le_refl, Option.bind_some, Option.map_some, Option.getD_some, Option.isSome_some, List.map_cons, List.map_nil, List.cons_append, List.nil_append, List.append_nil, List.getElem?_cons_zero, List.getElem?_cons_succ, eq_self, Int.reduceLT, Int.reduceLE, Int.reduceNeg, Int.reduceEq, z2, c]
    simpa [c] using hQ
  · simp (disch := omega) only [VW, VY, VZ, VA, VB, VC, VE, TY, ↓reduceIte, Nat.reduceEqDiff, Nat.reduceAdd, Nat.reduceMul, Nat.reduceSub, Nat.reduceLeDiff, List.length_cons, List.length_nil, List.length_append, List.append_assoc, List.take_succ_cons, List.take_zero, List.drop_succ_cons, List.drop_zero, List.set_cons_zero, List.set_cons_succ, true_or, or_true, and_self, Bool.false_eq_true, Nat.le_refl, Option.bind_some, Option.map_some, Option.getD_some, Option.isSome_some, List.map_cons, List.map_nil, List.cons_append, List.nil_append, List.append_nil, List.getElem?_cons_zero, List.getElem?_cons_succ, eq_self, Int.reduceLT, Int.reduceLE, Int.reduceNeg, Int.reduceEq, z2, c]
    simpa [c] using hQ
theorem indexOdd_c {l : List Int} {v : Value} {h : Heap} {Q : Value → Heap → Prop} (hl : Row h l v)
    (hQ : ∀ (i : Int), (0 ≤ i ↔ l.any oddI = true) → Q (.int .i64 i) h) : CallsV Try.prog 127 [v, .func (.func 116) #[] #[]] h Q := by
  refine CallsV.start Try.func127 rfl (by rw [Try.results127]) (by kernel_rfl) (by rw [Try.ntmps127]; simp) ?_
  have hle := hl.le
  simp (disch := omega) only [VW, VY, VZ, VA, VB, VC, VE, TY, ↓reduceIte, Nat.reduceEqDiff, Nat.reduceAdd, Nat.reduceMul, Nat.reduceSub, Nat.reduceLeDiff, List.length_cons, List.length_nil, List.length_append, List.append_assoc, List.take_succ_cons, List.take_zero, List.drop_succ_cons, List.drop_zero, List.set_cons_zero, List.set_cons_succ, true_or, or_true, and_self, Bool.false_eq_true, Nat.le_refl, Option.bind_some, Option.map_some, Option.getD_some, Option.isSome_some, List.map_cons, List.map_nil, List.cons_append, List.nil_append, List.append_nil, List.getElem?_cons_zero, List.getElem?_cons_succ, eq_self, Int.reduceLT, Int.reduceLE, Int.reduceNeg, Int.reduceEq, hl.isRow.len]
  refine loop_rule (fun n e h' => ∃ (i : Nat), e 0 = v ∧ e 1 = .func (.func 116) #[] #[] ∧ e 7 = .int .i64 l.length ∧ e 8 = .int .i64 (i : Int) ∧ (l.take i).any oddI = false ∧ i ≤ l.length ∧ n = l.length - i ∧ h = h') ?_ l.length _ _ ⟨0, rfl, rfl, rfl, rfl, rfl, Nat.zero_le _, rfl, rfl⟩
  rintro n e h1 ⟨i, e0, e1, e7, e8, ha, hi, rfl, rfl⟩
  simp (disch := omega) only [VW, VY, VZ, VA, VB, VC, VE, TY, ↓reduceIte, Nat.reduceEqDiff, Nat.reduceAdd, Nat.reduceMul, Nat.reduceSub, Nat.reduceLeDiff, List.length_cons, List.length_nil, List.length_append, List.append_assoc, List.take_succ_cons, List.take_zero, List.drop_succ_cons, List.drop_zero, List.set_cons_zero, List.set_cons_succ, true_or, or_true, and_self, Bool.false_eq_true, Nat.le_refl, Option.bind_some, Option.map_some, Option.getD_some, Option.isSome_some, List.map_cons, List.map_nil, List.cons_append, List.nil_append, List.append_nil, List.getElem?_cons_zero, List.getElem?_cons_succ, eq_self, Int.reduceLT, Int.reduceLE, Int.reduceNeg, Int.reduceEq, e7, e8]
  by_cases hlt : i < l.length
  · obtain ⟨x, hx⟩ := get_some hlt
    have c1 : (i : Int) < (l.length : Int) := by omega
    obtain ⟨x1, x2⟩ := row_int hl hx
    have at1 := any_take oddI hx
    rw [ha, Bool.false_or] at at1
    simp (disch := omega) only [VW, VY, VZ, VA, VB, VC, VE, TY, ↓reduceIte, Nat.reduceEqDiff, Nat.reduceAdd, Nat.reduceMul, Nat.reduceSub, Nat.reduceLeDiff, List.length_cons, List.length_nil, List.length_append, List.append_assoc, List.take_succ_cons, List.take_zero, List.drop_succ_cons, List.drop_zero, List.set_cons_zero, List.set_cons_succ, true_or, or_true, and_self, Bool.false_eq_true, Nat.le_refl, Option.bind_some, Option.map_some, Option.getD_some, Option.isSome_some, List.map_cons, List.map_nil, List.cons_append, List.nil_append, List.append_nil, List.getElem?_cons_zero, List.getElem?_cons_succ, eq_self, Int.reduceLT, Int.reduceLE, Int.reduceNeg, Int.reduceEq, c1, e0, e1, e8, hl.isRow.ix, x1]
    refine .inl ⟨by kernel_rfl, oddI_c ?_⟩
    cases hp : oddI x with
    | true =>
      have hQ := hQ (i : Int) ⟨fun _ => any_true hx hp, fun _ => by omega⟩
      simp (disch := omega) only [VW, VY, VZ, VA, VB, VC, VE, TY, ↓reduceIte, Nat.reduceEqDiff, Nat.reduceAdd, Nat.reduceMul, Nat.reduceSub, Nat.reduceLeDiff, List.length_cons, List.length_nil, List.length_append, List.append_assoc, List.take_succ_cons, List.take_zero, List.drop_succ_cons, List.drop_zero, List.set_cons_zero, List.set_cons_succ, true_or, or_true, and_self, Bool.false_eq_true, Nat.le_refl, Option.bind_some, Option.map_some, Option.getD_some, Option.isSome_some, List.map_cons, List.map_nil, List.cons_append, List.nil_append, List.append_nil, List.getElem?_cons_zero, List.getElem?_cons_succ, eq_self, Int.reduceLT, Int.reduceLE, Int.reduceNeg, Int.reduceEq]
      exact hQ
    | false =>
      simp (disch := omega) only [VW, VY, VZ, VA, VB, VC, VE, TY, ↓reduceIte, Nat.reduceEqDiff, Nat.reduceAdd, Nat.reduceMul, Nat.reduceSub, Nat.reduceLeDiff, List.length_cons, List.length_nil, List.length_append, List.append_assoc, List.take_succ_cons, List.take_zero, List.drop_succ_cons, List.drop_zero, List.set_cons_zero, List.set_cons_succ, true_or, or_true, and_self, Bool.false_eq_true, Nat.le_refl, Option.bind_some, Option.map_some, Option.getD_some, Option.isSome_some, List.map_cons, List.map_nil, List.cons_append, List.nil_append, List.append_nil, List.getElem?_cons_zero, List.getElem?_cons_succ, eq_self, Int.reduceLT, Int.reduceLE, Int.reduceNeg, Int.reduceEq, e0, e1, e7, e8, wrap_in]
      exact ⟨_, by omega, i + 1, by simp, by rw [at1, hp], by omega, rfl⟩
  · obtain rfl : i = l.length := by omega
    have c1 : ¬ (l.length : Int) < (l.length : Int) := by omega
    rw [List.take_length] at ha
    have hQ := hQ (-1) ⟨fun h => by omega, fun h => by rw [ha] at h; cases h⟩
    simp (disch := omega) only [VW, VY, VZ, VA, VB, VC, VE, TY, ↓reduceIte, Nat.reduceEqDiff, Nat.reduceAdd, Nat.reduceMul, Nat.reduceSub, Nat.reduceLeDiff, List.length_cons, List.length_nil, List.length_append, List.append_assoc, List.take_succ_cons, List.take_zero, List.drop_succ_cons, List.drop_zero, List.set_cons_zero, List.set_cons_succ, true_or, or_true, and_self, Bool.false_eq_true, Nat.le_refl, Option.bind_some, Option.map_some, Option.getD_some, Option.isSome_some, List.map_cons, List.map_nil, List.cons_append, List.nil_append, List.append_nil, List.getElem?_cons_zero, List.getElem?_cons_succ, eq_self, Int.reduceLT, Int.reduceLE, Int.reduceNeg, Int.reduceEq, c1]
    exact hQ
theorem containsOdd_c {l : List Int} {v : Value} {h : Heap} {Q : Value → Heap → Prop} (hl : Row h l v)
    (hQ : Q (.bool (l.any oddI)) h) : CallsV Try.prog 114 [v, .func (.func 116) #[] #[]] h Q := by
  refine CallsV.start Try.func114 rfl (by rw [Try.results114]) (by kernel_rfl) (by rw [Try.ntmps114]; simp) ?_
  simp (disch := omega) only [VW, VY, VZ, VA, VB, VC, VE, TY, ↓reduceIte, Nat.reduceEqDiff, Nat.reduceAdd, Nat.reduceMul, Nat.reduceSub, Nat.reduceLeDiff, List.length_cons, List.length_nil, List.length_append, List.append_assoc, List.take_succ_cons, List.take_zero, List.drop_succ_cons, List.drop_zero, List.set_cons_zero, List.set_cons_succ, true_or, or_true, and_self, Bool.false_eq_true, Nat.le_refl, Option.bind_some, Option.map_some, Option.getD_some, Option.isSome_some, List.map_cons, List.map_nil, List.cons_append, List.nil_append, List.append_nil, List.getElem?_cons_zero, List.getElem?_cons_succ, eq_self, Int.reduceLT, Int.reduceLE, Int.reduceNeg, Int.reduceEq]
  refine .inl ⟨by kernel_rfl, ?_⟩; refine indexOdd_c hl fun i hi => ?_
  by_cases c : 0 ≤ i
  · rw [hi.1 c] at hQ
    simp (disch := omega) only [VW, VY, VZ, VA, VB, VC, VE, TY, ↓reduceIte, Nat.reduceEqDiff, Nat.reduceAdd, Nat.reduceMul, Nat.reduceSub, Nat.reduceLeDiff, List.length_cons, List.length_nil, List.length_append, List.append_assoc, List.take_succ_cons, List.take_zero, List.drop_succ_cons, List.drop_zero, List.set_cons_zero, List.set_cons_succ, true_or, or_true, and_self, Bool.false_eq_true, Nat.le_refl, Option.bind_some, Option.map_some, Option.getD_some, Option.isSome_some, List.map_cons, List.map_nil, List.cons_append, List.nil_append, List.append_nil, List.getElem?_cons_zero, List.getElem?_cons_succ, eq_self, Int.reduceLT, Int.reduceLE, Int.reduceNeg, Int.reduceEq, c]
    exact hQ
  · have : l.any oddI = false := by
      cases hh : l.any oddI with
      | true => exact absurd (hi.2 hh) c
      | false => rfl
    rw [this] at hQ
    simp (disch := omega) only [VW, VY, VZ, VA, VB, VC, VE, TY, ↓reduceIte, Nat.reduceEqDiff, Nat.reduceAdd, Nat.reduceMul, Nat.reduceSub, Nat.reduceLeDiff, List.length_cons, List.length_nil, List.length_append, List.append_assoc, List.take_succ_cons, List.take_zero, List.drop_succ_cons, List.drop_zero, List.set_cons_zero, List.set_cons_succ, true_or, or_true, and_self, Bool.false_eq_true, Nat.le_refl, Option.bind_some, Option.map_some, Option.getD_some, Option.isSome_some, List.map_cons, List.map_nil, List.cons_append, List.nil_append, List.append_nil, List.getElem?_cons_zero, List.getElem?_cons_succ, eq_self, Int.reduceLT, Int.reduceLE, Int.reduceNeg, Int.reduceEq, c]
    exact hQ
end Go.Proofs
