/- The layer V and contracts of functions over it, or plain laws behind one statement (own work): MN=XF,XG. Conditions: those told in each theorem. -/
import Derived.Test.YtlnephhhcofilaaGreatMK
set_option linter.all false
section
set_option linter.unusedSimpArgs false
set_option linter.unusedVariables false
set_option maxRecDepth 4000
namespace Go.Proofs
open Go Go.V
open Nat renaming reduceEqDiff → jA, reduceAdd → jB, reduceMul → jD, reduceSub → jE, reduceLeDiff → jF
open Int renaming reduceLT → jG, reduceLE → jH, reduceNeg → jI, reduceEq → jJ
theorem flat_take {α : Type} (L : List (List α)) {i : Nat} {l : List α} (h : L[i]? = some l) : (L.take (i + 1)).flatten.length = (L.take i).flatten.length + l.length ∧ (L.take i).flatten.length + l.length ≤ L.flatten.length := by
  have e : (L.take (i + 1)).flatten = (L.take i).flatten ++ l := by rw [List.take_add_one, h, List.flatten_append]; simp
  have e2 : L.flatten = (L.take (i + 1)).flatten ++ (L.drop (i + 1)).flatten := by rw [← List.flatten_append, List.take_append_drop]
  refine ⟨by rw [e, List.length_append], ?_⟩
  rw [e2, List.length_append, e, List.length_append]; omega
theorem concatI_c {L : List (List Int)} {v : Value} {h : Heap} {Q : Value → Heap → Prop} (r : Row h L v) (hl : L.length ≤ 10) (hn : L.flatten.length ≤ 1000000)
    (hQ : ∀ w h', Sep h h' [ownA 3 L.flatten w] → Q w h') : CallsV Tryz.prog 85 [v] h Q := by
  refine CallsV.start Tryz.func85 rfl (by rw [Tryz.results85]) (by kernel_rfl) (by rw [Tryz.ntmps85]; simp) ?_
  simp (disch := omega) only [WA, ↓reduceIte, jA, jB, jD, jE, jF, jG, jH, jI, jJ, r.isRow.len]
  refine loop_rule (fun n e h' => ∃ (i : Nat), e 0 = v ∧ e 3 = .int .i64 ((L.take i).flatten.length : Nat) ∧ e 9 = v ∧ e 10 = .int .i64 (L.length : Int) ∧ e 11 = .int .i64 (i : Int) ∧ i ≤ L.length ∧ n = L.length - i ∧ h = h') ?_ L.length _ _
    ⟨0, rfl, rfl, rfl, rfl, rfl, Nat.zero_le _, rfl, rfl⟩
  rintro n e h' ⟨i, e0, e3, e9, e10, e11, hi, rfl, rfl⟩
  simp (disch := omega) only [WA, ↓reduceIte, jA, jB, jD, jE, jF, jG, jH, jI, jJ, e10, e11]
  by_cases hlt : i < L.length
  · obtain ⟨l, hx⟩ := get_some hlt
    obtain ⟨vl, x3, rv⟩ := row_list r hx
    have q1 : (i : Int) < (L.length : Int) := by omega
    have hle := rv.le
    obtain ⟨f1, f2⟩ := flat_take L hx
    have w1 : IntKind.i64.wrap ((((L.take i).flatten.length : Nat) : Int) + (l.length : Int)) = ((((L.take (i + 1)).flatten.length : Nat)) : Int) := by
      rw [f1]; rw [wrap_in _ (by omega)]; omega
    have q2 : ¬ ((((L.take (i + 1)).flatten.length : Nat)) : Int) < 0 := by omega
    simp (disch := omega) only [WA, ↓reduceIte, jA, jB, jD, jE, jF, jG, jH, jI, jJ, e3, e9, e11, q1, r.isRow.ix, x3, rv.isRow.len, w1, q2]
    simp (disch := omega) only [WA, ↓reduceIte, jA, jB, jD, jE, jF, jG, jH, jI, jJ, e0, e9, e10, e11, wrap_in]
    exact ⟨_, by omega, i + 1, rfl, by simp, by omega, rfl⟩
  · obtain rfl : i = L.length := by omega
    have q1 : ¬ (L.length : Int) < (L.length : Int) := by omega
    rw [List.take_length] at e3
    simp (disch := omega) only [WA, ↓reduceIte, jA, jB, jD, jE, jF, jG, jH, jI, jJ, q1, e3]
    refine .inl ⟨by kernel_rfl, ?_⟩; refine growI_c (n := L.flatten.length) hn fun v0 h0 s0 => ?_
    have r0 := r.mono s0.ext
    simp (disch := omega) only [WA, ↓reduceIte, jA, jB, jD, jE, jF, jG, jH, jI, jJ, e0, r0.isRow.len]
    refine loop_rule (fun n e h' => ∃ (i : Nat) (vo : Value), e 6 = vo ∧ e 25 = v ∧ e 26 = .int .i64 (L.length : Int) ∧ e 27 = .int .i64 (i : Int) ∧ i ≤ L.length ∧ n = L.length - i ∧ Sep h h' [ownA 3 (L.take i).flatten vo]) ?_ L.length _ _
      ⟨0, v0, rfl, rfl, rfl, rfl, Nat.zero_le _, rfl, s0⟩
    rintro n e h1 ⟨i, vo, e6, e25, e26, e27, hi, rfl, s⟩
    have r1 := r.mono s.ext
    simp (disch := omega) only [WA, ↓reduceIte, jA, jB, jD, jE, jF, jG, jH, jI, jJ, e26, e27]
    by_cases hlt : i < L.length
    · obtain ⟨l, hx⟩ := get_some hlt
      obtain ⟨vl, x3h, rvh⟩ := row_list r hx
      have x3 := s.ext.keepC x3h
      have rv := rvh.mono s.ext
      have q1 : (i : Int) < (L.length : Int) := by omega
      obtain ⟨f1, f2⟩ := flat_take L hx
      simp (disch := omega) only [WA, ↓reduceIte, jA, jB, jD, jE, jF, jG, jH, jI, jJ, e6, e25, e27, q1, r1.isRow.ix, x3]
      refine sep_appendRow s rv te23 tk3 rfl (by decide) (by simp only []; omega) fun vo' h5 s => ?_
      simp (disch := omega) only [WA, ↓reduceIte, jA, jB, jD, jE, jF, jG, jH, jI, jJ, e25, e26, e27, wrap_in]
      refine ⟨_, by omega, i + 1, vo', rfl, by simp, by omega, rfl, ?_⟩
      rw [List.take_add_one, hx, List.flatten_append]
      simpa using s
    · obtain rfl : i = L.length := by omega
      have q1 : ¬ (L.length : Int) < (L.length : Int) := by omega
      rw [List.take_length] at s
      have pl := s.row.isRow.plain
      simp (disch := omega) only [WA, ↓reduceIte, jA, jB, jD, jE, jF, jG, jH, jI, jJ, q1, e6, pl]
      exact hQ _ _ s
end Go.Proofs
end

section
set_option linter.unusedSimpArgs false
set_option linter.unusedVariables false
set_option maxRecDepth 4000
namespace Go.Proofs
open Go Go.V
open Nat renaming reduceEqDiff → jA, reduceAdd → jB, reduceMul → jD, reduceSub → jE, reduceLeDiff → jF
open Int renaming reduceLT → jG, reduceLE → jH, reduceNeg → jI, reduceEq → jJ
/- Halving (plain). -/
def ltP (p : Int × Int) : Bool := decide (p.1 < p.2)
def oddI (n : Int) : Bool := decide (¬ Int.tmod n 2 = 0)
def hv (i : Nat) (l : List Int) : List Int := (l.take i).map (Int.tdiv · 2) ++ l.drop i
theorem hv_zero (l : List Int) : hv 0 l = l := by simp [hv]
theorem hv_len (i : Nat) (l : List Int) : (hv i l).length = l.length := by unfold hv; simp; omega
theorem hv_get {l : List Int} {i : Nat} {x : Int} (h : l[i]? = some x) : (hv i l)[i]? = some x := by
  have hlt : i < l.length := by
    rcases Nat.lt_or_ge i l.length with k | k
    · exact k
    · rw [List.getElem?_eq_none k] at h; cases h
  unfold hv
  rw [List.getElem?_append_right (by simp; omega), List.length_map, List.length_take, Nat.min_eq_left (by omega), Nat.sub_self, List.getElem?_drop, Nat.add_zero]
  exact h
theorem hv_set {l : List Int} {i : Nat} {x : Int} (h : l[i]? = some x) : (hv i l).set i (Int.tdiv x 2) = hv (i + 1) l := by
  have hlt : i < l.length := by
    rcases Nat.lt_or_ge i l.length with k | k
    · exact k
    · rw [List.getElem?_eq_none k] at h; cases h
  have hd : l.drop i = x :: l.drop (i + 1) := by
    rw [List.drop_eq_getElem_cons hlt]
    congr 1
    rw [List.getElem?_eq_getElem hlt] at h
    exact Option.some.inj h
  unfold hv
  rw [List.set_append_right _ _ (by simp; omega), List.length_map, List.length_take, Nat.min_eq_left (by omega), Nat.sub_self, hd, List.set_cons_zero, List.take_add_one, h]
  simp
theorem hv_full (l : List Int) : hv l.length l = l.map (Int.tdiv · 2) := by unfold hv; simp
theorem even_half {n : Int} (h : oddI n = false) : n = 2 * Int.tdiv n 2 := by
  unfold oddI at h
  have h : Int.tmod n 2 = 0 := by simpa using h
  have := Int.mul_tdiv_add_tmod n 2
  omega
theorem any_pair : ∀ (l m : List Int), m.length = l.length → (l ++ m).any oddI = (l.zip m).any pairOdd
  | [], [], _ => rfl
  | x :: l, y :: m, h => by
    have ih := any_pair l m (by simpa using h)
    rw [List.any_append] at ih
    simp only [List.cons_append, List.any_cons, List.any_append, List.zip_cons_cons, ← ih]
    have : pairOdd (x, y) = (oddI x || oddI y) := rfl
    rw [this]
    cases oddI x <;> cases oddI y <;> cases l.any oddI <;> cases m.any oddI <;> rfl
theorem half_lt {l m : List Int} (h : (l.zip m).any pairOdd = false) : ((l.map (Int.tdiv · 2)).zip (m.map (Int.tdiv · 2))).all ltP = (l.zip m).all ltP := by
  rw [List.zip_map, List.all_map, Bool.eq_iff_iff, List.all_eq_true, List.all_eq_true]
  have key : ∀ p ∈ l.zip m, (ltP ∘ Prod.map (Int.tdiv · 2) (Int.tdiv · 2)) p = ltP p := fun p hp => by
    have h1 := List.any_eq_false.1 h p hp
    have h2 : oddI p.1 = false ∧ oddI p.2 = false := by
      have : pairOdd p = (oddI p.1 || oddI p.2) := rfl
      rw [this] at h1
      simpa using h1
    have e1 := even_half h2.1
    have e2 := even_half h2.2
    show ltP (Int.tdiv p.1 2, Int.tdiv p.2 2) = ltP p
    simp only [ltP, decide_eq_decide]; omega
  exact ⟨fun k p hp => by rw [← key p hp]; exact k p hp, fun k p hp => by rw [key p hp]; exact k p hp⟩
theorem half_small {l : List Int} {b : Int} (h : ∀ n ∈ l, -(2 * b) ≤ n ∧ n ≤ 2 * b) (he : ∀ n ∈ l, oddI n = false) : ∀ n ∈ l.map (Int.tdiv · 2), -b ≤ n ∧ n ≤ b := by
  intro n hn
  rw [List.mem_map] at hn
  obtain ⟨x, hx, rfl⟩ := hn
  have h1 := even_half (he x hx)
  have h2 := h x hx
  omega
theorem mostM_step (m : Nat) : mostM ((m + 1 : Nat) : Int) = 2 * mostM (m : Int) := by
  unfold mostM
  have e1 : (((m + 1 : Nat) : Int)).toNat = m + 1 := rfl
  have e2 : ((m : Int)).toNat = m := rfl
  rw [e1, e2, Int.pow_succ]; omega
theorem box_of {K : Int} {l m : List Int} (hK : 0 ≤ K ∧ K ≤ 8) (h1 : 1 ≤ l.length) (h3 : l.length ≤ 3) (hm : m.length = l.length) (b1 : ∀ n ∈ l, -mostM K ≤ n ∧ n ≤ mostM K) (b2 : ∀ n ∈ m, -mostM K ≤ n ∧ n ≤ mostM K)
    (ho : K = 0 ∨ (l.zip m).any pairOdd = true) : boxM ⟨K, l, m⟩ = (l.zip m).all ltP := by
  have hall : (l.zip m).all (pairOk (mostM K)) = (l.zip m).all ltP := by
    rw [Bool.eq_iff_iff, List.all_eq_true, List.all_eq_true]
    constructor
    · intro h p hp
      have := h p hp
      simp only [pairOk, decide_eq_true_eq] at this
      simp only [ltP, decide_eq_true_eq]; omega
    · intro h p hp
      have := h p hp
      simp only [ltP, decide_eq_true_eq] at this
      have q1 := b1 p.1 (List.of_mem_zip hp).1
      have q2 := b2 p.2 (List.of_mem_zip hp).2
      simp only [pairOk, decide_eq_true_eq]; omega
  unfold boxM
  simp only [hall]
  have e1 : decide (0 ≤ K ∧ K ≤ 8) = true := decide_eq_true hK
  have e2 : decide (1 ≤ (l.length : Int) ∧ (l.length : Int) ≤ 3) = true := decide_eq_true (by omega)
  have e3 : decide (m.length = l.length) = true := decide_eq_true hm
  have e4 : (decide (K = 0) || (l.zip m).any pairOdd) = true := by
    rcases ho with h | h
    · rw [decide_eq_true h]; rfl
    · rw [h, Bool.or_true]
  rw [e1, e2, e3, e4]
  simp
theorem oddI_c {n : Int} {h : Heap} {Q : Value → Heap → Prop} (hQ : Q (.bool (oddI n)) h) : CallsV Tryz.prog 86 [.int .i64 n] h Q := by
  refine CallsV.start Tryz.func86 rfl (by rw [Tryz.results86]) (by kernel_rfl) (by rw [Tryz.ntmps86]; simp) ?_
  have z2 : ¬ (2 : Int) = 0 := by decide
  unfold oddI at hQ
  by_cases c : Int.tmod n 2 = 0
  · simp (disch := omega) only [WA, ↓reduceIte, jA, jB, jD, jE, jF, jG, jH, jI, jJ, z2, c]
    simpa [c] using hQ
  · simp (disch := omega) only [WA, ↓reduceIte, jA, jB, jD, jE, jF, jG, jH, jI, jJ, z2, c]
    simpa [c] using hQ
theorem indexOdd_c {l : List Int} {v : Value} {h : Heap} {Q : Value → Heap → Prop} (hl : Row h l v)
    (hQ : ∀ (i : Int), (0 ≤ i ↔ l.any oddI = true) → Q (.int .i64 i) h) : CallsV Tryz.prog 100 [v, .func (.func 86) #[] #[]] h Q := by
  refine CallsV.start Tryz.func100 rfl (by rw [Tryz.results100]) (by kernel_rfl) (by rw [Tryz.ntmps100]; simp) ?_
  have hle := hl.le
  simp (disch := omega) only [WA, ↓reduceIte, jA, jB, jD, jE, jF, jG, jH, jI, jJ, hl.isRow.len]
  refine loop_rule (fun n e h' => ∃ (i : Nat), e 0 = v ∧ e 1 = .func (.func 86) #[] #[] ∧ e 7 = .int .i64 l.length ∧ e 8 = .int .i64 (i : Int) ∧ (l.take i).any oddI = false ∧ i ≤ l.length ∧ n = l.length - i ∧ h = h') ?_ l.length _ _ ⟨0, rfl, rfl, rfl, rfl, rfl, Nat.zero_le _, rfl, rfl⟩
  rintro n e h1 ⟨i, e0, e1, e7, e8, ha, hi, rfl, rfl⟩
  simp (disch := omega) only [WA, ↓reduceIte, jA, jB, jD, jE, jF, jG, jH, jI, jJ, e7, e8]
  by_cases hlt : i < l.length
  · obtain ⟨x, hx⟩ := get_some hlt
    have c1 : (i : Int) < (l.length : Int) := by omega
    obtain ⟨x1, x2⟩ := row_int hl hx
    have at1 := any_take oddI hx
    rw [ha, Bool.false_or] at at1
    simp (disch := omega) only [WA, ↓reduceIte, jA, jB, jD, jE, jF, jG, jH, jI, jJ, c1, e0, e1, e8, hl.isRow.ix, x1]
    refine .inl ⟨by kernel_rfl, oddI_c ?_⟩
    cases hp : oddI x with
    | true =>
      have hQ := hQ (i : Int) ⟨fun _ => any_true hx hp, fun _ => by omega⟩
      simp (disch := omega) only [WA, ↓reduceIte, jA, jB, jD, jE, jF, jG, jH, jI, jJ]
      exact hQ
    | false =>
      simp (disch := omega) only [WA, ↓reduceIte, jA, jB, jD, jE, jF, jG, jH, jI, jJ, e0, e1, e7, e8, wrap_in]
      exact ⟨_, by omega, i + 1, by simp, by rw [at1, hp], by omega, rfl⟩
  · obtain rfl : i = l.length := by omega
    have c1 : ¬ (l.length : Int) < (l.length : Int) := by omega
    rw [List.take_length] at ha
    have hQ := hQ (-1) ⟨fun h => by omega, fun h => by rw [ha] at h; cases h⟩
    simp (disch := omega) only [WA, ↓reduceIte, jA, jB, jD, jE, jF, jG, jH, jI, jJ, c1]
    exact hQ
theorem containsOdd_c {l : List Int} {v : Value} {h : Heap} {Q : Value → Heap → Prop} (hl : Row h l v)
    (hQ : Q (.bool (l.any oddI)) h) : CallsV Tryz.prog 84 [v, .func (.func 86) #[] #[]] h Q := by
  refine CallsV.start Tryz.func84 rfl (by rw [Tryz.results84]) (by kernel_rfl) (by rw [Tryz.ntmps84]; simp) ?_
  simp (disch := omega) only [WA, ↓reduceIte, jA, jB, jD, jE, jF, jG, jH, jI, jJ]
  refine .inl ⟨by kernel_rfl, ?_⟩; refine indexOdd_c hl fun i hi => ?_
  by_cases c : 0 ≤ i
  · rw [hi.1 c] at hQ
    simp (disch := omega) only [WA, ↓reduceIte, jA, jB, jD, jE, jF, jG, jH, jI, jJ, c]
    exact hQ
  · have : l.any oddI = false := by
      cases hh : l.any oddI with
      | true => exact absurd (hi.2 hh) c
      | false => rfl
    rw [this] at hQ
    simp (disch := omega) only [WA, ↓reduceIte, jA, jB, jD, jE, jF, jG, jH, jI, jJ, c]
    exact hQ
end Go.Proofs
end
