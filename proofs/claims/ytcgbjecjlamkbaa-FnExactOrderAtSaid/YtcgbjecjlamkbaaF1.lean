/- Contracts of functions, facts of types, or the plain law behind one statement (own work): F1. Conditions: those told in each theorem. -/
import Derived.Test.YtcgbjecjlamkbaaTF
set_option linter.all false
set_option linter.unusedSimpArgs false
set_option linter.unusedVariables false
set_option maxRecDepth 4000
namespace Go.Proofs
open Go Go.V
/- Plain laws of long numbers: digits to the base 2^32 with a sign apart, and digits to the base 2^24 with the sign in the last one. -/
/-! ### base 2^32 -/
def valD : List UInt32 → Nat
  | [] => 0
  | d :: ds => d.toNat + 4294967296 * valD ds
theorem valD_append (a b : List UInt32) : valD (a ++ b) = valD a + 4294967296 ^ a.length * valD b := by
  induction a with
  | nil => simp [valD]
  | cons x xs ih =>
    rw [List.cons_append, valD, valD, ih, List.length_cons, Nat.pow_succ, Nat.mul_add, Nat.mul_comm (4294967296 ^ xs.length) 4294967296, Nat.mul_assoc]; omega
theorem valD_snoc (l : List UInt32) (d : UInt32) : valD (l ++ [d]) = valD l + 4294967296 ^ l.length * d.toNat := by
  rw [valD_append]; simp [valD]
theorem valD_lt (l : List UInt32) : valD l < 4294967296 ^ l.length := by
  induction l with
  | nil => simp [valD]
  | cons x xs ih =>
    have := x.toNat_lt
    rw [valD, List.length_cons, Nat.pow_succ]
    omega
def digD (l : List UInt32) (i : Nat) : Nat := match l[i]? with | some d => d.toNat | none => 0
theorem digD_some {l : List UInt32} {i : Nat} {d : UInt32} (h : l[i]? = some d) : digD l i = d.toNat := by unfold digD; rw [h]
theorem digD_none {l : List UInt32} {i : Nat} (h : l.length ≤ i) : digD l i = 0 := by unfold digD; rw [List.getElem?_eq_none h]
theorem digD_lt (l : List UInt32) (i : Nat) : digD l i < 4294967296 := by
  unfold digD
  split
  · exact UInt32.toNat_lt _
  · decide
theorem digD_eq (l : List UInt32) (i : Nat) : digD l i = valD l / 4294967296 ^ i % 4294967296 := by
  induction l generalizing i with
  | nil => simp [digD, valD]
  | cons x xs ih =>
    have hx := x.toNat_lt
    cases i with
    | zero => rw [digD_some (d := x) rfl, valD, Nat.pow_zero, Nat.div_one]; omega
    | succ i =>
      have : digD (x :: xs) (i + 1) = digD xs i := by simp [digD]
      rw [this, ih, valD, Nat.pow_succ, Nat.mul_comm (4294967296 ^ i), ← Nat.div_div_eq_div_mul]
      congr 2
      omega
theorem mod_up (V i : Nat) : V % 4294967296 ^ (i + 1) = V % 4294967296 ^ i + 4294967296 ^ i * (V / 4294967296 ^ i % 4294967296) := by
  rw [Nat.pow_succ, Nat.mod_mul]
theorem div_up (V i : Nat) : V / 4294967296 ^ i = V / 4294967296 ^ (i + 1) * 4294967296 + V / 4294967296 ^ i % 4294967296 := by
  rw [Nat.pow_succ, ← Nat.div_div_eq_div_mul]; omega
theorem valD_top (l : List UInt32) {i : Nat} (h : l.length ≤ i) : valD l / 4294967296 ^ i = 0 :=
  Nat.div_eq_of_lt (Nat.lt_of_lt_of_le (valD_lt l) (Nat.pow_le_pow_right (by decide) h))
theorem valD_mod (l : List UInt32) {i : Nat} (h : l.length ≤ i) : valD l % 4294967296 ^ i = valD l :=
  Nat.mod_eq_of_lt (Nat.lt_of_lt_of_le (valD_lt l) (Nat.pow_le_pow_right (by decide) h))
theorem valD_take (l : List UInt32) (i : Nat) : valD (l.take i) = valD l % 4294967296 ^ i := by
  rcases Nat.le_total l.length i with h | h
  · rw [List.take_of_length_le h, valD_mod l h]
  · have e := valD_append (l.take i) (l.drop i)
    rw [List.take_append_drop, List.length_take, Nat.min_eq_left h] at e
    have hl := valD_lt (l.take i)
    rw [List.length_take, Nat.min_eq_left h] at hl
    rw [e, Nat.add_mul_mod_self_left, Nat.mod_eq_of_lt hl]
theorem u32n {n : Nat} (h : n < 4294967296) : (UInt32.ofNat n).toNat = n := by
  rw [UInt32.toNat_ofNat']; exact Nat.mod_eq_of_lt h
/-- Signed. -/
def lvI (b : Bool) (m : Nat) : Int := if b then -(m : Int) else m
theorem lvI_sign (b : Bool) (m : Nat) : (lvI b m).sign = if m = 0 then 0 else if b then -1 else 1 := by
  unfold lvI
  by_cases c : m = 0
  · subst c; cases b <;> simp
  · rw [if_neg c]
    cases b
    · simp; omega
    · simp [Int.sign_neg]; omega
theorem lvI_mul (b : Bool) (m : Nat) (n : Int) : lvI (b != decide (n < 0)) (m * n.natAbs) = lvI b m * n := by
  unfold lvI
  rw [Int.natCast_mul]
  by_cases c : n < 0
  · have e : (n.natAbs : Int) = -n := by omega
    rw [e, decide_eq_true c]
    cases b
    · show -((m : Int) * -n) = (m : Int) * n
      rw [Int.mul_neg, Int.neg_neg]
    · show (m : Int) * -n = -(m : Int) * n
      rw [Int.mul_neg, Int.neg_mul]
  · have e : (n.natAbs : Int) = n := by omega
    rw [e, decide_eq_false c]
    cases b
    · rfl
    · show -((m : Int) * n) = -(m : Int) * n
      rw [Int.neg_mul]
theorem lvI_of (n : Int) (k : Nat) : lvI (decide (n < 0)) (n.natAbs * 2 ^ k) = n * 2 ^ k := by
  unfold lvI
  rw [Int.natCast_mul, Int.natCast_pow]
  by_cases c : n < 0
  · have e : (n.natAbs : Int) = -n := by omega
    simp [c, e, Int.neg_mul]
  · have e : (n.natAbs : Int) = n := by omega
    simp [c, e]
/-! ### base 2^24 -/
def valS : List Int → Int
  | [] => 0
  | x :: xs => x + 16777216 * valS xs
theorem valS_append (a b : List Int) : valS (a ++ b) = valS a + 16777216 ^ a.length * valS b := by
  induction a with
  | nil => simp [valS]
  | cons x xs ih =>
    rw [List.cons_append, valS, valS, ih, List.length_cons, Int.pow_succ, Int.mul_add, Int.mul_comm (16777216 ^ xs.length) 16777216, Int.mul_assoc]; omega
theorem valS_snoc (l : List Int) (d : Int) : valS (l ++ [d]) = valS l + 16777216 ^ l.length * d := by
  rw [valS_append]; simp [valS]
theorem valS_take {l : List Int} {i : Nat} {d : Int} (h : l[i]? = some d) : valS (l.take (i + 1)) = valS (l.take i) + 16777216 ^ i * d := by
  have hl : i < l.length := by
    rcases Nat.lt_or_ge i l.length with c | c
    · exact c
    · rw [List.getElem?_eq_none c] at h; simp at h
  rw [List.take_add_one, h]
  have := valS_snoc (l.take i) d
  rw [List.length_take, Nat.min_eq_left (Nat.le_of_lt hl)] at this
  exact this
theorem valS_map (l : List Int) (m : Int) : valS (l.map (· * m)) = valS l * m := by
  induction l with
  | nil => simp [valS]
  | cons x xs ih => rw [List.map_cons, valS, valS, ih, Int.add_mul, Int.mul_assoc]
/-- All digits but the last are digits; the last one may be -1. -/
def Can (l : List Int) : Prop := ∃ a, (∀ x ∈ a, 0 ≤ x ∧ x < 16777216) ∧ (l = a ∨ l = a ++ [-1])
theorem Can.nil : Can [] := ⟨[], by simp, .inl rfl⟩
theorem Can.bound {l : List Int} (c : Can l) {x : Int} (h : x ∈ l) : -1 ≤ x ∧ x < 16777216 := by
  obtain ⟨a, ha, rfl | rfl⟩ := c
  · have := ha x h; omega
  · rcases List.mem_append.1 h with h | h
    · have := ha x h; omega
    · simp at h; omega
theorem valS_pos {l : List Int} (h : ∀ x ∈ l, 0 ≤ x ∧ x < 16777216) : 0 ≤ valS l ∧ valS l < 16777216 ^ l.length := by
  induction l with
  | nil => simp [valS]
  | cons x xs ih =>
    have h1 := h x (by simp)
    have h2 := ih fun y hy => h y (by simp [hy])
    rw [valS, List.length_cons, Int.pow_succ]
    omega
/-- The top digit that is not 0 tells the sign. -/
theorem Can.sign {l : List Int} (c : Can l) {i : Nat} {d : Int} (h : l[i]? = some d) (hd : d ≠ 0) : (valS (l.take (i + 1))).sign = d.sign := by
  rw [valS_take h]
  obtain ⟨a, ha, hl⟩ := c
  have hp : (0 : Int) < 16777216 ^ i := Int.pow_pos (by decide)
  rcases Nat.lt_or_ge i a.length with c | c
  · have e : l[i]? = a[i]? := by rcases hl with rfl | rfl; rfl; exact List.getElem?_append_left c
    have et : l.take i = a.take i := by
      rcases hl with rfl | rfl
      · rfl
      · rw [List.take_append_of_le_length (Nat.le_of_lt c)]
    rw [e] at h
    have h1 := ha d (List.mem_of_getElem? h)
    have h2 := (valS_pos (l := a.take i) fun x hx => ha x (List.mem_of_mem_take hx)).1
    have h3 : 0 < 16777216 ^ i * d := Int.mul_pos hp (by omega)
    rw [et, Int.sign_eq_one_of_pos (by omega), Int.sign_eq_one_of_pos (by omega)]
  · rcases hl with rfl | rfl
    · rw [List.getElem?_eq_none c] at h; simp at h
    · rw [List.getElem?_append_right c] at h
      have hi : i = a.length := by
        rcases Nat.eq_or_lt_of_le c with q | q
        · exact q.symm
        · rw [List.getElem?_eq_none (by simp; omega)] at h; simp at h
      subst hi
      simp at h
      subst h
      have h2 := (valS_pos ha).2
      rw [List.take_left' rfl, Int.sign_eq_neg_one_of_neg (by omega), Int.sign_eq_neg_one_of_neg (by decide)]
/-! ### Horner -/
def hor (N T : Int) : List Int → Int
  | [] => 0
  | x :: q => hor N T q * N + x * T ^ q.length
theorem hor_map (N T c : Int) (l : List Int) : hor N T (l.map (c * ·)) = c * hor N T l := by
  induction l with
  | nil => simp [hor]
  | cons x q ih => rw [List.map_cons, hor, hor, ih, List.length_map, Int.mul_add, Int.mul_assoc, Int.mul_assoc]
theorem hor_drop {N T : Int} {l : List Int} {i : Nat} {x : Int} (h : l[i]? = some x) : hor N T (l.drop i) = hor N T (l.drop (i + 1)) * N + x * T ^ (l.length - (i + 1)) := by
  have hl : i < l.length := by
    rcases Nat.lt_or_ge i l.length with c | c
    · exact c
    · rw [List.getElem?_eq_none c] at h; simp at h
  rw [List.drop_eq_getElem_cons hl, hor, List.length_drop]
  rw [List.getElem?_eq_getElem hl] at h
  injection h with h
  rw [h]
/-! ### derivatives -/
def dM (p : List Int) : List Int := (p.drop 1).mapIdx fun i x => ((i : Int) + 1) * x
theorem dM_len (p : List Int) : (dM p).length = p.length - 1 := by simp [dM]
theorem dM_get {p : List Int} {i : Nat} {x : Int} (h : p[i + 1]? = some x) : (dM p)[i]? = some (((i : Int) + 1) * x) := by
  unfold dM
  rw [List.getElem?_mapIdx, List.getElem?_drop, Nat.add_comm 1 i, h]; rfl
theorem dM_map (c : Int) (p : List Int) : dM (p.map (c * ·)) = (dM p).map (c * ·) := by
  apply List.ext_getElem?
  intro i
  unfold dM
  rw [List.getElem?_map, List.getElem?_mapIdx, List.getElem?_mapIdx, List.getElem?_drop, List.getElem?_drop, List.getElem?_map]
  cases p[1 + i]? with
  | none => rfl
  | some x => simp only [Option.map_some]; rw [Int.mul_left_comm]
/-- The last one is not 0. -/
def Led (p : List Int) : Prop := ∀ x, p[p.length - 1]? = some x → x ≠ 0
theorem Led.d {p : List Int} (h : Led p) : Led (dM p) := by
  intro y hy
  rw [dM_len] at hy
  unfold dM at hy
  rw [List.getElem?_mapIdx, List.getElem?_drop] at hy
  have hl : 1 + (p.length - 1 - 1) < p.length := by
    rcases Nat.lt_or_ge (1 + (p.length - 1 - 1)) p.length with c | c
    · exact c
    · rw [List.getElem?_eq_none c] at hy; simp at hy
  have e : 1 + (p.length - 1 - 1) = p.length - 1 := by omega
  rw [e] at hy
  obtain ⟨x, hx⟩ : ∃ x, p[p.length - 1]? = some x := ⟨_, List.getElem?_eq_getElem (by omega)⟩
  rw [hx] at hy
  have hx0 := h x hx
  simp at hy
  rw [← hy]
  intro hz
  rcases Int.mul_eq_zero.1 hz with q | q
  · omega
  · exact hx0 q
/-- Small enough, in the n-th derivative. -/
def bndD : Nat → Int
  | 0 => 1000000
  | n + 1 => (8 - (n : Int)) * bndD n
def Okay (n : Nat) (p : List Int) : Prop := p.length ≤ 9 - n ∧ ∀ x ∈ p, -bndD n ≤ x ∧ x ≤ bndD n
theorem bndD_le {n : Nat} (h : n ≤ 8) : 0 ≤ bndD n ∧ bndD n ≤ 40320000000 := by
  have : ∀ m : Fin 9, 0 ≤ bndD m.val ∧ bndD m.val ≤ 40320000000 := by decide
  exact this ⟨n, by omega⟩
theorem mul_bnd {a x A B : Int} (h0 : 0 ≤ a) (h1 : a ≤ A) (hb : 0 ≤ B) (h2 : -B ≤ x) (h3 : x ≤ B) : -(A * B) ≤ a * x ∧ a * x ≤ A * B := by
  have q1 : a * x ≤ a * B := Int.mul_le_mul_of_nonneg_left h3 h0
  have q2 : a * -B ≤ a * x := Int.mul_le_mul_of_nonneg_left h2 h0
  have q3 : a * B ≤ A * B := Int.mul_le_mul_of_nonneg_right h1 hb
  rw [Int.mul_neg] at q2
  omega
theorem Okay.d {n : Nat} {p : List Int} (h : Okay n p) (hn : n < 8) : Okay (n + 1) (dM p) := by
  refine ⟨by rw [dM_len]; have := h.1; omega, fun y hy => ?_⟩
  obtain ⟨i, hi⟩ := List.getElem?_of_mem hy
  unfold dM at hi
  rw [List.getElem?_mapIdx, List.getElem?_drop] at hi
  cases hx : p[1 + i]? with
  | none => rw [hx] at hi; simp at hi
  | some x =>
    rw [hx] at hi
    simp at hi
    have hl : 1 + i < p.length := by
      rcases Nat.lt_or_ge (1 + i) p.length with c | c
      · exact c
      · rw [List.getElem?_eq_none c] at hx; simp at hx
    have h1 := h.1
    obtain ⟨h2, h3⟩ := h.2 x (List.mem_of_getElem? hx)
    rw [← hi]
    exact mul_bnd (A := 8 - (n : Int)) (by omega) (by omega) (bndD_le (by omega)).1 h2 h3
/-- Divided. -/
theorem tdiv_bnd {x d B : Int} (hd : 0 < d) (h1 : -B ≤ x) (h2 : x ≤ B) (hx : d ∣ x) : -B ≤ x / d ∧ x / d ≤ B := by
  obtain ⟨y, rfl⟩ := hx
  rw [Int.mul_ediv_cancel_left _ (by omega)]
  rcases Int.le_total 0 y with c | c
  · have : 1 * y ≤ d * y := Int.mul_le_mul_of_nonneg_right (by omega) c
    omega
  · have : 1 * -y ≤ d * -y := Int.mul_le_mul_of_nonneg_right (by omega) (by omega)
    rw [Int.mul_neg, Int.mul_neg, Int.mul_comm 1] at this
    generalize d * y = z at *
    omega
end Go.Proofs
