/- The layer V and contracts of functions over it, or plain laws behind one statement (own work): MA=Y0,YP. Conditions: those told in each theorem. -/
import Derived.Test.YtlnephhhcofilaaGreatC0
set_option linter.all false
section
set_option linter.unusedSimpArgs false
set_option linter.unusedVariables false
set_option maxRecDepth 4000
namespace Go.Proofs
open Go Go.V
structure Dy where
  n : Int
  k : Int
  deriving DecidableEq, Inhabited
instance : Rep Dy := Rep.iso (α := Int × Int) fun x => (x.n, x.k)
theorem Dy.sz : Rep.sz Dy = 2 := rfl
instance : Giv Dy := Giv.iso (α := Int × Int) (fun (x : Dy) => (x.n, x.k)) (⟨(-7000000000000000101), (-7000000000000000101)⟩ : Dy)
instance : Siz Dy := ⟨fun x => Siz.siz x.n + Siz.siz x.k⟩
theorem here_Dy {h : Heap} {x : Dy} {cs : List Value} (hr : Here h x cs) : cs = [.int .i64 x.n, .int .i64 x.k] ∧ inI64 x.n ∧ inI64 x.k := by
  have hrp : Here (α := Int × Int) h (x.n, x.k) _ := hr
  obtain ⟨c1, d1, rfl, q1, r1⟩ := here_pair hrp
  obtain ⟨rfl, f2⟩ := here_int q1
  obtain ⟨rfl, f3⟩ := here_int r1
  exact ⟨rfl, f2, f3⟩
theorem mk_Dy {h : Heap} {x : Dy} (h1 : inI64 x.n) (h2 : inI64 x.k) : Here h x [.int .i64 x.n, .int .i64 x.k] := (mk_pair (p := (x.n, x.k)) (mk_int h1) (mk_int h2))
theorem rep_Dy {h : Heap} {x : Dy} (h1 : inI64 x.n) (h2 : inI64 x.k) : Rep.rep h x [.int .i64 x.n, .int .i64 x.k] [] := by
  obtain ⟨fp, hr⟩ := mk_Dy (h := []) h1 h2
  obtain rfl : fp = [] := List.eq_nil_iff_forall_not_mem.2 fun b hb => by simpa using Rep.live hr b hb
  exact Rep.frame hr (by simp)
end Go.Proofs
end

section
set_option linter.unusedSimpArgs false
set_option linter.unusedVariables false
set_option maxRecDepth 4000
namespace Go.Proofs
open Go Go.V
/- Dyadic numbers: the plain law. -/
/-- n / 2^k without the twos that can go. -/
def stripM (n : Int) : Nat → Int × Nat
  | 0 => (n, 0)
  | k + 1 => if n % 2 = 0 then stripM (n / 2) k else (n, k + 1)
def fitsB (p : Int × Nat) : Bool := decide (p.2 ≤ 24) && decide (-1099511627776 ≤ p.1 ∧ p.1 ≤ 1099511627776)
def makeM (n : Int) (k : Nat) : Option Dy :=
  if n = 0 then some ⟨0, 0⟩ else if fitsB (stripM n k) = true then some ⟨(stripM n k).1, (stripM n k).2⟩ else none
def dyM (d : Dy) : Bool := decide (0 ≤ d.k ∧ d.k ≤ 24) && decide (-1099511627776 ≤ d.n ∧ d.n ≤ 1099511627776) && (decide (d.k = 0) || decide (¬ Int.tmod d.n 2 = 0))
theorem tmod2 (n : Int) : Int.tmod n 2 = 0 ↔ n % 2 = 0 := by
  constructor
  · intro h
    exact Int.emod_eq_zero_of_dvd (Int.dvd_of_tmod_eq_zero h)
  · intro h
    exact Int.tmod_eq_zero_of_dvd (Int.dvd_of_emod_eq_zero h)
structure DyG (d : Dy) : Prop where
  k0 : 0 ≤ d.k
  k1 : d.k ≤ 24
  n0 : -1099511627776 ≤ d.n
  n1 : d.n ≤ 1099511627776
  odd : d.k = 0 ∨ d.n % 2 = 1
theorem good0 : DyG ⟨0, 0⟩ := ⟨by decide, by decide, by decide, by decide, .inl rfl⟩
theorem dyM_iff {d : Dy} : dyM d = true ↔ DyG d := by
  unfold dyM
  simp only [Bool.and_eq_true, Bool.or_eq_true, decide_eq_true_eq]
  rw [tmod2]
  constructor
  · rintro ⟨⟨⟨h1, h2⟩, h3, h4⟩, h5⟩
    exact ⟨h1, h2, h3, h4, by omega⟩
  · rintro ⟨h1, h2, h3, h4, h5⟩
    exact ⟨⟨⟨h1, h2⟩, h3, h4⟩, by omega⟩
theorem stripM_zero (n : Int) : stripM n 0 = (n, 0) := rfl
theorem stripM_even {n : Int} (k : Nat) (h : n % 2 = 0) : stripM n (k + 1) = stripM (n / 2) k := by simp only [stripM, if_pos h]
theorem stripM_odd {n : Int} (k : Nat) (h : n % 2 = 1) : stripM n k = (n, k) := by
  cases k with
  | zero => rfl
  | succ k => simp only [stripM]; rw [if_neg (by omega)]
theorem stripM_two (n : Int) (k : Nat) : stripM (2 * n) (k + 1) = stripM n k := by
  rw [stripM_even k (by omega)]; congr 1; omega
theorem stripM_pow (n : Int) (k j : Nat) : stripM (n * 2 ^ j) (k + j) = stripM n k := by
  induction j with
  | zero => simp
  | succ j ih =>
    have e : n * 2 ^ (j + 1) = 2 * (n * 2 ^ j) := by rw [Int.pow_succ]; rw [← Int.mul_assoc]; omega
    rw [e, show k + (j + 1) = (k + j) + 1 by omega, stripM_two, ih]
theorem stripM_le (n : Int) : ∀ k : Nat, (stripM n k).2 ≤ k := by
  intro k
  induction k generalizing n with
  | zero => exact Nat.le_refl _
  | succ k ih =>
    simp only [stripM]
    split
    · have := ih (n / 2); omega
    · exact Nat.le_refl _
theorem stripM_odd' (n : Int) : ∀ k : Nat, (stripM n k).2 = 0 ∨ (stripM n k).1 % 2 = 1 := by
  intro k
  induction k generalizing n with
  | zero => exact .inl rfl
  | succ k ih =>
    simp only [stripM]
    split
    · exact ih _
    · rename_i h; right; simp only []; omega
theorem stripM_ne (n : Int) (h : n ≠ 0) : ∀ k : Nat, (stripM n k).1 ≠ 0 := by
  intro k
  induction k generalizing n with
  | zero => exact h
  | succ k ih =>
    simp only [stripM]
    split
    · exact ih _ (by omega)
    · exact h
/-- What is made is valid. -/
theorem makeM_good {n : Int} {k : Nat} {d : Dy} (h : makeM n k = some d) : DyG d := by
  unfold makeM at h
  split at h
  · cases h; exact ⟨by decide, by decide, by decide, by decide, .inl rfl⟩
  · split at h
    · rename_i hf
      cases h
      unfold fitsB at hf
      simp only [Bool.and_eq_true, decide_eq_true_eq] at hf
      refine ⟨by simp only []; omega, by simp only []; omega, hf.2.1, hf.2.2, ?_⟩
      rcases stripM_odd' n k with h1 | h1
      · left; simp only []; omega
      · right; exact h1
    · cases h
/-- A valid number is its own form. -/
theorem makeM_self {d : Dy} (h : DyG d) : makeM d.n d.k.toNat = if d.n = 0 then some ⟨0, 0⟩ else some d := by
  obtain ⟨h1, h2, h3, h4, h5⟩ := h
  unfold makeM
  split
  · rfl
  · have hs : stripM d.n d.k.toNat = (d.n, d.k.toNat) := by
      rcases h5 with h5 | h5
      · rw [h5]; rfl
      · exact stripM_odd _ h5
    rw [hs]
    have hf : fitsB (d.n, d.k.toNat) = true := by
      unfold fitsB; simp only [Bool.and_eq_true, decide_eq_true_eq]; omega
    rw [if_pos hf]
    obtain ⟨a, b⟩ := d
    simp only at h1 ⊢
    congr 2
    omega
def kM (a b : Dy) : Nat := max a.k.toNat b.k.toNat
/-- A number's numerator over 2^k. -/
def upM (a : Dy) (k : Nat) : Int := a.n * 2 ^ (k - a.k.toNat)
def sumM' (a b : Dy) : Option Dy := makeM (upM a (kM a b) + upM b (kM a b)) (kM a b)
def negM (a : Dy) : Dy := ⟨-a.n, a.k⟩
theorem negM_good {a : Dy} (h : DyG a) : DyG (negM a) := ⟨h.k0, h.k1, by have := h.n1; show -1099511627776 ≤ -a.n; omega, by have := h.n0; show -a.n ≤ 1099511627776; omega, by
  rcases h.odd with h1 | h1
  · exact .inl h1
  · right; show -a.n % 2 = 1; omega⟩
theorem pow_le {j : Nat} (h : j ≤ 24) : (2 : Int) ^ j ≤ 16777216 := by
  have : (2 : Nat) ^ j ≤ 2 ^ 24 := Nat.pow_le_pow_right (by decide) h
  have e : (2 : Nat) ^ 24 = 16777216 := by decide
  have h2 : ((2 : Nat) ^ j : Nat) ≤ (16777216 : Nat) := by omega
  have := Int.ofNat_le.2 h2
  rw [Int.natCast_pow] at this
  exact this
theorem pow_pos' (j : Nat) : (0 : Int) < 2 ^ j := Int.pow_pos (by decide)
theorem upM_le {a : Dy} (h : DyG a) {k : Nat} (hk : k ≤ 24) : -18446744073709551616 ≤ upM a k ∧ upM a k ≤ 18446744073709551616 := by
  have h1 := pow_le (j := k - a.k.toNat) (by omega)
  have h2 := pow_pos' (k - a.k.toNat)
  have h3 := h.n0
  have h4 := h.n1
  unfold upM
  constructor
  · have := Int.mul_le_mul_of_nonneg_right h3 (Int.le_of_lt h2)
    have := Int.mul_le_mul_of_nonneg_left h1 (show (0 : Int) ≤ 1099511627776 by decide)
    omega
  · have := Int.mul_le_mul_of_nonneg_right h4 (Int.le_of_lt h2)
    have := Int.mul_le_mul_of_nonneg_left h1 (show (0 : Int) ≤ 1099511627776 by decide)
    omega
theorem kM_le {a b : Dy} (ha : DyG a) (hb : DyG b) : kM a b ≤ 24 := by
  have := ha.k1; have := hb.k1; unfold kM; omega
/-- The sum of a number that is far too great and one that isn't. -/
theorem sum_far {a b : Dy} (ha : DyG a) (hb : DyG b) (hn : a.n ≠ 0) (hlt : a.k.toNat < kM a b) (hf : ¬ (-1152921504606846976 ≤ a.n * 2 ^ (kM a b - a.k.toNat - 1) ∧ a.n * 2 ^ (kM a b - a.k.toNat - 1) ≤ 1152921504606846976)) : sumM' a b = none := by
  have hk : kM a b = b.k.toNat := by unfold kM at hlt ⊢; omega
  have hbk := hb.k0
  have hodd : b.n % 2 = 1 := by
    rcases hb.odd with h | h
    · rw [h] at hk; omega
    · exact h
  have hb0 := hb.n0
  have hb1 := hb.n1
  unfold sumM' upM
  rw [hk] at hlt hf ⊢
  rw [Nat.sub_self, Int.pow_zero, Int.mul_one]
  have e : a.n * 2 ^ (b.k.toNat - a.k.toNat) = 2 * (a.n * 2 ^ (b.k.toNat - a.k.toNat - 1)) := by
    rw [show b.k.toNat - a.k.toNat = (b.k.toNat - a.k.toNat - 1) + 1 by omega, Int.pow_succ, ← Int.mul_assoc, Nat.add_sub_cancel]
    omega
  rw [e]
  generalize a.n * 2 ^ (b.k.toNat - a.k.toNat - 1) = X at hf
  have hs : (2 * X + b.n) % 2 = 1 := by omega
  unfold makeM
  rw [if_neg (by omega), stripM_odd _ hs]
  unfold fitsB
  rw [if_neg]
  simp only [Bool.and_eq_true, decide_eq_true_eq]
  omega
theorem sumM_comm (a b : Dy) : sumM' a b = sumM' b a := by
  unfold sumM'
  have : kM a b = kM b a := by unfold kM; omega
  rw [this, Int.add_comm]
/-- The order of two numbers. -/
def sgn (n : Int) : Int := if 0 < n then 1 else if n < 0 then -1 else 0
def cmpM (a b : Dy) : Int := sgn (upM a 24 - upM b 24)
theorem upM_up {a : Dy} {k j : Nat} (h : a.k.toNat ≤ k) : upM a (k + j) = upM a k * 2 ^ j := by
  unfold upM
  rw [show k + j - a.k.toNat = (k - a.k.toNat) + j by omega, Int.pow_add, Int.mul_assoc]
theorem sgn_pos {n p : Int} (h : 0 < p) : sgn (n * p) = sgn n := by
  unfold sgn
  by_cases h1 : 0 < n
  · rw [if_pos h1, if_pos (Int.mul_pos h1 h)]
  · by_cases h2 : n < 0
    · have := Int.mul_neg_of_neg_of_pos h2 h
      rw [if_neg h1, if_pos h2, if_neg (by omega), if_pos this]
    · obtain rfl : n = 0 := by omega
      simp
theorem cmpM_at {a b : Dy} (ha : DyG a) (hb : DyG b) {k : Nat} (h1 : kM a b ≤ k) (h2 : k ≤ 24) : cmpM a b = sgn (upM a k - upM b k) := by
  unfold cmpM
  obtain ⟨j, hj⟩ : ∃ j, 24 = k + j := ⟨24 - k, by omega⟩
  unfold kM at h1
  rw [hj, upM_up (by omega), upM_up (by omega), ← Int.sub_mul, sgn_pos (pow_pos' j)]
end Go.Proofs
end
