/- The layer V and contracts of functions over it, or plain laws behind one statement (own work): MD=IA,IB,IC,ID. Conditions: those told in each theorem. -/
import Derived.Test.YtlnephhhcofilaaGreatMA
import Derived.Test.YtlnephhhcofilaaGreatY1
import Derived.Test.YtlnephhhcofilaaGreatYM0
import Derived.Lib.Mul64
set_option linter.all false
section
set_option linter.unusedSimpArgs false
set_option linter.unusedVariables false
set_option maxRecDepth 4000
namespace Go.Proofs
open Go Go.V
/- Intervals: the plain law. -/
/-- A number's numerator over 2^24. -/
def val (a : Dy) : Int := upM a 24
theorem val_inj {a b : Dy} (ha : DyG a) (hb : DyG b) (h : val a = val b) : a = b := by
  have key : ∀ {a b : Dy}, DyG a → DyG b → val a = val b → a.k ≤ b.k → a = b := by
    intro a b ha hb h hk
    have ha0 := ha.k0
    have hb1 := hb.k1
    have e : (24 - a.k.toNat) = (b.k.toNat - a.k.toNat) + (24 - b.k.toNat) := by omega
    unfold val upM at h
    rw [e, Int.pow_add, ← Int.mul_assoc] at h
    have hp := pow_pos' (24 - b.k.toNat)
    have h2 : a.n * 2 ^ (b.k.toNat - a.k.toNat) = b.n := Int.eq_of_mul_eq_mul_right (by omega) h
    obtain ⟨an, ak⟩ := a
    obtain ⟨bn, bk⟩ := b
    simp only at *
    rcases Nat.eq_zero_or_pos (bk.toNat - ak.toNat) with z | z
    · rw [z, Int.pow_zero, Int.mul_one] at h2
      have : ak = bk := by omega
      rw [h2, this]
    · obtain ⟨j, hj⟩ : ∃ j, bk.toNat - ak.toNat = j + 1 := ⟨bk.toNat - ak.toNat - 1, by omega⟩
      rw [hj, Int.pow_succ, ← Int.mul_assoc] at h2
      rcases hb.odd with o | o
      · simp only at o; omega
      · simp only at o; omega
  rcases Int.le_total a.k b.k with k | k
  · exact key ha hb h k
  · exact (key hb ha h.symm k).symm
theorem cmp_lt {a b : Dy} : cmpM a b < 0 ↔ val a < val b := by
  unfold cmpM sgn val
  split
  · constructor <;> intro h <;> omega
  · split
    · constructor <;> intro h <;> omega
    · constructor <;> intro h <;> omega
theorem cmp_gt {a b : Dy} : 0 < cmpM a b ↔ val b < val a := by
  unfold cmpM sgn val
  split
  · constructor <;> intro h <;> omega
  · split
    · constructor <;> intro h <;> omega
    · constructor <;> intro h <;> omega
def lsM (a b : Dy) : Dy := if cmpM b a < 0 then b else a
def gtM (a b : Dy) : Dy := if 0 < cmpM b a then b else a
theorem lsM_val (a b : Dy) : val (lsM a b) = min (val a) (val b) := by
  unfold lsM
  by_cases h : cmpM b a < 0
  · rw [if_pos h]; rw [cmp_lt] at h; omega
  · rw [if_neg h]; rw [cmp_lt] at h; omega
theorem gtM_val (a b : Dy) : val (gtM a b) = max (val a) (val b) := by
  unfold gtM
  by_cases h : 0 < cmpM b a
  · rw [if_pos h]; rw [cmp_gt] at h; omega
  · rw [if_neg h]; rw [cmp_gt] at h; omega
theorem lsM_good {a b : Dy} (ha : DyG a) (hb : DyG b) : DyG (lsM a b) := by unfold lsM; split <;> assumption
theorem gtM_good {a b : Dy} (ha : DyG a) (hb : DyG b) : DyG (gtM a b) := by unfold gtM; split <;> assumption
theorem good_int {n : Int} (h : -1099511627776 ≤ n ∧ n ≤ 1099511627776) : DyG ⟨n, 0⟩ := ⟨Int.le_refl 0, by show (0 : Int) ≤ 24; decide, h.1, h.2, .inl rfl⟩
theorem val_int (n : Int) : val ⟨n, 0⟩ = n * 16777216 := by
  unfold val upM
  have : (2 : Int) ^ (24 - (0 : Int).toNat) = 16777216 := by decide
  rw [this]
/-- Intervals. -/
structure IvG (i : Iv) : Prop where
  low : DyG i.low
  high : DyG i.high
  le : val i.low ≤ val i.high
/-- The ends of a list: as the reference finds them. -/
def endsF (o : Iv) (x : Dy) : Iv := ⟨if cmpM x o.low < 0 then x else o.low, if cmpM o.high x < 0 then x else o.high⟩
def endsM (l : List Dy) : Iv := l.foldl endsF ⟨l.headD ⟨0, 0⟩, l.headD ⟨0, 0⟩⟩
theorem endsF_val (o : Iv) (x : Dy) : val (endsF o x).low = min (val x) (val o.low) ∧ val (endsF o x).high = max (val x) (val o.high) := by
  unfold endsF
  constructor
  · by_cases h : cmpM x o.low < 0
    · simp only [if_pos h]; rw [cmp_lt] at h; omega
    · simp only [if_neg h]; rw [cmp_lt] at h; omega
  · by_cases h : cmpM o.high x < 0
    · simp only [if_pos h]; rw [cmp_lt] at h; omega
    · simp only [if_neg h]; rw [cmp_lt] at h; omega
theorem endsF_good {o : Iv} {x : Dy} (h1 : DyG o.low) (h2 : DyG o.high) (hx : DyG x) : DyG (endsF o x).low ∧ DyG (endsF o x).high := by
  unfold endsF
  constructor
  · simp only []; split <;> assumption
  · simp only []; split <;> assumption
theorem iv_eq {i j : Iv} (h1 : DyG i.low) (h2 : DyG i.high) (h3 : DyG j.low) (h4 : DyG j.high) (hl : val i.low = val j.low) (hh : val i.high = val j.high) : i = j := by
  obtain ⟨a, b⟩ := i
  obtain ⟨c, d⟩ := j
  simp only at *
  rw [val_inj h1 h3 hl, val_inj h2 h4 hh]
theorem ends2 {a b : Dy} (ha : DyG a) (hb : DyG b) : endsM [a, b] = ⟨lsM a b, gtM a b⟩ := by
  have e : endsM [a, b] = endsF (endsF ⟨a, a⟩ a) b := rfl
  rw [e]
  have g1 := endsF_good (o := ⟨a, a⟩) ha ha ha
  have g2 := endsF_good g1.1 g1.2 hb
  have v1 := endsF_val ⟨a, a⟩ a
  have v2 := endsF_val (endsF ⟨a, a⟩ a) b
  refine iv_eq g2.1 g2.2 (lsM_good ha hb) (gtM_good ha hb) ?_ ?_
  · rw [lsM_val]; simp only at v1; omega
  · rw [gtM_val]; simp only at v1; omega
theorem ends3 {a b c : Dy} (ha : DyG a) (hb : DyG b) (hc : DyG c) : endsM [a, b, c] = ⟨lsM (lsM a b) c, gtM (gtM a b) c⟩ := by
  have e : endsM [a, b, c] = endsF (endsF (endsF ⟨a, a⟩ a) b) c := rfl
  rw [e]
  have g1 := endsF_good (o := ⟨a, a⟩) ha ha ha
  have g2 := endsF_good g1.1 g1.2 hb
  have g3 := endsF_good g2.1 g2.2 hc
  have v1 := endsF_val ⟨a, a⟩ a
  have v2 := endsF_val (endsF ⟨a, a⟩ a) b
  have v3 := endsF_val (endsF (endsF ⟨a, a⟩ a) b) c
  refine iv_eq g3.1 g3.2 (lsM_good (lsM_good ha hb) hc) (gtM_good (gtM_good ha hb) hc) ?_ ?_
  · rw [lsM_val, lsM_val]; simp only at v1; omega
  · rw [gtM_val, gtM_val]; simp only at v1; omega
theorem ends4 {a b c d : Dy} (ha : DyG a) (hb : DyG b) (hc : DyG c) (hd : DyG d) : endsM [a, b, c, d] = ⟨lsM (lsM a b) (lsM c d), gtM (gtM a b) (gtM c d)⟩ := by
  have e : endsM [a, b, c, d] = endsF (endsF (endsF (endsF ⟨a, a⟩ a) b) c) d := rfl
  rw [e]
  have g1 := endsF_good (o := ⟨a, a⟩) ha ha ha
  have g2 := endsF_good g1.1 g1.2 hb
  have g3 := endsF_good g2.1 g2.2 hc
  have g4 := endsF_good g3.1 g3.2 hd
  have v1 := endsF_val ⟨a, a⟩ a
  have v2 := endsF_val (endsF ⟨a, a⟩ a) b
  have v3 := endsF_val (endsF (endsF ⟨a, a⟩ a) b) c
  have v4 := endsF_val (endsF (endsF (endsF ⟨a, a⟩ a) b) c) d
  refine iv_eq g4.1 g4.2 (lsM_good (lsM_good ha hb) (lsM_good hc hd)) (gtM_good (gtM_good ha hb) (gtM_good hc hd)) ?_ ?_
  · rw [lsM_val, lsM_val, lsM_val]; simp only at v1; omega
  · rw [gtM_val, gtM_val, gtM_val]; simp only at v1; omega
/-- Products. -/
def mulM (a b : Dy) : Option Dy := makeM (a.n * b.n) (a.k.toNat + b.k.toNat)
theorem mulM_good {a b d : Dy} (h : mulM a b = some d) : DyG d := makeM_good h
theorem one_mulM {a : Dy} (ha : DyG a) : mulM ⟨1, 0⟩ a = some a := by
  have := makeM_self ha
  unfold mulM
  simp only [Int.one_mul, Int.toNat_zero, Nat.zero_add]
  rw [this]
  by_cases z : a.n = 0
  · rw [if_pos z]
    obtain ⟨n, k⟩ := a
    simp only at z
    subst z
    have : k = 0 := by rcases ha.odd with o | o; exact o; simp at o
    rw [this]
  · rw [if_neg z]
/-- Rounded down to 16 places. -/
def rdM (a : Dy) : Dy := if a.k ≤ 16 then a else (makeM (a.n / 2 ^ (a.k.toNat - 16)) 16).getD ⟨0, 0⟩
theorem getD_good {o : Option Dy} (h : ∀ d, o = some d → DyG d) : DyG (o.getD ⟨0, 0⟩) := by
  cases o with
  | none => exact good0
  | some d => exact h d rfl
theorem rdM_good {a : Dy} (ha : DyG a) : DyG (rdM a) := by
  unfold rdM
  split
  · exact ha
  · exact getD_good fun d h => makeM_good h
def rdI (i : Iv) : Iv := ⟨rdM i.low, negM (rdM (negM i.high))⟩
def addI (i k : Iv) : Option Iv := match sumM' i.low k.low, sumM' i.high k.high with
  | some a, some b => some ⟨a, b⟩
  | _, _ => none
def mulI (i k : Iv) : Option Iv := match mulM i.low k.low, mulM i.low k.high, mulM i.high k.low, mulM i.high k.high with
  | some a, some b, some c, some d => some (rdI ⟨lsM (lsM a b) (lsM c d), gtM (gtM a b) (gtM c d)⟩)
  | _, _, _, _ => none
def powD (a : Dy) : Nat → Option Dy
  | 0 => some ⟨1, 0⟩
  | n + 1 => (powD a n).bind fun x => mulM x a
theorem powD_good {a : Dy} : ∀ {n : Nat} {d : Dy}, powD a n = some d → DyG d
  | 0, d, h => by cases h; exact good_int (by decide)
  | n + 1, d, h => by
    obtain ⟨x, _, h2⟩ := Option.bind_eq_some_iff.1 h
    exact mulM_good h2
/-- Whether 0 lies in an interval. -/
def zeroB (i : Iv) : Bool := decide (i.low.n ≤ 0) && decide (0 ≤ i.high.n)
def sgI (i : Iv) : Int := if 0 < i.low.n then 1 else if i.high.n < 0 then -1 else 0
/-- A power, as the program has it. -/
def powI (i : Iv) (n : Nat) : Option Iv :=
  if n = 0 then some ⟨⟨1, 0⟩, ⟨1, 0⟩⟩ else
  match powD i.low n, powD i.high n with
  | some a, some b => some (rdI (if n % 2 = 0 then ⟨if sgI i = 0 then ⟨0, 0⟩ else lsM a b, gtM a b⟩ else ⟨a, b⟩))
  | _, _ => none
end Go.Proofs
end

section
set_option linter.unusedSimpArgs false
set_option linter.unusedVariables false
set_option maxRecDepth 4000
namespace Go.Proofs
open Go Go.V
/- Intervals: what values they have. -/
theorem strip_valI (n : Int) : ∀ k : Nat, (stripM n k).1 * 2 ^ (k - (stripM n k).2) = n := by
  intro k
  induction k generalizing n with
  | zero => simp [stripM]
  | succ k ih =>
    simp only [stripM]
    split
    · rename_i h
      have hl := stripM_le (n / 2) k
      have := ih (n / 2)
      rw [show k + 1 - (stripM (n / 2) k).2 = (k - (stripM (n / 2) k).2) + 1 by omega, Int.pow_succ, ← Int.mul_assoc, this]
      omega
    · simp
theorem makeM_val {n : Int} {k : Nat} {d : Dy} (h : makeM n k = some d) : val d * 2 ^ k = n * 16777216 := by
  have g := makeM_good h
  have e24 : (16777216 : Int) = 2 ^ 24 := by decide
  unfold makeM at h
  split at h
  · rename_i z
    cases h
    subst z
    show upM ⟨0, 0⟩ 24 * 2 ^ k = 0 * 16777216
    unfold upM
    simp
  · split at h
    · rename_i _ hf
      cases h
      have hv := strip_valI n k
      have hl := stripM_le n k
      have hk := g.k1
      simp only at hk
      show upM ⟨(stripM n k).1, (stripM n k).2⟩ 24 * 2 ^ k = n * 16777216
      unfold upM
      simp only [Int.toNat_natCast]
      generalize (stripM n k).2 = m at *
      generalize (stripM n k).1 = u at *
      rw [← hv, e24, Int.mul_assoc, ← Int.pow_add, Int.mul_assoc, ← Int.pow_add]
      congr 2
      omega
    · cases h
theorem mulM_val {a b d : Dy} (ha : DyG a) (hb : DyG b) (h : mulM a b = some d) : val d * 16777216 = val a * val b := by
  have hv := makeM_val h
  have a1 := ha.k1
  have b1 := hb.k1
  have a0 := ha.k0
  have b0 := hb.k0
  have e : val a * val b = a.n * b.n * 2 ^ (48 - (a.k.toNat + b.k.toNat)) := by
    unfold val upM
    rw [show 48 - (a.k.toNat + b.k.toNat) = (24 - a.k.toNat) + (24 - b.k.toNat) by omega, Int.pow_add]
    rw [Int.mul_assoc, Int.mul_left_comm (2 ^ (24 - a.k.toNat)) b.n, ← Int.mul_assoc]
  have hp := pow_pos' (a.k.toNat + b.k.toNat)
  have h48 : (2 : Int) ^ (48 - (a.k.toNat + b.k.toNat)) * 2 ^ (a.k.toNat + b.k.toNat) = 16777216 * 16777216 := by
    rw [← Int.pow_add, show 48 - (a.k.toNat + b.k.toNat) + (a.k.toNat + b.k.toNat) = 48 by omega]; decide
  refine Int.eq_of_mul_eq_mul_right (show (2 : Int) ^ (a.k.toNat + b.k.toNat) ≠ 0 by omega) ?_
  rw [e, Int.mul_assoc (a.n * b.n), h48, Int.mul_right_comm, hv, Int.mul_assoc]
theorem sumM_val {a b d : Dy} (ha : DyG a) (hb : DyG b) (h : sumM' a b = some d) : val d = val a + val b := by
  have hk := kM_le ha hb
  have hv := makeM_val h
  obtain ⟨j, hj⟩ : ∃ j, 24 = kM a b + j := ⟨24 - kM a b, by omega⟩
  have ka : a.k.toNat ≤ kM a b := by unfold kM; omega
  have kb : b.k.toNat ≤ kM a b := by unfold kM; omega
  have hp := pow_pos' (kM a b)
  have e1 : val a = upM a (kM a b) * 2 ^ j := by unfold val; rw [hj, upM_up ka]
  have e2 : val b = upM b (kM a b) * 2 ^ j := by unfold val; rw [hj, upM_up kb]
  have h24 : (2 : Int) ^ j * 2 ^ kM a b = 16777216 := by
    rw [← Int.pow_add, show j + kM a b = 24 by omega]; decide
  refine Int.eq_of_mul_eq_mul_right (show (2 : Int) ^ kM a b ≠ 0 by omega) ?_
  rw [hv, e1, e2, ← Int.add_mul, Int.mul_assoc, h24]
theorem val_neg (a : Dy) : val (negM a) = -val a := by
  unfold val upM negM
  rw [Int.neg_mul]
theorem val_sign {a : Dy} : (0 < val a ↔ 0 < a.n) ∧ (val a < 0 ↔ a.n < 0) ∧ (val a = 0 ↔ a.n = 0) := by
  unfold val upM
  have hp := pow_pos' (24 - a.k.toNat)
  generalize (2 : Int) ^ (24 - a.k.toNat) = p at *
  rcases Int.lt_trichotomy a.n 0 with h | h | h
  · have := Int.mul_neg_of_neg_of_pos h hp; omega
  · rw [h]; simp
  · have := Int.mul_pos h hp; omega
theorem small_make {n : Int} {k : Nat} (hn : n.natAbs ≤ 1099511627776) (hk : k ≤ 24) : ∃ d, makeM n k = some d := by
  have small : ∀ (n : Int) (k : Nat), (stripM n k).1.natAbs ≤ n.natAbs := by
    intro n k
    induction k generalizing n with
    | zero => exact Nat.le_refl _
    | succ k ih =>
      simp only [stripM]
      split
      · have := ih (n / 2); omega
      · exact Nat.le_refl _
  unfold makeM
  by_cases z : n = 0
  · rw [if_pos z]; exact ⟨_, rfl⟩
  · rw [if_neg z]
    have h1 := small n k
    have h2 := stripM_le n k
    rw [if_pos]
    · exact ⟨_, rfl⟩
    · unfold fitsB
      simp only [Bool.and_eq_true, decide_eq_true_eq]
      omega
/-- Rounding down. -/
theorem rd_small {a : Dy} (ha : DyG a) (hk : ¬ a.k ≤ 16) : ∃ d, makeM (a.n / 2 ^ (a.k.toNat - 16)) 16 = some d := by
  refine small_make ?_ (by decide)
  have h1 := ha.n0
  have h2 := ha.n1
  have hp := pow_pos' (a.k.toNat - 16)
  have l1 : -1099511627776 ≤ a.n / 2 ^ (a.k.toNat - 16) := by
    refine (Int.le_ediv_iff_mul_le hp).2 ?_
    have : 1099511627776 * 1 ≤ 1099511627776 * (2 : Int) ^ (a.k.toNat - 16) := Int.mul_le_mul_of_nonneg_left (by omega) (by decide)
    rw [Int.neg_mul]; omega
  have l2 : a.n / 2 ^ (a.k.toNat - 16) ≤ 1099511627776 := by
    have : a.n / 2 ^ (a.k.toNat - 16) < 1099511627777 := by
      refine (Int.ediv_lt_iff_lt_mul hp).2 ?_
      have : 1099511627777 * 1 ≤ 1099511627777 * (2 : Int) ^ (a.k.toNat - 16) := Int.mul_le_mul_of_nonneg_left (by omega) (by decide)
      omega
    omega
  omega
theorem rd_le {a : Dy} (ha : DyG a) : val (rdM a) ≤ val a := by
  unfold rdM
  by_cases hk : a.k ≤ 16
  · rw [if_pos hk]; exact Int.le_refl _
  · rw [if_neg hk]
    obtain ⟨d, hd⟩ := rd_small ha hk
    rw [hd]
    have hv := makeM_val hd
    have h1 := ha.k1
    have e : a.k.toNat = (a.k.toNat - 16) + 16 := by omega
    simp only [Option.getD_some]
    have hp := pow_pos' (a.k.toNat - 16)
    have hq := pow_pos' (24 - a.k.toNat)
    have hm := Int.mul_ediv_self_le (x := a.n) (k := 2 ^ (a.k.toNat - 16)) (by omega)
    have e16 : (2 : Int) ^ 16 = 65536 := by decide
    rw [e16] at hv
    have e256 : (2 : Int) ^ (a.k.toNat - 16) * 2 ^ (24 - a.k.toNat) = 256 := by
      rw [← Int.pow_add, show a.k.toNat - 16 + (24 - a.k.toNat) = 8 by omega]; decide
    have hd2 : val d = a.n / 2 ^ (a.k.toNat - 16) * 256 := by omega
    have h3 := Int.mul_le_mul_of_nonneg_right hm (Int.le_of_lt hq)
    have h4 : 2 ^ (a.k.toNat - 16) * (a.n / 2 ^ (a.k.toNat - 16)) * 2 ^ (24 - a.k.toNat) = a.n / 2 ^ (a.k.toNat - 16) * 256 := by
      rw [Int.mul_comm (2 ^ (a.k.toNat - 16)) (a.n / 2 ^ (a.k.toNat - 16)), Int.mul_assoc, e256]
    rw [h4] at h3
    rw [hd2]
    exact h3
theorem rdI_good {i : Iv} (h : IvG i) : IvG (rdI i) := by
  have h1 := rd_le h.low
  have h2 := rd_le (negM_good h.high)
  rw [val_neg] at h2
  refine ⟨rdM_good h.low, negM_good (rdM_good (negM_good h.high)), ?_⟩
  show val (rdM i.low) ≤ val (negM (rdM (negM i.high)))
  rw [val_neg]
  have := h.le
  omega
/-! powers -/
theorem pow_two {a d : Dy} (ha : DyG a) (h : powD a 2 = some d) : val d * 16777216 = val a * val a := by
  have e : powD a 2 = ((powD a 0).bind fun x => mulM x a).bind fun x => mulM x a := rfl
  rw [e] at h
  simp only [powD, Option.bind_some, one_mulM ha] at h
  exact mulM_val ha ha h
theorem pow_one {a d : Dy} (ha : DyG a) (h : powD a 1 = some d) : d = a := by
  simp only [powD, Option.bind_some, one_mulM ha] at h
  exact (Option.some.inj h).symm
theorem pow_three {a d : Dy} (ha : DyG a) (h : powD a 3 = some d) : ∃ b, powD a 2 = some b ∧ val d * 16777216 = val b * val a := by
  have e : powD a 3 = (powD a 2).bind fun x => mulM x a := rfl
  rw [e] at h
  obtain ⟨b, h1, h2⟩ := Option.bind_eq_some_iff.1 h
  exact ⟨b, h1, mulM_val (powD_good h1) ha h2⟩
theorem pow_four {a d : Dy} (ha : DyG a) (h : powD a 4 = some d) : ∃ b c, powD a 2 = some b ∧ val c * 16777216 = val b * val a ∧ val d * 16777216 = val c * val a := by
  have e : powD a 4 = (powD a 3).bind fun x => mulM x a := rfl
  rw [e] at h
  obtain ⟨c, h1, h2⟩ := Option.bind_eq_some_iff.1 h
  obtain ⟨b, h3, h4⟩ := pow_three ha h1
  exact ⟨b, c, h3, h4, mulM_val (powD_good h1) ha h2⟩
theorem sq_nn (x : Int) : 0 ≤ x * x := by
  rcases Int.le_total 0 x with h | h
  · exact Int.mul_nonneg h h
  · exact Int.mul_nonneg_of_nonpos_of_nonpos h h
theorem pow_even_nn {a d : Dy} {n : Nat} (ha : DyG a) (hn : n = 2 ∨ n = 4) (h : powD a n = some d) : 0 ≤ val d := by
  rcases hn with rfl | rfl
  · have := pow_two ha h
    have := sq_nn (val a)
    omega
  · obtain ⟨b, c, h1, h2, h3⟩ := pow_four ha h
    have hb := pow_two ha h1
    have s := sq_nn (val a)
    have hb0 : 0 ≤ val b := by omega
    -- d 2^48 = b a a
    have e : val d * 16777216 * 16777216 = val b * (val a * val a) := by
      rw [h3, Int.mul_right_comm, h2, Int.mul_assoc]
    have := Int.mul_nonneg hb0 s
    omega
theorem cube_le {x y : Int} (h : x ≤ y) : x * x * x ≤ y * y * y := by
  rcases Int.le_total 0 x with hx | hx
  · have h1 : x * x ≤ y * y := Int.mul_le_mul h h hx (by omega)
    exact Int.mul_le_mul h1 h hx (sq_nn y)
  · rcases Int.le_total 0 y with hy | hy
    · have h1 : x * x * x ≤ 0 := Int.mul_nonpos_of_nonneg_of_nonpos (sq_nn x) hx
      have h2 : 0 ≤ y * y * y := Int.mul_nonneg (sq_nn y) hy
      omega
    · have h1 : -y * -y ≤ -x * -x := Int.mul_le_mul (by omega) (by omega) (by omega) (by omega)
      have h2 : -y * -y * -y ≤ -x * -x * -x := Int.mul_le_mul h1 (by omega) (by omega) (by rw [Int.neg_mul_neg]; exact sq_nn x)
      rw [Int.neg_mul_neg, Int.neg_mul_neg, Int.mul_neg, Int.mul_neg] at h2
      omega
theorem pow_odd_le {a b c d : Dy} {n : Nat} (ha : DyG a) (hb : DyG b) (hn : n = 1 ∨ n = 3) (h : val a ≤ val b) (h1 : powD a n = some c) (h2 : powD b n = some d) : val c ≤ val d := by
  rcases hn with rfl | rfl
  · rw [pow_one ha h1, pow_one hb h2]; exact h
  · obtain ⟨x, x1, x2⟩ := pow_three ha h1
    obtain ⟨y, y1, y2⟩ := pow_three hb h2
    have x3 := pow_two ha x1
    have y3 := pow_two hb y1
    have e1 : val c * 16777216 * 16777216 = val a * val a * val a := by
      rw [x2, Int.mul_right_comm, x3]
    have e2 : val d * 16777216 * 16777216 = val b * val b * val b := by
      rw [y2, Int.mul_right_comm, y3]
    have := cube_le h
    omega
/-- A power, as the reference has it. -/
def powS (i : Iv) (n : Nat) : Option Iv := match powD i.low n, powD i.high n with
  | some a, some b => some (rdI (endsM (if 0 < n ∧ n % 2 = 0 ∧ zeroB i = true then [a, b, ⟨0, 0⟩] else [a, b])))
  | _, _ => none
theorem sgI_zero {i : Iv} : sgI i = 0 ↔ zeroB i = true := by
  unfold sgI zeroB
  simp only [Bool.and_eq_true, decide_eq_true_eq]
  split
  · constructor <;> intro h <;> omega
  · split
    · constructor <;> intro h <;> omega
    · constructor <;> intro h <;> omega
theorem powS_eq {i : Iv} {n : Nat} (hi : IvG i) (hn : n ≤ 4) : powS i n = powI i n := by
  unfold powS powI
  by_cases z : n = 0
  · subst z
    rw [if_pos rfl]
    simp only [powD]
    rw [if_neg (fun h => by omega)]
    decide
  rw [if_neg z]
  cases h1 : powD i.low n with
  | none => rfl
  | some a =>
    cases h2 : powD i.high n with
    | none => rfl
    | some b =>
      simp only []
      have ga := powD_good h1
      have gb := powD_good h2
      congr 2
      by_cases he : n % 2 = 0
      · have hn2 : n = 2 ∨ n = 4 := by omega
        have pa := pow_even_nn hi.low hn2 h1
        have pb := pow_even_nn hi.high hn2 h2
        rw [if_pos he]
        by_cases hz : zeroB i = true
        · rw [if_pos ⟨by omega, he, hz⟩, if_pos (sgI_zero.2 hz), ends3 ga gb good0]
          have v0 : val ⟨0, 0⟩ = 0 := by rw [val_int]; rfl
          refine iv_eq (lsM_good (lsM_good ga gb) good0) (gtM_good (gtM_good ga gb) good0) good0 (gtM_good ga gb) ?_ ?_
          · rw [lsM_val, lsM_val, v0]; omega
          · rw [gtM_val, gtM_val, v0]; omega
        · rw [if_neg (fun h => hz h.2.2), if_neg (fun h => hz (sgI_zero.1 h)), ends2 ga gb]
      · have hn2 : n = 1 ∨ n = 3 := by omega
        have hle := pow_odd_le hi.low hi.high hn2 hi.le h1 h2
        rw [if_neg he, if_neg (fun h => he h.2.1), ends2 ga gb]
        refine iv_eq (lsM_good ga gb) (gtM_good ga gb) ga gb ?_ ?_
        · show val (lsM a b) = val a; rw [lsM_val]; omega
        · show val (gtM a b) = val b; rw [gtM_val]; omega
/-! they stay in order -/
theorem addI_good {i k o : Iv} (hi : IvG i) (hk : IvG k) (h : addI i k = some o) : IvG o := by
  unfold addI at h
  cases h1 : sumM' i.low k.low with
  | none => rw [h1] at h; cases h
  | some a =>
    cases h2 : sumM' i.high k.high with
    | none => rw [h1, h2] at h; cases h
    | some b =>
      rw [h1, h2] at h
      cases h
      have v1 := sumM_val hi.low hk.low h1
      have v2 := sumM_val hi.high hk.high h2
      have l1 := hi.le
      have l2 := hk.le
      exact ⟨makeM_good h1, makeM_good h2, by simp only []; omega⟩
theorem mulI_good {i k o : Iv} (h : mulI i k = some o) : IvG o := by
  unfold mulI at h
  split at h
  · rename_i a b c d h1 h2 h3 h4
    cases h
    have ga := mulM_good h1
    have gb := mulM_good h2
    have gc := mulM_good h3
    have gd := mulM_good h4
    refine rdI_good ⟨lsM_good (lsM_good ga gb) (lsM_good gc gd), gtM_good (gtM_good ga gb) (gtM_good gc gd), ?_⟩
    simp only []
    rw [lsM_val, lsM_val, lsM_val, gtM_val, gtM_val, gtM_val]
    omega
  · cases h
theorem powI_good {i o : Iv} {n : Nat} (hi : IvG i) (hn : n ≤ 4) (h : powI i n = some o) : IvG o := by
  rw [← powS_eq hi hn] at h
  unfold powS at h
  split at h
  · rename_i a b h1 h2
    cases h
    have ga := powD_good h1
    have gb := powD_good h2
    refine rdI_good ?_
    split
    · rw [ends3 ga gb good0]
      refine ⟨lsM_good (lsM_good ga gb) good0, gtM_good (gtM_good ga gb) good0, ?_⟩
      simp only []
      rw [lsM_val, lsM_val, gtM_val, gtM_val]; omega
    · rw [ends2 ga gb]
      refine ⟨lsM_good ga gb, gtM_good ga gb, ?_⟩
      simp only []
      rw [lsM_val, gtM_val]; omega
  · cases h
/-- The sign of an interval, as the reference has it. -/
theorem sgI_ref {i : Iv} (hi : IvG i) : sgI i = if zeroB i = true then 0 else sgn i.low.n := by
  have hle := hi.le
  have s1 := val_sign (a := i.low)
  have s2 := val_sign (a := i.high)
  by_cases z : zeroB i = true
  · rw [if_pos z]; exact sgI_zero.2 z
  · rw [if_neg z]
    have hz : ¬ sgI i = 0 := fun h => z (sgI_zero.1 h)
    unfold sgI at hz ⊢
    unfold sgn
    by_cases h1 : 0 < i.low.n
    · rw [if_pos h1, if_pos h1]
    · rw [if_neg h1] at hz
      by_cases h2 : i.high.n < 0
      · rw [if_neg h1, if_pos h2, if_neg h1, if_pos (by omega)]
      · rw [if_neg h2] at hz; exact absurd rfl hz
end Go.Proofs
end

section
set_option linter.unusedSimpArgs false
set_option linter.unusedVariables false
set_option maxRecDepth 4000
namespace Go.Proofs
open Go Go.V
open Nat renaming reduceEqDiff → jA, reduceAdd → jB, reduceMul → jD, reduceSub → jE, reduceLeDiff → jF
open Int renaming reduceLT → jG, reduceLE → jH, reduceNeg → jI, reduceEq → jJ
/- Products of dyadic numbers. -/
theorem b_and (n : Nat) (k : IntKind) (a b : Int) : binV .and n (.int k a) (.int k b) = bitsV .and k a b := by simp [binV, intV]
theorem and32_u (a : Nat) (ha : a < 18446744073709551616) : bitsV .and .u64 (a : Int) 4294967295 = some (.int .u64 ((a % 4294967296 : Nat) : Int)) := by
  have e : a &&& 4294967295 = a % 4294967296 := Nat.and_two_pow_sub_one_eq_mod a 32
  have hx : (BitVec.ofInt 64 (a : Int)).toNat = a := by
    rw [BitVec.toNat_ofInt]; omega
  have hy : (BitVec.ofInt 64 4294967295).toNat = 4294967295 := by decide
  show some (Value.int .u64 (IntKind.wrap .u64 ((BitVec.ofInt 64 (a : Int) &&& BitVec.ofInt 64 4294967295 : BitVec 64).toNat))) = _
  rw [BitVec.toNat_and, hx, hy, e, wrapu_nat _ (by omega)]
theorem shr32_u (a : Nat) : Int.fdiv (a : Int) 4294967296 = ((a / 4294967296 : Nat) : Int) := by
  rw [Int.fdiv_eq_ediv_of_nonneg _ (by decide)]; rfl
theorem shr32_u' (a : Nat) : Int.fdiv (a : Int) (2 ^ min 32 64) = ((a / 4294967296 : Nat) : Int) := by
  have : (2 : Int) ^ min 32 64 = 4294967296 := by decide
  rw [this]; exact shr32_u a
theorem mul_nn (a b : Nat) : (a : Int) * (b : Int) = ((a * b : Nat) : Int) := (Int.natCast_mul a b).symm
theorem add_nn (a b : Nat) : (a : Int) + (b : Int) = ((a + b : Nat) : Int) := (Int.natCast_add a b).symm
theorem mul64_c {x y : Nat} {h : Heap} {Q : Value → Heap → Prop} (hx : x < 18446744073709551616) (hy : y < 18446744073709551616)
    (hQ : Q (.tuple #[.int .u64 ((x * y / 18446744073709551616 : Nat) : Int), .int .u64 ((x * y % 18446744073709551616 : Nat) : Int)]) h) :
    CallsV Tryz.prog 167 [.int .u64 x, .int .u64 y] h Q := by
  refine CallsV.start Tryz.func167 rfl (by rw [Tryz.results167]) (by kernel_rfl) (by rw [Tryz.ntmps167]; simp) ?_
  obtain ⟨bd, bt, bw, hhi⟩ := Lib.mul64_hi x y hx hy
  have ba := Lib.half_mul_le (a := x / 4294967296) (b := y / 4294967296) (by omega) (by omega)
  have bb := Lib.half_mul_le (a := x / 4294967296) (b := y % 4294967296) (by omega) (by omega)
  have bc := Lib.half_mul_le (a := x % 4294967296) (b := y / 4294967296) (by omega) (by omega)
  have ba' : x / 4294967296 * (y / 4294967296) < 18446744073709551616 := by omega
  have bb' : x / 4294967296 * (y % 4294967296) < 18446744073709551616 := by omega
  have bc' : x % 4294967296 * (y / 4294967296) < 18446744073709551616 := by omega
  have bh1 : x / 4294967296 * (y / 4294967296) + (x / 4294967296 * (y % 4294967296) + x % 4294967296 * (y % 4294967296) / 4294967296) / 4294967296 < 18446744073709551616 := by omega
  have bh : x / 4294967296 * (y / 4294967296) + (x / 4294967296 * (y % 4294967296) + x % 4294967296 * (y % 4294967296) / 4294967296) / 4294967296 + ((x / 4294967296 * (y % 4294967296) + x % 4294967296 * (y % 4294967296) / 4294967296) % 4294967296 + x % 4294967296 * (y / 4294967296)) / 4294967296 < 18446744073709551616 := by omega
  have n32 : ¬ (32 : Int) < 0 := by decide
  have n32b : ¬ (64 : Int) ≤ 32 := by decide
  have t32 : Int.toNat 32 = 32 := rfl
  have m1 := and32_u x hx
  have m2 := and32_u y hy
  have m3 := and32_u _ bt
  simp (disch := omega) only [WA, ↓reduceIte, jA, jB, jD, jE, jF, jG, jH, jI, jJ, b_and, m1, m2, n32, t32, ubits, shr32_u']
  have w1 := wrapu_nat _ bd
  have w2 := wrapu_nat _ bb'
  have w3 := wrapu_nat _ bt
  have w4 := wrapu_nat _ bc'
  have w5 := wrapu_nat _ bw
  have w6 := wrapu_nat _ ba'
  have w7 := wrapu_nat _ bh1
  have w8 := wrapu_nat _ bh
  have w9 := wrapu_mod (x * y)
  simp (disch := omega) only [WA, ↓reduceIte, jA, jB, jD, jE, jF, jG, jH, jI, jJ, mul_nn, add_nn, w1, w2, w3, w4, w5, w6, w7, w8, w9, b_and, m3, shr32_u', n32, t32, ubits, hhi]
  rw [hhi] at bh
  rw [wrapu_nat _ bh]
  exact hQ
def timesM (a b : Int) : Wd := wdOf (decide (a < 0) != decide (b < 0)) (a.natAbs * b.natAbs)
theorem timesM_val (a b : Int) : (timesM a b).val = a * b := by
  unfold timesM
  rw [wdOf_val]
  have hm : (a * b).natAbs = a.natAbs * b.natAbs := Int.natAbs_mul a b
  rw [← hm]
  by_cases c1 : a < 0 <;> by_cases c2 : b < 0
  · have := Int.mul_pos_of_neg_of_neg c1 c2; simp [c1, c2]; omega
  · have := Int.mul_nonpos_of_nonpos_of_nonneg (Int.le_of_lt c1) (show 0 ≤ b by omega); simp [c1, c2]; omega
  · have := Int.mul_nonpos_of_nonneg_of_nonpos (show 0 ≤ a by omega) (Int.le_of_lt c2); simp [c1, c2]; omega
  · have := Int.mul_nonneg (show 0 ≤ a by omega) (show 0 ≤ b by omega); simp [c1, c2]; omega
theorem timesM_G {a b : Int} (ha : a.natAbs ≤ 1099511627776) (hb : b.natAbs ≤ 1099511627776) : (timesM a b).G := by
  have := Nat.mul_le_mul ha hb
  exact wdOf_G _ (by omega)
theorem timesWide_c {a b : Int} {h : Heap} {Q : Value → Heap → Prop} (ha : a.natAbs ≤ 1099511627776) (hb : b.natAbs ≤ 1099511627776)
    (hQ : ∀ h', Ext h h' → Q (.agg (timesM a b).cs.toArray) h') : CallsV Tryz.prog 164 [.int .i64 a, .int .i64 b] h Q := by
  refine CallsV.start Tryz.func164 rfl (by rw [Tryz.results164]) (by kernel_rfl) (by rw [Tryz.ntmps164]; simp) ?_
  have ecs : (timesM a b).cs = [.bool (decide (a < 0) != decide (b < 0)), .int .u64 ((a.natAbs * b.natAbs / 18446744073709551616 : Nat) : Int), .int .u64 ((a.natAbs * b.natAbs % 18446744073709551616 : Nat) : Int)] := wdOf_cs _ _
  rw [ecs] at hQ
  simp (disch := omega) only [WA, ↓reduceIte, jA, jB, jD, jE, jF, jG, jH, jI, jJ]
  refine .inl ⟨by kernel_rfl, ?_⟩; refine size_c (by omega) ?_
  simp (disch := omega) only [WA, ↓reduceIte, jA, jB, jD, jE, jF, jG, jH, jI, jJ]
  refine .inl ⟨by kernel_rfl, ?_⟩; refine size_c (by omega) ?_
  simp (disch := omega) only [WA, ↓reduceIte, jA, jB, jD, jE, jF, jG, jH, jI, jJ]
  refine .inl ⟨by kernel_rfl, ?_⟩; refine mul64_c (by omega) (by omega) ?_
  simp (disch := omega) only [WA, ↓reduceIte, jA, jB, jD, jE, jF, jG, jH, jI, jJ]
  exact hQ _ (.one _ _)
theorem productOf_c {a b : Dy} {h : Heap} {Q : Value → Heap → Prop} (ha : DyG a) (hb : DyG b) (hQ : ∀ h', Ext h h' → Q (optV (mulM a b)) h') :
    CallsV Tryz.prog 158 [.agg (dyC a).toArray, .agg (dyC b).toArray] h Q := by
  refine CallsV.start Tryz.func158 rfl (by rw [Tryz.results158]) (by kernel_rfl) (by rw [Tryz.ntmps158]; simp) ?_
  have s := Sep.blk3 h (dyC a) (dyC b) [.int .i64 0, .int .i64 0] 97 97 97 true true true
  have a0 := ha.n0
  have a1 := ha.n1
  have b0 := hb.n0
  have b1 := hb.n1
  have ak0 := ha.k0
  have ak1 := ha.k1
  have bk0 := hb.k0
  have bk1 := hb.k1
  have ga := (s.pull 2 rfl).rd
  have gb := (s.pull 1 rfl).rd
  have ek : a.k + b.k = ((a.k.toNat + b.k.toNat : Nat) : Int) := by omega
  simp (disch := omega) only [WA, ↓reduceIte, jA, jB, jD, jE, jF, jG, jH, jI, jJ, ga, gb]
  refine draw_ord [0, 1, 2, 3, 5, 6, 7, 8, 9, 4, 10, 11, 12, 13, 14] (by kernel_rfl) (by simp only [WLF]; rfl) ?_
  simp (disch := omega) only [WA, ↓reduceIte, jA, jB, jD, jE, jF, jG, jH, jI, jJ, ga, gb]
  refine .inl ⟨by kernel_rfl, ?_⟩; refine timesWide_c (by omega) (by omega) fun h1 E1 => ?_
  have s := s.mono E1
  have ga := (s.pull 2 rfl).rd
  have gb := (s.pull 1 rfl).rd
  simp (disch := omega) only [WA, ↓reduceIte, jA, jB, jD, jE, jF, jG, jH, jI, jJ, ga, gb, ek, wrap_in]
  refine .inl ⟨by kernel_rfl, ?_⟩; refine fit_c (timesM_G (by omega) (by omega)) (by omega) fun h6 E6 => ?_
  have s := s.mono E6
  have ga := (s.pull 2 rfl).rd
  have gb := (s.pull 1 rfl).rd
  have ev : makeM (timesM a.n b.n).val (a.k.toNat + b.k.toNat) = mulM a b := by
    rw [timesM_val]; rfl
  rw [ev, optV_eq]
  simp (disch := omega) only [WA, ↓reduceIte, jA, jB, jD, jE, jF, jG, jH, jI, jJ, ga, gb]
  refine sep_store (s.pull 0 rfl) (by simp) fun h7 s => ?_
  have s := s.as (ds := dyC ((mulM a b).getD ⟨0, 0⟩)) (by simp [t_put])
  have gz := (s.pull 0 rfl).rdAll (n := 2) rfl
  have ga := (s.pull 2 rfl).rd
  have gb := (s.pull 1 rfl).rd
  simp (disch := omega) only [WA, ↓reduceIte, jA, jB, jD, jE, jF, jG, jH, jI, jJ, ga, gb, gz]
  exact hQ _ s.ext
/-- A result that is kept: while all went well. -/
def keepM (p : Bool) (o : Option Dy) : Dy := if (p && o.isSome) = true then o.getD ⟨0, 0⟩ else ⟨0, 0⟩
theorem keepM_good {p : Bool} {o : Option Dy} (h : ∀ d, o = some d → DyG d) : DyG (keepM p o) := by
  unfold keepM
  split
  · exact getD_good h
  · exact good0
theorem rproduct_c {a h : Heap} {b : Nat} {L : List Asr} {p : Bool} {x y : Dy} {Q : Value → Heap → Prop} (s : Sep a h (blkA b [.bool p] 149 :: L)) (hx : DyG x) (hy : DyG y)
    (hQ : ∀ h', Sep a h' (blkA b [.bool (p && (mulM x y).isSome)] 149 :: L) → Q (.agg (dyC (keepM p (mulM x y))).toArray) h') :
    CallsV Tryz.prog 150 [.pointer (some ⟨b, 0, none⟩), .agg (dyC x).toArray, .agg (dyC y).toArray] h Q := by
  refine CallsV.start Tryz.func150 rfl (by rw [Tryz.results150]) (by kernel_rfl) (by rw [Tryz.ntmps150]; simp) ?_
  have s := ((s.newBlk (dyC x) 97 true).newBlk (dyC y) 97 true).newBlk [.int .i64 0, .int .i64 0] 97 true
  simp only [List.append_assoc, List.cons_append, List.nil_append, List.length_append, List.length_cons, List.length_nil, Nat.reduceAdd] at s
  have ga := (s.pull 2 rfl).rdAll (n := 2) rfl
  have gb := (s.pull 1 rfl).rdAll (n := 2) rfl
  simp (disch := omega) only [WA, ↓reduceIte, jA, jB, jD, jE, jF, jG, jH, jI, jJ, ga, gb]
  refine .inl ⟨by kernel_rfl, ?_⟩; refine productOf_c hx hy fun h1 E1 => ?_
  have s := s.mono E1
  rw [optV_eq]
  simp (disch := omega) only [WA, ↓reduceIte, jA, jB, jD, jE, jF, jG, jH, jI, jJ]
  refine .inl ⟨by kernel_rfl, ?_⟩; refine keep_c (s.pull 3 rfl) fun h2 s => ?_
  simp (disch := omega) only [WA, ↓reduceIte, jA, jB, jD, jE, jF, jG, jH, jI, jJ]
  refine sep_store (s.pull 1 rfl) (by simp) fun h3 s => ?_
  have s := s.as (ds := dyC (keepM p (mulM x y))) (by simp [t_put, keepM])
  have gz := s.rdAll (n := 2) rfl
  simp (disch := omega) only [WA, ↓reduceIte, jA, jB, jD, jE, jF, jG, jH, jI, jJ, gz]
  exact hQ _ ((s.tail).swap.tail.swap.tail)
theorem rsumP_c {a h : Heap} {b : Nat} {L : List Asr} {p : Bool} {x y : Dy} {Q : Value → Heap → Prop} (s : Sep a h (blkA b [.bool p] 149 :: L)) (hx : DyG x) (hy : DyG y)
    (hQ : ∀ h', Sep a h' (blkA b [.bool (p && (sumM' x y).isSome)] 149 :: L) → Q (.agg (dyC (keepM p (sumM' x y))).toArray) h') :
    CallsV Tryz.prog 152 [.pointer (some ⟨b, 0, none⟩), .agg (dyC x).toArray, .agg (dyC y).toArray] h Q := by
  refine CallsV.start Tryz.func152 rfl (by rw [Tryz.results152]) (by kernel_rfl) (by rw [Tryz.ntmps152]; simp) ?_
  have s := ((s.newBlk (dyC x) 97 true).newBlk (dyC y) 97 true).newBlk [.int .i64 0, .int .i64 0] 97 true
  simp only [List.append_assoc, List.cons_append, List.nil_append, List.length_append, List.length_cons, List.length_nil, Nat.reduceAdd] at s
  have ga := (s.pull 2 rfl).rdAll (n := 2) rfl
  have gb := (s.pull 1 rfl).rdAll (n := 2) rfl
  simp (disch := omega) only [WA, ↓reduceIte, jA, jB, jD, jE, jF, jG, jH, jI, jJ, ga, gb]
  refine .inl ⟨by kernel_rfl, ?_⟩; refine sumOf_c hx hy fun h1 E1 => ?_
  have s := s.mono E1
  rw [optV_eq]
  simp (disch := omega) only [WA, ↓reduceIte, jA, jB, jD, jE, jF, jG, jH, jI, jJ]
  refine .inl ⟨by kernel_rfl, ?_⟩; refine keep_c (s.pull 3 rfl) fun h2 s => ?_
  simp (disch := omega) only [WA, ↓reduceIte, jA, jB, jD, jE, jF, jG, jH, jI, jJ]
  refine sep_store (s.pull 1 rfl) (by simp) fun h3 s => ?_
  have s := s.as (ds := dyC (keepM p (sumM' x y))) (by simp [t_put, keepM])
  have gz := s.rdAll (n := 2) rfl
  simp (disch := omega) only [WA, ↓reduceIte, jA, jB, jD, jE, jF, jG, jH, jI, jJ, gz]
  exact hQ _ ((s.tail).swap.tail.swap.tail)
end Go.Proofs
end

section
set_option linter.unusedSimpArgs false
set_option linter.unusedVariables false
set_option maxRecDepth 4000
namespace Go.Proofs
open Go Go.V
open Nat renaming reduceEqDiff → jA, reduceAdd → jB, reduceMul → jD, reduceSub → jE, reduceLeDiff → jF
open Int renaming reduceLT → jG, reduceLE → jH, reduceNeg → jI, reduceEq → jJ
/- Comparing, rounding. -/
theorem sgnN_sgn (a b : Nat) : sgnN a b = sgn ((a : Int) - b) := by
  unfold sgnN sgn
  by_cases c1 : a < b
  · rw [if_pos c1, if_neg (by omega), if_pos (by omega)]
  · by_cases c2 : b < a
    · rw [if_neg c1, if_pos c2, if_pos (by omega)]
    · rw [if_neg c1, if_neg c2, if_neg (by omega), if_neg (by omega)]
theorem compareWide_c {a b : Wd} {h : Heap} {Q : Value → Heap → Prop} (ga : a.G) (gb : b.G) (hQ : ∀ h', Ext h h' → Q (.int .i64 (sgn (a.val - b.val))) h') :
    CallsV Tryz.prog 149 [.agg a.cs.toArray, .agg b.cs.toArray] h Q := by
  refine CallsV.start Tryz.func149 rfl (by rw [Tryz.results149]) (by kernel_rfl) (by rw [Tryz.ntmps149]; simp) ?_
  have s := Sep.blk2 h a.cs b.cs 130 130 true true
  have g1 := (s.pull 1 rfl).rdAll (n := 3) rfl
  have g2 := (s.pull 0 rfl).rdAll (n := 3) rfl
  simp (disch := omega) only [WA, ↓reduceIte, jA, jB, jD, jE, jF, jG, jH, jI, jJ, g1, g2]
  refine .inl ⟨by kernel_rfl, ?_⟩; refine isZero_c fun h1 E1 => ?_
  have s := s.mono E1
  have g1 := (s.pull 1 rfl).rd
  have g2 := (s.pull 0 rfl).rd
  have f1 := (s.pull 1 rfl).rdAll (n := 3) rfl
  have f2 := (s.pull 0 rfl).rdAll (n := 3) rfl
  by_cases z1 : a.mag = 0
  · have d1 := decide_eq_true z1
    simp (disch := omega) only [WA, ↓reduceIte, jA, jB, jD, jE, jF, jG, jH, jI, jJ, d1, f1, f2, g1, g2]
    refine .inl ⟨by kernel_rfl, ?_⟩; refine isZero_c fun h2 E2 => ?_
    have s := s.mono E2
    have g1 := (s.pull 1 rfl).rd
    have g2 := (s.pull 0 rfl).rd
    have f1 := (s.pull 1 rfl).rdAll (n := 3) rfl
    have f2 := (s.pull 0 rfl).rdAll (n := 3) rfl
    by_cases z2 : b.mag = 0
    · have d2 := decide_eq_true z2
      have e : sgn (a.val - b.val) = 0 := by
        unfold Wd.val
        rw [z1, z2]
        split <;> split <;> rfl
      rw [e] at hQ
      simp (disch := omega) only [WA, ↓reduceIte, jA, jB, jD, jE, jF, jG, jH, jI, jJ, d2]
      exact hQ _ s.ext
    · have d2 := decide_eq_false z2
      simp (disch := omega) only [WA, ↓reduceIte, jA, jB, jD, jE, jF, jG, jH, jI, jJ, d2, g1, g2]
      by_cases n1 : a.neg = b.neg
      · have n1' : (!(a.neg == b.neg)) = false := by rw [n1]; simp
        simp (disch := omega) only [WA, ↓reduceIte, jA, jB, jD, jE, jF, jG, jH, jI, jJ, n1', b_neb, g1, g2]
        cases hn : a.neg with
        | true =>
          have hb : b.neg = true := by rw [← n1]; exact hn
          have e : sgn (a.val - b.val) = sgnN b.mag a.mag := by
            rw [sgnN_sgn]; unfold Wd.val; rw [hn, hb]; congr 1; simp only [if_true]; omega
          rw [e] at hQ
          simp (disch := omega) only [WA, ↓reduceIte, jA, jB, jD, jE, jF, jG, jH, jI, jJ, hn, f1, f2]
          refine .inl ⟨by kernel_rfl, ?_⟩; refine compareSizes_c gb ga fun h3 E3 => ?_
          exact hQ _ (s.ext.trans E3)
        | false =>
          have hb : b.neg = false := by rw [← n1]; exact hn
          have e : sgn (a.val - b.val) = sgnN a.mag b.mag := by
            rw [sgnN_sgn]; unfold Wd.val; rw [hn, hb]; rfl
          rw [e] at hQ
          simp (disch := omega) only [WA, ↓reduceIte, jA, jB, jD, jE, jF, jG, jH, jI, jJ, hn, f1, f2]
          refine .inl ⟨by kernel_rfl, ?_⟩; refine compareSizes_c ga gb fun h3 E3 => ?_
          exact hQ _ (s.ext.trans E3)
      · have n1' : (!(a.neg == b.neg)) = true := by simpa using n1
        simp (disch := omega) only [WA, ↓reduceIte, jA, jB, jD, jE, jF, jG, jH, jI, jJ, n1', b_neb, g1, g2]
        cases hn : a.neg with
        | true =>
          have hb : b.neg = false := by cases hb : b.neg <;> simp_all
          have e : sgn (a.val - b.val) = -1 := by
            unfold Wd.val sgn; rw [hn, hb]; simp only [if_true]; rw [if_neg (by simp only [Bool.false_eq_true, if_false]; omega), if_pos (by simp only [Bool.false_eq_true, if_false]; omega)]
          rw [e] at hQ
          simp (disch := omega) only [WA, ↓reduceIte, jA, jB, jD, jE, jF, jG, jH, jI, jJ, hn]
          exact hQ _ s.ext
        | false =>
          have hb : b.neg = true := by cases hb : b.neg <;> simp_all
          have e : sgn (a.val - b.val) = 1 := by
            unfold Wd.val sgn; rw [hn, hb]; simp only [if_true]; rw [if_pos (by simp only [Bool.false_eq_true, if_false]; omega)]
          rw [e] at hQ
          simp (disch := omega) only [WA, ↓reduceIte, jA, jB, jD, jE, jF, jG, jH, jI, jJ, hn]
          exact hQ _ s.ext
  · have d1 := decide_eq_false z1
    simp (disch := omega) only [WA, ↓reduceIte, jA, jB, jD, jE, jF, jG, jH, jI, jJ, d1, f1, f2, g1, g2]
    by_cases n1 : a.neg = b.neg
    · have n1' : (!(a.neg == b.neg)) = false := by rw [n1]; simp
      simp (disch := omega) only [WA, ↓reduceIte, jA, jB, jD, jE, jF, jG, jH, jI, jJ, n1', b_neb, g1, g2]
      cases hn : a.neg with
      | true =>
        have hb : b.neg = true := by rw [← n1]; exact hn
        have e : sgn (a.val - b.val) = sgnN b.mag a.mag := by
          rw [sgnN_sgn]; unfold Wd.val; rw [hn, hb]; congr 1; simp only [if_true]; omega
        rw [e] at hQ
        simp (disch := omega) only [WA, ↓reduceIte, jA, jB, jD, jE, jF, jG, jH, jI, jJ, hn, f1, f2]
        refine .inl ⟨by kernel_rfl, ?_⟩; refine compareSizes_c gb ga fun h3 E3 => ?_
        exact hQ _ (s.ext.trans E3)
      | false =>
        have hb : b.neg = false := by rw [← n1]; exact hn
        have e : sgn (a.val - b.val) = sgnN a.mag b.mag := by
          rw [sgnN_sgn]; unfold Wd.val; rw [hn, hb]; rfl
        rw [e] at hQ
        simp (disch := omega) only [WA, ↓reduceIte, jA, jB, jD, jE, jF, jG, jH, jI, jJ, hn, f1, f2]
        refine .inl ⟨by kernel_rfl, ?_⟩; refine compareSizes_c ga gb fun h3 E3 => ?_
        exact hQ _ (s.ext.trans E3)
    · have n1' : (!(a.neg == b.neg)) = true := by simpa using n1
      simp (disch := omega) only [WA, ↓reduceIte, jA, jB, jD, jE, jF, jG, jH, jI, jJ, n1', b_neb, g1, g2]
      cases hn : a.neg with
      | true =>
        have hb : b.neg = false := by cases hb : b.neg <;> simp_all
        have e : sgn (a.val - b.val) = -1 := by
          unfold Wd.val sgn; rw [hn, hb]; simp only [if_true]; rw [if_neg (by simp only [Bool.false_eq_true, if_false]; omega), if_pos (by simp only [Bool.false_eq_true, if_false]; omega)]
        rw [e] at hQ
        simp (disch := omega) only [WA, ↓reduceIte, jA, jB, jD, jE, jF, jG, jH, jI, jJ, hn]
        exact hQ _ s.ext
      | false =>
        have hb : b.neg = true := by cases hb : b.neg <;> simp_all
        have e : sgn (a.val - b.val) = 1 := by
          unfold Wd.val sgn; rw [hn, hb]; simp only [if_true]; rw [if_pos (by simp only [Bool.false_eq_true, if_false]; omega)]
        rw [e] at hQ
        simp (disch := omega) only [WA, ↓reduceIte, jA, jB, jD, jE, jF, jG, jH, jI, jJ, hn]
        exact hQ _ s.ext
theorem compareD_c {a b : Dy} {h : Heap} {Q : Value → Heap → Prop} (ha : DyG a) (hb : DyG b) (hQ : ∀ h', Ext h h' → Q (.int .i64 (cmpM a b)) h') :
    CallsV Tryz.prog 138 [.agg (dyC a).toArray, .agg (dyC b).toArray] h Q := by
  refine CallsV.start Tryz.func138 rfl (by rw [Tryz.results138]) (by kernel_rfl) (by rw [Tryz.ntmps138]; simp) ?_
  have s := Sep.blk2 h (dyC a) (dyC b) 97 97 true true
  have hk := kM_le ha hb
  have hka := ha.k0
  have hkb := hb.k0
  have ga := (s.pull 1 rfl).rd
  have gb := (s.pull 0 rfl).rd
  have em : max a.k b.k = ((kM a b : Nat) : Int) := by unfold kM; omega
  have ea : ((kM a b : Nat) : Int) - a.k = ((kM a b - a.k.toNat : Nat) : Int) := by unfold kM; omega
  have eb : ((kM a b : Nat) : Int) - b.k = ((kM a b - b.k.toNat : Nat) : Int) := by unfold kM; omega
  have ma := up_wide ha (k := kM a b - a.k.toNat) (by omega)
  have mb := up_wide hb (k := kM a b - b.k.toNat) (by omega)
  have hn0 := ha.n0
  have hn1 := ha.n1
  have hm0 := hb.n0
  have hm1 := hb.n1
  have ev : sgn ((shlM (wideM a.n) (kM a b - a.k.toNat)).val - (shlM (wideM b.n) (kM a b - b.k.toNat)).val) = cmpM a b := by
    rw [shl_valM, shl_valM, wideM_val, wideM_val, cmpM_at ha hb (Nat.le_refl _) hk]; rfl
  simp (disch := omega) only [WA, ↓reduceIte, jA, jB, jD, jE, jF, jG, jH, jI, jJ, ga, gb, em]
  refine draw_ord [0, 1, 3, 4, 5, 6, 8, 9, 11, 12, 13, 14, 2, 7, 10, 15, 16, 17] (by kernel_rfl) (by simp only [WLF]; rfl) ?_
  simp (disch := omega) only [WA, ↓reduceIte, jA, jB, jD, jE, jF, jG, jH, jI, jJ, ga, gb]
  refine .inl ⟨by kernel_rfl, ?_⟩; refine wideOf_c (by omega) fun h1 E1 => ?_
  have s := s.mono E1
  have ga := (s.pull 1 rfl).rd
  have gb := (s.pull 0 rfl).rd
  simp (disch := omega) only [WA, ↓reduceIte, jA, jB, jD, jE, jF, jG, jH, jI, jJ, ga, gb, ea, eb, wrap_in]
  refine .inl ⟨by kernel_rfl, ?_⟩; refine shiftL_c (wideM_G (by omega)) (by omega) (by omega) fun h2 E2 => ?_
  have s := s.mono E2
  have ga := (s.pull 1 rfl).rd
  have gb := (s.pull 0 rfl).rd
  simp (disch := omega) only [WA, ↓reduceIte, jA, jB, jD, jE, jF, jG, jH, jI, jJ, ga, gb, ea, eb, wrap_in]
  refine .inl ⟨by kernel_rfl, ?_⟩; refine wideOf_c (by omega) fun h3 E3 => ?_
  have s := s.mono E3
  have ga := (s.pull 1 rfl).rd
  have gb := (s.pull 0 rfl).rd
  simp (disch := omega) only [WA, ↓reduceIte, jA, jB, jD, jE, jF, jG, jH, jI, jJ, ga, gb, ea, eb, wrap_in]
  refine .inl ⟨by kernel_rfl, ?_⟩; refine shiftL_c (wideM_G (by omega)) (by omega) (by omega) fun h4 E4 => ?_
  have s := s.mono E4
  have ga := (s.pull 1 rfl).rd
  have gb := (s.pull 0 rfl).rd
  simp (disch := omega) only [WA, ↓reduceIte, jA, jB, jD, jE, jF, jG, jH, jI, jJ, ga, gb]
  refine .inl ⟨by kernel_rfl, ?_⟩; refine compareWide_c (wdOf_G _ (by omega)) (wdOf_G _ (by omega)) fun h5 E5 => ?_
  rw [ev]
  have s := s.mono E5
  have ga := (s.pull 1 rfl).rd
  have gb := (s.pull 0 rfl).rd
  simp (disch := omega) only [WA, ↓reduceIte, jA, jB, jD, jE, jF, jG, jH, jI, jJ, ga, gb]
  exact hQ _ s.ext
theorem lesser_c {a b : Dy} {h : Heap} {Q : Value → Heap → Prop} (ha : DyG a) (hb : DyG b) (hQ : ∀ h', Ext h h' → Q (.agg (dyC (lsM a b)).toArray) h') :
    CallsV Tryz.prog 128 [.agg (dyC a).toArray, .agg (dyC b).toArray] h Q := by
  refine CallsV.start Tryz.func128 rfl (by rw [Tryz.results128]) (by kernel_rfl) (by rw [Tryz.ntmps128]; simp) ?_
  have s := Sep.blk3 h (dyC a) (dyC b) [.int .i64 0, .int .i64 0] 97 97 97 true true true
  have ga := (s.pull 2 rfl).rdAll (n := 2) rfl
  have gb := (s.pull 1 rfl).rdAll (n := 2) rfl
  simp (disch := omega) only [WA, ↓reduceIte, jA, jB, jD, jE, jF, jG, jH, jI, jJ, ga, gb]
  refine .inl ⟨by kernel_rfl, ?_⟩; refine compareD_c hb ha fun h1 E1 => ?_
  have s := s.mono E1
  have ga := (s.pull 2 rfl).rdAll (n := 2) rfl
  have gb := (s.pull 1 rfl).rdAll (n := 2) rfl
  unfold lsM at hQ
  by_cases c : cmpM b a < 0
  · rw [if_pos c] at hQ
    simp (disch := omega) only [WA, ↓reduceIte, jA, jB, jD, jE, jF, jG, jH, jI, jJ, c, ga, gb]
    refine sep_store (s.pull 0 rfl) (by simp) fun h7 s => ?_
    have s := s.as (ds := dyC b) (by simp [t_put])
    have gz := (s.pull 0 rfl).rdAll (n := 2) rfl
    simp (disch := omega) only [WA, ↓reduceIte, jA, jB, jD, jE, jF, jG, jH, jI, jJ, gz]
    exact hQ _ s.ext
  · rw [if_neg c] at hQ
    simp (disch := omega) only [WA, ↓reduceIte, jA, jB, jD, jE, jF, jG, jH, jI, jJ, c, ga, gb]
    refine sep_store (s.pull 0 rfl) (by simp) fun h7 s => ?_
    have s := s.as (ds := dyC a) (by simp [t_put])
    have gz := (s.pull 0 rfl).rdAll (n := 2) rfl
    simp (disch := omega) only [WA, ↓reduceIte, jA, jB, jD, jE, jF, jG, jH, jI, jJ, gz]
    exact hQ _ s.ext
theorem greater_c {a b : Dy} {h : Heap} {Q : Value → Heap → Prop} (ha : DyG a) (hb : DyG b) (hQ : ∀ h', Ext h h' → Q (.agg (dyC (gtM a b)).toArray) h') :
    CallsV Tryz.prog 129 [.agg (dyC a).toArray, .agg (dyC b).toArray] h Q := by
  refine CallsV.start Tryz.func129 rfl (by rw [Tryz.results129]) (by kernel_rfl) (by rw [Tryz.ntmps129]; simp) ?_
  have s := Sep.blk3 h (dyC a) (dyC b) [.int .i64 0, .int .i64 0] 97 97 97 true true true
  have ga := (s.pull 2 rfl).rdAll (n := 2) rfl
  have gb := (s.pull 1 rfl).rdAll (n := 2) rfl
  simp (disch := omega) only [WA, ↓reduceIte, jA, jB, jD, jE, jF, jG, jH, jI, jJ, ga, gb]
  refine .inl ⟨by kernel_rfl, ?_⟩; refine compareD_c hb ha fun h1 E1 => ?_
  have s := s.mono E1
  have ga := (s.pull 2 rfl).rdAll (n := 2) rfl
  have gb := (s.pull 1 rfl).rdAll (n := 2) rfl
  unfold gtM at hQ
  by_cases c : 0 < cmpM b a
  · rw [if_pos c] at hQ
    simp (disch := omega) only [WA, ↓reduceIte, jA, jB, jD, jE, jF, jG, jH, jI, jJ, c, ga, gb]
    refine sep_store (s.pull 0 rfl) (by simp) fun h7 s => ?_
    have s := s.as (ds := dyC b) (by simp [t_put])
    have gz := (s.pull 0 rfl).rdAll (n := 2) rfl
    simp (disch := omega) only [WA, ↓reduceIte, jA, jB, jD, jE, jF, jG, jH, jI, jJ, gz]
    exact hQ _ s.ext
  · rw [if_neg c] at hQ
    simp (disch := omega) only [WA, ↓reduceIte, jA, jB, jD, jE, jF, jG, jH, jI, jJ, c, ga, gb]
    refine sep_store (s.pull 0 rfl) (by simp) fun h7 s => ?_
    have s := s.as (ds := dyC a) (by simp [t_put])
    have gz := (s.pull 0 rfl).rdAll (n := 2) rfl
    simp (disch := omega) only [WA, ↓reduceIte, jA, jB, jD, jE, jF, jG, jH, jI, jJ, gz]
    exact hQ _ s.ext
theorem shr_i (n : Int) (k : Nat) (h : k ≤ 64) : Int.fdiv n (2 ^ min k 64) = n / 2 ^ k := by
  have e : min k 64 = k := by omega
  rw [e, Int.fdiv_eq_ediv_of_nonneg _ (Int.le_of_lt (pow_pos' k))]
theorem div_in {n : Int} (k : Nat) (h : -1099511627776 ≤ n ∧ n ≤ 1099511627776) : -1099511627776 ≤ n / 2 ^ k ∧ n / 2 ^ k ≤ 1099511627776 := by
  have hp := pow_pos' k
  have h1 := h.1
  have h2 := h.2
  constructor
  · refine (Int.le_ediv_iff_mul_le hp).2 ?_
    have : 1099511627776 * 1 ≤ 1099511627776 * (2 : Int) ^ k := Int.mul_le_mul_of_nonneg_left (by omega) (by decide)
    rw [Int.neg_mul]; omega
  · have : n / 2 ^ k < 1099511627777 := by
      refine (Int.ediv_lt_iff_lt_mul hp).2 ?_
      have : 1099511627777 * 1 ≤ 1099511627777 * (2 : Int) ^ k := Int.mul_le_mul_of_nonneg_left (by omega) (by decide)
      omega
    omega
theorem i64bits : IntKind.i64.bits = 64 := rfl
theorem roundDown_c {a : Dy} {h : Heap} {Q : Value → Heap → Prop} (ha : DyG a) (hQ : ∀ h', Ext h h' → Q (.agg (dyC (rdM a)).toArray) h') :
    CallsV Tryz.prog 159 [.agg (dyC a).toArray, .int .i64 16] h Q := by
  refine CallsV.start Tryz.func159 rfl (by rw [Tryz.results159]) (by kernel_rfl) (by rw [Tryz.ntmps159]; simp) ?_
  have s := Sep.blk2 h (dyC a) [.int .i64 0, .int .i64 0] 97 97 true true
  have ga := (s.pull 1 rfl).rd
  have fa := (s.pull 1 rfl).rdAll (n := 2) rfl
  have ak0 := ha.k0
  have ak1 := ha.k1
  unfold rdM at hQ
  by_cases c : a.k ≤ 16
  · rw [if_pos c] at hQ
    simp (disch := omega) only [WA, ↓reduceIte, jA, jB, jD, jE, jF, jG, jH, jI, jJ, ga, fa, c]
    exact hQ _ (.app _ _)
  · rw [if_neg c] at hQ
    have ek : a.k - 16 = ((a.k.toNat - 16 : Nat) : Int) := by omega
    have n1 : ¬ ((a.k.toNat - 16 : Nat) : Int) < 0 := by omega
    have hsh := shr_i a.n (a.k.toNat - 16) (by omega)
    have hin := div_in (a.k.toNat - 16) ⟨ha.n0, ha.n1⟩
    simp (disch := omega) only [WA, ↓reduceIte, jA, jB, jD, jE, jF, jG, jH, jI, jJ, ga, fa, c, ek, wrap_in, n1, hsh, i64bits]
    refine .inl ⟨by kernel_rfl, ?_⟩; refine wideOf_c (by omega) fun h1 E1 => ?_
    have s := s.mono E1
    simp (disch := omega) only [WA, ↓reduceIte, jA, jB, jD, jE, jF, jG, jH, jI, jJ]
    refine .inl ⟨by kernel_rfl, ?_⟩; refine fit_c (k := 16) (wideM_G (by omega)) (by omega) fun h2 E2 => ?_
    have s := s.mono E2
    rw [wideM_val, optV_eq]
    simp (disch := omega) only [WA, ↓reduceIte, jA, jB, jD, jE, jF, jG, jH, jI, jJ]
    have s := s.newBlk (dyC ((makeM (a.n / 2 ^ (a.k.toNat - 16)) 16).getD ⟨0, 0⟩)) 97 true
    refine sep_store (s.pull 1 rfl) (by simp) fun h7 s => ?_
    have s := s.as (ds := dyC ((makeM (a.n / 2 ^ (a.k.toNat - 16)) 16).getD ⟨0, 0⟩)) (by simp [t_put])
    have gz := (s.pull 0 rfl).rdAll (n := 2) rfl
    simp (disch := omega) only [WA, ↓reduceIte, jA, jB, jD, jE, jF, jG, jH, jI, jJ, gz]
    exact hQ _ s.ext
end Go.Proofs
end
