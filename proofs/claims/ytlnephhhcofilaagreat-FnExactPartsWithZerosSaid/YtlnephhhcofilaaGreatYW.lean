/- Contracts of functions, facts of types, or the plain law behind one statement (own work): YW. Conditions: those told in each theorem. -/
import Derived.Test.YtlnephhhcofilaaGreatMA
import Derived.Shelf.Spec.BitsCarry
set_option linter.all false
set_option linter.unusedSimpArgs false
set_option linter.unusedVariables false
set_option maxRecDepth 4000
namespace Go.Proofs
open Go Go.V
open Nat renaming reduceEqDiff → jA, reduceAdd → jB, reduceMul → jD, reduceSub → jE, reduceLeDiff → jF
open Int renaming reduceLT → jG, reduceLE → jH, reduceNeg → jI, reduceEq → jJ
/- Wide numbers. -/
structure Wd where
  neg : Bool
  hi : Nat
  lo : Nat
def Wd.mag (w : Wd) : Nat := w.hi * 18446744073709551616 + w.lo
def Wd.val (w : Wd) : Int := if w.neg then -(w.mag : Int) else w.mag
structure Wd.G (w : Wd) : Prop where
  hi : w.hi < 18446744073709551616
  lo : w.lo < 18446744073709551616
abbrev Wd.cs (w : Wd) : List Value := [.bool w.neg, .int .u64 w.hi, .int .u64 w.lo]
/-- A size with a sign. -/
def wdOf (b : Bool) (m : Nat) : Wd := ⟨b, m / 18446744073709551616, m % 18446744073709551616⟩
theorem wdOf_mag (b : Bool) (m : Nat) : (wdOf b m).mag = m := by unfold wdOf Wd.mag; simp only []; omega
theorem wdOf_val (b : Bool) (m : Nat) : (wdOf b m).val = if b then -(m : Int) else m := by unfold Wd.val; rw [wdOf_mag]; rfl
theorem wdOf_G (b : Bool) {m : Nat} (h : m < 18446744073709551616 * 18446744073709551616) : (wdOf b m).G := ⟨by unfold wdOf; simp only []; omega, by unfold wdOf; simp only []; omega⟩
theorem wdOf_cs (b : Bool) (m : Nat) : (wdOf b m).cs = [.bool b, .int .u64 (m / 18446744073709551616 : Nat), .int .u64 (m % 18446744073709551616 : Nat)] := rfl
theorem wrapu_nat (n : Nat) (h : n < 18446744073709551616) : IntKind.wrap .u64 (n : Int) = n := wrapu_in _ (by omega)
theorem wrapu_mod (n : Nat) : IntKind.wrap .u64 (n : Int) = ((n % 18446744073709551616 : Nat) : Int) := by
  simp [IntKind.wrap, IntKind.bits, IntKind.signed]
theorem ubits : IntKind.u64.bits = 64 := rfl
theorem shl_u (a k : Nat) (h : k ≤ 64) : IntKind.wrap .u64 ((a : Int) * 2 ^ min k 64) = ((a * 2 ^ k % 18446744073709551616 : Nat) : Int) := by
  have e : min k 64 = k := by omega
  rw [e]
  have : (a : Int) * 2 ^ k = ((a * 2 ^ k : Nat) : Int) := by simp
  rw [this, wrapu_mod]
theorem shr_u (a k : Nat) (h : k ≤ 64) : Int.fdiv (a : Int) (2 ^ min k 64) = ((a / 2 ^ k : Nat) : Int) := by
  have e : min k 64 = k := by omega
  rw [e]
  have : (2 : Int) ^ k = ((2 ^ k : Nat) : Int) := by simp
  rw [this, Int.fdiv_eq_ediv_of_nonneg _ (Int.natCast_nonneg _)]; rfl
theorem or_u (a b k : Nat) (ha : a < 18446744073709551616) (hb64 : b < 18446744073709551616) (hb : b < 2 ^ k) (hd : 2 ^ k ∣ a) : bitsV .or .u64 (a : Int) (b : Int) = some (.int .u64 ((a + b : Nat) : Int)) := by
  obtain ⟨c, rfl⟩ := hd
  have hor : 2 ^ k * c ||| b = 2 ^ k * c + b := (Nat.two_pow_add_eq_or_of_lt hb c).symm
  have hx : (BitVec.ofInt 64 ((2 ^ k * c : Nat) : Int)).toNat = 2 ^ k * c := by
    rw [BitVec.toNat_ofInt]; omega
  have hy : (BitVec.ofInt 64 (b : Int)).toNat = b := by
    rw [BitVec.toNat_ofInt]; omega
  have hlt : 2 ^ k * c + b < 18446744073709551616 := by
    rw [← hor]
    exact Nat.or_lt_two_pow (n := 64) ha hb64
  show some (Value.int .u64 (IntKind.wrap .u64 ((BitVec.ofInt 64 ((2 ^ k * c : Nat) : Int) ||| BitVec.ofInt 64 (b : Int) : BitVec 64).toNat))) = _
  rw [BitVec.toNat_or, hx, hy, hor, wrapu_nat _ hlt]
theorem b_or (n : Nat) (k : IntKind) (a b : Int) : binV .or n (.int k a) (.int k b) = bitsV .or k a b := by simp [binV, intV]
/-! ### walks -/
theorem size_c {n : Int} {h : Heap} {Q : Value → Heap → Prop} (hn : -9000000000000000000 ≤ n ∧ n ≤ 9000000000000000000) (hQ : Q (.int .u64 (n.natAbs : Nat)) h) : CallsV Tryz.prog 124 [.int .i64 n] h Q := by
  refine CallsV.start Tryz.func124 rfl (by rw [Tryz.results124]) (by kernel_rfl) (by rw [Tryz.ntmps124]; simp) ?_
  simp (disch := omega) only [WA, ↓reduceIte, jA, jB, jD, jE, jF, jG, jH, jI, jJ]
  by_cases c : n < 0
  · have e : ((n.natAbs : Nat) : Int) = 0 - n := by omega
    have c' : ¬ n < 0 → False := fun h => h c
    simp (disch := omega) only [WA, ↓reduceIte, jA, jB, jD, jE, jF, jG, jH, jI, jJ, c, wrap_in, wrapu_in]
    rw [e] at hQ
    exact hQ
  · have e : ((n.natAbs : Nat) : Int) = n := by omega
    simp (disch := omega) only [WA, ↓reduceIte, jA, jB, jD, jE, jF, jG, jH, jI, jJ, c, wrapu_in]
    rw [e] at hQ
    exact hQ
def wideM (n : Int) : Wd := ⟨decide (n < 0), 0, n.natAbs⟩
theorem wideM_val (n : Int) : (wideM n).val = n := by
  unfold wideM Wd.val Wd.mag
  by_cases c : n < 0
  · simp [c]; omega
  · simp [c]; omega
theorem wideM_mag (n : Int) : (wideM n).mag = n.natAbs := by unfold wideM Wd.mag; simp
theorem wideOf_c {n : Int} {h : Heap} {Q : Value → Heap → Prop} (hn : -9000000000000000000 ≤ n ∧ n ≤ 9000000000000000000) (hQ : ∀ h', Ext h h' → Q (.agg (wideM n).cs.toArray) h') : CallsV Tryz.prog 114 [.int .i64 n] h Q := by
  refine CallsV.start Tryz.func114 rfl (by rw [Tryz.results114]) (by kernel_rfl) (by rw [Tryz.ntmps114]; simp) ?_
  have s := Sep.blk1 h [.bool false, .int .u64 0, .int .u64 0] 130 true
  simp (disch := omega) only [WA, ↓reduceIte, jA, jB, jD, jE, jF, jG, jH, jI, jJ]
  refine .inl ⟨by kernel_rfl, ?_⟩; refine size_c hn ?_
  simp (disch := omega) only [WA, ↓reduceIte, jA, jB, jD, jE, jF, jG, jH, jI, jJ]
  exact hQ _ (.one _ _)
theorem isZero_c {w : Wd} {h : Heap} {Q : Value → Heap → Prop} (hQ : ∀ h', Ext h h' → Q (.bool (decide (w.mag = 0))) h') : CallsV Tryz.prog 125 [.agg w.cs.toArray] h Q := by
  refine CallsV.start Tryz.func125 rfl (by rw [Tryz.results125]) (by kernel_rfl) (by rw [Tryz.ntmps125]; simp) ?_
  have s := Sep.blk1 h w.cs 130 true
  have g := s.rd
  have e : (w.mag = 0) ↔ (w.hi = 0 ∧ w.lo = 0) := by unfold Wd.mag; omega
  have e : decide (w.mag = 0) = decide (w.hi = 0 ∧ w.lo = 0) := decide_eq_decide.2 e
  rw [e] at hQ
  simp (disch := omega) only [WA, ↓reduceIte, jA, jB, jD, jE, jF, jG, jH, jI, jJ, g]
  by_cases c : w.hi = 0
  · have c' : (w.hi : Int) = 0 := by omega
    simp (disch := omega) only [WA, ↓reduceIte, jA, jB, jD, jE, jF, jG, jH, jI, jJ, c', g]
    by_cases c2 : w.lo = 0
    · have c2' : (w.lo : Int) = 0 := by omega
      simp (disch := omega) only [WA, ↓reduceIte, jA, jB, jD, jE, jF, jG, jH, jI, jJ, c2']
      simpa [c, c2] using hQ _ s.ext
    · have c2' : ¬ (w.lo : Int) = 0 := by omega
      simp (disch := omega) only [WA, ↓reduceIte, jA, jB, jD, jE, jF, jG, jH, jI, jJ, c2']
      simpa [c, c2] using hQ _ s.ext
  · have c' : ¬ (w.hi : Int) = 0 := by omega
    simp (disch := omega) only [WA, ↓reduceIte, jA, jB, jD, jE, jF, jG, jH, jI, jJ, c']
    simpa [c] using hQ _ s.ext
def shlM (w : Wd) (k : Nat) : Wd := wdOf w.neg (w.mag * 2 ^ k)
theorem shl_hi {h l k : Nat} (hl : l < 18446744073709551616) (hk : k < 64) (hm : (h * 18446744073709551616 + l) * 2 ^ k < 340282366920938463463374607431768211456) :
    h * 2 ^ k % 18446744073709551616 + l / 2 ^ (64 - k) = (h * 18446744073709551616 + l) * 2 ^ k / 18446744073709551616 := by
  have hp : 2 ^ (64 - k) * 2 ^ k = 18446744073709551616 := by rw [← Nat.pow_add, show 64 - k + k = 64 by omega]
  have h0 : 0 < 2 ^ k := Nat.pow_pos (by decide)
  have e : (h * 18446744073709551616 + l) * 2 ^ k = l * 2 ^ k + (h * 2 ^ k) * 18446744073709551616 := by
    rw [Nat.add_mul, Nat.mul_right_comm]; omega
  have hlt : h * 2 ^ k < 18446744073709551616 := by
    rw [e] at hm; omega
  rw [Nat.mod_eq_of_lt hlt, e, Nat.add_mul_div_right _ _ (by decide)]
  have : l * 2 ^ k / 18446744073709551616 = l / 2 ^ (64 - k) := by
    rw [← hp, Nat.mul_div_mul_right _ _ h0]
  omega
theorem shiftL_c {w : Wd} {k : Nat} {h : Heap} {Q : Value → Heap → Prop} (g : w.G) (hk : k < 64) (hm : w.mag * 2 ^ k < 340282366920938463463374607431768211456) (hQ : ∀ h', Ext h h' → Q (.agg (shlM w k).cs.toArray) h') :
    CallsV Tryz.prog 126 [.agg w.cs.toArray, .int .i64 k] h Q := by
  refine CallsV.start Tryz.func126 rfl (by rw [Tryz.results126]) (by kernel_rfl) (by rw [Tryz.ntmps126]; simp) ?_
  have s := Sep.blk2 h w.cs [.bool false, .int .u64 0, .int .u64 0] 130 130 true true
  have gw := (s.pull 1 rfl).rd
  have c1 : (0 : Int) ≤ (k : Int) := by omega
  have c2 : ¬ (64 : Int) ≤ (k : Int) := by omega
  have k64 : (64 : Int) - (k : Int) = ((64 - k : Nat) : Int) := by omega
  have n1 : ¬ (k : Int) < 0 := by omega
  have n2 : ¬ ((64 - k : Nat) : Int) < 0 := by omega
  have hgl := g.lo
  have hgh := g.hi
  have e1 := shl_u w.hi k (by omega)
  have e2 := shr_u w.lo (64 - k) (by omega)
  have e3 := shl_u w.lo k (by omega)
  have hlt1 : w.hi * 2 ^ k % 18446744073709551616 < 18446744073709551616 := Nat.mod_lt _ (by decide)
  have hdv : w.lo / 2 ^ (64 - k) < 2 ^ k := by
    have hp : 2 ^ (64 - k) * 2 ^ k = 18446744073709551616 := by rw [← Nat.pow_add, show 64 - k + k = 64 by omega]
    exact Nat.div_lt_of_lt_mul (by rw [hp]; exact hgl)
  have hdd : 2 ^ k ∣ w.hi * 2 ^ k % 18446744073709551616 := by
    have : (18446744073709551616 : Nat) = 2 ^ k * 2 ^ (64 - k) := by rw [← Nat.pow_add, show k + (64 - k) = 64 by omega]
    rw [this]
    exact (Nat.dvd_mod_iff (Nat.dvd_mul_right _ _)).2 (Nat.dvd_mul_left _ _)
  have hor := or_u _ _ k hlt1 (Nat.lt_of_le_of_lt (Nat.div_le_self _ _) hgl) hdv hdd
  have hs : w.hi * 2 ^ k % 18446744073709551616 + w.lo / 2 ^ (64 - k) = w.mag * 2 ^ k / 18446744073709551616 := by
    unfold Wd.mag at hm ⊢
    exact shl_hi hgl hk hm
  rw [hs] at hor
  have hlow : w.lo * 2 ^ k % 18446744073709551616 = w.mag * 2 ^ k % 18446744073709551616 := by
    unfold Wd.mag
    rw [Nat.add_mul, Nat.mul_right_comm]; omega
  simp (disch := omega) only [WA, ↓reduceIte, jA, jB, jD, jE, jF, jG, jH, jI, jJ, c1, c2]
  refine draw_ord [0, 1, 2, 3, 4, 5, 6, 7, 8, 9, 10, 11, 12, 13, 14, 15, 16, 17] (by kernel_rfl) (by simp only [WLF]; rfl) ?_
  simp (disch := omega) only [WA, ↓reduceIte, jA, jB, jD, jE, jF, jG, jH, jI, jJ, gw, n1, k64, n2, wrap_in, e1, e2, e3, b_or, hor, ubits]
  have ecs : (shlM w k).cs = [.bool w.neg, .int .u64 (w.mag * 2 ^ k / 18446744073709551616 : Nat), .int .u64 (w.lo * 2 ^ k % 18446744073709551616 : Nat)] := by
    rw [hlow]
    exact wdOf_cs _ _
  rw [ecs] at hQ
  exact hQ _ (.app _ _)
def shr1M (w : Wd) : Wd := wdOf w.neg (w.mag / 2)
theorem shiftR1_c {w : Wd} {h : Heap} {Q : Value → Heap → Prop} (g : w.G) (hQ : ∀ h', Ext h h' → Q (.agg (shr1M w).cs.toArray) h') :
    CallsV Tryz.prog 126 [.agg w.cs.toArray, .int .i64 (-1)] h Q := by
  refine CallsV.start Tryz.func126 rfl (by rw [Tryz.results126]) (by kernel_rfl) (by rw [Tryz.ntmps126]; simp) ?_
  have s := Sep.blk2 h w.cs [.bool false, .int .u64 0, .int .u64 0] 130 130 true true
  have gw := (s.pull 1 rfl).rd
  have hgl := g.lo
  have hgh := g.hi
  have n0 : (0 : Int) - -1 = ((1 : Nat) : Int) := by decide
  have n1 : ¬ ((1 : Nat) : Int) < 0 := by decide
  have n2 : ¬ (64 : Int) ≤ ((1 : Nat) : Int) := by decide
  have k63 : (64 : Int) - ((1 : Nat) : Int) = ((63 : Nat) : Int) := by decide
  have n3 : ¬ ((63 : Nat) : Int) < 0 := by decide
  have n4 : ¬ (0 : Int) ≤ -1 := by decide
  have e1 := shr_u w.hi 1 (by omega)
  have e2 := shr_u w.lo 1 (by omega)
  have e3 := shl_u w.hi 63 (by omega)
  have p63 : (2 : Nat) ^ 63 = 9223372036854775808 := by decide
  have hor := or_u (w.hi * 2 ^ 63 % 18446744073709551616) (w.lo / 2 ^ 1) 63 (Nat.mod_lt _ (by decide)) (by omega) (by rw [p63]; omega) (by rw [p63]; omega)
  have hor' : bitsV .or .u64 ((w.lo / 2 ^ 1 : Nat) : Int) ((w.hi * 2 ^ 63 % 18446744073709551616 : Nat) : Int) = some (.int .u64 ((w.mag / 2 % 18446744073709551616 : Nat) : Int)) := by
    have hc : bitsV .or .u64 ((w.lo / 2 ^ 1 : Nat) : Int) ((w.hi * 2 ^ 63 % 18446744073709551616 : Nat) : Int) = bitsV .or .u64 ((w.hi * 2 ^ 63 % 18446744073709551616 : Nat) : Int) ((w.lo / 2 ^ 1 : Nat) : Int) := by
      show some (Value.int .u64 (IntKind.wrap .u64 ((BitVec.ofInt 64 ((w.lo / 2 ^ 1 : Nat) : Int) ||| BitVec.ofInt 64 ((w.hi * 2 ^ 63 % 18446744073709551616 : Nat) : Int) : BitVec 64).toNat))) = some (Value.int .u64 (IntKind.wrap .u64 ((BitVec.ofInt 64 ((w.hi * 2 ^ 63 % 18446744073709551616 : Nat) : Int) ||| BitVec.ofInt 64 ((w.lo / 2 ^ 1 : Nat) : Int) : BitVec 64).toNat)))
      rw [BitVec.or_comm]
    rw [hc, hor]
    congr 3
    unfold Wd.mag
    rw [p63]
    omega
  have hh : (w.hi / 2 ^ 1 : Nat) = w.mag / 2 / 18446744073709551616 := by
    unfold Wd.mag
    omega
  have ecs : (shr1M w).cs = [.bool w.neg, .int .u64 (w.hi / 2 ^ 1 : Nat), .int .u64 (w.mag / 2 % 18446744073709551616 : Nat)] := by
    rw [hh]
    exact wdOf_cs _ _
  rw [ecs] at hQ
  simp (disch := omega) only [WA, ↓reduceIte, jA, jB, jD, jE, jF, jG, jH, jI, jJ, n4, n0, n1, n2, wrap_in]
  refine draw_ord [0, 1, 2, 3, 4, 5, 6, 7, 8, 9, 10, 11, 12, 13, 14, 15, 16, 17] (by kernel_rfl) (by simp only [WLF]; rfl) ?_
  simp (disch := omega) only [WA, ↓reduceIte, jA, jB, jD, jE, jF, jG, jH, jI, jJ, gw, n1, k63, n3, wrap_in, e1, e2, e3, b_or, hor', ubits]
  exact hQ _ (.app _ _)
/-! ### comparing -/
def sgnN (a b : Nat) : Int := if a < b then -1 else if b < a then 1 else 0
theorem isNaNu_c {n : Nat} {h : Heap} {Q : Value → Heap → Prop} (hQ : Q (.bool false) h) : CallsV Tryz.prog 166 [.int .u64 n] h Q := by
  refine CallsV.start Tryz.func166 rfl (by rw [Tryz.results166]) (by kernel_rfl) (by rw [Tryz.ntmps166]; simp) ?_
  simp (disch := omega) only [WA, ↓reduceIte, jA, jB, jD, jE, jF, jG, jH, jI, jJ]
  exact hQ
theorem compareU_c {a b : Nat} {h : Heap} {Q : Value → Heap → Prop} (hQ : Q (.int .i64 (sgnN a b)) h) : CallsV Tryz.prog 163 [.int .u64 a, .int .u64 b] h Q := by
  refine CallsV.start Tryz.func163 rfl (by rw [Tryz.results163]) (by kernel_rfl) (by rw [Tryz.ntmps163]; simp) ?_
  simp (disch := omega) only [WA, ↓reduceIte, jA, jB, jD, jE, jF, jG, jH, jI, jJ]
  refine .inl ⟨by kernel_rfl, ?_⟩; refine isNaNu_c ?_
  simp (disch := omega) only [WA, ↓reduceIte, jA, jB, jD, jE, jF, jG, jH, jI, jJ]
  refine .inl ⟨by kernel_rfl, ?_⟩; refine isNaNu_c ?_
  unfold sgnN at hQ
  simp (disch := omega) only [WA, ↓reduceIte, jA, jB, jD, jE, jF, jG, jH, jI, jJ]
  by_cases c1 : a < b
  · have c1' : (a : Int) < (b : Int) := by omega
    rw [if_pos c1] at hQ
    simp (disch := omega) only [WA, ↓reduceIte, jA, jB, jD, jE, jF, jG, jH, jI, jJ, c1']
    exact hQ
  · have c1' : ¬ (a : Int) < (b : Int) := by omega
    rw [if_neg c1] at hQ
    simp (disch := omega) only [WA, ↓reduceIte, jA, jB, jD, jE, jF, jG, jH, jI, jJ, c1']
    by_cases c2 : b < a
    · have c2' : (b : Int) < (a : Int) := by omega
      rw [if_pos c2] at hQ
      simp (disch := omega) only [WA, ↓reduceIte, jA, jB, jD, jE, jF, jG, jH, jI, jJ, c2']
      exact hQ
    · have c2' : ¬ (b : Int) < (a : Int) := by omega
      rw [if_neg c2] at hQ
      simp (disch := omega) only [WA, ↓reduceIte, jA, jB, jD, jE, jF, jG, jH, jI, jJ, c2']
      exact hQ
theorem or2_c {x y : Int} {v : Value} {h : Heap} {Q : Value → Heap → Prop} (hv : Row h [x, y] v) (hQ : Q (.int .i64 (if x = 0 then y else x)) h) : CallsV Tryz.prog 122 [v] h Q := by
  refine CallsV.start Tryz.func122 rfl (by rw [Tryz.results122]) (by kernel_rfl) (by rw [Tryz.ntmps122]; simp) ?_
  obtain ⟨x3, _⟩ := row_int hv (i := 0) (x := x) rfl
  obtain ⟨y3, _⟩ := row_int hv (i := 1) (x := y) rfl
  rw [Nat.add_zero] at x3
  have len := hv.isRow.len Tryz.prog
  have ix := hv.isRow.ix Tryz.prog
  simp only [List.length_cons, List.length_nil] at len ix
  have t0 : Int.toNat 0 = 0 := rfl
  have t1 : Int.toNat 1 = 1 := rfl
  simp (disch := omega) only [WA, ↓reduceIte, jA, jB, jD, jE, jF, jG, jH, jI, jJ, len]
  refine loop_rule (fun n e h' => h' = h ∧ e 3 = .int .i64 0 ∧ e 6 = v ∧ e 7 = .int .i64 2 ∧ ((n = 2 ∧ e 8 = .int .i64 0) ∨ (n = 1 ∧ x = 0 ∧ e 8 = .int .i64 1) ∨ (n = 0 ∧ x = 0 ∧ y = 0 ∧ e 8 = .int .i64 2))) ?_ 2 _ _ ⟨rfl, rfl, rfl, rfl, .inl ⟨rfl, rfl⟩⟩
  rintro n e h' ⟨rfl, e3, e6, e7, hc⟩
  have q2 : ¬ (2 : Int) < 2 := by decide
  rcases hc with ⟨rfl, e8⟩ | ⟨rfl, hx, e8⟩ | ⟨rfl, hx, hy, e8⟩
  · simp (disch := omega) only [WA, ↓reduceIte, jA, jB, jD, jE, jF, jG, jH, jI, jJ, e7, e8, e6, e3, ix, x3, t0]
    by_cases c : x = 0
    · have c' := decide_eq_true c
      simp (disch := omega) only [WA, ↓reduceIte, jA, jB, jD, jE, jF, jG, jH, jI, jJ, c', e3, e6, e7, e8, wrap_in]
      exact ⟨1, by omega, .inr (.inl ⟨rfl, c, by simp⟩)⟩
    · have c' := decide_eq_false c
      rw [if_neg c] at hQ
      simp (disch := omega) only [WA, ↓reduceIte, jA, jB, jD, jE, jF, jG, jH, jI, jJ, c']
      exact hQ
  · rw [if_pos hx] at hQ
    simp (disch := omega) only [WA, ↓reduceIte, jA, jB, jD, jE, jF, jG, jH, jI, jJ, e7, e8, e6, e3, ix, y3, t1]
    by_cases c : y = 0
    · have c' := decide_eq_true c
      simp (disch := omega) only [WA, ↓reduceIte, jA, jB, jD, jE, jF, jG, jH, jI, jJ, c', e3, e6, e7, e8, wrap_in]
      exact ⟨0, by omega, .inr (.inr ⟨rfl, hx, c, by simp⟩)⟩
    · have c' := decide_eq_false c
      simp (disch := omega) only [WA, ↓reduceIte, jA, jB, jD, jE, jF, jG, jH, jI, jJ, c']
      exact hQ
  · rw [if_pos hx, hy] at hQ
    simp (disch := omega) only [WA, ↓reduceIte, jA, jB, jD, jE, jF, jG, jH, jI, jJ, e7, e8, e3]
    exact hQ
theorem sgn_mag {a b : Wd} (ga : a.G) (gb : b.G) : (if sgnN a.hi b.hi = 0 then sgnN a.lo b.lo else sgnN a.hi b.hi) = sgnN a.mag b.mag := by
  have h1 := ga.lo
  have h2 := gb.lo
  unfold sgnN Wd.mag
  by_cases c1 : a.hi < b.hi
  · rw [if_pos c1, if_neg (by decide), if_pos (show a.hi * 18446744073709551616 + a.lo < b.hi * 18446744073709551616 + b.lo by omega)]
  · by_cases c2 : b.hi < a.hi
    · rw [if_neg c1, if_pos c2, if_neg (by decide), if_neg (by omega), if_pos (by omega)]
    · rw [if_neg c1, if_neg c2, if_pos rfl]
      by_cases c3 : a.lo < b.lo
      · rw [if_pos c3, if_pos (by omega)]
      · by_cases c4 : b.lo < a.lo
        · rw [if_neg c3, if_pos c4, if_neg (by omega), if_pos (by omega)]
        · rw [if_neg c3, if_neg c4, if_neg (by omega), if_neg (by omega)]
theorem compareSizes_c {a b : Wd} {h : Heap} {Q : Value → Heap → Prop} (ga : a.G) (gb : b.G) (hQ : ∀ h', Ext h h' → Q (.int .i64 (sgnN a.mag b.mag)) h') : CallsV Tryz.prog 156 [.agg a.cs.toArray, .agg b.cs.toArray] h Q := by
  refine CallsV.start Tryz.func156 rfl (by rw [Tryz.results156]) (by kernel_rfl) (by rw [Tryz.ntmps156]; simp) ?_
  have s := Sep.blk2 h a.cs b.cs 130 130 true true
  have g1 := (s.pull 1 rfl).rd
  have g2 := (s.pull 0 rfl).rd
  rw [← sgn_mag ga gb] at hQ
  simp (disch := omega) only [WA, ↓reduceIte, jA, jB, jD, jE, jF, jG, jH, jI, jJ]
  refine draw_ord [0, 1, 2, 3, 5, 6, 7, 8, 4, 9, 10, 11, 12] (by kernel_rfl) (by simp only [WLF]; rfl) ?_
  simp (disch := omega) only [WA, ↓reduceIte, jA, jB, jD, jE, jF, jG, jH, jI, jJ, g1, g2]
  refine .inl ⟨by kernel_rfl, ?_⟩; refine compareU_c ?_
  simp (disch := omega) only [WA, ↓reduceIte, jA, jB, jD, jE, jF, jG, jH, jI, jJ, g1, g2]
  refine .inl ⟨by kernel_rfl, ?_⟩; refine compareU_c ?_
  have in1 : ∀ a b, inI64 (sgnN a b) := fun a b => by unfold sgnN inI64; split; decide; split <;> decide
  have sb := s.newBlk [.int .i64 (sgnN a.hi b.hi), .int .i64 (sgnN a.lo b.lo)] 3 true
  have g1 := (sb.pull 2 rfl).rd
  have g2 := (sb.pull 1 rfl).rd
  simp only [List.append_assoc, List.cons_append, List.nil_append, List.length_append, List.length_cons, List.length_nil] at sb g1 g2
  simp (disch := omega) only [WA, ↓reduceIte, jA, jB, jD, jE, jF, jG, jH, jI, jJ, g1, g2]
  have rr := Row.ofBlk (α := Int) (n := 2) (l := [sgnN a.hi b.hi, sgnN a.lo b.lo]) (sb.rdAll (n := 2) rfl) ⟨[[], []], ⟨[_], [], _, _, rfl, rfl, ⟨rfl, rfl, in1 _ _⟩, ⟨[_], [], _, _, rfl, rfl, ⟨rfl, rfl, in1 _ _⟩, rfl, rfl⟩⟩⟩ rfl (by simp)
  refine .inl ⟨by kernel_rfl, ?_⟩; refine or2_c rr ?_
  simp (disch := omega) only [WA, ↓reduceIte, jA, jB, jD, jE, jF, jG, jH, jI, jJ]
  exact hQ _ sb.ext
/-! ### adding -/
theorem pure_add64 (x y c : Nat) (hc : c ≤ 1) : PureCall Tryz.prog 168 [.int .u64 x, .int .u64 y, .int .u64 c] (.tuple #[.int .u64 ((x + y + c) % 18446744073709551616 : Nat), .int .u64 ((x + y + c) / 18446744073709551616 : Nat)]) := by
  refine ⟨rfl, rfl, fun w => ?_⟩
  rw [run_callFunc_extern Tryz.func168 (by kernel_rfl) (by kernel_rfl) (by kernel_rfl) (e := add64Entry) (by kernel_rfl)]
  have h := run_add64 (P := Tryz.prog) (x : Int) (y : Int) (c : Int) (by omega) (by omega) (by omega) (by omega) w
  have hh : (add64Entry [Value.int .u64 (x : Int), Value.int .u64 (y : Int), Value.int .u64 (c : Int)].toArray).run Tryz.prog w = _ := h
  rw [hh]
  simp only [Result.andThen]
  congr 5 <;> omega
theorem pure_sub64 (x y b : Nat) (hb : b ≤ 1) : PureCall Tryz.prog 169 [.int .u64 x, .int .u64 y, .int .u64 b] (.tuple #[.int .u64 ((x + 18446744073709551616 - y - b) % 18446744073709551616 : Nat), .int .u64 ((if x < y + b then 1 else 0 : Nat) : Int)]) := by
  refine ⟨rfl, rfl, fun w => ?_⟩
  rw [run_callFunc_extern Tryz.func169 (by kernel_rfl) (by kernel_rfl) (by kernel_rfl) (e := sub64Entry) (by kernel_rfl)]
  have h := run_sub64 (P := Tryz.prog) x y b hb w
  have hh : (sub64Entry [Value.int .u64 (x : Int), Value.int .u64 (y : Int), Value.int .u64 (b : Int)].toArray).run Tryz.prog w = _ := h
  rw [hh]
  rfl
end Go.Proofs
