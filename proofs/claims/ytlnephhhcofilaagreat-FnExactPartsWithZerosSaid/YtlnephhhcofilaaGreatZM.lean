/- Contracts of functions, facts of types, or the plain law behind one statement (own work): ZM. Conditions: those told in each theorem. -/
import Derived.Test.YtlnephhhcofilaaGreatMC
set_option linter.all false
set_option linter.unusedSimpArgs false
set_option linter.unusedVariables false
set_option maxRecDepth 4000
namespace Go.Proofs
open Go Go.V
open Nat renaming reduceEqDiff → jA, reduceAdd → jB, reduceMul → jD, reduceSub → jE, reduceLeDiff → jF
open Int renaming reduceLT → jG, reduceLE → jH, reduceNeg → jI, reduceEq → jJ
/-- The rest of a number below its whole part. -/
def frD (a : Dy) : Dy := ⟨a.n - flD a * 2 ^ a.k.toNat, a.k⟩
theorem frD_bound (a : Dy) : 0 ≤ (frD a).n ∧ (frD a).n < 2 ^ a.k.toNat := by
  have hp : (0 : Int) < 2 ^ a.k.toNat := Int.pow_pos (by decide)
  have h1 := Int.emod_nonneg a.n (show (2 : Int) ^ a.k.toNat ≠ 0 by omega)
  have h2 := Int.emod_lt_of_pos a.n hp
  have h3 := Int.mul_ediv_add_emod a.n (2 ^ a.k.toNat)
  have h4 : (frD a).n = a.n % 2 ^ a.k.toNat := by
    show a.n - a.n / 2 ^ a.k.toNat * 2 ^ a.k.toNat = _
    rw [Int.mul_comm (a.n / _)]; omega
  omega
theorem frD_good {a : Dy} (ha : DyG a) : DyG (frD a) := by
  have hb := frD_bound a
  have hk0 := ha.k0
  have hk1 := ha.k1
  have hp := pow_le (j := a.k.toNat) (by omega)
  refine ⟨ha.k0, ha.k1, by omega, by omega, ?_⟩
  rcases ha.odd with h | h
  · exact .inl h
  · by_cases hk : a.k = 0
    · exact .inl hk
    · right
      obtain ⟨j, hj⟩ : ∃ j, a.k.toNat = j + 1 := ⟨a.k.toNat - 1, by omega⟩
      show (a.n - flD a * 2 ^ a.k.toNat) % 2 = 1
      rw [hj, Int.pow_succ, ← Int.mul_assoc]
      omega
theorem fr_up {a : Dy} (ha : DyG a) : upM (frD a) 24 = upM a 24 - flD a * 2 ^ 24 ∧ 0 ≤ upM (frD a) 24 ∧ upM (frD a) 24 < 2 ^ 24 := by
  have hk0 := ha.k0
  have hk1 := ha.k1
  have hb := frD_bound a
  have hp : (0 : Int) < 2 ^ (24 - a.k.toNat) := Int.pow_pos (by decide)
  have he : (2 : Int) ^ 24 = 2 ^ a.k.toNat * 2 ^ (24 - a.k.toNat) := by rw [← Int.pow_add]; congr 1; omega
  refine ⟨?_, ?_, ?_⟩
  · show (a.n - flD a * 2 ^ a.k.toNat) * 2 ^ (24 - a.k.toNat) = a.n * 2 ^ (24 - a.k.toNat) - flD a * 2 ^ 24
    rw [Int.sub_mul, he, Int.mul_assoc]
  · exact Int.mul_nonneg hb.1 (Int.le_of_lt hp)
  · rw [he]
    exact Int.mul_lt_mul_of_pos_right hb.2 hp
theorem near_fr {a : Dy} (ha : DyG a) : atM (frD a) 24 = some (upM (frD a) 24) := by
  have h := fr_up ha
  have hb := frD_bound a
  unfold atM
  by_cases c : (frD a).n = 0
  · rw [if_pos c]; unfold upM; rw [c, Int.zero_mul]
  · rw [if_neg c, if_neg]
    rintro ⟨h1, h2⟩
    apply h2
    have e : upM (frD a) 24 = (frD a).n * 2 ^ (24 - (frD a).k.toNat - 1) * 2 := by
      unfold upM
      rw [Int.mul_assoc, ← Int.pow_succ]
      congr 2
      omega
    have p24 : (2 : Int) ^ 24 = 16777216 := by decide
    rw [p24] at h
    unfold nearB
    omega
theorem cmp_parts {a b : Dy} (ha : DyG a) (hb : DyG b) : cmpM a b = if ¬ flD a = flD b then sgn (flD a - flD b) else sgn (upM (frD a) 24 - upM (frD b) 24) := by
  have h1 := fr_up ha
  have h2 := fr_up hb
  have p24 : (2 : Int) ^ 24 = 16777216 := by decide
  rw [p24] at h1 h2
  unfold cmpM
  by_cases c : flD a = flD b
  · rw [if_neg (by simpa using c), h1.1, h2.1, c]
    congr 1; omega
  · rw [if_pos c]
    unfold sgn
    rcases Int.lt_or_gt_of_ne c with k | k
    · rw [if_neg (by omega), if_pos (by omega), if_neg (by omega), if_pos (by omega)]
    · rw [if_pos (by omega), if_pos (by omega)]
theorem fl_small {a : Dy} (ha : DyG a) : -2199023255552 ≤ flD a ∧ flD a ≤ 2199023255552 := by
  have h1 := fr_up ha
  have h2 := upM_le ha (k := 24) (by decide)
  have p24 : (2 : Int) ^ 24 = 16777216 := by decide
  rw [p24] at h1
  omega
theorem dyCmp_c {a b : Dy} {h : Heap} {Q : Value → Heap → Prop} (ha : DyG a) (hb : DyG b) (hQ : ∀ h', Ext h h' → Q (.int .i64 (cmpM a b)) h') : CallsV Tryz.prog 87 [.agg (dyC a).toArray, .agg (dyC b).toArray] h Q := by
  refine CallsV.start Tryz.func87 rfl (by rw [Tryz.results87]) (by kernel_rfl) (by rw [Tryz.ntmps87]; simp) ?_
  have s := Sep.blk2 h (dyC a) (dyC b) 97 97 true true
  have ga := (s.pull 1 rfl).rdAll (n := 2) rfl
  have gb := s.rdAll (n := 2) rfl
  have fa := fl_small ha
  have fb := fl_small hb
  rw [cmp_parts ha hb] at hQ
  simp (disch := omega) only [WA, ↓reduceIte, jA, jB, jD, jE, jF, jG, jH, jI, jJ]
  refine draw_ord [0, 2, 1, 3, 4, 5] (by kernel_rfl) (by simp only [WLF]; rfl) ?_
  simp (disch := omega) only [WA, ↓reduceIte, jA, jB, jD, jE, jF, jG, jH, jI, jJ, ga, gb]
  refine .inl ⟨by kernel_rfl, ?_⟩; refine dyFloor_c ha fun h1 E1 => ?_
  have s := s.mono E1
  have ga := (s.pull 1 rfl).rdAll (n := 2) rfl
  have gb := s.rdAll (n := 2) rfl
  simp (disch := omega) only [WA, ↓reduceIte, jA, jB, jD, jE, jF, jG, jH, jI, jJ, ga, gb]
  refine .inl ⟨by kernel_rfl, ?_⟩; refine dyFloor_c hb fun h2 E2 => ?_
  have s := s.mono E2
  have ga := (s.pull 1 rfl).rdAll (n := 2) rfl
  have gb := s.rdAll (n := 2) rfl
  have w0 : IntKind.i64.wrap (flD a - flD b) = flD a - flD b := wrap_in _ (by omega)
  by_cases c : flD a = flD b
  · rw [if_neg (by simpa using c)] at hQ
    have hk0 := ha.k0
    have hk1 := ha.k1
    have hn0 := ha.n0
    have hn1 := ha.n1
    have ba := frD_bound a
    have pa := pow_le (j := a.k.toNat) (by omega)
    have wa1 : IntKind.i64.wrap (flD a * 2 ^ a.k.toNat) = flD a * 2 ^ a.k.toNat := wrap_in _ (by unfold frD at ba; simp only at ba; omega)
    have wa2 : IntKind.i64.wrap (a.n - flD a * 2 ^ a.k.toNat) = (frD a).n := by rw [wrap_in _ (by unfold frD at ba; simp only at ba; omega)]; rfl
    have jk0 := hb.k0
    have jk1 := hb.k1
    have jn0 := hb.n0
    have jn1 := hb.n1
    have bb := frD_bound b
    have pb := pow_le (j := b.k.toNat) (by omega)
    have wb1 : IntKind.i64.wrap (flD b * 2 ^ b.k.toNat) = flD b * 2 ^ b.k.toNat := wrap_in _ (by unfold frD at bb; simp only at bb; omega)
    have wb2 : IntKind.i64.wrap (b.n - flD b * 2 ^ b.k.toNat) = (frD b).n := by rw [wrap_in _ (by unfold frD at bb; simp only at bb; omega)]; rfl
    have ua := fr_up ha
    have ub := fr_up hb
    have p24 : (2 : Int) ^ 24 = 16777216 := by decide
    rw [p24] at ua ub
    have w3 : IntKind.i64.wrap (upM (frD a) 24 - upM (frD b) 24) = upM (frD a) 24 - upM (frD b) 24 := wrap_in _ (by omega)
    have hka : a.k = ((a.k.toNat : Nat) : Int) := by omega
    have hkb : b.k = ((b.k.toNat : Nat) : Int) := by omega
    have ra := (s.pull 1 rfl).rd
    have rb := s.rd
    simp (disch := omega) only [WA, ↓reduceIte, jA, jB, jD, jE, jF, jG, jH, jI, jJ, ga, gb, c]
    refine draw_ord [0, 1, 2, 3, 4, 8, 9, 5, 6, 7, 10, 11, 12, 13, 14, 15, 16] (by kernel_rfl) (by simp only [WLF]; rfl) ?_
    simp (disch := omega) only [WA, ↓reduceIte, jA, jB, jD, jE, jF, jG, jH, jI, jJ, ra]
    rw [hka]
    refine .inl ⟨by kernel_rfl, ?_⟩; refine dyPow_c (k := a.k.toNat) (by omega) ?_
    rw [← hka]
    rw [c] at wa1 wa2
    have da : (dyC (frD a)).toArray = #[.int .i64 (frD a).n, .int .i64 a.k] := rfl
    have db : (dyC (frD b)).toArray = #[.int .i64 (frD b).n, .int .i64 b.k] := rfl
    simp (disch := omega) only [WA, ↓reduceIte, jA, jB, jD, jE, jF, jG, jH, jI, jJ, ra, wa1, wa2]
    rw [← da]
    refine .inl ⟨by kernel_rfl, ?_⟩; refine dyAt_c (a := frD a) (k := 24) (frD_good ha) (by decide) fun h3 E3 => ?_
    rw [near_fr ha, optI_eq]
    have s := s.mono E3
    have ra := (s.pull 1 rfl).rd
    have rb := s.rd
    simp only [Option.getD_some, Option.isSome_some]
    simp (disch := omega) only [WA, ↓reduceIte, jA, jB, jD, jE, jF, jG, jH, jI, jJ, ra]
    refine draw_ord [0, 1, 2, 3, 4, 8, 9, 5, 6, 7, 10, 11, 12, 13, 14, 15, 16] (by kernel_rfl) (by simp only [WLF]; rfl) ?_
    simp (disch := omega) only [WA, ↓reduceIte, jA, jB, jD, jE, jF, jG, jH, jI, jJ, rb]
    rw [hkb]
    refine .inl ⟨by kernel_rfl, ?_⟩; refine dyPow_c (k := b.k.toNat) (by omega) ?_
    rw [← hkb]
    simp (disch := omega) only [WA, ↓reduceIte, jA, jB, jD, jE, jF, jG, jH, jI, jJ, rb, wb1, wb2]
    rw [← db]
    refine .inl ⟨by kernel_rfl, ?_⟩; refine dyAt_c (a := frD b) (k := 24) (frD_good hb) (by decide) fun h4 E4 => ?_
    rw [near_fr hb, optI_eq]
    have s := s.mono E4
    have rb := s.rd
    simp only [Option.getD_some, Option.isSome_some]
    simp (disch := omega) only [WA, ↓reduceIte, jA, jB, jD, jE, jF, jG, jH, jI, jJ, rb, w3]
    refine .inl ⟨by kernel_rfl, ?_⟩; refine l1Sign_c ?_
    simp (disch := omega) only [WA, ↓reduceIte, jA, jB, jD, jE, jF, jG, jH, jI, jJ]
    exact hQ _ s.ext
  · rw [if_pos c] at hQ
    simp (disch := omega) only [WA, ↓reduceIte, jA, jB, jD, jE, jF, jG, jH, jI, jJ, ga, gb, c, w0]
    refine .inl ⟨by kernel_rfl, ?_⟩; refine l1Sign_c ?_
    simp (disch := omega) only [WA, ↓reduceIte, jA, jB, jD, jE, jF, jG, jH, jI, jJ]
    exact hQ _ s.ext
end Go.Proofs
