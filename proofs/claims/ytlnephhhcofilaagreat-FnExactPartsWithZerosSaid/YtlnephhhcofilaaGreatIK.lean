/- Contracts of functions, facts of types, or the plain law behind one statement (own work): IK. Conditions: those told in each theorem. -/
import Derived.Test.YtlnephhhcofilaaGreatMD
import Derived.Test.YtlnephhhcofilaaGreatZM
set_option linter.all false
set_option linter.unusedSimpArgs false
set_option linter.unusedVariables false
set_option maxRecDepth 4000
namespace Go.Proofs
open Go Go.V
open Nat renaming reduceEqDiff → jA, reduceAdd → jB, reduceMul → jD, reduceSub → jE, reduceLeDiff → jF
open Int renaming reduceLT → jG, reduceLE → jH, reduceNeg → jI, reduceEq → jJ
theorem stripM_mul (m : Int) : ∀ (k : Nat) (n : Int), stripM (n * m) k = stripM ((stripM n k).1 * m) (stripM n k).2 := by
  intro k
  induction k with
  | zero => intro n; rfl
  | succ k ih =>
    intro n
    rcases Int.emod_two_eq n with h | h
    · obtain ⟨u, rfl⟩ : ∃ u, n = 2 * u := ⟨n / 2, by omega⟩
      rw [stripM_two, Int.mul_assoc, stripM_two, ih]
    · rw [stripM_odd _ h]
theorem makeM_mul {n m : Int} (hn : n ≠ 0) (hm : m ≠ 0) {k : Nat} {u : Int} {j : Nat} (h : stripM n k = (u, j)) : makeM (n * m) k = makeM (u * m) j := by
  have hu : u ≠ 0 := by have := stripM_ne n hn k; rw [h] at this; exact this
  unfold makeM
  rw [if_neg (Int.mul_ne_zero hn hm), if_neg (Int.mul_ne_zero hu hm), stripM_mul, h]
theorem mul_far {u w : Int} {k : Nat} (hu : u ≠ 0) (hw : w ≠ 0) (ho : k = 0 ∨ (u % 2 = 1 ∧ w % 2 = 1)) (hf : 1099511627776 < u.natAbs * w.natAbs) : makeM (u * w) k = none := by
  have hs : stripM (u * w) k = (u * w, k) := by
    rcases ho with rfl | ⟨h1, h2⟩
    · rfl
    · refine stripM_odd _ ?_
      rw [Int.mul_emod, h1, h2]; rfl
  have ha : (u * w).natAbs = u.natAbs * w.natAbs := Int.natAbs_mul u w
  unfold makeM
  rw [if_neg (Int.mul_ne_zero hu hw), hs, if_neg]
  unfold fitsB
  simp only [Bool.and_eq_true, decide_eq_true_eq]
  omega
theorem quo_abs {n : Int} (h : 0 < n) : Int.tdiv 1099511627776 n = 1099511627776 / n := Int.tdiv_eq_ediv_of_nonneg (by decide)
theorem l1Most_c' {m n : Int} {h : Heap} {Q : Value → Heap → Prop} (hQ : Q (.int .i64 (max m n)) h) : CallsV Tryz.prog 98 [.int .i64 m, .int .i64 n] h Q := by
  refine CallsV.start Tryz.func98 rfl (by rw [Tryz.results98]) (by kernel_rfl) (by rw [Tryz.ntmps98]; simp) ?_
  by_cases c : n < m
  · rw [show max m n = m by omega] at hQ
    simp (disch := omega) only [WA, ↓reduceIte, jA, jB, jD, jE, jF, jG, jH, jI, jJ, c]
    exact hQ
  · rw [show max m n = n by omega] at hQ
    simp (disch := omega) only [WA, ↓reduceIte, jA, jB, jD, jE, jF, jG, jH, jI, jJ, c]
    exact hQ
theorem l1Abs_c {n : Int} {h : Heap} {Q : Value → Heap → Prop} (hn : -9000000000000000000 ≤ n ∧ n ≤ 9000000000000000000) (hQ : Q (.int .i64 n.natAbs) h) : CallsV Tryz.prog 155 [.int .i64 n] h Q := by
  refine CallsV.start Tryz.func155 rfl (by rw [Tryz.results155]) (by kernel_rfl) (by rw [Tryz.ntmps155]; simp) ?_
  simp (disch := omega) only [WA, ↓reduceIte, jA, jB, jD, jE, jF, jG, jH, jI, jJ, wrap_in]
  refine .inl ⟨by kernel_rfl, ?_⟩; refine l1Most_c' ?_
  have e : max n (0 - n) = n.natAbs := by omega
  rw [e]
  simp (disch := omega) only [WA, ↓reduceIte, jA, jB, jD, jE, jF, jG, jH, jI, jJ]
  exact hQ
theorem half_t {u : Int} (h : u % 2 = 0) : Int.tdiv u 2 = u / 2 := by
  obtain ⟨v, rfl⟩ : ∃ v, u = 2 * v := ⟨u / 2, by omega⟩
  rw [Int.mul_tdiv_cancel_left _ (by decide), Int.mul_ediv_cancel_left _ (by decide)]
theorem dyMul_c {a b : Dy} {h : Heap} {Q : Value → Heap → Prop} (ha : DyG a) (hb : DyG b) (hQ : ∀ h', Ext h h' → Q (optV (mulM a b)) h') :
    CallsV Tryz.prog 146 [.agg (dyC a).toArray, .agg (dyC b).toArray] h Q := by
  refine CallsV.start Tryz.func146 rfl (by rw [Tryz.results146]) (by kernel_rfl) (by rw [Tryz.ntmps146]; simp) ?_
  have s := Sep.blk3 h (dyC a) (dyC b) [.int .i64 0, .int .i64 0] 97 97 97 true true true
  have ga := (s.pull 2 rfl).rd
  have gb := (s.pull 1 rfl).rd
  have a0 := ha.n0
  have a1 := ha.n1
  have b0 := hb.n0
  have b1 := hb.n1
  have ak0 := ha.k0
  have ak1 := ha.k1
  have bk0 := hb.k0
  have bk1 := hb.k1
  have hz : a.n = 0 ∨ b.n = 0 → mulM a b = some ⟨0, 0⟩ := by
    intro hz
    unfold mulM makeM
    rw [if_pos (by rcases hz with e | e <;> rw [e] <;> simp)]
  simp (disch := omega) only [WA, ↓reduceIte, jA, jB, jD, jE, jF, jG, jH, jI, jJ, ga, gb]
  by_cases z1 : a.n = 0
  · rw [hz (.inl z1), optV_eq] at hQ
    have d1 := decide_eq_true z1
    simp (disch := omega) only [WA, ↓reduceIte, jA, jB, jD, jE, jF, jG, jH, jI, jJ, d1, ga, gb]
    exact hQ _ (.app _ _)
  have d1 := decide_eq_false z1
  simp (disch := omega) only [WA, ↓reduceIte, jA, jB, jD, jE, jF, jG, jH, jI, jJ, d1, ga, gb]
  by_cases z2 : b.n = 0
  · rw [hz (.inr z2), optV_eq] at hQ
    have d2 := decide_eq_true z2
    simp (disch := omega) only [WA, ↓reduceIte, jA, jB, jD, jE, jF, jG, jH, jI, jJ, d2, ga, gb]
    exact hQ _ (.app _ _)
  have d2 := decide_eq_false z2
  have ek : a.k + b.k = ((a.k.toNat + b.k.toNat : Nat) : Int) := by omega
  simp (disch := omega) only [WA, ↓reduceIte, jA, jB, jD, jE, jF, jG, jH, jI, jJ, d2, ga, gb, ek, wrap_in]
  generalize h ++ [some ⟨dyC a, 97, false, true⟩, some ⟨dyC b, 97, false, true⟩, some ⟨[.int .i64 0, .int .i64 0], 97, false, true⟩] = H0 at s ⊢
  refine loop_rule (fun j e h' => ∃ (u : Int), e 2 = .pointer (some ⟨h.length, 0, none⟩) ∧ e 3 = .pointer (some ⟨h.length + 1, 0, none⟩) ∧ e 4 = .pointer (some ⟨h.length + 2, 0, none⟩) ∧ e 6 = .int .i64 j ∧ u ≠ 0 ∧ u.natAbs ≤ 1099511627776 ∧ j ≤ a.k.toNat + b.k.toNat ∧ stripM u j = stripM a.n (a.k.toNat + b.k.toNat) ∧
    Sep h h' [blkA (h.length + 2) [.int .i64 0, .int .i64 0] 97, blkA (h.length + 1) (dyC b) 97, blkA h.length [.int .i64 u, .int .i64 a.k] 97]) ?_ (a.k.toNat + b.k.toNat) _ _
    ⟨a.n, rfl, rfl, rfl, rfl, z1, by omega, by omega, rfl, s⟩
  clear s ga gb
  rintro j e h1 ⟨u, e2, e3, e4, e6, hu, hua, hj, hst, s⟩
  have ga := (s.pull 2 rfl).rd
  have tm := tmod2 u
  simp (disch := omega) only [WA, ↓reduceIte, jA, jB, jD, jE, jF, jG, jH, jI, jJ, e2, e6, ga]
  by_cases c1 : 0 < (j : Int)
  · have d1 := decide_eq_true c1
    by_cases c2 : Int.tmod u 2 = 0
    · have c2' := tm.1 c2
      have eq2 := half_t c2'
      have hj1 : (j : Int) - 1 = ((j - 1 : Nat) : Int) := by omega
      simp (disch := omega) only [WA, ↓reduceIte, jA, jB, jD, jE, jF, jG, jH, jI, jJ, d1, c1, c2, eq2, e2, e6, ga, wrap_in]
      refine sep_store (s.pull 2 rfl) (by simp) fun h3 s => ?_
      have s := s.as (ds := [.int .i64 (u / 2), .int .i64 a.k]) (by simp [t_put])
      simp (disch := omega) only [WA, ↓reduceIte, jA, jB, jD, jE, jF, jG, jH, jI, jJ, e6, wrap_in, hj1]
      obtain ⟨m, rfl⟩ : ∃ m, j = m + 1 := ⟨j - 1, by omega⟩
      rw [stripM_even _ c2'] at hst
      exact ⟨m, by omega, u / 2, e2, e3, e4, by simp, by omega, by omega, by omega, hst, (s.pull 2 rfl).pull 2 rfl⟩
    · have hodd : u % 2 = 1 := by have := fun e => c2 (tm.2 e); omega
      rw [stripM_odd _ hodd] at hst
      have hst := hst.symm
      simp (disch := omega) only [WA, ↓reduceIte, jA, jB, jD, jE, jF, jG, jH, jI, jJ, d1, c1, c2, e2, e6, ga]
      refine loop_rule (fun i e h' => ∃ (x : Int), e 2 = .pointer (some ⟨h.length, 0, none⟩) ∧ e 3 = .pointer (some ⟨h.length + 1, 0, none⟩) ∧ e 4 = .pointer (some ⟨h.length + 2, 0, none⟩) ∧ e 6 = .int .i64 i ∧ x ≠ 0 ∧ x.natAbs ≤ 1099511627776 ∧ i ≤ j ∧ stripM x i = stripM b.n j ∧
        Sep h h' [blkA h.length [.int .i64 u, .int .i64 a.k] 97, blkA (h.length + 1) [.int .i64 x, .int .i64 b.k] 97, blkA (h.length + 2) [.int .i64 0, .int .i64 0] 97]) ?_ j _ _
        ⟨b.n, e2, e3, e4, e6, z2, by omega, Nat.le_refl _, rfl, (s.pull 1 rfl).pull 2 rfl⟩
      clear s ga e2 e3 e4 e6
      rintro i e h2 ⟨x, e2, e3, e4, e6, hx, hxa, hi, hst2, s⟩
      have gb := (s.pull 1 rfl).rd
      have tx := tmod2 x
      simp (disch := omega) only [WA, ↓reduceIte, jA, jB, jD, jE, jF, jG, jH, jI, jJ, e3, e6, gb]
      by_cases c3 : 0 < (i : Int)
      · have d3 := decide_eq_true c3
        by_cases c4 : Int.tmod x 2 = 0
        · have c4' := tx.1 c4
          have eq2 := half_t c4'
          have hi1 : (i : Int) - 1 = ((i - 1 : Nat) : Int) := by omega
          simp (disch := omega) only [WA, ↓reduceIte, jA, jB, jD, jE, jF, jG, jH, jI, jJ, d3, c3, c4, eq2, e2, e3, e6, gb, wrap_in]
          refine sep_store (s.pull 1 rfl) (by simp) fun h3 s => ?_
          have s := s.as (ds := [.int .i64 (x / 2), .int .i64 b.k]) (by simp [t_put])
          simp (disch := omega) only [WA, ↓reduceIte, jA, jB, jD, jE, jF, jG, jH, jI, jJ, e6, wrap_in, hi1]
          obtain ⟨m, rfl⟩ : ∃ m, i = m + 1 := ⟨i - 1, by omega⟩
          rw [stripM_even _ c4'] at hst2
          exact ⟨m, by omega, x / 2, e2, e3, e4, by simp, by omega, by omega, by omega, hst2, s.swap⟩
        · have c4' : x % 2 = 1 := by have := fun e => c4 (tx.2 e); omega
          rw [stripM_odd _ c4'] at hst2
          have hst2 := hst2.symm
          simp (disch := omega) only [WA, ↓reduceIte, jA, jB, jD, jE, jF, jG, jH, jI, jJ, d3, c3, c4, e2, e3, e6, gb]
          have ga := (s.pull 0 rfl).rd
          have gb := (s.pull 1 rfl).rd
          have hmk : makeM (u * x) i = mulM a b := by
            unfold mulM
            rw [makeM_mul z1 z2 hst, Int.mul_comm u b.n, makeM_mul z2 hu hst2, Int.mul_comm x u]
          refine draw_ord [0, 1, 3, 4, 2, 5, 6, 7] (by kernel_rfl) (by simp only [WLF]; rfl) ?_
          simp (disch := omega) only [WA, ↓reduceIte, jA, jB, jD, jE, jF, jG, jH, jI, jJ, e2, e3, ga, gb]
          refine .inl ⟨by kernel_rfl, ?_⟩; refine l1Abs_c (by omega) ?_
          simp (disch := omega) only [WA, ↓reduceIte, jA, jB, jD, jE, jF, jG, jH, jI, jJ, e2, e3, ga, gb]
          refine .inl ⟨by kernel_rfl, ?_⟩; refine l1Abs_c (by omega) ?_
          have hx0 : ¬ (x.natAbs : Int) = 0 := by omega
          have hx1 : 0 < (x.natAbs : Int) := by omega
          have hq := quo_abs hx1
          have hle : 1099511627776 / (x.natAbs : Int) ≤ 1099511627776 := Int.ediv_le_self _ (by decide)
          have hge : 0 ≤ 1099511627776 / (x.natAbs : Int) := Int.ediv_nonneg (by decide) (by omega)
          have wq : IntKind.i64.wrap (1099511627776 / (x.natAbs : Int)) = 1099511627776 / (x.natAbs : Int) := wrap_in _ (by omega)
          simp (disch := omega) only [WA, ↓reduceIte, jA, jB, jD, jE, jF, jG, jH, jI, jJ, e2, e3, ga, gb, hx0, hq, wq]
          by_cases far : 1099511627776 / (x.natAbs : Int) < (u.natAbs : Int)
          · have hfar : 1099511627776 < u.natAbs * x.natAbs := by
              have := (Int.ediv_lt_iff_lt_mul hx1).1 far
              rw [← Int.natCast_mul] at this
              omega
            rw [← hmk, mul_far hu hx (.inr ⟨hodd, c4'⟩) hfar, optV_eq] at hQ
            simp (disch := omega) only [WA, ↓reduceIte, jA, jB, jD, jE, jF, jG, jH, jI, jJ, far, e4]
            refine sep_store (s.pull 2 rfl) (by simp) fun h5 s => ?_
            have s := s.as (ds := [.int .i64 0, .int .i64 0]) (by simp [t_put])
            have gz := (s.pull 0 rfl).rdAll (n := 2) rfl
            simp (disch := omega) only [WA, ↓reduceIte, jA, jB, jD, jE, jF, jG, jH, jI, jJ, gz, e4]
            exact hQ _ s.ext
          · have hnear : u.natAbs * x.natAbs ≤ 1099511627776 := by
              have : ¬ (1099511627776 < (u.natAbs : Int) * (x.natAbs : Int)) := fun hh => far ((Int.ediv_lt_iff_lt_mul hx1).2 hh)
              rw [← Int.natCast_mul] at this
              omega
            have hab : (u * x).natAbs = u.natAbs * x.natAbs := Int.natAbs_mul u x
            simp (disch := omega) only [WA, ↓reduceIte, jA, jB, jD, jE, jF, jG, jH, jI, jJ, far, e2, e3, e6, ga, gb, wrap_in]
            refine .inl ⟨by kernel_rfl, ?_⟩; refine dyMake_c (n := u * x) (k := i) (by unfold inI64; omega) (by omega) fun h4 E4 => ?_
            rw [hmk, optV_eq]
            have s := s.mono E4
            simp (disch := omega) only [WA, ↓reduceIte, jA, jB, jD, jE, jF, jG, jH, jI, jJ, e4]
            refine sep_store (s.pull 2 rfl) (by simp) fun h5 s => ?_
            have s := s.as (ds := dyC ((mulM a b).getD ⟨0, 0⟩)) (by simp [t_put])
            have gz := (s.pull 0 rfl).rdAll (n := 2) rfl
            simp (disch := omega) only [WA, ↓reduceIte, jA, jB, jD, jE, jF, jG, jH, jI, jJ, gz, e4]
            exact hQ _ s.ext
      · have hi0 : i = 0 := by omega
        have d3 := decide_eq_false c3
        have hst2 : stripM b.n j = (x, i) := by rw [← hst2, hi0]; rfl
        simp (disch := omega) only [WA, ↓reduceIte, jA, jB, jD, jE, jF, jG, jH, jI, jJ, d3, c3, e2, e3, e6, gb]
        have ga := (s.pull 0 rfl).rd
        have gb := (s.pull 1 rfl).rd
        have hmk : makeM (u * x) i = mulM a b := by
          unfold mulM
          rw [makeM_mul z1 z2 hst, Int.mul_comm u b.n, makeM_mul z2 hu hst2, Int.mul_comm x u]
        refine draw_ord [0, 1, 3, 4, 2, 5, 6, 7] (by kernel_rfl) (by simp only [WLF]; rfl) ?_
        simp (disch := omega) only [WA, ↓reduceIte, jA, jB, jD, jE, jF, jG, jH, jI, jJ, e2, e3, ga, gb]
        refine .inl ⟨by kernel_rfl, ?_⟩; refine l1Abs_c (by omega) ?_
        simp (disch := omega) only [WA, ↓reduceIte, jA, jB, jD, jE, jF, jG, jH, jI, jJ, e2, e3, ga, gb]
        refine .inl ⟨by kernel_rfl, ?_⟩; refine l1Abs_c (by omega) ?_
        have hx0 : ¬ (x.natAbs : Int) = 0 := by omega
        have hx1 : 0 < (x.natAbs : Int) := by omega
        have hq := quo_abs hx1
        have hle : 1099511627776 / (x.natAbs : Int) ≤ 1099511627776 := Int.ediv_le_self _ (by decide)
        have hge : 0 ≤ 1099511627776 / (x.natAbs : Int) := Int.ediv_nonneg (by decide) (by omega)
        have wq : IntKind.i64.wrap (1099511627776 / (x.natAbs : Int)) = 1099511627776 / (x.natAbs : Int) := wrap_in _ (by omega)
        simp (disch := omega) only [WA, ↓reduceIte, jA, jB, jD, jE, jF, jG, jH, jI, jJ, e2, e3, ga, gb, hx0, hq, wq]
        by_cases far : 1099511627776 / (x.natAbs : Int) < (u.natAbs : Int)
        · have hfar : 1099511627776 < u.natAbs * x.natAbs := by
            have := (Int.ediv_lt_iff_lt_mul hx1).1 far
            rw [← Int.natCast_mul] at this
            omega
          rw [← hmk, mul_far hu hx (.inl hi0) hfar, optV_eq] at hQ
          simp (disch := omega) only [WA, ↓reduceIte, jA, jB, jD, jE, jF, jG, jH, jI, jJ, far, e4]
          refine sep_store (s.pull 2 rfl) (by simp) fun h5 s => ?_
          have s := s.as (ds := [.int .i64 0, .int .i64 0]) (by simp [t_put])
          have gz := (s.pull 0 rfl).rdAll (n := 2) rfl
          simp (disch := omega) only [WA, ↓reduceIte, jA, jB, jD, jE, jF, jG, jH, jI, jJ, gz, e4]
          exact hQ _ s.ext
        · have hnear : u.natAbs * x.natAbs ≤ 1099511627776 := by
            have : ¬ (1099511627776 < (u.natAbs : Int) * (x.natAbs : Int)) := fun hh => far ((Int.ediv_lt_iff_lt_mul hx1).2 hh)
            rw [← Int.natCast_mul] at this
            omega
          have hab : (u * x).natAbs = u.natAbs * x.natAbs := Int.natAbs_mul u x
          simp (disch := omega) only [WA, ↓reduceIte, jA, jB, jD, jE, jF, jG, jH, jI, jJ, far, e2, e3, e6, ga, gb, wrap_in]
          refine .inl ⟨by kernel_rfl, ?_⟩; refine dyMake_c (n := u * x) (k := i) (by unfold inI64; omega) (by omega) fun h4 E4 => ?_
          rw [hmk, optV_eq]
          have s := s.mono E4
          simp (disch := omega) only [WA, ↓reduceIte, jA, jB, jD, jE, jF, jG, jH, jI, jJ, e4]
          refine sep_store (s.pull 2 rfl) (by simp) fun h5 s => ?_
          have s := s.as (ds := dyC ((mulM a b).getD ⟨0, 0⟩)) (by simp [t_put])
          have gz := (s.pull 0 rfl).rdAll (n := 2) rfl
          simp (disch := omega) only [WA, ↓reduceIte, jA, jB, jD, jE, jF, jG, jH, jI, jJ, gz, e4]
          exact hQ _ s.ext
  · have hj0 : j = 0 := by omega
    have d1 := decide_eq_false c1
    have hst : stripM a.n (a.k.toNat + b.k.toNat) = (u, j) := by rw [← hst, hj0]; rfl
    simp (disch := omega) only [WA, ↓reduceIte, jA, jB, jD, jE, jF, jG, jH, jI, jJ, d1, c1, e2, e6, ga]
    refine loop_rule (fun i e h' => ∃ (x : Int), e 2 = .pointer (some ⟨h.length, 0, none⟩) ∧ e 3 = .pointer (some ⟨h.length + 1, 0, none⟩) ∧ e 4 = .pointer (some ⟨h.length + 2, 0, none⟩) ∧ e 6 = .int .i64 i ∧ x ≠ 0 ∧ x.natAbs ≤ 1099511627776 ∧ i ≤ j ∧ stripM x i = stripM b.n j ∧
      Sep h h' [blkA h.length [.int .i64 u, .int .i64 a.k] 97, blkA (h.length + 1) [.int .i64 x, .int .i64 b.k] 97, blkA (h.length + 2) [.int .i64 0, .int .i64 0] 97]) ?_ j _ _
      ⟨b.n, e2, e3, e4, e6, z2, by omega, Nat.le_refl _, rfl, (s.pull 1 rfl).pull 2 rfl⟩
    clear s ga e2 e3 e4 e6
    rintro i e h2 ⟨x, e2, e3, e4, e6, hx, hxa, hi, hst2, s⟩
    have gb := (s.pull 1 rfl).rd
    have tx := tmod2 x
    simp (disch := omega) only [WA, ↓reduceIte, jA, jB, jD, jE, jF, jG, jH, jI, jJ, e3, e6, gb]
    by_cases c3 : 0 < (i : Int)
    · have d3 := decide_eq_true c3
      by_cases c4 : Int.tmod x 2 = 0
      · have c4' := tx.1 c4
        have eq2 := half_t c4'
        have hi1 : (i : Int) - 1 = ((i - 1 : Nat) : Int) := by omega
        simp (disch := omega) only [WA, ↓reduceIte, jA, jB, jD, jE, jF, jG, jH, jI, jJ, d3, c3, c4, eq2, e2, e3, e6, gb, wrap_in]
        refine sep_store (s.pull 1 rfl) (by simp) fun h3 s => ?_
        have s := s.as (ds := [.int .i64 (x / 2), .int .i64 b.k]) (by simp [t_put])
        simp (disch := omega) only [WA, ↓reduceIte, jA, jB, jD, jE, jF, jG, jH, jI, jJ, e6, wrap_in, hi1]
        obtain ⟨m, rfl⟩ : ∃ m, i = m + 1 := ⟨i - 1, by omega⟩
        rw [stripM_even _ c4'] at hst2
        exact ⟨m, by omega, x / 2, e2, e3, e4, by simp, by omega, by omega, by omega, hst2, s.swap⟩
      · have c4' : x % 2 = 1 := by have := fun e => c4 (tx.2 e); omega
        rw [stripM_odd _ c4'] at hst2
        have hst2 := hst2.symm
        simp (disch := omega) only [WA, ↓reduceIte, jA, jB, jD, jE, jF, jG, jH, jI, jJ, d3, c3, c4, e2, e3, e6, gb]
        have ga := (s.pull 0 rfl).rd
        have gb := (s.pull 1 rfl).rd
        have hmk : makeM (u * x) i = mulM a b := by
          unfold mulM
          rw [makeM_mul z1 z2 hst, Int.mul_comm u b.n, makeM_mul z2 hu hst2, Int.mul_comm x u]
        refine draw_ord [0, 1, 3, 4, 2, 5, 6, 7] (by kernel_rfl) (by simp only [WLF]; rfl) ?_
        simp (disch := omega) only [WA, ↓reduceIte, jA, jB, jD, jE, jF, jG, jH, jI, jJ, e2, e3, ga, gb]
        refine .inl ⟨by kernel_rfl, ?_⟩; refine l1Abs_c (by omega) ?_
        simp (disch := omega) only [WA, ↓reduceIte, jA, jB, jD, jE, jF, jG, jH, jI, jJ, e2, e3, ga, gb]
        refine .inl ⟨by kernel_rfl, ?_⟩; refine l1Abs_c (by omega) ?_
        have hx0 : ¬ (x.natAbs : Int) = 0 := by omega
        have hx1 : 0 < (x.natAbs : Int) := by omega
        have hq := quo_abs hx1
        have hle : 1099511627776 / (x.natAbs : Int) ≤ 1099511627776 := Int.ediv_le_self _ (by decide)
        have hge : 0 ≤ 1099511627776 / (x.natAbs : Int) := Int.ediv_nonneg (by decide) (by omega)
        have wq : IntKind.i64.wrap (1099511627776 / (x.natAbs : Int)) = 1099511627776 / (x.natAbs : Int) := wrap_in _ (by omega)
        simp (disch := omega) only [WA, ↓reduceIte, jA, jB, jD, jE, jF, jG, jH, jI, jJ, e2, e3, ga, gb, hx0, hq, wq]
        by_cases far : 1099511627776 / (x.natAbs : Int) < (u.natAbs : Int)
        · have hfar : 1099511627776 < u.natAbs * x.natAbs := by
            have := (Int.ediv_lt_iff_lt_mul hx1).1 far
            rw [← Int.natCast_mul] at this
            omega
          rw [← hmk, mul_far hu hx (.inl (by omega)) hfar, optV_eq] at hQ
          simp (disch := omega) only [WA, ↓reduceIte, jA, jB, jD, jE, jF, jG, jH, jI, jJ, far, e4]
          refine sep_store (s.pull 2 rfl) (by simp) fun h5 s => ?_
          have s := s.as (ds := [.int .i64 0, .int .i64 0]) (by simp [t_put])
          have gz := (s.pull 0 rfl).rdAll (n := 2) rfl
          simp (disch := omega) only [WA, ↓reduceIte, jA, jB, jD, jE, jF, jG, jH, jI, jJ, gz, e4]
          exact hQ _ s.ext
        · have hnear : u.natAbs * x.natAbs ≤ 1099511627776 := by
            have : ¬ (1099511627776 < (u.natAbs : Int) * (x.natAbs : Int)) := fun hh => far ((Int.ediv_lt_iff_lt_mul hx1).2 hh)
            rw [← Int.natCast_mul] at this
            omega
          have hab : (u * x).natAbs = u.natAbs * x.natAbs := Int.natAbs_mul u x
          simp (disch := omega) only [WA, ↓reduceIte, jA, jB, jD, jE, jF, jG, jH, jI, jJ, far, e2, e3, e6, ga, gb, wrap_in]
          refine .inl ⟨by kernel_rfl, ?_⟩; refine dyMake_c (n := u * x) (k := i) (by unfold inI64; omega) (by omega) fun h4 E4 => ?_
          rw [hmk, optV_eq]
          have s := s.mono E4
          simp (disch := omega) only [WA, ↓reduceIte, jA, jB, jD, jE, jF, jG, jH, jI, jJ, e4]
          refine sep_store (s.pull 2 rfl) (by simp) fun h5 s => ?_
          have s := s.as (ds := dyC ((mulM a b).getD ⟨0, 0⟩)) (by simp [t_put])
          have gz := (s.pull 0 rfl).rdAll (n := 2) rfl
          simp (disch := omega) only [WA, ↓reduceIte, jA, jB, jD, jE, jF, jG, jH, jI, jJ, gz, e4]
          exact hQ _ s.ext
    · have hi0 : i = 0 := by omega
      have d3 := decide_eq_false c3
      have hst2 : stripM b.n j = (x, i) := by rw [← hst2, hi0]; rfl
      simp (disch := omega) only [WA, ↓reduceIte, jA, jB, jD, jE, jF, jG, jH, jI, jJ, d3, c3, e2, e3, e6, gb]
      have ga := (s.pull 0 rfl).rd
      have gb := (s.pull 1 rfl).rd
      have hmk : makeM (u * x) i = mulM a b := by
        unfold mulM
        rw [makeM_mul z1 z2 hst, Int.mul_comm u b.n, makeM_mul z2 hu hst2, Int.mul_comm x u]
      refine draw_ord [0, 1, 3, 4, 2, 5, 6, 7] (by kernel_rfl) (by simp only [WLF]; rfl) ?_
      simp (disch := omega) only [WA, ↓reduceIte, jA, jB, jD, jE, jF, jG, jH, jI, jJ, e2, e3, ga, gb]
      refine .inl ⟨by kernel_rfl, ?_⟩; refine l1Abs_c (by omega) ?_
      simp (disch := omega) only [WA, ↓reduceIte, jA, jB, jD, jE, jF, jG, jH, jI, jJ, e2, e3, ga, gb]
      refine .inl ⟨by kernel_rfl, ?_⟩; refine l1Abs_c (by omega) ?_
      have hx0 : ¬ (x.natAbs : Int) = 0 := by omega
      have hx1 : 0 < (x.natAbs : Int) := by omega
      have hq := quo_abs hx1
      have hle : 1099511627776 / (x.natAbs : Int) ≤ 1099511627776 := Int.ediv_le_self _ (by decide)
      have hge : 0 ≤ 1099511627776 / (x.natAbs : Int) := Int.ediv_nonneg (by decide) (by omega)
      have wq : IntKind.i64.wrap (1099511627776 / (x.natAbs : Int)) = 1099511627776 / (x.natAbs : Int) := wrap_in _ (by omega)
      simp (disch := omega) only [WA, ↓reduceIte, jA, jB, jD, jE, jF, jG, jH, jI, jJ, e2, e3, ga, gb, hx0, hq, wq]
      by_cases far : 1099511627776 / (x.natAbs : Int) < (u.natAbs : Int)
      · have hfar : 1099511627776 < u.natAbs * x.natAbs := by
          have := (Int.ediv_lt_iff_lt_mul hx1).1 far
          rw [← Int.natCast_mul] at this
          omega
        rw [← hmk, mul_far hu hx (.inl hi0) hfar, optV_eq] at hQ
        simp (disch := omega) only [WA, ↓reduceIte, jA, jB, jD, jE, jF, jG, jH, jI, jJ, far, e4]
        refine sep_store (s.pull 2 rfl) (by simp) fun h5 s => ?_
        have s := s.as (ds := [.int .i64 0, .int .i64 0]) (by simp [t_put])
        have gz := (s.pull 0 rfl).rdAll (n := 2) rfl
        simp (disch := omega) only [WA, ↓reduceIte, jA, jB, jD, jE, jF, jG, jH, jI, jJ, gz, e4]
        exact hQ _ s.ext
      · have hnear : u.natAbs * x.natAbs ≤ 1099511627776 := by
          have : ¬ (1099511627776 < (u.natAbs : Int) * (x.natAbs : Int)) := fun hh => far ((Int.ediv_lt_iff_lt_mul hx1).2 hh)
          rw [← Int.natCast_mul] at this
          omega
        have hab : (u * x).natAbs = u.natAbs * x.natAbs := Int.natAbs_mul u x
        simp (disch := omega) only [WA, ↓reduceIte, jA, jB, jD, jE, jF, jG, jH, jI, jJ, far, e2, e3, e6, ga, gb, wrap_in]
        refine .inl ⟨by kernel_rfl, ?_⟩; refine dyMake_c (n := u * x) (k := i) (by unfold inI64; omega) (by omega) fun h4 E4 => ?_
        rw [hmk, optV_eq]
        have s := s.mono E4
        simp (disch := omega) only [WA, ↓reduceIte, jA, jB, jD, jE, jF, jG, jH, jI, jJ, e4]
        refine sep_store (s.pull 2 rfl) (by simp) fun h5 s => ?_
        have s := s.as (ds := dyC ((mulM a b).getD ⟨0, 0⟩)) (by simp [t_put])
        have gz := (s.pull 0 rfl).rdAll (n := 2) rfl
        simp (disch := omega) only [WA, ↓reduceIte, jA, jB, jD, jE, jF, jG, jH, jI, jJ, gz, e4]
        exact hQ _ s.ext
end Go.Proofs
