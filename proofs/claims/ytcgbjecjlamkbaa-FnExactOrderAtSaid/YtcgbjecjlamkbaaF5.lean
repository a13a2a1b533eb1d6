/- Contracts of functions, facts of types, or the plain law behind one statement (own work): F5. Conditions: those told in each theorem. -/
import Derived.Test.YtcgbjecjlamkbaaF4
set_option linter.all false
set_option linter.unusedSimpArgs false
set_option linter.unusedVariables false
set_option maxRecDepth 4000
namespace Go.Proofs
open Go Go.V
/- Long numbers: of a number, and their sign; the sign of a value. -/
theorem longOf_val {a k : Nat} (h : a < 9223372036854775808) :
    a * 2 ^ (k % 32) % 18446744073709551616 + 18446744073709551616 * (a / 2 ^ (64 - k % 32)) = a * 2 ^ (k % 32) ∧ (0 < k % 32 → a / 2 ^ (64 - k % 32) < 4294967296) := by
  have hk : k % 32 < 32 := Nat.mod_lt _ (by decide)
  generalize k % 32 = j at *
  have hp : 2 ^ (64 - j) * 2 ^ j = 18446744073709551616 := by rw [← Nat.pow_add, show 64 - j + j = 64 by omega]
  have h0 : 0 < 2 ^ j := Nat.pow_pos (by decide)
  have e : a * 2 ^ j / 18446744073709551616 = a / 2 ^ (64 - j) := by rw [← hp, Nat.mul_div_mul_right _ _ h0]
  refine ⟨by rw [← e]; omega, fun _ => ?_⟩
  have h32 : 2 ^ (64 - j) = 2 ^ (32 - j) * 4294967296 := by
    have : (4294967296 : Nat) = 2 ^ 32 := by decide
    rw [this, ← Nat.pow_add]; congr 1; omega
  have h2 : 2 ^ (32 - j) * 4294967296 ≥ 2 * 4294967296 := Nat.mul_le_mul_right _ (by
    have : 2 ^ 1 ≤ 2 ^ (32 - j) := Nat.pow_le_pow_right (by decide) (by omega)
    omega)
  rw [h32]
  refine (Nat.div_lt_iff_lt_mul (by omega)).2 ?_
  have : 4294967296 * (2 * 4294967296) ≤ 4294967296 * (2 ^ (32 - j) * 4294967296) := Nat.mul_le_mul_left _ h2
  omega
theorem valD_zeros (n : Nat) : valD (List.replicate n (0 : UInt32)) = 0 := by
  induction n with
  | zero => rfl
  | succ n ih => rw [List.replicate_succ, valD, ih]; rfl
theorem valD_three (x y z : UInt32) : valD [x, y, z] = x.toNat + 4294967296 * (y.toNat + 4294967296 * z.toNat) := by simp [valD]
theorem pow_split (k : Nat) : 4294967296 ^ (k / 32) * 2 ^ (k % 32) = 2 ^ k := by
  have : (4294967296 : Nat) = 2 ^ 32 := by decide
  rw [this, ← Nat.pow_mul, ← Nat.pow_add]; congr 1; omega
theorem longOf_c {n : Int} {k : Nat} {h : Heap} {Q : Value → Heap → Prop} (hn : -9000000000000000000 ≤ n ∧ n ≤ 9000000000000000000) (hk : k ≤ 1000)
    (hQ : ∀ b l w h', Sep h h' [ownA 55 l w] → lvI b (valD l) = n * 2 ^ k → l.length ≤ 1000 → Q (.agg #[.bool b, w]) h') :
    CallsV Try.prog 37 [.int .i64 n, .int .i64 k] h Q := by
  refine CallsV.start Try.func37 rfl (by rw [Try.results37]) (by kernel_rfl) (by rw [Try.ntmps37]; simp) ?_
  have s := Sep.blk1 h [.bool false, .slice none 0 0] 46 true
  obtain ⟨a, ha⟩ : ∃ a, n.natAbs = a := ⟨_, rfl⟩
  have hab : a < 9223372036854775808 := by omega
  obtain ⟨v1, v2⟩ := longOf_val (k := k) hab
  have hj : k % 32 < 32 := Nat.mod_lt _ (by decide)
  have tm : Int.tmod (k : Int) 32 = ((k % 32 : Nat) : Int) := by have := tmod_nat k 32; simpa using this
  have td : Int.tdiv (k : Int) 32 = ((k / 32 : Nat) : Int) := by
    rw [Int.tdiv_eq_ediv_of_nonneg (by omega)]; rfl
  have z : ¬ (32 : Int) = 0 := by decide
  have e1 := shl_u a (k % 32) (by omega)
  have n1 : ¬ ((k % 32 : Nat) : Int) < 0 := by omega
  generalize hjj : k % 32 = j at *
  simp (disch := omega) only [VW, VY, VZ, VA, VB, VC, VE, TY, ↓reduceIte, Nat.reduceEqDiff, Nat.reduceAdd, Nat.reduceMul, Nat.reduceSub, Nat.reduceLeDiff, List.length_cons, List.length_nil, List.length_append, List.append_assoc, List.take_succ_cons, List.take_zero, List.drop_succ_cons, List.drop_zero, List.set_cons_zero, List.set_cons_succ, true_or, or_true, and_self, Bool.false_eq_true, Nat.le_refl, Option.bind_some, Option.map_some, Option.getD_some, Option.isSome_some, List.map_cons, List.map_nil, List.cons_append, List.nil_append, List.append_nil, List.getElem?_cons_zero, List.getElem?_cons_succ, eq_self, Int.reduceLT, Int.reduceLE, Int.reduceNeg, Int.reduceEq]
  refine .inl ⟨by kernel_rfl, ?_⟩; refine size_c hn ?_
  simp (disch := omega) only [VW, VY, VZ, VA, VB, VC, VE, TY, ↓reduceIte, Nat.reduceEqDiff, Nat.reduceAdd, Nat.reduceMul, Nat.reduceSub, Nat.reduceLeDiff, List.length_cons, List.length_nil, List.length_append, List.append_assoc, List.take_succ_cons, List.take_zero, List.drop_succ_cons, List.drop_zero, List.set_cons_zero, List.set_cons_succ, true_or, or_true, and_self, Bool.false_eq_true, Nat.le_refl, Option.bind_some, Option.map_some, Option.getD_some, Option.isSome_some, List.map_cons, List.map_nil, List.cons_append, List.nil_append, List.append_nil, List.getElem?_cons_zero, List.getElem?_cons_succ, eq_self, Int.reduceLT, Int.reduceLE, Int.reduceNeg, Int.reduceEq, ha, tm, z, n1, e1, ubits]
  refine cond_cutF (fun e' h' => ∃ hi : Nat, a * 2 ^ j % 18446744073709551616 + 18446744073709551616 * hi = a * 2 ^ j ∧ hi < 4294967296 ∧ e' 0 = .int .i64 n ∧ e' 1 = .int .i64 k ∧ e' 4 = .pointer (some ⟨h.length, 0, none⟩) ∧ e' 5 = .int .u64 (a * 2 ^ j % 18446744073709551616 : Nat) ∧ e' 6 = .int .u64 (hi : Nat) ∧ Sep h h' [blkA h.length [.bool false, .slice none 0 0] 46]) ?_ ?_
  · clear s v1 v2 e1 n1 tm
    rintro e h1 ⟨hi, v1, v2, e0, e1, e4, e5, e6, s⟩
    have hlo : a * 2 ^ j % 18446744073709551616 < 18446744073709551616 := Nat.mod_lt _ (by decide)
    generalize hl : a * 2 ^ j % 18446744073709551616 = low at *
    have nk : ¬ ((k / 32 : Nat) : Int) < 0 := by omega
    simp (disch := omega) only [VW, VY, VZ, VA, VB, VC, VE, TY, ↓reduceIte, Nat.reduceEqDiff, Nat.reduceAdd, Nat.reduceMul, Nat.reduceSub, Nat.reduceLeDiff, List.length_cons, List.length_nil, List.length_append, List.append_assoc, List.take_succ_cons, List.take_zero, List.drop_succ_cons, List.drop_zero, List.set_cons_zero, List.set_cons_succ, true_or, or_true, and_self, Bool.false_eq_true, Nat.le_refl, Option.bind_some, Option.map_some, Option.getD_some, Option.isSome_some, List.map_cons, List.map_nil, List.cons_append, List.nil_append, List.append_nil, List.getElem?_cons_zero, List.getElem?_cons_succ, eq_self, Int.reduceLT, Int.reduceLE, Int.reduceNeg, Int.reduceEq, e0, e1, e4, e5, e6, td, z, wrap_in]
    refine sep_make (0 : UInt32) s te44 tk55 (fun h => ⟨rfl, rfl⟩) (by decide) (by simp; omega) fun v3 h2 s _ _ => ?_
    have w1 := wrap32_mod low
    have w2 := wrap32_mod (low / 4294967296)
    have w3 := wrap32_mod hi
    have sh : Int.fdiv ((low : Nat) : Int) (2 ^ min (Int.toNat 32) 64) = ((low / 4294967296 : Nat) : Int) := shr_u low 32 (by decide)
    simp (disch := omega) only [VW, VY, VZ, VA, VB, VC, VE, TY, ↓reduceIte, Nat.reduceEqDiff, Nat.reduceAdd, Nat.reduceMul, Nat.reduceSub, Nat.reduceLeDiff, List.length_cons, List.length_nil, List.length_append, List.append_assoc, List.take_succ_cons, List.take_zero, List.drop_succ_cons, List.drop_zero, List.set_cons_zero, List.set_cons_succ, true_or, or_true, and_self, Bool.false_eq_true, Nat.le_refl, Option.bind_some, Option.map_some, Option.getD_some, Option.isSome_some, List.map_cons, List.map_nil, List.cons_append, List.nil_append, List.append_nil, List.getElem?_cons_zero, List.getElem?_cons_succ, eq_self, Int.reduceLT, Int.reduceLE, Int.reduceNeg, Int.reduceEq, e0, e1, e4, e5, e6, sh, ubits, w1, w2, w3]
    have s := Sep.flat (x := cellsA [UInt32.ofNat low, UInt32.ofNat (low / 4294967296), UInt32.ofNat hi] [.int .u32 (low % 4294967296 : Nat), .int .u32 (low / 4294967296 % 4294967296 : Nat), .int .u32 (hi % 4294967296 : Nat)]) s
      ⟨[[], [], []], ⟨[_], [], _, _, rfl, rfl, ⟨by rw [u32_val], rfl⟩, ⟨[_], [], _, _, rfl, rfl, ⟨by rw [u32_val], rfl⟩, ⟨[_], [], _, _, rfl, rfl, ⟨by rw [u32_val], rfl⟩, rfl, rfl⟩⟩⟩, rfl⟩
    refine sep_appends s.swap rfl rfl rfl te44 tk55 rfl (by decide) (by simp; omega) fun v4 h3 s => ?_
    have cv := s.row.isRow.cells
    simp (disch := omega) only [VW, VY, VZ, VA, VB, VC, VE, TY, ↓reduceIte, Nat.reduceEqDiff, Nat.reduceAdd, Nat.reduceMul, Nat.reduceSub, Nat.reduceLeDiff, List.length_cons, List.length_nil, List.length_append, List.append_assoc, List.take_succ_cons, List.take_zero, List.drop_succ_cons, List.drop_zero, List.set_cons_zero, List.set_cons_succ, true_or, or_true, and_self, Bool.false_eq_true, Nat.le_refl, Option.bind_some, Option.map_some, Option.getD_some, Option.isSome_some, List.map_cons, List.map_nil, List.cons_append, List.nil_append, List.append_nil, List.getElem?_cons_zero, List.getElem?_cons_succ, eq_self, Int.reduceLT, Int.reduceLE, Int.reduceNeg, Int.reduceEq, cv, e4]
    refine sep_store (s.pull 1 rfl) (by simp) fun h4 s => ?_
    have s := s.as (ds := [.bool (decide (n < 0)), v4]) (by simp [t_put])
    have ga := s.rdAll (n := 2) rfl
    simp (disch := omega) only [VW, VY, VZ, VA, VB, VC, VE, TY, ↓reduceIte, Nat.reduceEqDiff, Nat.reduceAdd, Nat.reduceMul, Nat.reduceSub, Nat.reduceLeDiff, List.length_cons, List.length_nil, List.length_append, List.append_assoc, List.take_succ_cons, List.take_zero, List.drop_succ_cons, List.drop_zero, List.set_cons_zero, List.set_cons_succ, true_or, or_true, and_self, Bool.false_eq_true, Nat.le_refl, Option.bind_some, Option.map_some, Option.getD_some, Option.isSome_some, List.map_cons, List.map_nil, List.cons_append, List.nil_append, List.append_nil, List.getElem?_cons_zero, List.getElem?_cons_succ, eq_self, Int.reduceLT, Int.reduceLE, Int.reduceNeg, Int.reduceEq, ga, e4]
    refine hQ _ _ _ _ (s.pull 1 rfl).head ?_ (by simp; omega)
    rw [← lvI_of, ha, ← pow_split k, hjj, valD_append, valD_zeros, List.length_replicate, valD_three, u32_val, u32_val, u32_val, Nat.zero_add]
    have e : low % 4294967296 + 4294967296 * (low / 4294967296 % 4294967296 + 4294967296 * (hi % 4294967296)) = a * 2 ^ j := by omega
    rw [e, Nat.mul_left_comm, Nat.mul_comm]
  · intro K key
    by_cases c : 0 < j
    · have c1 : (0 : Int) < (j : Int) := by omega
      have k64 : (64 : Int) - (j : Int) = ((64 - j : Nat) : Int) := by omega
      have n2 : ¬ ((64 - j : Nat) : Int) < 0 := by omega
      have e2 := shr_u a (64 - j) (by omega)
      simp (disch := omega) only [VW, VY, VZ, VA, VB, VC, VE, TY, ↓reduceIte, Nat.reduceEqDiff, Nat.reduceAdd, Nat.reduceMul, Nat.reduceSub, Nat.reduceLeDiff, List.length_cons, List.length_nil, List.length_append, List.append_assoc, List.take_succ_cons, List.take_zero, List.drop_succ_cons, List.drop_zero, List.set_cons_zero, List.set_cons_succ, true_or, or_true, and_self, Bool.false_eq_true, Nat.le_refl, Option.bind_some, Option.map_some, Option.getD_some, Option.isSome_some, List.map_cons, List.map_nil, List.cons_append, List.nil_append, List.append_nil, List.getElem?_cons_zero, List.getElem?_cons_succ, eq_self, Int.reduceLT, Int.reduceLE, Int.reduceNeg, Int.reduceEq, c1]
      refine .inl ⟨by kernel_rfl, ?_⟩; refine size_c hn ?_
      simp (disch := omega) only [VW, VY, VZ, VA, VB, VC, VE, TY, ↓reduceIte, Nat.reduceEqDiff, Nat.reduceAdd, Nat.reduceMul, Nat.reduceSub, Nat.reduceLeDiff, List.length_cons, List.length_nil, List.length_append, List.append_assoc, List.take_succ_cons, List.take_zero, List.drop_succ_cons, List.drop_zero, List.set_cons_zero, List.set_cons_succ, true_or, or_true, and_self, Bool.false_eq_true, Nat.le_refl, Option.bind_some, Option.map_some, Option.getD_some, Option.isSome_some, List.map_cons, List.map_nil, List.cons_append, List.nil_append, List.append_nil, List.getElem?_cons_zero, List.getElem?_cons_succ, eq_self, Int.reduceLT, Int.reduceLE, Int.reduceNeg, Int.reduceEq, ha, tm, z, k64, n2, e2, ubits, wrap_in]
      exact key _ _ ⟨_, v1, v2 c, rfl, rfl, rfl, rfl, rfl, s⟩
    · have c1 : ¬ (0 : Int) < (j : Int) := by omega
      obtain rfl : j = 0 := by omega
      simp (disch := omega) only [VW, VY, VZ, VA, VB, VC, VE, TY, ↓reduceIte, Nat.reduceEqDiff, Nat.reduceAdd, Nat.reduceMul, Nat.reduceSub, Nat.reduceLeDiff, List.length_cons, List.length_nil, List.length_append, List.append_assoc, List.take_succ_cons, List.take_zero, List.drop_succ_cons, List.drop_zero, List.set_cons_zero, List.set_cons_succ, true_or, or_true, and_self, Bool.false_eq_true, Nat.le_refl, Option.bind_some, Option.map_some, Option.getD_some, Option.isSome_some, List.map_cons, List.map_nil, List.cons_append, List.nil_append, List.append_nil, List.getElem?_cons_zero, List.getElem?_cons_succ, eq_self, Int.reduceLT, Int.reduceLE, Int.reduceNeg, Int.reduceEq, c1]
      exact key _ _ ⟨0, by omega, by decide, rfl, rfl, rfl, rfl, rfl, s⟩
/-! the sign -/
theorem nz_c {x : UInt32} {h : Heap} {Q : Value → Heap → Prop} (hQ : Q (.bool (decide (x.toNat ≠ 0))) h) : CallsV Try.prog 49 [.int .u32 x.toNat] h Q := by
  refine CallsV.start Try.func49 rfl (by rw [Try.results49]) (by kernel_rfl) (by rw [Try.ntmps49]; simp) ?_
  simp (disch := omega) only [VW, VY, VZ, VA, VB, VC, VE, TY, ↓reduceIte, Nat.reduceEqDiff, Nat.reduceAdd, Nat.reduceMul, Nat.reduceSub, Nat.reduceLeDiff, List.length_cons, List.length_nil, List.length_append, List.append_assoc, List.take_succ_cons, List.take_zero, List.drop_succ_cons, List.drop_zero, List.set_cons_zero, List.set_cons_succ, true_or, or_true, and_self, Bool.false_eq_true, Nat.le_refl, Option.bind_some, Option.map_some, Option.getD_some, Option.isSome_some, List.map_cons, List.map_nil, List.cons_append, List.nil_append, List.append_nil, List.getElem?_cons_zero, List.getElem?_cons_succ, eq_self, Int.reduceLT, Int.reduceLE, Int.reduceNeg, Int.reduceEq]
  by_cases c : x.toNat = 0
  · have c' : (x.toNat : Int) = 0 := by omega
    rw [decide_eq_false (by simpa using c)] at hQ
    simp (disch := omega) only [VW, VY, VZ, VA, VB, VC, VE, TY, ↓reduceIte, Nat.reduceEqDiff, Nat.reduceAdd, Nat.reduceMul, Nat.reduceSub, Nat.reduceLeDiff, List.length_cons, List.length_nil, List.length_append, List.append_assoc, List.take_succ_cons, List.take_zero, List.drop_succ_cons, List.drop_zero, List.set_cons_zero, List.set_cons_succ, true_or, or_true, and_self, Bool.false_eq_true, Nat.le_refl, Option.bind_some, Option.map_some, Option.getD_some, Option.isSome_some, List.map_cons, List.map_nil, List.cons_append, List.nil_append, List.append_nil, List.getElem?_cons_zero, List.getElem?_cons_succ, eq_self, Int.reduceLT, Int.reduceLE, Int.reduceNeg, Int.reduceEq, c']
    exact hQ
  · have c' : ¬ (x.toNat : Int) = 0 := by omega
    rw [decide_eq_true (by simpa using c)] at hQ
    simp (disch := omega) only [VW, VY, VZ, VA, VB, VC, VE, TY, ↓reduceIte, Nat.reduceEqDiff, Nat.reduceAdd, Nat.reduceMul, Nat.reduceSub, Nat.reduceLeDiff, List.length_cons, List.length_nil, List.length_append, List.append_assoc, List.take_succ_cons, List.take_zero, List.drop_succ_cons, List.drop_zero, List.set_cons_zero, List.set_cons_succ, true_or, or_true, and_self, Bool.false_eq_true, Nat.le_refl, Option.bind_some, Option.map_some, Option.getD_some, Option.isSome_some, List.map_cons, List.map_nil, List.cons_append, List.nil_append, List.append_nil, List.getElem?_cons_zero, List.getElem?_cons_succ, eq_self, Int.reduceLT, Int.reduceLE, Int.reduceNeg, Int.reduceEq, c']
    exact hQ
theorem valD_up {l : List UInt32} {i : Nat} {x : UInt32} (hx : l[i]? = some x) (h0 : valD (l.take i) = 0) : valD (l.take (i + 1)) = 4294967296 ^ i * x.toNat := by
  have hi : i < l.length := by
    rcases Nat.lt_or_ge i l.length with c | c
    · exact c
    · rw [List.getElem?_eq_none c] at hx; simp at hx
  rw [List.take_add_one, hx]
  have := valD_snoc (l.take i) x
  rw [List.length_take, Nat.min_eq_left (by omega), h0, Nat.zero_add] at this
  exact this
theorem indexNz_c {l : List UInt32} {v : Value} {h : Heap} {Q : Value → Heap → Prop} (r : Row h l v) (h0 : valD l = 0 → Q (.int .i64 (-1)) h) (h1 : valD l ≠ 0 → ∀ i : Nat, Q (.int .i64 (i : Nat)) h) :
    CallsV Try.prog 55 [v, .func (.func 49) #[] #[]] h Q := by
  refine CallsV.start Try.func55 rfl (by rw [Try.results55]) (by kernel_rfl) (by rw [Try.ntmps55]; simp) ?_
  have hle := r.le
  simp (disch := omega) only [VW, VY, VZ, VA, VB, VC, VE, TY, ↓reduceIte, Nat.reduceEqDiff, Nat.reduceAdd, Nat.reduceMul, Nat.reduceSub, Nat.reduceLeDiff, List.length_cons, List.length_nil, List.length_append, List.append_assoc, List.take_succ_cons, List.take_zero, List.drop_succ_cons, List.drop_zero, List.set_cons_zero, List.set_cons_succ, true_or, or_true, and_self, Bool.false_eq_true, Nat.le_refl, Option.bind_some, Option.map_some, Option.getD_some, Option.isSome_some, List.map_cons, List.map_nil, List.cons_append, List.nil_append, List.append_nil, List.getElem?_cons_zero, List.getElem?_cons_succ, eq_self, Int.reduceLT, Int.reduceLE, Int.reduceNeg, Int.reduceEq, r.isRow.len]
  refine loop_rule (fun n e h' => ∃ (i : Nat), e 0 = v ∧ e 1 = .func (.func 49) #[] #[] ∧ e 7 = .int .i64 l.length ∧ e 8 = .int .i64 i ∧ i ≤ l.length ∧ n = l.length - i ∧ valD (l.take i) = 0 ∧ h' = h) ?_ l.length _ _ ⟨0, rfl, rfl, rfl, rfl, Nat.zero_le _, rfl, rfl, rfl⟩
  rintro n e h' ⟨i, e0, e1, e7, e8, hi, rfl, hv, rfl⟩
  simp (disch := omega) only [VW, VY, VZ, VA, VB, VC, VE, TY, ↓reduceIte, Nat.reduceEqDiff, Nat.reduceAdd, Nat.reduceMul, Nat.reduceSub, Nat.reduceLeDiff, List.length_cons, List.length_nil, List.length_append, List.append_assoc, List.take_succ_cons, List.take_zero, List.drop_succ_cons, List.drop_zero, List.set_cons_zero, List.set_cons_succ, true_or, or_true, and_self, Bool.false_eq_true, Nat.le_refl, Option.bind_some, Option.map_some, Option.getD_some, Option.isSome_some, List.map_cons, List.map_nil, List.cons_append, List.nil_append, List.append_nil, List.getElem?_cons_zero, List.getElem?_cons_succ, eq_self, Int.reduceLT, Int.reduceLE, Int.reduceNeg, Int.reduceEq, e7, e8]
  by_cases hlt : i < l.length
  · obtain ⟨x, hx⟩ := get_some hlt
    have c1 : (i : Int) < (l.length : Int) := by omega
    have x3 := row_u32 r hx
    simp (disch := omega) only [VW, VY, VZ, VA, VB, VC, VE, TY, ↓reduceIte, Nat.reduceEqDiff, Nat.reduceAdd, Nat.reduceMul, Nat.reduceSub, Nat.reduceLeDiff, List.length_cons, List.length_nil, List.length_append, List.append_assoc, List.take_succ_cons, List.take_zero, List.drop_succ_cons, List.drop_zero, List.set_cons_zero, List.set_cons_succ, true_or, or_true, and_self, Bool.false_eq_true, Nat.le_refl, Option.bind_some, Option.map_some, Option.getD_some, Option.isSome_some, List.map_cons, List.map_nil, List.cons_append, List.nil_append, List.append_nil, List.getElem?_cons_zero, List.getElem?_cons_succ, eq_self, Int.reduceLT, Int.reduceLE, Int.reduceNeg, Int.reduceEq, c1, e0, e1, e8, r.isRow.ix, x3]
    refine .inl ⟨by kernel_rfl, ?_⟩; refine nz_c ?_
    by_cases c : x.toNat = 0
    · have c' : decide (x.toNat ≠ 0) = false := by simpa using c
      simp (disch := omega) only [VW, VY, VZ, VA, VB, VC, VE, TY, ↓reduceIte, Nat.reduceEqDiff, Nat.reduceAdd, Nat.reduceMul, Nat.reduceSub, Nat.reduceLeDiff, List.length_cons, List.length_nil, List.length_append, List.append_assoc, List.take_succ_cons, List.take_zero, List.drop_succ_cons, List.drop_zero, List.set_cons_zero, List.set_cons_succ, true_or, or_true, and_self, Bool.false_eq_true, Nat.le_refl, Option.bind_some, Option.map_some, Option.getD_some, Option.isSome_some, List.map_cons, List.map_nil, List.cons_append, List.nil_append, List.append_nil, List.getElem?_cons_zero, List.getElem?_cons_succ, eq_self, Int.reduceLT, Int.reduceLE, Int.reduceNeg, Int.reduceEq, c', e0, e1, e7, e8, wrap_in]
      exact ⟨_, by omega, i + 1, by simp, by omega, rfl, by rw [valD_up hx hv, c, Nat.mul_zero]⟩
    · have c' : decide (x.toNat ≠ 0) = true := by simpa using c
      simp (disch := omega) only [VW, VY, VZ, VA, VB, VC, VE, TY, ↓reduceIte, Nat.reduceEqDiff, Nat.reduceAdd, Nat.reduceMul, Nat.reduceSub, Nat.reduceLeDiff, List.length_cons, List.length_nil, List.length_append, List.append_assoc, List.take_succ_cons, List.take_zero, List.drop_succ_cons, List.drop_zero, List.set_cons_zero, List.set_cons_succ, true_or, or_true, and_self, Bool.false_eq_true, Nat.le_refl, Option.bind_some, Option.map_some, Option.getD_some, Option.isSome_some, List.map_cons, List.map_nil, List.cons_append, List.nil_append, List.append_nil, List.getElem?_cons_zero, List.getElem?_cons_succ, eq_self, Int.reduceLT, Int.reduceLE, Int.reduceNeg, Int.reduceEq, c']
      refine h1 (fun hz => ?_) i
      have := valD_up hx hv
      rw [valD_take, hz, Nat.zero_mod] at this
      rcases Nat.mul_eq_zero.1 this.symm with q | q
      · exact absurd q (Nat.ne_of_gt (Nat.pow_pos (by decide)))
      · exact c q
  · obtain rfl : i = l.length := by omega
    have c1 : ¬ (l.length : Int) < (l.length : Int) := by omega
    rw [List.take_length] at hv
    simp (disch := omega) only [VW, VY, VZ, VA, VB, VC, VE, TY, ↓reduceIte, Nat.reduceEqDiff, Nat.reduceAdd, Nat.reduceMul, Nat.reduceSub, Nat.reduceLeDiff, List.length_cons, List.length_nil, List.length_append, List.append_assoc, List.take_succ_cons, List.take_zero, List.drop_succ_cons, List.drop_zero, List.set_cons_zero, List.set_cons_succ, true_or, or_true, and_self, Bool.false_eq_true, Nat.le_refl, Option.bind_some, Option.map_some, Option.getD_some, Option.isSome_some, List.map_cons, List.map_nil, List.cons_append, List.nil_append, List.append_nil, List.getElem?_cons_zero, List.getElem?_cons_succ, eq_self, Int.reduceLT, Int.reduceLE, Int.reduceNeg, Int.reduceEq, c1]
    exact h0 hv
theorem containsNz_c {l : List UInt32} {v : Value} {h : Heap} {Q : Value → Heap → Prop} (r : Row h l v) (hQ : Q (.bool (decide (valD l ≠ 0))) h) :
    CallsV Try.prog 48 [v, .func (.func 49) #[] #[]] h Q := by
  refine CallsV.start Try.func48 rfl (by rw [Try.results48]) (by kernel_rfl) (by rw [Try.ntmps48]; simp) ?_
  simp (disch := omega) only [VW, VY, VZ, VA, VB, VC, VE, TY, ↓reduceIte, Nat.reduceEqDiff, Nat.reduceAdd, Nat.reduceMul, Nat.reduceSub, Nat.reduceLeDiff, List.length_cons, List.length_nil, List.length_append, List.append_assoc, List.take_succ_cons, List.take_zero, List.drop_succ_cons, List.drop_zero, List.set_cons_zero, List.set_cons_succ, true_or, or_true, and_self, Bool.false_eq_true, Nat.le_refl, Option.bind_some, Option.map_some, Option.getD_some, Option.isSome_some, List.map_cons, List.map_nil, List.cons_append, List.nil_append, List.append_nil, List.getElem?_cons_zero, List.getElem?_cons_succ, eq_self, Int.reduceLT, Int.reduceLE, Int.reduceNeg, Int.reduceEq]
  refine .inl ⟨by kernel_rfl, ?_⟩; refine indexNz_c r (fun hz => ?_) (fun hz i => ?_)
  · have c : ¬ (0 : Int) ≤ -1 := by decide
    rw [decide_eq_false (by simpa using hz)] at hQ
    simp (disch := omega) only [VW, VY, VZ, VA, VB, VC, VE, TY, ↓reduceIte, Nat.reduceEqDiff, Nat.reduceAdd, Nat.reduceMul, Nat.reduceSub, Nat.reduceLeDiff, List.length_cons, List.length_nil, List.length_append, List.append_assoc, List.take_succ_cons, List.take_zero, List.drop_succ_cons, List.drop_zero, List.set_cons_zero, List.set_cons_succ, true_or, or_true, and_self, Bool.false_eq_true, Nat.le_refl, Option.bind_some, Option.map_some, Option.getD_some, Option.isSome_some, List.map_cons, List.map_nil, List.cons_append, List.nil_append, List.append_nil, List.getElem?_cons_zero, List.getElem?_cons_succ, eq_self, Int.reduceLT, Int.reduceLE, Int.reduceNeg, Int.reduceEq, c]
    exact hQ
  · have c : (0 : Int) ≤ (i : Int) := by omega
    rw [decide_eq_true hz] at hQ
    simp (disch := omega) only [VW, VY, VZ, VA, VB, VC, VE, TY, ↓reduceIte, Nat.reduceEqDiff, Nat.reduceAdd, Nat.reduceMul, Nat.reduceSub, Nat.reduceLeDiff, List.length_cons, List.length_nil, List.length_append, List.append_assoc, List.take_succ_cons, List.take_zero, List.drop_succ_cons, List.drop_zero, List.set_cons_zero, List.set_cons_succ, true_or, or_true, and_self, Bool.false_eq_true, Nat.le_refl, Option.bind_some, Option.map_some, Option.getD_some, Option.isSome_some, List.map_cons, List.map_nil, List.cons_append, List.nil_append, List.append_nil, List.getElem?_cons_zero, List.getElem?_cons_succ, eq_self, Int.reduceLT, Int.reduceLE, Int.reduceNeg, Int.reduceEq, c]
    exact hQ
theorem sign_c {b : Bool} {l : List UInt32} {v : Value} {h : Heap} {Q : Value → Heap → Prop} (r : Row h l v) (hQ : ∀ h', Ext h h' → Q (.int .i64 (lvI b (valD l)).sign) h') :
    CallsV Try.prog 38 [.agg #[.bool b, v]] h Q := by
  refine CallsV.start Try.func38 rfl (by rw [Try.results38]) (by kernel_rfl) (by rw [Try.ntmps38]; simp) ?_
  have s := Sep.blk1 h [.bool b, v] 46 true
  have g := s.rd
  rw [lvI_sign] at hQ
  simp (disch := omega) only [VW, VY, VZ, VA, VB, VC, VE, TY, ↓reduceIte, Nat.reduceEqDiff, Nat.reduceAdd, Nat.reduceMul, Nat.reduceSub, Nat.reduceLeDiff, List.length_cons, List.length_nil, List.length_append, List.append_assoc, List.take_succ_cons, List.take_zero, List.drop_succ_cons, List.drop_zero, List.set_cons_zero, List.set_cons_succ, true_or, or_true, and_self, Bool.false_eq_true, Nat.le_refl, Option.bind_some, Option.map_some, Option.getD_some, Option.isSome_some, List.map_cons, List.map_nil, List.cons_append, List.nil_append, List.append_nil, List.getElem?_cons_zero, List.getElem?_cons_succ, eq_self, Int.reduceLT, Int.reduceLE, Int.reduceNeg, Int.reduceEq, g]
  refine .inl ⟨by kernel_rfl, ?_⟩; refine containsNz_c (r.mono s.ext) ?_
  by_cases c : valD l = 0
  · have c' : decide (valD l ≠ 0) = false := by simpa using c
    rw [if_pos c] at hQ
    simp (disch := omega) only [VW, VY, VZ, VA, VB, VC, VE, TY, ↓reduceIte, Nat.reduceEqDiff, Nat.reduceAdd, Nat.reduceMul, Nat.reduceSub, Nat.reduceLeDiff, List.length_cons, List.length_nil, List.length_append, List.append_assoc, List.take_succ_cons, List.take_zero, List.drop_succ_cons, List.drop_zero, List.set_cons_zero, List.set_cons_succ, true_or, or_true, and_self, Bool.false_eq_true, Nat.le_refl, Option.bind_some, Option.map_some, Option.getD_some, Option.isSome_some, List.map_cons, List.map_nil, List.cons_append, List.nil_append, List.append_nil, List.getElem?_cons_zero, List.getElem?_cons_succ, eq_self, Int.reduceLT, Int.reduceLE, Int.reduceNeg, Int.reduceEq, c']
    exact hQ _ s.ext
  · have c' : decide (valD l ≠ 0) = true := by simpa using c
    rw [if_neg c] at hQ
    simp (disch := omega) only [VW, VY, VZ, VA, VB, VC, VE, TY, ↓reduceIte, Nat.reduceEqDiff, Nat.reduceAdd, Nat.reduceMul, Nat.reduceSub, Nat.reduceLeDiff, List.length_cons, List.length_nil, List.length_append, List.append_assoc, List.take_succ_cons, List.take_zero, List.drop_succ_cons, List.drop_zero, List.set_cons_zero, List.set_cons_succ, true_or, or_true, and_self, Bool.false_eq_true, Nat.le_refl, Option.bind_some, Option.map_some, Option.getD_some, Option.isSome_some, List.map_cons, List.map_nil, List.cons_append, List.nil_append, List.append_nil, List.getElem?_cons_zero, List.getElem?_cons_succ, eq_self, Int.reduceLT, Int.reduceLE, Int.reduceNeg, Int.reduceEq, c', g]
    cases b with
    | true =>
      rw [if_pos rfl] at hQ
      simp (disch := omega) only [VW, VY, VZ, VA, VB, VC, VE, TY, ↓reduceIte, Nat.reduceEqDiff, Nat.reduceAdd, Nat.reduceMul, Nat.reduceSub, Nat.reduceLeDiff, List.length_cons, List.length_nil, List.length_append, List.append_assoc, List.take_succ_cons, List.take_zero, List.drop_succ_cons, List.drop_zero, List.set_cons_zero, List.set_cons_succ, true_or, or_true, and_self, Bool.false_eq_true, Nat.le_refl, Option.bind_some, Option.map_some, Option.getD_some, Option.isSome_some, List.map_cons, List.map_nil, List.cons_append, List.nil_append, List.append_nil, List.getElem?_cons_zero, List.getElem?_cons_succ, eq_self, Int.reduceLT, Int.reduceLE, Int.reduceNeg, Int.reduceEq]
      exact hQ _ s.ext
    | false =>
      rw [if_neg (by decide)] at hQ
      simp (disch := omega) only [VW, VY, VZ, VA, VB, VC, VE, TY, ↓reduceIte, Nat.reduceEqDiff, Nat.reduceAdd, Nat.reduceMul, Nat.reduceSub, Nat.reduceLeDiff, List.length_cons, List.length_nil, List.length_append, List.append_assoc, List.take_succ_cons, List.take_zero, List.drop_succ_cons, List.drop_zero, List.set_cons_zero, List.set_cons_succ, true_or, or_true, and_self, Bool.false_eq_true, Nat.le_refl, Option.bind_some, Option.map_some, Option.getD_some, Option.isSome_some, List.map_cons, List.map_nil, List.cons_append, List.nil_append, List.append_nil, List.getElem?_cons_zero, List.getElem?_cons_succ, eq_self, Int.reduceLT, Int.reduceLE, Int.reduceNeg, Int.reduceEq]
      exact hQ _ s.ext
end Go.Proofs
