/- Contracts of functions, facts of types, or the plain law behind one statement (own work): F3. Conditions: those told in each theorem. -/
import Derived.Test.YtcgbjecjlamkbaaF2
set_option linter.all false
set_option linter.unusedSimpArgs false
set_option linter.unusedVariables false
set_option maxRecDepth 4000
namespace Go.Proofs
open Go Go.V
/- Long numbers: a product. -/
theorem mul_step {D P c d m : Nat} : D + P * ((c + d * m) % 4294967296) + P * 4294967296 * ((c + d * m) / 4294967296) = D + P * c + P * d * m := by
  have h := Nat.mod_add_div (c + d * m) 4294967296
  rw [Nat.add_assoc, Nat.mul_assoc, ← Nat.mul_add, h, Nat.mul_add, ← Nat.mul_assoc]; omega
theorem mul_carry {c d m : Nat} (hc : c < 4294967296) (hd : d < 4294967296) (hm : m < 4294967296) : c + d * m < 18446744073709551616 ∧ (c + d * m) / 4294967296 < 4294967296 := by
  have : d * m ≤ 4294967295 * 4294967295 := Nat.mul_le_mul (by omega) (by omega)
  omega
theorem u32_val (n : Nat) : (UInt32.ofNat n).toNat = n % 4294967296 := by rw [UInt32.toNat_ofNat']
theorem times_c {b : Bool} {l : List UInt32} {v : Value} {n : Int} {h : Heap} {Q : Value → Heap → Prop} (r : Row h l v) (hl : l.length ≤ 1000000) (hn : -4294967295 ≤ n ∧ n ≤ 4294967295)
    (hQ : ∀ l' w h', Sep h h' [ownA 55 l' w] → valD l' = valD l * n.natAbs → l'.length = l.length + 1 → Q (.agg #[.bool (b != decide (n < 0)), w]) h') :
    CallsV Try.prog 35 [.agg #[.bool b, v], .int .i64 n] h Q := by
  refine CallsV.start Try.func35 rfl (by rw [Try.results35]) (by kernel_rfl) (by rw [Try.ntmps35]; simp) ?_
  have hnb : (!(b == decide (n < 0))) = (b != decide (n < 0)) := rfl
  have s := Sep.blk3 h [.bool b, v] [.bool false, .slice none 0 0] [.bool (b != decide (n < 0)), .slice none 0 0] 46 46 46 true true true
  have g1 := (Sep.blk1 h [.bool b, v] 46 true).rd
  have g1 := (Sep.blk2 h [.bool b, v] [.bool false, .slice none 0 0] 46 46 true true).pull 1 rfl |>.rd
  have g2 := (s.pull 2 rfl).rd
  generalize (b != decide (n < 0)) = nb at *
  simp (disch := omega) only [VW, VY, VZ, VA, VB, VC, VE, TY, ↓reduceIte, Nat.reduceEqDiff, Nat.reduceAdd, Nat.reduceMul, Nat.reduceSub, Nat.reduceLeDiff, List.length_cons, List.length_nil, List.length_append, List.append_assoc, List.take_succ_cons, List.take_zero, List.drop_succ_cons, List.drop_zero, List.set_cons_zero, List.set_cons_succ, true_or, or_true, and_self, Bool.false_eq_true, Nat.le_refl, Option.bind_some, Option.map_some, Option.getD_some, Option.isSome_some, List.map_cons, List.map_nil, List.cons_append, List.nil_append, List.append_nil, List.getElem?_cons_zero, List.getElem?_cons_succ, eq_self, Int.reduceLT, Int.reduceLE, Int.reduceNeg, Int.reduceEq, g1, g2, hnb, r.isRow.len]
  obtain ⟨m, hm⟩ : ∃ m, n.natAbs = m := ⟨_, rfl⟩
  have hmb : m < 4294967296 := by omega
  rw [hm] at hQ
  refine loop_rule (fun k e h' => ∃ (i c : Nat) (lo : List UInt32) (vo : Value), e 1 = .int .i64 n ∧ e 4 = .pointer (some ⟨h.length + 1, 0, none⟩) ∧ e 5 = .pointer (some ⟨h.length + 2, 0, none⟩) ∧ e 6 = .int .u64 (c : Nat) ∧ e 16 = v ∧ e 17 = .int .i64 l.length ∧ e 18 = .int .i64 i ∧ i ≤ l.length ∧ k = l.length - i ∧ c < 4294967296 ∧ lo.length = i ∧ valD lo + 4294967296 ^ i * c = valD (l.take i) * m ∧
    Sep h h' [blkA (h.length + 2) [.bool nb, vo] 46, ownA 55 lo vo, blkA (h.length + 1) [.bool false, .slice none 0 0] 46, blkA h.length [.bool b, v] 46]) ?_ l.length _ _
    ⟨0, 0, [], _, rfl, rfl, rfl, rfl, rfl, rfl, rfl, Nat.zero_le _, rfl, by decide, rfl, by simp [valD], (s.nilA _).pull 1 rfl⟩
  rintro k e h1 ⟨i, c, lo, vo, e1, e4, e5, e6, e16, e17, e18, hi, rfl, hc, hlo, hv, s⟩
  simp (disch := omega) only [VW, VY, VZ, VA, VB, VC, VE, TY, ↓reduceIte, Nat.reduceEqDiff, Nat.reduceAdd, Nat.reduceMul, Nat.reduceSub, Nat.reduceLeDiff, List.length_cons, List.length_nil, List.length_append, List.append_assoc, List.take_succ_cons, List.take_zero, List.drop_succ_cons, List.drop_zero, List.set_cons_zero, List.set_cons_succ, true_or, or_true, and_self, Bool.false_eq_true, Nat.le_refl, Option.bind_some, Option.map_some, Option.getD_some, Option.isSome_some, List.map_cons, List.map_nil, List.cons_append, List.nil_append, List.append_nil, List.getElem?_cons_zero, List.getElem?_cons_succ, eq_self, Int.reduceLT, Int.reduceLE, Int.reduceNeg, Int.reduceEq, e17, e18]
  by_cases hlt : i < l.length
  · obtain ⟨x, hx⟩ := get_some hlt
    have c1 : (i : Int) < (l.length : Int) := by omega
    have x3 := row_u32 (r.mono s.ext) hx
    have hxl := x.toNat_lt
    obtain ⟨q1, q2⟩ := mul_carry (c := c) (d := x.toNat) hc hxl hmb
    simp (disch := omega) only [VW, VY, VZ, VA, VB, VC, VE, TY, ↓reduceIte, Nat.reduceEqDiff, Nat.reduceAdd, Nat.reduceMul, Nat.reduceSub, Nat.reduceLeDiff, List.length_cons, List.length_nil, List.length_append, List.append_assoc, List.take_succ_cons, List.take_zero, List.drop_succ_cons, List.drop_zero, List.set_cons_zero, List.set_cons_succ, true_or, or_true, and_self, Bool.false_eq_true, Nat.le_refl, Option.bind_some, Option.map_some, Option.getD_some, Option.isSome_some, List.map_cons, List.map_nil, List.cons_append, List.nil_append, List.append_nil, List.getElem?_cons_zero, List.getElem?_cons_succ, eq_self, Int.reduceLT, Int.reduceLE, Int.reduceNeg, Int.reduceEq, c1, e16, e18, r.isRow.ix, x3, e6, e1, wrapu_in]
    refine .inl ⟨by kernel_rfl, ?_⟩; refine size_c (by omega) ?_
    have m1 : (x.toNat : Int) * (m : Int) = ((x.toNat * m : Nat) : Int) := by simp
    have m2 : (c : Int) + ((x.toNat * m : Nat) : Int) = ((c + x.toNat * m : Nat) : Int) := by simp
    have q3 : x.toNat * m < 18446744073709551616 := by omega
    have w1 := wrapu_nat _ q3
    have w2 := wrapu_nat _ q1
    have g := s.rd
    have w3 := wrap32_mod (c + x.toNat * m)
    have sh : Int.fdiv ((c + x.toNat * m : Nat) : Int) (2 ^ min (Int.toNat 32) 64) = (((c + x.toNat * m) / 4294967296 : Nat) : Int) := shr_u (c + x.toNat * m) 32 (by decide)
    have ht : valD (l.take (i + 1)) = valD (l.take i) + 4294967296 ^ i * x.toNat := by
      rw [List.take_add_one, hx]
      have := valD_snoc (l.take i) x
      rwa [List.length_take, Nat.min_eq_left (by omega)] at this
    have hbig : (lo.length + 1) * 4 ≤ 140737488355328 := by omega
    simp (disch := omega) only [VW, VY, VZ, VA, VB, VC, VE, TY, ↓reduceIte, Nat.reduceEqDiff, Nat.reduceAdd, Nat.reduceMul, Nat.reduceSub, Nat.reduceLeDiff, List.length_cons, List.length_nil, List.length_append, List.append_assoc, List.take_succ_cons, List.take_zero, List.drop_succ_cons, List.drop_zero, List.set_cons_zero, List.set_cons_succ, true_or, or_true, and_self, Bool.false_eq_true, Nat.le_refl, Option.bind_some, Option.map_some, Option.getD_some, Option.isSome_some, List.map_cons, List.map_nil, List.cons_append, List.nil_append, List.append_nil, List.getElem?_cons_zero, List.getElem?_cons_succ, eq_self, Int.reduceLT, Int.reduceLE, Int.reduceNeg, Int.reduceEq, hm, m1, w1, m2, w2, e5, g, w3]
    have s := s.pull 1 rfl
    have s := Sep.rep0 (x := UInt32.ofNat (c + x.toNat * m)) s (cs := [.int .u32 ((c + x.toNat * m) % 4294967296 : Nat)]) ⟨by rw [u32_val], rfl⟩
    refine sep_append s.swap rfl rfl te44 tk55 rfl (by decide) hbig fun v2 h2 s => ?_
    have cv := s.row.isRow.cells
    simp (disch := omega) only [VW, VY, VZ, VA, VB, VC, VE, TY, ↓reduceIte, Nat.reduceEqDiff, Nat.reduceAdd, Nat.reduceMul, Nat.reduceSub, Nat.reduceLeDiff, List.length_cons, List.length_nil, List.length_append, List.append_assoc, List.take_succ_cons, List.take_zero, List.drop_succ_cons, List.drop_zero, List.set_cons_zero, List.set_cons_succ, true_or, or_true, and_self, Bool.false_eq_true, Nat.le_refl, Option.bind_some, Option.map_some, Option.getD_some, Option.isSome_some, List.map_cons, List.map_nil, List.cons_append, List.nil_append, List.append_nil, List.getElem?_cons_zero, List.getElem?_cons_succ, eq_self, Int.reduceLT, Int.reduceLE, Int.reduceNeg, Int.reduceEq, e5, cv]
    refine sep_store (s.pull 1 rfl) (by simp) fun h3 s => ?_
    have s := s.as (ds := [.bool nb, v2]) (by simp [t_put])
    simp (disch := omega) only [VW, VY, VZ, VA, VB, VC, VE, TY, ↓reduceIte, Nat.reduceEqDiff, Nat.reduceAdd, Nat.reduceMul, Nat.reduceSub, Nat.reduceLeDiff, List.length_cons, List.length_nil, List.length_append, List.append_assoc, List.take_succ_cons, List.take_zero, List.drop_succ_cons, List.drop_zero, List.set_cons_zero, List.set_cons_succ, true_or, or_true, and_self, Bool.false_eq_true, Nat.le_refl, Option.bind_some, Option.map_some, Option.getD_some, Option.isSome_some, List.map_cons, List.map_nil, List.cons_append, List.nil_append, List.append_nil, List.getElem?_cons_zero, List.getElem?_cons_succ, eq_self, Int.reduceLT, Int.reduceLE, Int.reduceNeg, Int.reduceEq, sh, ubits, e1, e4, e5, e16, e17, e18, wrap_in]
    refine ⟨_, by omega, i + 1, (c + x.toNat * m) / 4294967296, lo ++ [UInt32.ofNat (c + x.toNat * m)], v2, rfl, by simp, by omega, rfl, q2, by simp [hlo], ?_, s⟩
    rw [valD_snoc, hlo, u32_val, ht, Nat.pow_succ, mul_step, Nat.add_mul, ← hv]
  · obtain rfl : i = l.length := by omega
    have c1 : ¬ (l.length : Int) < (l.length : Int) := by omega
    rw [List.take_length] at hv
    have g := s.rd
    have w3 := wrap32_mod c
    have hbig : (lo.length + 1) * 4 ≤ 140737488355328 := by omega
    simp (disch := omega) only [VW, VY, VZ, VA, VB, VC, VE, TY, ↓reduceIte, Nat.reduceEqDiff, Nat.reduceAdd, Nat.reduceMul, Nat.reduceSub, Nat.reduceLeDiff, List.length_cons, List.length_nil, List.length_append, List.append_assoc, List.take_succ_cons, List.take_zero, List.drop_succ_cons, List.drop_zero, List.set_cons_zero, List.set_cons_succ, true_or, or_true, and_self, Bool.false_eq_true, Nat.le_refl, Option.bind_some, Option.map_some, Option.getD_some, Option.isSome_some, List.map_cons, List.map_nil, List.cons_append, List.nil_append, List.append_nil, List.getElem?_cons_zero, List.getElem?_cons_succ, eq_self, Int.reduceLT, Int.reduceLE, Int.reduceNeg, Int.reduceEq, c1, e5, e6, g, w3]
    have s := s.pull 1 rfl
    have s := Sep.rep0 (x := UInt32.ofNat c) s (cs := [.int .u32 (c % 4294967296 : Nat)]) ⟨by rw [u32_val], rfl⟩
    refine sep_append s.swap rfl rfl te44 tk55 rfl (by decide) hbig fun v2 h2 s => ?_
    have cv := s.row.isRow.cells
    simp (disch := omega) only [VW, VY, VZ, VA, VB, VC, VE, TY, ↓reduceIte, Nat.reduceEqDiff, Nat.reduceAdd, Nat.reduceMul, Nat.reduceSub, Nat.reduceLeDiff, List.length_cons, List.length_nil, List.length_append, List.append_assoc, List.take_succ_cons, List.take_zero, List.drop_succ_cons, List.drop_zero, List.set_cons_zero, List.set_cons_succ, true_or, or_true, and_self, Bool.false_eq_true, Nat.le_refl, Option.bind_some, Option.map_some, Option.getD_some, Option.isSome_some, List.map_cons, List.map_nil, List.cons_append, List.nil_append, List.append_nil, List.getElem?_cons_zero, List.getElem?_cons_succ, eq_self, Int.reduceLT, Int.reduceLE, Int.reduceNeg, Int.reduceEq, e5, cv]
    refine sep_store (s.pull 1 rfl) (by simp) fun h3 s => ?_
    have s := s.as (ds := [.bool nb, v2]) (by simp [t_put])
    have ga := s.rdAll (n := 2) rfl
    simp (disch := omega) only [VW, VY, VZ, VA, VB, VC, VE, TY, ↓reduceIte, Nat.reduceEqDiff, Nat.reduceAdd, Nat.reduceMul, Nat.reduceSub, Nat.reduceLeDiff, List.length_cons, List.length_nil, List.length_append, List.append_assoc, List.take_succ_cons, List.take_zero, List.drop_succ_cons, List.drop_zero, List.set_cons_zero, List.set_cons_succ, true_or, or_true, and_self, Bool.false_eq_true, Nat.le_refl, Option.bind_some, Option.map_some, Option.getD_some, Option.isSome_some, List.map_cons, List.map_nil, List.cons_append, List.nil_append, List.append_nil, List.getElem?_cons_zero, List.getElem?_cons_succ, eq_self, Int.reduceLT, Int.reduceLE, Int.reduceNeg, Int.reduceEq, e4, e5, ga, cv]
    refine sep_store (s.pull 2 rfl) (by simp) fun h4 s => ?_
    have s := s.as (ds := [.bool nb, v2]) (by simp [t_put])
    have ga := s.rdAll (n := 2) rfl
    simp (disch := omega) only [VW, VY, VZ, VA, VB, VC, VE, TY, ↓reduceIte, Nat.reduceEqDiff, Nat.reduceAdd, Nat.reduceMul, Nat.reduceSub, Nat.reduceLeDiff, List.length_cons, List.length_nil, List.length_append, List.append_assoc, List.take_succ_cons, List.take_zero, List.drop_succ_cons, List.drop_zero, List.set_cons_zero, List.set_cons_succ, true_or, or_true, and_self, Bool.false_eq_true, Nat.le_refl, Option.bind_some, Option.map_some, Option.getD_some, Option.isSome_some, List.map_cons, List.map_nil, List.cons_append, List.nil_append, List.append_nil, List.getElem?_cons_zero, List.getElem?_cons_succ, eq_self, Int.reduceLT, Int.reduceLE, Int.reduceNeg, Int.reduceEq, e4, ga]
    refine hQ _ _ _ (s.pull 2 rfl).head ?_ (by simp [hlo])
    rw [valD_snoc, hlo, u32_val, Nat.mod_eq_of_lt hc, hv]
end Go.Proofs
