/- Contracts of functions, facts of types, or the plain law behind one statement (own work): F4. Conditions: those told in each theorem. -/
import Derived.Test.YtcgbjecjlamkbaaF3
set_option linter.all false
set_option linter.unusedSimpArgs false
set_option linter.unusedVariables false
set_option maxRecDepth 4000
namespace Go.Proofs
open Go Go.V
/- Long numbers: a sum. -/
theorem cond_cutF {c : Value} {a b : Code} {e : Env} {h : Heap} {K : VX → Env → Heap → Prop} (I : Env → Heap → Prop) (key : ∀ e' h', I e' h' → K .norm e' h')
    (main : ∀ K' : VX → Env → Heap → Prop, (∀ e' h', I e' h' → K' .norm e' h') → condK Try.prog c a b e h K') : condK Try.prog c a b e h K := main K key
def sgB (b c : Bool) : Int := if b = c then 1 else -1
theorem plus_step {A B lo P c a b s : Int} (hi : lo + P * c = A + s * B) : lo + P * ((c + a + s * b) % 4294967296) + P * 4294967296 * ((c + a + s * b) / 4294967296) = (A + P * a) + s * (B + P * b) := by
  have h := Int.emod_add_mul_ediv (c + a + s * b) 4294967296
  rw [Int.add_assoc, Int.mul_assoc, ← Int.mul_add, h, Int.mul_add, Int.mul_add, Int.mul_add, ← Int.add_assoc, ← Int.add_assoc, hi, Int.mul_left_comm P s b]
  omega
theorem plus_end {lo P c A B s : Int} (hi : lo + P * c = A + s * B) (hc : c = -1 ∨ c = 0 ∨ c = 1) (hs : s = 1 ∨ s = -1) (h0 : 0 ≤ lo) (h1 : lo < P) (hb : 0 ≤ B) (hba : B ≤ A) (h2 : 2 * A < P) : lo = A + s * B := by
  rcases hc with rfl | rfl | rfl <;> rcases hs with rfl | rfl <;> omega
theorem plus_bnd {c s : Int} {a b : Nat} (hc : c = -1 ∨ c = 0 ∨ c = 1) (hs : s = 1 ∨ s = -1) (ha : a < 4294967296) (hb : b < 4294967296) :
    (c + a + s * b) / 4294967296 = -1 ∨ (c + a + s * b) / 4294967296 = 0 ∨ (c + a + s * b) / 4294967296 = 1 := by
  rcases hc with rfl | rfl | rfl <;> rcases hs with rfl | rfl <;> omega
theorem lvI_plus {b c : Bool} {A B : Nat} {R : Nat} (h : (R : Int) = A + sgB b c * B) : lvI b R = lvI b A + lvI c B := by
  unfold sgB at h
  unfold lvI
  cases b <;> cases c <;> simp at h ⊢ <;> omega
theorem sgB_cases (b c : Bool) : sgB b c = 1 ∨ sgB b c = -1 := by unfold sgB; split <;> simp
theorem fdiv32 (d : Int) : Int.fdiv d (2 ^ min (Int.toNat 32) 64) = d / 4294967296 := by
  have : (2 : Int) ^ min (Int.toNat 32) 64 = 4294967296 := by decide
  rw [this, Int.fdiv_eq_ediv_of_nonneg _ (by decide)]
theorem plus_c {b1 b2 : Bool} {l m : List UInt32} {v w : Value} {N : Nat} {h : Heap} {Q : Value → Heap → Prop} (r1 : Row h l v) (r2 : Row h m w) (hN : N ≤ 1000000) (hl : l.length ≤ N) (hm : m.length ≤ N)
    (hQ : ∀ b' l' w' h', Sep h h' [ownA 55 l' w'] → lvI b' (valD l') = lvI b1 (valD l) + lvI b2 (valD m) → l'.length ≤ N + 1 → Q (.agg #[.bool b', w']) h') :
    CallsV Try.prog 36 [.agg #[.bool b1, v], .agg #[.bool b2, w]] h Q := by
  refine CallsV.start Try.func36 rfl (by rw [Try.results36]) (by kernel_rfl) (by rw [Try.ntmps36]; simp) ?_
  have s := Sep.blk3 h [.bool b1, v] [.bool b2, w] [.bool false, .slice none 0 0] 46 46 46 true true true
  have g1 := (s.pull 2 rfl).rdAll (n := 2) rfl
  have g2 := (s.pull 1 rfl).rdAll (n := 2) rfl
  simp (disch := omega) only [VW, VY, VZ, VA, VB, VC, VE, TY, ↓reduceIte, Nat.reduceEqDiff, Nat.reduceAdd, Nat.reduceMul, Nat.reduceSub, Nat.reduceLeDiff, List.length_cons, List.length_nil, List.length_append, List.append_assoc, List.take_succ_cons, List.take_zero, List.drop_succ_cons, List.drop_zero, List.set_cons_zero, List.set_cons_succ, true_or, or_true, and_self, Bool.false_eq_true, Nat.le_refl, Option.bind_some, Option.map_some, Option.getD_some, Option.isSome_some, List.map_cons, List.map_nil, List.cons_append, List.nil_append, List.append_nil, List.getElem?_cons_zero, List.getElem?_cons_succ, eq_self, Int.reduceLT, Int.reduceLE, Int.reduceNeg, Int.reduceEq, g1, g2]
  refine .inl ⟨by kernel_rfl, ?_⟩; refine compareDigits_c (r1.mono s.ext) (r2.mono s.ext) (by omega) (by omega) fun h1 E1 => ?_
  have s := s.mono E1
  have g1 := (s.pull 2 rfl).rdAll (n := 2) rfl
  have g2 := (s.pull 1 rfl).rdAll (n := 2) rfl
  simp (disch := omega) only [VW, VY, VZ, VA, VB, VC, VE, TY, ↓reduceIte, Nat.reduceEqDiff, Nat.reduceAdd, Nat.reduceMul, Nat.reduceSub, Nat.reduceLeDiff, List.length_cons, List.length_nil, List.length_append, List.append_assoc, List.take_succ_cons, List.take_zero, List.drop_succ_cons, List.drop_zero, List.set_cons_zero, List.set_cons_succ, true_or, or_true, and_self, Bool.false_eq_true, Nat.le_refl, Option.bind_some, Option.map_some, Option.getD_some, Option.isSome_some, List.map_cons, List.map_nil, List.cons_append, List.nil_append, List.append_nil, List.getElem?_cons_zero, List.getElem?_cons_succ, eq_self, Int.reduceLT, Int.reduceLE, Int.reduceNeg, Int.reduceEq]
  refine cond_cutF (fun e h' => ∃ (B1 B2 : Bool) (L M : List UInt32) (V W : Value), e 2 = .pointer (some ⟨h.length, 0, none⟩) ∧ e 3 = .pointer (some ⟨h.length + 1, 0, none⟩) ∧ e 4 = .pointer (some ⟨h.length + 2, 0, none⟩) ∧
    Row h L V ∧ Row h M W ∧ L.length ≤ N ∧ M.length ≤ N ∧ valD M ≤ valD L ∧ lvI B1 (valD L) + lvI B2 (valD M) = lvI b1 (valD l) + lvI b2 (valD m) ∧
    Sep h h' [blkA (h.length + 2) [.bool false, .slice none 0 0] 46, blkA (h.length + 1) [.bool B2, W] 46, blkA h.length [.bool B1, V] 46]) ?_ ?_
  · clear g1 g2 s E1 h1
    rintro e0 h1 ⟨B1, B2, L, M, V, W, g2, g3, g4, r1, r2, hl, hm, hle, hval, s⟩
    rw [← hval] at hQ
    clear hval
    have ga := (s.pull 2 rfl).rd
    have s := s.newBlk [.bool B1, .slice none 0 0] 46 true
    have gb := (s.pull 3 rfl).rd
    have kM : (L.length : Int) + 1 = ((L.length + 1 : Nat) : Int) := by omega
    have lenL := r1.isRow.len Try.prog
    simp (disch := omega) only [VW, VY, VZ, VA, VB, VC, VE, TY, ↓reduceIte, Nat.reduceEqDiff, Nat.reduceAdd, Nat.reduceMul, Nat.reduceSub, Nat.reduceLeDiff, List.length_cons, List.length_nil, List.length_append, List.append_assoc, List.take_succ_cons, List.take_zero, List.drop_succ_cons, List.drop_zero, List.set_cons_zero, List.set_cons_succ, true_or, or_true, and_self, Bool.false_eq_true, Nat.le_refl, Option.bind_some, Option.map_some, Option.getD_some, Option.isSome_some, List.map_cons, List.map_nil, List.cons_append, List.nil_append, List.append_nil, List.getElem?_cons_zero, List.getElem?_cons_succ, eq_self, Int.reduceLT, Int.reduceLE, Int.reduceNeg, Int.reduceEq, g2, g3, g4, ga, gb, lenL, wrap_in, kM]
    clear ga gb
    generalize h1 ++ [some ⟨[.bool B1, .slice none 0 0], 46, false, true⟩] = h0 at *
    generalize h1.length = p at *
    refine loop_rule (fun k e h' => ∃ (i : Nat) (c : Int) (lo : List UInt32) (vo : Value), e 2 = .pointer (some ⟨h.length, 0, none⟩) ∧ e 3 = .pointer (some ⟨h.length + 1, 0, none⟩) ∧ e 4 = .pointer (some ⟨h.length + 2, 0, none⟩) ∧ e 5 = .pointer (some ⟨p, 0, none⟩) ∧ e 6 = .int .i64 c ∧ e 21 = .int .i64 (L.length + 1 : Nat) ∧ e 22 = .int .i64 i ∧ i ≤ L.length + 1 ∧ k = L.length + 1 - i ∧ (c = -1 ∨ c = 0 ∨ c = 1) ∧ lo.length = i ∧
      ((valD lo : Nat) : Int) + ((4294967296 ^ i : Nat) : Int) * c = ((valD L % 4294967296 ^ i : Nat) : Int) + sgB B1 B2 * ((valD M % 4294967296 ^ i : Nat) : Int) ∧
      Sep h h' [blkA p [.bool B1, vo] 46, ownA 55 lo vo, blkA (h.length + 2) [.bool false, .slice none 0 0] 46, blkA (h.length + 1) [.bool B2, W] 46, blkA h.length [.bool B1, V] 46]) ?_ (L.length + 1) _ _
      ⟨0, 0, [], _, g2, g3, g4, rfl, rfl, rfl, rfl, Nat.zero_le _, rfl, .inr (.inl rfl), rfl, by simp [valD, Nat.mod_one], (s.nilA _).pull 1 rfl⟩
    clear g2 g3 g4 s
    rintro k e h2 ⟨i, c, lo, vo, e2, e3, e4, e5, e6, e21, e22, hi, rfl, hc, hlo, hv, s⟩
    simp (disch := omega) only [VW, VY, VZ, VA, VB, VC, VE, TY, ↓reduceIte, Nat.reduceEqDiff, Nat.reduceAdd, Nat.reduceMul, Nat.reduceSub, Nat.reduceLeDiff, List.length_cons, List.length_nil, List.length_append, List.append_assoc, List.take_succ_cons, List.take_zero, List.drop_succ_cons, List.drop_zero, List.set_cons_zero, List.set_cons_succ, true_or, or_true, and_self, Bool.false_eq_true, Nat.le_refl, Option.bind_some, Option.map_some, Option.getD_some, Option.isSome_some, List.map_cons, List.map_nil, List.cons_append, List.nil_append, List.append_nil, List.getElem?_cons_zero, List.getElem?_cons_succ, eq_self, Int.reduceLT, Int.reduceLE, Int.reduceNeg, Int.reduceEq, e21, e22]
    by_cases hlt : i < L.length + 1
    · have c1 : (i : Int) < ((L.length + 1 : Nat) : Int) := by omega
      have ga := (s.pull 4 rfl).rdAll (n := 2) rfl
      have ha := digD_lt L i
      have hb := digD_lt M i
      simp (disch := omega) only [VW, VY, VZ, VA, VB, VC, VE, TY, ↓reduceIte, Nat.reduceEqDiff, Nat.reduceAdd, Nat.reduceMul, Nat.reduceSub, Nat.reduceLeDiff, List.length_cons, List.length_nil, List.length_append, List.append_assoc, List.take_succ_cons, List.take_zero, List.drop_succ_cons, List.drop_zero, List.set_cons_zero, List.set_cons_succ, true_or, or_true, and_self, Bool.false_eq_true, Nat.le_refl, Option.bind_some, Option.map_some, Option.getD_some, Option.isSome_some, List.map_cons, List.map_nil, List.cons_append, List.nil_append, List.append_nil, List.getElem?_cons_zero, List.getElem?_cons_succ, eq_self, Int.reduceLT, Int.reduceLE, Int.reduceNeg, Int.reduceEq, c1, e2, e6, e22, ga]
      refine .inl ⟨by kernel_rfl, ?_⟩; refine digit_c (r1.mono s.ext) fun h3 E3 => ?_
      have s := s.mono E3
      have ga := (s.pull 4 rfl).rd
      have gb := (s.pull 3 rfl).rd
      have gc := (s.pull 3 rfl).rdAll (n := 2) rfl
      simp (disch := omega) only [VW, VY, VZ, VA, VB, VC, VE, TY, ↓reduceIte, Nat.reduceEqDiff, Nat.reduceAdd, Nat.reduceMul, Nat.reduceSub, Nat.reduceLeDiff, List.length_cons, List.length_nil, List.length_append, List.append_assoc, List.take_succ_cons, List.take_zero, List.drop_succ_cons, List.drop_zero, List.set_cons_zero, List.set_cons_succ, true_or, or_true, and_self, Bool.false_eq_true, Nat.le_refl, Option.bind_some, Option.map_some, Option.getD_some, Option.isSome_some, List.map_cons, List.map_nil, List.cons_append, List.nil_append, List.append_nil, List.getElem?_cons_zero, List.getElem?_cons_succ, eq_self, Int.reduceLT, Int.reduceLE, Int.reduceNeg, Int.reduceEq, e2, e3, ga, gb, wrap_in]
      refine cond_cutF (fun e' h' => ∃ D : Int, D = c + (digD L i : Nat) + sgB B1 B2 * (digD M i : Nat) ∧ e' 2 = .pointer (some ⟨h.length, 0, none⟩) ∧ e' 3 = .pointer (some ⟨h.length + 1, 0, none⟩) ∧ e' 4 = .pointer (some ⟨h.length + 2, 0, none⟩) ∧ e' 5 = .pointer (some ⟨p, 0, none⟩) ∧ e' 8 = .int .i64 D ∧ e' 21 = .int .i64 (L.length + 1 : Nat) ∧ e' 22 = .int .i64 i ∧
        Sep h h' [blkA p [.bool B1, vo] 46, ownA 55 lo vo, blkA (h.length + 2) [.bool false, .slice none 0 0] 46, blkA (h.length + 1) [.bool B2, W] 46, blkA h.length [.bool B1, V] 46]) ?_ ?_
      · clear e2 e3 e4 e5 e6 e21 e22 s ga gb gc
        rintro e4_ h4 ⟨D, hD, e2, e3, e4, e5, e8, e21, e22, s⟩
        have g := s.rd
        have hd0 : 0 ≤ D % 4294967296 ∧ D % 4294967296 < 4294967296 := by omega
        have hy : ((UInt32.ofNat (D % 4294967296).toNat).toNat : Int) = D % 4294967296 := by rw [u32_val]; omega
        have w3 := wrap32_int D
        have hbig : (lo.length + 1) * 4 ≤ 140737488355328 := by omega
        simp (disch := omega) only [VW, VY, VZ, VA, VB, VC, VE, TY, ↓reduceIte, Nat.reduceEqDiff, Nat.reduceAdd, Nat.reduceMul, Nat.reduceSub, Nat.reduceLeDiff, List.length_cons, List.length_nil, List.length_append, List.append_assoc, List.take_succ_cons, List.take_zero, List.drop_succ_cons, List.drop_zero, List.set_cons_zero, List.set_cons_succ, true_or, or_true, and_self, Bool.false_eq_true, Nat.le_refl, Option.bind_some, Option.map_some, Option.getD_some, Option.isSome_some, List.map_cons, List.map_nil, List.cons_append, List.nil_append, List.append_nil, List.getElem?_cons_zero, List.getElem?_cons_succ, eq_self, Int.reduceLT, Int.reduceLE, Int.reduceNeg, Int.reduceEq, e5, e8, g, w3]
        have s := s.pull 1 rfl
        have s := Sep.rep0 (x := UInt32.ofNat (D % 4294967296).toNat) s (cs := [.int .u32 (D % 4294967296)]) ⟨by rw [hy], rfl⟩
        refine sep_append s.swap rfl rfl te44 tk55 rfl (by decide) hbig fun v2 h5 s => ?_
        have cv := s.row.isRow.cells
        simp (disch := omega) only [VW, VY, VZ, VA, VB, VC, VE, TY, ↓reduceIte, Nat.reduceEqDiff, Nat.reduceAdd, Nat.reduceMul, Nat.reduceSub, Nat.reduceLeDiff, List.length_cons, List.length_nil, List.length_append, List.append_assoc, List.take_succ_cons, List.take_zero, List.drop_succ_cons, List.drop_zero, List.set_cons_zero, List.set_cons_succ, true_or, or_true, and_self, Bool.false_eq_true, Nat.le_refl, Option.bind_some, Option.map_some, Option.getD_some, Option.isSome_some, List.map_cons, List.map_nil, List.cons_append, List.nil_append, List.append_nil, List.getElem?_cons_zero, List.getElem?_cons_succ, eq_self, Int.reduceLT, Int.reduceLE, Int.reduceNeg, Int.reduceEq, e5, cv]
        refine sep_store (s.pull 1 rfl) (by simp) fun h6 s => ?_
        have s := s.as (ds := [.bool B1, v2]) (by simp [t_put])
        have fd := fdiv32 D
        have hcc := plus_bnd (c := c) (s := sgB B1 B2) hc (sgB_cases _ _) ha hb
        rw [← hD] at hcc
        have hwr : IntKind.wrap .i64 (D / 4294967296) = D / 4294967296 := wrap_in _ (by omega)
        have st := plus_step (a := (digD L i : Nat)) (b := (digD M i : Nat)) hv
        rw [← hD] at st
        simp (disch := omega) only [VW, VY, VZ, VA, VB, VC, VE, TY, ↓reduceIte, Nat.reduceEqDiff, Nat.reduceAdd, Nat.reduceMul, Nat.reduceSub, Nat.reduceLeDiff, List.length_cons, List.length_nil, List.length_append, List.append_assoc, List.take_succ_cons, List.take_zero, List.drop_succ_cons, List.drop_zero, List.set_cons_zero, List.set_cons_succ, true_or, or_true, and_self, Bool.false_eq_true, Nat.le_refl, Option.bind_some, Option.map_some, Option.getD_some, Option.isSome_some, List.map_cons, List.map_nil, List.cons_append, List.nil_append, List.append_nil, List.getElem?_cons_zero, List.getElem?_cons_succ, eq_self, Int.reduceLT, Int.reduceLE, Int.reduceNeg, Int.reduceEq, e2, e3, e4, e5, e8, e21, e22, fd, hwr, ibits, wrap_in]
        refine ⟨_, by omega, i + 1, D / 4294967296, lo ++ [UInt32.ofNat (D % 4294967296).toNat], v2, rfl, by simp, by omega, rfl, hcc, by simp [hlo], ?_, s⟩
        rw [mod_up (valD L) i, mod_up (valD M) i, ← digD_eq, ← digD_eq, valD_snoc, hlo, Int.natCast_add, Int.natCast_mul, hy, Int.natCast_add, Int.natCast_mul, Int.natCast_add, Int.natCast_mul, Nat.pow_succ, Int.natCast_mul]
        exact st
      · intro K key
        by_cases cb : B1 = B2
        · have cb' : (B1 == B2) = true := by rw [cb]; exact beq_self_eq_true _
          have hs : sgB B1 B2 = 1 := by unfold sgB; rw [if_pos cb]
          rw [hs] at key
          simp (disch := omega) only [VW, VY, VZ, VA, VB, VC, VE, TY, ↓reduceIte, Nat.reduceEqDiff, Nat.reduceAdd, Nat.reduceMul, Nat.reduceSub, Nat.reduceLeDiff, List.length_cons, List.length_nil, List.length_append, List.append_assoc, List.take_succ_cons, List.take_zero, List.drop_succ_cons, List.drop_zero, List.set_cons_zero, List.set_cons_succ, true_or, or_true, and_self, Bool.false_eq_true, Nat.le_refl, Option.bind_some, Option.map_some, Option.getD_some, Option.isSome_some, List.map_cons, List.map_nil, List.cons_append, List.nil_append, List.append_nil, List.getElem?_cons_zero, List.getElem?_cons_succ, eq_self, Int.reduceLT, Int.reduceLE, Int.reduceNeg, Int.reduceEq, cb', b_eqb, e3, e22, gc]
          refine .inl ⟨by kernel_rfl, ?_⟩; refine digit_c (r2.mono s.ext) fun h4 E4 => ?_
          have s := s.mono E4
          simp (disch := omega) only [VW, VY, VZ, VA, VB, VC, VE, TY, ↓reduceIte, Nat.reduceEqDiff, Nat.reduceAdd, Nat.reduceMul, Nat.reduceSub, Nat.reduceLeDiff, List.length_cons, List.length_nil, List.length_append, List.append_assoc, List.take_succ_cons, List.take_zero, List.drop_succ_cons, List.drop_zero, List.set_cons_zero, List.set_cons_succ, true_or, or_true, and_self, Bool.false_eq_true, Nat.le_refl, Option.bind_some, Option.map_some, Option.getD_some, Option.isSome_some, List.map_cons, List.map_nil, List.cons_append, List.nil_append, List.append_nil, List.getElem?_cons_zero, List.getElem?_cons_succ, eq_self, Int.reduceLT, Int.reduceLE, Int.reduceNeg, Int.reduceEq, wrap_in]
          exact key _ _ ⟨_, by omega, e2, e3, e4, e5, rfl, e21, e22, s⟩
        · have cb' : (B1 == B2) = false := by simpa using cb
          have hs : sgB B1 B2 = -1 := by unfold sgB; rw [if_neg cb]
          rw [hs] at key
          simp (disch := omega) only [VW, VY, VZ, VA, VB, VC, VE, TY, ↓reduceIte, Nat.reduceEqDiff, Nat.reduceAdd, Nat.reduceMul, Nat.reduceSub, Nat.reduceLeDiff, List.length_cons, List.length_nil, List.length_append, List.append_assoc, List.take_succ_cons, List.take_zero, List.drop_succ_cons, List.drop_zero, List.set_cons_zero, List.set_cons_succ, true_or, or_true, and_self, Bool.false_eq_true, Nat.le_refl, Option.bind_some, Option.map_some, Option.getD_some, Option.isSome_some, List.map_cons, List.map_nil, List.cons_append, List.nil_append, List.append_nil, List.getElem?_cons_zero, List.getElem?_cons_succ, eq_self, Int.reduceLT, Int.reduceLE, Int.reduceNeg, Int.reduceEq, cb', b_eqb, e3, e22, gc]
          refine .inl ⟨by kernel_rfl, ?_⟩; refine digit_c (r2.mono s.ext) fun h4 E4 => ?_
          have s := s.mono E4
          simp (disch := omega) only [VW, VY, VZ, VA, VB, VC, VE, TY, ↓reduceIte, Nat.reduceEqDiff, Nat.reduceAdd, Nat.reduceMul, Nat.reduceSub, Nat.reduceLeDiff, List.length_cons, List.length_nil, List.length_append, List.append_assoc, List.take_succ_cons, List.take_zero, List.drop_succ_cons, List.drop_zero, List.set_cons_zero, List.set_cons_succ, true_or, or_true, and_self, Bool.false_eq_true, Nat.le_refl, Option.bind_some, Option.map_some, Option.getD_some, Option.isSome_some, List.map_cons, List.map_nil, List.cons_append, List.nil_append, List.append_nil, List.getElem?_cons_zero, List.getElem?_cons_succ, eq_self, Int.reduceLT, Int.reduceLE, Int.reduceNeg, Int.reduceEq, wrap_in]
          exact key _ _ ⟨_, by omega, e2, e3, e4, e5, rfl, e21, e22, s⟩
    · obtain rfl : i = L.length + 1 := by omega
      have c1 : ¬ ((L.length + 1 : Nat) : Int) < ((L.length + 1 : Nat) : Int) := by omega
      have ga := s.rdAll (n := 2) rfl
      have cv := (s.pull 1 rfl).row.isRow.cells
      simp (disch := omega) only [VW, VY, VZ, VA, VB, VC, VE, TY, ↓reduceIte, Nat.reduceEqDiff, Nat.reduceAdd, Nat.reduceMul, Nat.reduceSub, Nat.reduceLeDiff, List.length_cons, List.length_nil, List.length_append, List.append_assoc, List.take_succ_cons, List.take_zero, List.drop_succ_cons, List.drop_zero, List.set_cons_zero, List.set_cons_succ, true_or, or_true, and_self, Bool.false_eq_true, Nat.le_refl, Option.bind_some, Option.map_some, Option.getD_some, Option.isSome_some, List.map_cons, List.map_nil, List.cons_append, List.nil_append, List.append_nil, List.getElem?_cons_zero, List.getElem?_cons_succ, eq_self, Int.reduceLT, Int.reduceLE, Int.reduceNeg, Int.reduceEq, c1, e4, e5, ga, cv]
      refine sep_store (s.pull 2 rfl) (by simp) fun h4 s => ?_
      have s := s.as (ds := [.bool B1, vo]) (by simp [t_put])
      have ga := s.rdAll (n := 2) rfl
      simp (disch := omega) only [VW, VY, VZ, VA, VB, VC, VE, TY, ↓reduceIte, Nat.reduceEqDiff, Nat.reduceAdd, Nat.reduceMul, Nat.reduceSub, Nat.reduceLeDiff, List.length_cons, List.length_nil, List.length_append, List.append_assoc, List.take_succ_cons, List.take_zero, List.drop_succ_cons, List.drop_zero, List.set_cons_zero, List.set_cons_succ, true_or, or_true, and_self, Bool.false_eq_true, Nat.le_refl, Option.bind_some, Option.map_some, Option.getD_some, Option.isSome_some, List.map_cons, List.map_nil, List.cons_append, List.nil_append, List.append_nil, List.getElem?_cons_zero, List.getElem?_cons_succ, eq_self, Int.reduceLT, Int.reduceLE, Int.reduceNeg, Int.reduceEq, ga, e4]
      refine hQ _ _ _ _ (s.pull 2 rfl).head (lvI_plus ?_) (by omega)
      rw [valD_mod L (by omega)] at hv
      have hLt := valD_lt L
      have hMt : valD M % 4294967296 ^ (L.length + 1) = valD M := Nat.mod_eq_of_lt (by rw [Nat.pow_succ]; omega)
      have hlt2 := valD_lt lo
      rw [hlo] at hlt2
      rw [hMt] at hv
      refine plus_end hv hc (sgB_cases _ _) (by omega) (by omega) (by omega) (by omega) ?_
      rw [Nat.pow_succ]; omega
  · intro K key
    by_cases c : valD l < valD m
    · have hs : sgnN (valD l) (valD m) = -1 := by unfold sgnN; rw [if_pos c]
      have c1 : (-1 : Int) < 0 := by decide
      simp (disch := omega) only [VW, VY, VZ, VA, VB, VC, VE, TY, ↓reduceIte, Nat.reduceEqDiff, Nat.reduceAdd, Nat.reduceMul, Nat.reduceSub, Nat.reduceLeDiff, List.length_cons, List.length_nil, List.length_append, List.append_assoc, List.take_succ_cons, List.take_zero, List.drop_succ_cons, List.drop_zero, List.set_cons_zero, List.set_cons_succ, true_or, or_true, and_self, Bool.false_eq_true, Nat.le_refl, Option.bind_some, Option.map_some, Option.getD_some, Option.isSome_some, List.map_cons, List.map_nil, List.cons_append, List.nil_append, List.append_nil, List.getElem?_cons_zero, List.getElem?_cons_succ, eq_self, Int.reduceLT, Int.reduceLE, Int.reduceNeg, Int.reduceEq, hs, c1, g1, g2]
      refine sep_store (s.pull 2 rfl) (by simp) fun h2 s => ?_
      have s := s.as (ds := [.bool b2, w]) (by simp [t_put])
      simp (disch := omega) only [VW, VY, VZ, VA, VB, VC, VE, TY, ↓reduceIte, Nat.reduceEqDiff, Nat.reduceAdd, Nat.reduceMul, Nat.reduceSub, Nat.reduceLeDiff, List.length_cons, List.length_nil, List.length_append, List.append_assoc, List.take_succ_cons, List.take_zero, List.drop_succ_cons, List.drop_zero, List.set_cons_zero, List.set_cons_succ, true_or, or_true, and_self, Bool.false_eq_true, Nat.le_refl, Option.bind_some, Option.map_some, Option.getD_some, Option.isSome_some, List.map_cons, List.map_nil, List.cons_append, List.nil_append, List.append_nil, List.getElem?_cons_zero, List.getElem?_cons_succ, eq_self, Int.reduceLT, Int.reduceLE, Int.reduceNeg, Int.reduceEq]
      refine sep_store (s.pull 2 rfl) (by simp) fun h3 s => ?_
      have s := s.as (ds := [.bool b1, v]) (by simp [t_put])
      simp (disch := omega) only [VW, VY, VZ, VA, VB, VC, VE, TY, ↓reduceIte, Nat.reduceEqDiff, Nat.reduceAdd, Nat.reduceMul, Nat.reduceSub, Nat.reduceLeDiff, List.length_cons, List.length_nil, List.length_append, List.append_assoc, List.take_succ_cons, List.take_zero, List.drop_succ_cons, List.drop_zero, List.set_cons_zero, List.set_cons_succ, true_or, or_true, and_self, Bool.false_eq_true, Nat.le_refl, Option.bind_some, Option.map_some, Option.getD_some, Option.isSome_some, List.map_cons, List.map_nil, List.cons_append, List.nil_append, List.append_nil, List.getElem?_cons_zero, List.getElem?_cons_succ, eq_self, Int.reduceLT, Int.reduceLE, Int.reduceNeg, Int.reduceEq]
      exact key _ _ ⟨b2, b1, m, l, w, v, rfl, rfl, rfl, r2, r1, hm, hl, by omega, Int.add_comm _ _, s.pull 2 rfl |>.pull 1 rfl |>.pull 1 rfl⟩
    · have hs : ¬ sgnN (valD l) (valD m) < 0 := by unfold sgnN; rw [if_neg c]; split <;> decide
      simp (disch := omega) only [VW, VY, VZ, VA, VB, VC, VE, TY, ↓reduceIte, Nat.reduceEqDiff, Nat.reduceAdd, Nat.reduceMul, Nat.reduceSub, Nat.reduceLeDiff, List.length_cons, List.length_nil, List.length_append, List.append_assoc, List.take_succ_cons, List.take_zero, List.drop_succ_cons, List.drop_zero, List.set_cons_zero, List.set_cons_succ, true_or, or_true, and_self, Bool.false_eq_true, Nat.le_refl, Option.bind_some, Option.map_some, Option.getD_some, Option.isSome_some, List.map_cons, List.map_nil, List.cons_append, List.nil_append, List.append_nil, List.getElem?_cons_zero, List.getElem?_cons_succ, eq_self, Int.reduceLT, Int.reduceLE, Int.reduceNeg, Int.reduceEq, hs]
      exact key _ _ ⟨b1, b2, l, m, v, w, rfl, rfl, rfl, r1, r2, hl, hm, by omega, rfl, s⟩
end Go.Proofs
