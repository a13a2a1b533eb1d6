/- Contracts of functions, facts of types, or the plain law behind one statement (own work): YK. Conditions: those told in each theorem. -/
import Derived.Test.YtiiolloielppeaaYJ
import Derived.Test.YtiiolloielppeaaP1
set_option linter.all false
set_option linter.unusedSimpArgs false
set_option linter.unusedVariables false
set_option maxRecDepth 4000
namespace Go.Proofs
open Go Go.V
/- The volume of a box. -/
theorem box_small' {x : Bx} (h : boxM x = true) : (0 ≤ x.k ∧ x.k ≤ 8) ∧ x.low.length ≤ 3 ∧ x.high.length = x.low.length ∧ ∀ p ∈ x.low.zip x.high, (-2048 ≤ p.1 ∧ p.1 ≤ 2048) ∧ (-2048 ≤ p.2 ∧ p.2 ≤ 2048) := by
  unfold boxM at h
  simp only [Bool.and_eq_true, decide_eq_true_eq] at h
  obtain ⟨⟨⟨h1, h2⟩, h3⟩, h4, _⟩ := h
  refine ⟨h1, by omega, h3, fun p hp => ?_⟩
  have := List.all_eq_true.1 h4 p hp
  have hm := mostM_le h1
  simp only [pairOk, decide_eq_true_eq] at this
  omega
def prodM (l : List (Int × Int)) : Int := l.foldl (fun n p => n * (p.2 - p.1)) 1
theorem prodM_snoc (l : List (Int × Int)) (p : Int × Int) : prodM (l ++ [p]) = prodM l * (p.2 - p.1) := by unfold prodM; rw [List.foldl_append]; rfl
theorem prodM_take {l : List (Int × Int)} {i : Nat} {p : Int × Int} (h : l[i]? = some p) : prodM (l.take (i + 1)) = prodM (l.take i) * (p.2 - p.1) := by
  rw [List.take_add_one, h]
  exact prodM_snoc _ _
theorem mul_small {n d B : Int} (h : -B ≤ n ∧ n ≤ B) (hd : -4096 ≤ d ∧ d ≤ 4096) : -(B * 4096) ≤ n * d ∧ n * d ≤ B * 4096 := by
  have h1 : n.natAbs ≤ B.natAbs := by omega
  have h2 : d.natAbs ≤ 4096 := by omega
  have := Nat.mul_le_mul h1 h2
  rw [← Int.natAbs_mul] at this
  have h3 : ((B.natAbs * 4096 : Nat) : Int) = B * 4096 := by omega
  omega
theorem prodM_le {x : Bx} (h : boxM x = true) (i : Nat) : -68719476736 ≤ prodM ((x.low.zip x.high).take i) ∧ prodM ((x.low.zip x.high).take i) ≤ 68719476736 := by
  obtain ⟨hk, hl, hh, hp⟩ := box_small' h
  have hlen : (x.low.zip x.high).length ≤ 3 := by rw [List.length_zip]; omega
  generalize x.low.zip x.high = l at *
  have e : ∀ j ≤ 3, -(4096 ^ j : Int) ≤ prodM (l.take j) ∧ prodM (l.take j) ≤ 4096 ^ j := by
    intro j hj
    induction j with
    | zero => rw [List.take_zero]; exact ⟨by decide, by decide⟩
    | succ j ih =>
      have ih := ih (by omega)
      by_cases c : j < l.length
      · obtain ⟨p, hpj⟩ := get_some c
        rw [prodM_take hpj, Int.pow_succ]
        have := hp p (List.mem_of_getElem? hpj)
        exact mul_small ih (by omega)
      · rw [List.take_of_length_le (by omega)] at ih ⊢
        have : (0 : Int) < 4096 ^ j := Int.pow_pos (by decide)
        rw [Int.pow_succ]
        omega
  by_cases c : i ≤ 3
  · have := e i c
    have h1 : (4096 : Nat) ^ i ≤ 4096 ^ 3 := Nat.pow_le_pow_right (by decide) c
    have h2 : (4096 : Nat) ^ 3 = 68719476736 := by decide
    have h3 : ((4096 ^ i : Nat) : Int) = (4096 : Int) ^ i := by simp
    rw [← h3] at this
    omega
  · have := e 3 (by omega)
    rw [List.take_of_length_le (by omega)] at this ⊢
    have h2 : (4096 : Int) ^ 3 = 68719476736 := by decide
    rw [h2] at this
    exact this
theorem stripM_small (n : Int) (k : Nat) : (stripM n k).1.natAbs ≤ n.natAbs := by
  induction k generalizing n with
  | zero => exact Nat.le_refl _
  | succ k ih =>
    simp only [stripM]
    split
    · have := ih (n / 2); omega
    · exact Nat.le_refl _
theorem makeM_small {n : Int} {k : Nat} (hn : n.natAbs ≤ 1099511627776) (hk : k ≤ 24) : ∃ d, makeM n k = some d ∧ DyG d := by
  have h1 := stripM_small n k
  have h2 := stripM_le n k
  have hs : (makeM n k).isSome = true := by
    unfold makeM
    split
    · rfl
    · rw [if_pos]
      · rfl
      · unfold fitsB
        simp only [Bool.and_eq_true, decide_eq_true_eq]
        omega
  obtain ⟨d, hd⟩ := Option.isSome_iff_exists.1 hs
  exact ⟨d, hd, makeM_good hd⟩
def volK (x : Bx) : Nat := x.k.toNat * x.low.length
def volM (x : Bx) : Dy := (makeM (prodM (x.low.zip x.high)) (volK x)).getD ⟨0, 0⟩
theorem volK_le {x : Bx} (h : boxM x = true) : volK x ≤ 24 := by
  obtain ⟨hk, hl, hh, hp⟩ := box_small' h
  unfold volK
  have : x.k.toNat * x.low.length ≤ 8 * 3 := Nat.mul_le_mul (by omega) hl
  omega
theorem volM_eq {x : Bx} (h : boxM x = true) : makeM (prodM (x.low.zip x.high)) (volK x) = some (volM x) ∧ DyG (volM x) := by
  have hp := prodM_le h (x.low.zip x.high).length
  rw [List.take_length] at hp
  obtain ⟨d, hd, hg⟩ := makeM_small (n := prodM (x.low.zip x.high)) (by omega) (volK_le h)
  unfold volM
  rw [hd]
  exact ⟨rfl, hg⟩
theorem bxNumber_c {n : Int} {k : Nat} {h : Heap} {Q : Value → Heap → Prop} (hn : inI64 n) (hk : k ≤ 1000) (hQ : ∀ h', Ext h h' → Q (.agg (dyC ((makeM n k).getD ⟨0, 0⟩)).toArray) h') :
    CallsV Try.prog 89 [.int .i64 n, .int .i64 k] h Q := by
  refine CallsV.start Try.func89 rfl (by rw [Try.results89]) (by kernel_rfl) (by rw [Try.ntmps89]; simp) ?_
  have s := Sep.blk1 h [.int .i64 0, .int .i64 0] 39 true
  simp (disch := omega) only [VW, VY, VZ, VA, VB, VC, VE, TY, ↓reduceIte, Nat.reduceEqDiff, Nat.reduceAdd, Nat.reduceMul, Nat.reduceSub, Nat.reduceLeDiff, List.length_cons, List.length_nil, List.length_append, List.append_assoc, List.take_succ_cons, List.take_zero, List.drop_succ_cons, List.drop_zero, List.set_cons_zero, List.set_cons_succ, true_or, or_true, and_self, Bool.false_eq_true, Nat.le_refl, Option.bind_some, Option.map_some, Option.getD_some, Option.isSome_some, List.map_cons, List.map_nil, List.cons_append, List.nil_append, List.append_nil, List.getElem?_cons_zero, List.getElem?_cons_succ, eq_self, Int.reduceLT, Int.reduceLE, Int.reduceNeg, Int.reduceEq]
  refine .inl ⟨by kernel_rfl, ?_⟩; refine dyMake_c hn hk fun h1 E1 => ?_
  have s := s.mono E1
  rw [optV_eq]
  simp (disch := omega) only [VW, VY, VZ, VA, VB, VC, VE, TY, ↓reduceIte, Nat.reduceEqDiff, Nat.reduceAdd, Nat.reduceMul, Nat.reduceSub, Nat.reduceLeDiff, List.length_cons, List.length_nil, List.length_append, List.append_assoc, List.take_succ_cons, List.take_zero, List.drop_succ_cons, List.drop_zero, List.set_cons_zero, List.set_cons_succ, true_or, or_true, and_self, Bool.false_eq_true, Nat.le_refl, Option.bind_some, Option.map_some, Option.getD_some, Option.isSome_some, List.map_cons, List.map_nil, List.cons_append, List.nil_append, List.append_nil, List.getElem?_cons_zero, List.getElem?_cons_succ, eq_self, Int.reduceLT, Int.reduceLE, Int.reduceNeg, Int.reduceEq]
  refine sep_store ((s.newBlk (dyC ((makeM n k).getD ⟨0, 0⟩)) 39 true).pull 1 rfl) (by simp) fun h5 s => ?_
  have s := s.as (ds := dyC ((makeM n k).getD ⟨0, 0⟩)) (by simp [t_put])
  have gz := (s.pull 0 rfl).rdAll (n := 2) rfl
  simp (disch := omega) only [VW, VY, VZ, VA, VB, VC, VE, TY, ↓reduceIte, Nat.reduceEqDiff, Nat.reduceAdd, Nat.reduceMul, Nat.reduceSub, Nat.reduceLeDiff, List.length_cons, List.length_nil, List.length_append, List.append_assoc, List.take_succ_cons, List.take_zero, List.drop_succ_cons, List.drop_zero, List.set_cons_zero, List.set_cons_succ, true_or, or_true, and_self, Bool.false_eq_true, Nat.le_refl, Option.bind_some, Option.map_some, Option.getD_some, Option.isSome_some, List.map_cons, List.map_nil, List.cons_append, List.nil_append, List.append_nil, List.getElem?_cons_zero, List.getElem?_cons_succ, eq_self, Int.reduceLT, Int.reduceLE, Int.reduceNeg, Int.reduceEq, gz]
  exact hQ _ s.ext
theorem bxVolume_c {x : Bx} {cs : List Value} {h : Heap} {Q : Value → Heap → Prop} (hx : Here h x cs) (hb : boxM x = true) (hQ : ∀ h', Ext h h' → Q (.agg (dyC (volM x)).toArray) h') :
    CallsV Try.prog 50 [.agg cs.toArray] h Q := by
  obtain ⟨v1, v2, rfl, f1, r1, r2⟩ := here_Bx hx
  obtain ⟨hk, hl3, hlh, hsm⟩ := box_small' hb
  refine CallsV.start Try.func50 rfl (by rw [Try.results50]) (by kernel_rfl) (by rw [Try.ntmps50]; simp) ?_
  have s := Sep.blk2 h [.int .i64 x.k, v1, v2] [.int .i64 0, .int .i64 0] 42 39 true true
  have g := (s.pull 1 rfl).rd
  have r1' := r1.mono s.ext
  simp (disch := omega) only [VW, VY, VZ, VA, VB, VC, VE, TY, ↓reduceIte, Nat.reduceEqDiff, Nat.reduceAdd, Nat.reduceMul, Nat.reduceSub, Nat.reduceLeDiff, List.length_cons, List.length_nil, List.length_append, List.append_assoc, List.take_succ_cons, List.take_zero, List.drop_succ_cons, List.drop_zero, List.set_cons_zero, List.set_cons_succ, true_or, or_true, and_self, Bool.false_eq_true, Nat.le_refl, Option.bind_some, Option.map_some, Option.getD_some, Option.isSome_some, List.map_cons, List.map_nil, List.cons_append, List.nil_append, List.append_nil, List.getElem?_cons_zero, List.getElem?_cons_succ, eq_self, Int.reduceLT, Int.reduceLE, Int.reduceNeg, Int.reduceEq, g, r1'.isRow.len]
  have hzl : (x.low.zip x.high).length = x.low.length := by rw [List.length_zip]; omega
  refine loop_rule (fun n e h' => ∃ (i : Nat), e 1 = .pointer (some ⟨h.length, 0, none⟩) ∧ e 2 = .pointer (some ⟨h.length + 1, 0, none⟩) ∧ e 7 = v1 ∧ e 8 = .int .i64 x.low.length ∧ e 9 = .int .i64 i ∧
    e 3 = .int .i64 (prodM ((x.low.zip x.high).take i)) ∧ i ≤ x.low.length ∧ n = x.low.length - i ∧ Sep h h' [blkA h.length [.int .i64 x.k, v1, v2] 42, blkA (h.length + 1) [.int .i64 0, .int .i64 0] 39]) ?_ x.low.length _ _
    ⟨0, rfl, rfl, rfl, rfl, rfl, rfl, Nat.zero_le _, rfl, (s.pull 1 rfl)⟩
  rintro n e h' ⟨i, e1, e2, e7, e8, e9, e3, hi, rfl, s⟩
  have g := s.rd
  have r1 := r1.mono s.ext
  have r2 := r2.mono s.ext
  simp (disch := omega) only [VW, VY, VZ, VA, VB, VC, VE, TY, ↓reduceIte, Nat.reduceEqDiff, Nat.reduceAdd, Nat.reduceMul, Nat.reduceSub, Nat.reduceLeDiff, List.length_cons, List.length_nil, List.length_append, List.append_assoc, List.take_succ_cons, List.take_zero, List.drop_succ_cons, List.drop_zero, List.set_cons_zero, List.set_cons_succ, true_or, or_true, and_self, Bool.false_eq_true, Nat.le_refl, Option.bind_some, Option.map_some, Option.getD_some, Option.isSome_some, List.map_cons, List.map_nil, List.cons_append, List.nil_append, List.append_nil, List.getElem?_cons_zero, List.getElem?_cons_succ, eq_self, Int.reduceLT, Int.reduceLE, Int.reduceNeg, Int.reduceEq, e8, e9]
  by_cases hlt : i < x.low.length
  · obtain ⟨y, hy⟩ := get_some hlt
    obtain ⟨z, hz⟩ := get_some (show i < x.high.length by omega)
    have hyz := zip_get hy hz
    obtain ⟨y1, y2⟩ := row_int r1 hy
    obtain ⟨z1, z2⟩ := row_int r2 hz
    have q1 : (i : Int) < (x.low.length : Int) := by omega
    have q2 : (i : Int) < (x.high.length : Int) := by omega
    have sm := hsm _ (List.mem_of_getElem? hyz)
    simp only [] at sm
    have pl := prodM_le hb (i + 1)
    rw [prodM_take hyz] at pl
    simp only [] at pl
    have w1 := wrap_in (z - y) (by omega)
    have w2 := wrap_in (prodM ((x.low.zip x.high).take i) * (z - y)) (by omega)
    simp (disch := omega) only [VW, VY, VZ, VA, VB, VC, VE, TY, ↓reduceIte, Nat.reduceEqDiff, Nat.reduceAdd, Nat.reduceMul, Nat.reduceSub, Nat.reduceLeDiff, List.length_cons, List.length_nil, List.length_append, List.append_assoc, List.take_succ_cons, List.take_zero, List.drop_succ_cons, List.drop_zero, List.set_cons_zero, List.set_cons_succ, true_or, or_true, and_self, Bool.false_eq_true, Nat.le_refl, Option.bind_some, Option.map_some, Option.getD_some, Option.isSome_some, List.map_cons, List.map_nil, List.cons_append, List.nil_append, List.append_nil, List.getElem?_cons_zero, List.getElem?_cons_succ, eq_self, Int.reduceLT, Int.reduceLE, Int.reduceNeg, Int.reduceEq, e1, e2, e7, e8, e9, q1, r1.isRow.ix, y1, e3, g, r2.isRow.ix, z1, q2, w1, w2, wrap_in]
    refine ⟨_, by omega, i + 1, by simp, ?_, by omega, rfl, s⟩
    rw [prodM_take hyz]
  · obtain rfl : i = x.low.length := by omega
    have q1 : ¬ (x.low.length : Int) < (x.low.length : Int) := by omega
    rw [← hzl, List.take_length] at e3
    have hv := volM_eq hb
    have hpl := prodM_le hb (x.low.zip x.high).length
    rw [List.take_length] at hpl
    have hvk : (x.low.length : Int) * x.k = ((volK x : Nat) : Int) := by
      unfold volK
      obtain ⟨q, hq⟩ : ∃ q : Nat, x.k = (q : Int) := ⟨x.k.toNat, by omega⟩
      rw [hq]
      simp [Int.mul_comm]
    have hkl := volK_le hb
    have w1 := wrap_in ((volK x : Nat) : Int) (by omega)
    simp (disch := omega) only [VW, VY, VZ, VA, VB, VC, VE, TY, ↓reduceIte, Nat.reduceEqDiff, Nat.reduceAdd, Nat.reduceMul, Nat.reduceSub, Nat.reduceLeDiff, List.length_cons, List.length_nil, List.length_append, List.append_assoc, List.take_succ_cons, List.take_zero, List.drop_succ_cons, List.drop_zero, List.set_cons_zero, List.set_cons_succ, true_or, or_true, and_self, Bool.false_eq_true, Nat.le_refl, Option.bind_some, Option.map_some, Option.getD_some, Option.isSome_some, List.map_cons, List.map_nil, List.cons_append, List.nil_append, List.append_nil, List.getElem?_cons_zero, List.getElem?_cons_succ, eq_self, Int.reduceLT, Int.reduceLE, Int.reduceNeg, Int.reduceEq, e3, q1, e1, g, hvk, w1, r1.isRow.len]
    refine .inl ⟨by kernel_rfl, ?_⟩; refine bxNumber_c ⟨by omega, by omega⟩ (by omega) fun h1 E1 => ?_
    have s := s.mono E1
    simp (disch := omega) only [VW, VY, VZ, VA, VB, VC, VE, TY, ↓reduceIte, Nat.reduceEqDiff, Nat.reduceAdd, Nat.reduceMul, Nat.reduceSub, Nat.reduceLeDiff, List.length_cons, List.length_nil, List.length_append, List.append_assoc, List.take_succ_cons, List.take_zero, List.drop_succ_cons, List.drop_zero, List.set_cons_zero, List.set_cons_succ, true_or, or_true, and_self, Bool.false_eq_true, Nat.le_refl, Option.bind_some, Option.map_some, Option.getD_some, Option.isSome_some, List.map_cons, List.map_nil, List.cons_append, List.nil_append, List.append_nil, List.getElem?_cons_zero, List.getElem?_cons_succ, eq_self, Int.reduceLT, Int.reduceLE, Int.reduceNeg, Int.reduceEq, e2]
    refine sep_store (s.pull 1 rfl) (by simp) fun h5 s => ?_
    have s := s.as (ds := dyC (volM x)) (by simp [t_put, volM])
    have gz := (s.pull 0 rfl).rdAll (n := 2) rfl
    simp (disch := omega) only [VW, VY, VZ, VA, VB, VC, VE, TY, ↓reduceIte, Nat.reduceEqDiff, Nat.reduceAdd, Nat.reduceMul, Nat.reduceSub, Nat.reduceLeDiff, List.length_cons, List.length_nil, List.length_append, List.append_assoc, List.take_succ_cons, List.take_zero, List.drop_succ_cons, List.drop_zero, List.set_cons_zero, List.set_cons_succ, true_or, or_true, and_self, Bool.false_eq_true, Nat.le_refl, Option.bind_some, Option.map_some, Option.getD_some, Option.isSome_some, List.map_cons, List.map_nil, List.cons_append, List.nil_append, List.append_nil, List.getElem?_cons_zero, List.getElem?_cons_succ, eq_self, Int.reduceLT, Int.reduceLE, Int.reduceNeg, Int.reduceEq, gz, e2]
    exact hQ _ s.ext
end Go.Proofs
