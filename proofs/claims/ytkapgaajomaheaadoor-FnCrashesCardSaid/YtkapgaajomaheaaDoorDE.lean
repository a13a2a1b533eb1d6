/- Contracts of functions, facts of types, or the plain law behind one statement (own work): DE. Conditions: those told in each theorem. -/
import Derived.Test.YtkapgaajomaheaaDoorDD
set_option linter.all false
set_option linter.unusedSimpArgs false
set_option linter.unusedVariables false
set_option maxRecDepth 4000
namespace Go.Proofs
open Go Go.V
/- Texts that are spoilt. -/
theorem spoilt_c {a h : Heap} {b : Nat} {vc : Value} {B : Nat} {L : List Asr} {code : List UInt8} {t wi : ByteArray} {Q : Value → Heap → Prop} (r : Row a code vc) (hl : code.length ≤ 1048576) (hB : B ≤ 100000000) (c : Cur a h b vc B L)
    (ht : t.size ≤ 1000000) (hw : 1 ≤ wi.size ∧ wi.size ≤ 1000)
    (hQ : ∀ s : ByteArray, s.size ≤ t.size + 2 → ∀ h', Cur a h' b vc (B + 20) L → Q (.string s) h') : CallsV Tryd.prog 26 [.pointer (some ⟨b, 0, none⟩), .string t, .string wi] h Q := by
  refine CallsV.start Tryd.func26 rfl (by rw [Tryd.results26]) (by kernel_rfl) (by rw [Tryd.ntmps26]; simp) ?_
  simp (disch := omega) only [VW, VY, VZ, VA, VB, VC, VE, TY, ↓reduceIte, Nat.reduceEqDiff, Nat.reduceAdd, Nat.reduceMul, Nat.reduceSub, Nat.reduceLeDiff, List.length_cons, List.length_nil, List.length_append, List.append_assoc, List.take_succ_cons, List.take_zero, List.drop_succ_cons, List.drop_zero, List.set_cons_zero, List.set_cons_succ, true_or, or_true, and_self, Bool.false_eq_true, Nat.le_refl, Option.bind_some, Option.map_some, Option.getD_some, Option.isSome_some, List.map_cons, List.map_nil, List.cons_append, List.nil_append, List.append_nil, List.getElem?_cons_zero, List.getElem?_cons_succ, eq_self, Int.reduceLT, Int.reduceLE, Int.reduceNeg, Int.reduceEq]
  refine .inl ⟨by kernel_rfl, ?_⟩; refine pick_c r hl (by omega) c (by decide) fun n hn h1 c => ?_
  have hn : n ≤ 1 := by omega
  have e1 : (1 : Int) + (n : Int) = ((1 + n : Nat) : Int) := by omega
  simp (disch := omega) only [VW, VY, VZ, VA, VB, VC, VE, TY, ↓reduceIte, Nat.reduceEqDiff, Nat.reduceAdd, Nat.reduceMul, Nat.reduceSub, Nat.reduceLeDiff, List.length_cons, List.length_nil, List.length_append, List.append_assoc, List.take_succ_cons, List.take_zero, List.drop_succ_cons, List.drop_zero, List.set_cons_zero, List.set_cons_succ, true_or, or_true, and_self, Bool.false_eq_true, Nat.le_refl, Option.bind_some, Option.map_some, Option.getD_some, Option.isSome_some, List.map_cons, List.map_nil, List.cons_append, List.nil_append, List.append_nil, List.getElem?_cons_zero, List.getElem?_cons_succ, eq_self, Int.reduceLT, Int.reduceLE, Int.reduceNeg, Int.reduceEq, wrap_in, e1]
  refine loop_rule (fun k e h' => ∃ s : ByteArray, k ≤ 2 ∧ s.size ≤ t.size + (2 - k) ∧ e 0 = .pointer (some ⟨b, 0, none⟩) ∧ e 1 = .string s ∧ e 2 = .string wi ∧ e 7 = .int .i64 (k : Nat) ∧ Cur a h' b vc (B + 2 + 6 * (2 - k)) L) ?_ (1 + n) _ _
    ⟨t, by omega, by omega, rfl, rfl, rfl, rfl, c.up (by omega)⟩
  clear c
  rintro k e h2 ⟨s, hk, hs, e0, e1, e2, e7, c⟩
  cases k with
  | zero =>
    have q : ¬ (0 : Int) < ((0 : Nat) : Int) := by decide
    have q' : ¬ (0 : Int) < 0 := by decide
    simp (disch := omega) only [VW, VY, VZ, VA, VB, VC, VE, TY, ↓reduceIte, Nat.reduceEqDiff, Nat.reduceAdd, Nat.reduceMul, Nat.reduceSub, Nat.reduceLeDiff, List.length_cons, List.length_nil, List.length_append, List.append_assoc, List.take_succ_cons, List.take_zero, List.drop_succ_cons, List.drop_zero, List.set_cons_zero, List.set_cons_succ, true_or, or_true, and_self, Bool.false_eq_true, Nat.le_refl, Option.bind_some, Option.map_some, Option.getD_some, Option.isSome_some, List.map_cons, List.map_nil, List.cons_append, List.nil_append, List.append_nil, List.getElem?_cons_zero, List.getElem?_cons_succ, eq_self, Int.reduceLT, Int.reduceLE, Int.reduceNeg, Int.reduceEq, e7, q, q', e1]
    exact hQ s (by omega) _ (c.up (by omega))
  | succ k =>
    have q : (0 : Int) < ((k + 1 : Nat) : Int) := by omega
    have kk : ((k + 1 : Nat) : Int) - 1 = (k : Int) := by omega
    by_cases z : s.size = 0
    · have q2 : ¬ (0 : Int) < (s.size : Int) := by omega
      simp (disch := omega) only [VW, VY, VZ, VA, VB, VC, VE, TY, ↓reduceIte, Nat.reduceEqDiff, Nat.reduceAdd, Nat.reduceMul, Nat.reduceSub, Nat.reduceLeDiff, List.length_cons, List.length_nil, List.length_append, List.append_assoc, List.take_succ_cons, List.take_zero, List.drop_succ_cons, List.drop_zero, List.set_cons_zero, List.set_cons_succ, true_or, or_true, and_self, Bool.false_eq_true, Nat.le_refl, Option.bind_some, Option.map_some, Option.getD_some, Option.isSome_some, List.map_cons, List.map_nil, List.cons_append, List.nil_append, List.append_nil, List.getElem?_cons_zero, List.getElem?_cons_succ, eq_self, Int.reduceLT, Int.reduceLE, Int.reduceNeg, Int.reduceEq, e7, q, e1, q2]
      exact hQ s (by omega) _ (c.up (by omega))
    · have q2 : (0 : Int) < (s.size : Int) := by omega
      simp (disch := omega) only [VW, VY, VZ, VA, VB, VC, VE, TY, ↓reduceIte, Nat.reduceEqDiff, Nat.reduceAdd, Nat.reduceMul, Nat.reduceSub, Nat.reduceLeDiff, List.length_cons, List.length_nil, List.length_append, List.append_assoc, List.take_succ_cons, List.take_zero, List.drop_succ_cons, List.drop_zero, List.set_cons_zero, List.set_cons_succ, true_or, or_true, and_self, Bool.false_eq_true, Nat.le_refl, Option.bind_some, Option.map_some, Option.getD_some, Option.isSome_some, List.map_cons, List.map_nil, List.cons_append, List.nil_append, List.append_nil, List.getElem?_cons_zero, List.getElem?_cons_succ, eq_self, Int.reduceLT, Int.reduceLE, Int.reduceNeg, Int.reduceEq, e7, q, e1, q2, e0]
      refine .inl ⟨by kernel_rfl, ?_⟩; refine pick_c r hl (by omega) c (by omega) fun i hi h3 c => ?_
      have hi : i < s.size := by omega
      simp (disch := omega) only [VW, VY, VZ, VA, VB, VC, VE, TY, ↓reduceIte, Nat.reduceEqDiff, Nat.reduceAdd, Nat.reduceMul, Nat.reduceSub, Nat.reduceLeDiff, List.length_cons, List.length_nil, List.length_append, List.append_assoc, List.take_succ_cons, List.take_zero, List.drop_succ_cons, List.drop_zero, List.set_cons_zero, List.set_cons_succ, true_or, or_true, and_self, Bool.false_eq_true, Nat.le_refl, Option.bind_some, Option.map_some, Option.getD_some, Option.isSome_some, List.map_cons, List.map_nil, List.cons_append, List.nil_append, List.append_nil, List.getElem?_cons_zero, List.getElem?_cons_succ, eq_self, Int.reduceLT, Int.reduceLE, Int.reduceNeg, Int.reduceEq, e2, e0]
      refine .inl ⟨by kernel_rfl, ?_⟩; refine pick_c r hl (by omega) c (by omega) fun j hj h4 c => ?_
      obtain ⟨x, hx, _⟩ := get_str (s := wi) (i := j) (by omega)
      have hxl := x.toNat_lt
      have rd : cellsAt (h4 ++ [some ⟨[.int .u8 x.toNat], 5, false, true⟩]) h4.length 0 1 = some [.int .u8 x.toNat] := (Sep.blk1 h4 [.int .u8 x.toNat] 5 true).rdAll (n := 1) rfl
      have c := c.mono (.one h4 (some ⟨[.int .u8 x.toNat], 5, false, true⟩))
      simp (disch := omega) only [VW, VY, VZ, VA, VB, VC, VE, TY, ↓reduceIte, Nat.reduceEqDiff, Nat.reduceAdd, Nat.reduceMul, Nat.reduceSub, Nat.reduceLeDiff, List.length_cons, List.length_nil, List.length_append, List.append_assoc, List.take_succ_cons, List.take_zero, List.drop_succ_cons, List.drop_zero, List.set_cons_zero, List.set_cons_succ, true_or, or_true, and_self, Bool.false_eq_true, Nat.le_refl, Option.bind_some, Option.map_some, Option.getD_some, Option.isSome_some, List.map_cons, List.map_nil, List.cons_append, List.nil_append, List.append_nil, List.getElem?_cons_zero, List.getElem?_cons_succ, eq_self, Int.reduceLT, Int.reduceLE, Int.reduceNeg, Int.reduceEq, hx, e0, rd]
      refine .inl ⟨by kernel_rfl, ?_⟩; refine pick_c r hl (by omega) c (by decide) fun m hm h5 c => ?_
      simp (disch := omega) only [VW, VY, VZ, VA, VB, VC, VE, TY, ↓reduceIte, Nat.reduceEqDiff, Nat.reduceAdd, Nat.reduceMul, Nat.reduceSub, Nat.reduceLeDiff, List.length_cons, List.length_nil, List.length_append, List.append_assoc, List.take_succ_cons, List.take_zero, List.drop_succ_cons, List.drop_zero, List.set_cons_zero, List.set_cons_succ, true_or, or_true, and_self, Bool.false_eq_true, Nat.le_refl, Option.bind_some, Option.map_some, Option.getD_some, Option.isSome_some, List.map_cons, List.map_nil, List.cons_append, List.nil_append, List.append_nil, List.getElem?_cons_zero, List.getElem?_cons_succ, eq_self, Int.reduceLT, Int.reduceLE, Int.reduceNeg, Int.reduceEq]
      refine cond_cutD (fun e' h' => ∃ s' : ByteArray, s'.size ≤ s.size + 1 ∧ e' 0 = .pointer (some ⟨b, 0, none⟩) ∧ e' 1 = .string s' ∧ e' 2 = .string wi ∧ e' 7 = .int .i64 (k + 1 : Nat) ∧ Cur a h' b vc (B + 2 + 6 * (2 - (k + 1)) + 6) L) ?_ ?_
      · clear c rd e0 e1 e2 e7
        rintro e h6 ⟨s', hs', e0, e1, e2, e7, c⟩
        simp (disch := omega) only [VW, VY, VZ, VA, VB, VC, VE, TY, ↓reduceIte, Nat.reduceEqDiff, Nat.reduceAdd, Nat.reduceMul, Nat.reduceSub, Nat.reduceLeDiff, List.length_cons, List.length_nil, List.length_append, List.append_assoc, List.take_succ_cons, List.take_zero, List.drop_succ_cons, List.drop_zero, List.set_cons_zero, List.set_cons_succ, true_or, or_true, and_self, Bool.false_eq_true, Nat.le_refl, Option.bind_some, Option.map_some, Option.getD_some, Option.isSome_some, List.map_cons, List.map_nil, List.cons_append, List.nil_append, List.append_nil, List.getElem?_cons_zero, List.getElem?_cons_succ, eq_self, Int.reduceLT, Int.reduceLE, Int.reduceNeg, Int.reduceEq, e0, e1, e2, e7, kk, wrap_in]
        exact ⟨k, by omega, s', by omega, by omega, rfl, rfl, c.up (by omega)⟩
      · intro K key
        have k0 : (0 : Int) ≤ (i : Int) := by omega
        have k1 : (i : Int) ≤ (s.size : Int) := by omega
        have k2 : (i : Int) + 1 ≤ (s.size : Int) := by omega
        have k3 : (0 : Int) ≤ (i : Int) + 1 := by omega
        have k4 : Int.toNat ((i : Int) + 1) = i + 1 := by omega
        have z1 : (s.extract 0 i).size = i := by rw [ByteArray.size_extract]; omega
        have z2 : (s.extract i s.size).size = s.size - i := by rw [ByteArray.size_extract]; omega
        have z3 : (s.extract (i + 1) s.size).size = s.size - (i + 1) := by rw [ByteArray.size_extract]; omega
        have zW : (⟨#[UInt8.ofNat x.toNat]⟩ : ByteArray).size = 1 := rfl
        generalize (⟨#[UInt8.ofNat x.toNat]⟩ : ByteArray) = W at *
        have a1 := str_add (s.extract 0 i) W (by omega)
        have y1 := size_append (s.extract 0 i) W
        have a2 := str_add (s.extract 0 i ++ W) (s.extract i s.size) (by omega)
        have y2 := size_append (s.extract 0 i ++ W) (s.extract i s.size)
        have a3 := str_add (s.extract 0 i ++ W) (s.extract (i + 1) s.size) (by omega)
        have y3 := size_append (s.extract 0 i ++ W) (s.extract (i + 1) s.size)
        have a4 := str_add (s.extract 0 i) (s.extract (i + 1) s.size) (by omega)
        have y4 := size_append (s.extract 0 i) (s.extract (i + 1) s.size)
        by_cases m0 : m = 0
        · have m0' : decide ((m : Int) = 0) = true := by simpa using m0
          simp (disch := omega) only [VW, VY, VZ, VA, VB, VC, VE, TY, ↓reduceIte, Nat.reduceEqDiff, Nat.reduceAdd, Nat.reduceMul, Nat.reduceSub, Nat.reduceLeDiff, List.length_cons, List.length_nil, List.length_append, List.append_assoc, List.take_succ_cons, List.take_zero, List.drop_succ_cons, List.drop_zero, List.set_cons_zero, List.set_cons_succ, true_or, or_true, and_self, Bool.false_eq_true, Nat.le_refl, Option.bind_some, Option.map_some, Option.getD_some, Option.isSome_some, List.map_cons, List.map_nil, List.cons_append, List.nil_append, List.append_nil, List.getElem?_cons_zero, List.getElem?_cons_succ, eq_self, Int.reduceLT, Int.reduceLE, Int.reduceNeg, Int.reduceEq, m0']
          refine draw_ord [0, 1, 2, 3, 4, 5, 6, 7, 8, 9] (by kernel_rfl) (by simp only [List.filterMap_cons, List.filterMap_nil, List.getElem?_cons_zero, List.getElem?_cons_succ]; rfl) ?_
          simp (disch := omega) only [VW, VY, VZ, VA, VB, VC, VE, TY, ↓reduceIte, Nat.reduceEqDiff, Nat.reduceAdd, Nat.reduceMul, Nat.reduceSub, Nat.reduceLeDiff, List.length_cons, List.length_nil, List.length_append, List.append_assoc, List.take_succ_cons, List.take_zero, List.drop_succ_cons, List.drop_zero, List.set_cons_zero, List.set_cons_succ, true_or, or_true, and_self, Bool.false_eq_true, Nat.le_refl, Option.bind_some, Option.map_some, Option.getD_some, Option.isSome_some, List.map_cons, List.map_nil, List.cons_append, List.nil_append, List.append_nil, List.getElem?_cons_zero, List.getElem?_cons_succ, eq_self, Int.reduceLT, Int.reduceLE, Int.reduceNeg, Int.reduceEq, e1, k0, k1, a1, a2]
          exact key _ _ ⟨_, by omega, e0, rfl, e2, e7, c⟩
        · have m0' : decide ((m : Int) = 0) = false := by simpa using m0
          simp (disch := omega) only [VW, VY, VZ, VA, VB, VC, VE, TY, ↓reduceIte, Nat.reduceEqDiff, Nat.reduceAdd, Nat.reduceMul, Nat.reduceSub, Nat.reduceLeDiff, List.length_cons, List.length_nil, List.length_append, List.append_assoc, List.take_succ_cons, List.take_zero, List.drop_succ_cons, List.drop_zero, List.set_cons_zero, List.set_cons_succ, true_or, or_true, and_self, Bool.false_eq_true, Nat.le_refl, Option.bind_some, Option.map_some, Option.getD_some, Option.isSome_some, List.map_cons, List.map_nil, List.cons_append, List.nil_append, List.append_nil, List.getElem?_cons_zero, List.getElem?_cons_succ, eq_self, Int.reduceLT, Int.reduceLE, Int.reduceNeg, Int.reduceEq, m0']
          by_cases m1 : m = 1
          · have m1' : decide ((m : Int) = 1) = true := decide_eq_true (by omega)
            simp (disch := omega) only [VW, VY, VZ, VA, VB, VC, VE, TY, ↓reduceIte, Nat.reduceEqDiff, Nat.reduceAdd, Nat.reduceMul, Nat.reduceSub, Nat.reduceLeDiff, List.length_cons, List.length_nil, List.length_append, List.append_assoc, List.take_succ_cons, List.take_zero, List.drop_succ_cons, List.drop_zero, List.set_cons_zero, List.set_cons_succ, true_or, or_true, and_self, Bool.false_eq_true, Nat.le_refl, Option.bind_some, Option.map_some, Option.getD_some, Option.isSome_some, List.map_cons, List.map_nil, List.cons_append, List.nil_append, List.append_nil, List.getElem?_cons_zero, List.getElem?_cons_succ, eq_self, Int.reduceLT, Int.reduceLE, Int.reduceNeg, Int.reduceEq, m1']
            refine draw_ord [0, 1, 2, 3, 4, 5, 6, 7, 8, 9, 10] (by kernel_rfl) (by simp only [List.filterMap_cons, List.filterMap_nil, List.getElem?_cons_zero, List.getElem?_cons_succ]; rfl) ?_
            simp (disch := omega) only [VW, VY, VZ, VA, VB, VC, VE, TY, ↓reduceIte, Nat.reduceEqDiff, Nat.reduceAdd, Nat.reduceMul, Nat.reduceSub, Nat.reduceLeDiff, List.length_cons, List.length_nil, List.length_append, List.append_assoc, List.take_succ_cons, List.take_zero, List.drop_succ_cons, List.drop_zero, List.set_cons_zero, List.set_cons_succ, true_or, or_true, and_self, Bool.false_eq_true, Nat.le_refl, Option.bind_some, Option.map_some, Option.getD_some, Option.isSome_some, List.map_cons, List.map_nil, List.cons_append, List.nil_append, List.append_nil, List.getElem?_cons_zero, List.getElem?_cons_succ, eq_self, Int.reduceLT, Int.reduceLE, Int.reduceNeg, Int.reduceEq, e1, k0, k1, k2, k3, k4, a1, a3, wrap_in]
            exact key _ _ ⟨_, by omega, e0, rfl, e2, e7, c⟩
          · have m1' : decide ((m : Int) = 1) = false := decide_eq_false (by omega)
            simp (disch := omega) only [VW, VY, VZ, VA, VB, VC, VE, TY, ↓reduceIte, Nat.reduceEqDiff, Nat.reduceAdd, Nat.reduceMul, Nat.reduceSub, Nat.reduceLeDiff, List.length_cons, List.length_nil, List.length_append, List.append_assoc, List.take_succ_cons, List.take_zero, List.drop_succ_cons, List.drop_zero, List.set_cons_zero, List.set_cons_succ, true_or, or_true, and_self, Bool.false_eq_true, Nat.le_refl, Option.bind_some, Option.map_some, Option.getD_some, Option.isSome_some, List.map_cons, List.map_nil, List.cons_append, List.nil_append, List.append_nil, List.getElem?_cons_zero, List.getElem?_cons_succ, eq_self, Int.reduceLT, Int.reduceLE, Int.reduceNeg, Int.reduceEq, m1']
            refine draw_ord [0, 1, 2, 3, 4, 5, 6, 7, 8] (by kernel_rfl) (by simp only [List.filterMap_cons, List.filterMap_nil, List.getElem?_cons_zero, List.getElem?_cons_succ]; rfl) ?_
            simp (disch := omega) only [VW, VY, VZ, VA, VB, VC, VE, TY, ↓reduceIte, Nat.reduceEqDiff, Nat.reduceAdd, Nat.reduceMul, Nat.reduceSub, Nat.reduceLeDiff, List.length_cons, List.length_nil, List.length_append, List.append_assoc, List.take_succ_cons, List.take_zero, List.drop_succ_cons, List.drop_zero, List.set_cons_zero, List.set_cons_succ, true_or, or_true, and_self, Bool.false_eq_true, Nat.le_refl, Option.bind_some, Option.map_some, Option.getD_some, Option.isSome_some, List.map_cons, List.map_nil, List.cons_append, List.nil_append, List.append_nil, List.getElem?_cons_zero, List.getElem?_cons_succ, eq_self, Int.reduceLT, Int.reduceLE, Int.reduceNeg, Int.reduceEq, e1, k0, k1, k2, k3, k4, a4, wrap_in]
            exact key _ _ ⟨_, by omega, e0, rfl, e2, e7, c⟩
end Go.Proofs
