/- Contracts of functions, facts of types, or the plain law behind one statement (own work): DP. Conditions: those told in each theorem. -/
import Derived.Test.YtkapgaajomaheaaGreatDoorDN
set_option linter.all false
set_option linter.unusedSimpArgs false
set_option linter.unusedVariables false
set_option maxRecDepth 4000
namespace Go.Proofs
open Go Go.V
/- Journals: an appended mark is the last one. -/
theorem append_ok {j A : Jn} {m : Mk} (h : appendM j m = (A, true)) : ∃ l, marksJ j = some l ∧ markM m = true ∧ l.length ≠ 40 ∧ A = ⟨j.safe, j.pending ++ lineB l.length m⟩ := by
  unfold appendM at h
  cases hm : marksJ j with
  | none => rw [hm] at h; cases congrArg Prod.snd h
  | some l =>
    rw [hm] at h
    simp only [] at h
    split at h
    · rename_i hh
      exact ⟨l, rfl, hh.1, hh.2, (congrArg Prod.fst h).symm⟩
    · cases congrArg Prod.snd h
theorem last_append {A : Jn} {l : List Mk} {m : Mk} (h : marksJ A = some (l ++ [m])) (hm : markM m = true) : lastM A m.path = (m.kind, true) := by
  obtain ⟨h1, h2⟩ := markM_iff hm
  unfold lastM
  rw [h]
  simp only []
  rw [if_pos h1]
  have e : lastK (l ++ [m]) m.path = m.kind := by unfold lastK; rw [lastU_snoc, if_pos rfl]
  rw [e, decide_eq_true (by omega)]
theorem journals_append {h h1 : Heap} {j A Cc : Jn} {m : Mk} {M : List Mk} {O X : List ByteArray} {T : Int} {ok one nine : Bool} {p5 p6 p7 p9 p15 p17 : Nat} {w11 w13 w19 w21 w23 w25 : Value} {e : Env} {K : VX → Env → Heap → Prop}
    (hj : j.safe.size + j.pending.size ≤ 300000) (hm : m.path.size ≤ 9) (hmk : inI64 m.kind) (hA : appendM j m = (A, ok)) (hM : (marksJ j).getD [] = M)
    (key : ∀ e' h', JrI h j A Cc m M O X T ok one nine p5 p6 p7 p9 p15 p17 w11 w13 w19 w21 w23 w25 e' h' → K .norm e' h')
    (i : JrI h j A Cc m M O X T ok one nine p5 p6 p7 p9 p15 p17 w11 w13 w19 w21 w23 w25 e h1) : wpV Tryz.prog (partC [true, true, true, true, true, true, true, true, true, true, true, true, true, true, true, true, true, false] (Tryz.f3.body.getD .skip)) e h1 K := by
  -- in: laws.FnJournals
  obtain ⟨e5, e6, e7, e8, e9, e10, e11, e12, e13, e14, e15, e16, e17, e18, e19, e20, e21, e22, e23, e24, e25, e26, e29, e30, e31, e32, sL⟩ := i
  conv => arg 2; whnf
  cases ok with
  | false =>
    simp (disch := omega) only [VW, VY, VZ, VA, VB, VC, VE, TY, ↓reduceIte, Nat.reduceEqDiff, Nat.reduceAdd, Nat.reduceMul, Nat.reduceSub, Nat.reduceLeDiff, List.length_cons, List.length_nil, List.length_append, List.append_assoc, List.take_succ_cons, List.take_zero, List.drop_succ_cons, List.drop_zero, List.set_cons_zero, List.set_cons_succ, true_or, or_true, and_self, Bool.false_eq_true, Nat.le_refl, Option.bind_some, Option.map_some, Option.getD_some, Option.isSome_some, List.map_cons, List.map_nil, List.cons_append, List.nil_append, List.append_nil, List.getElem?_cons_zero, List.getElem?_cons_succ, eq_self, Int.reduceLT, Int.reduceLE, Int.reduceNeg, Int.reduceEq, e8]
    exact key _ _ ⟨e5, e6, e7, e8, e9, e10, e11, e12, e13, e14, e15, e16, e17, e18, e19, e20, e21, e22, e23, e24, e25, e26, e29, e30, e31, e32, sL⟩
  | true =>
    obtain ⟨l, a1, a2, a3, a4⟩ := append_ok hA
    have hAm := append_marks a1 a2 a3
    rw [← a4] at hAm
    have hLast := last_append hAm a2
    have hz := append_sz2 j m hm
    rw [hA] at hz
    simp only [] at hz
    have hMl : M = l := by rw [← hM, a1]; rfl
    subst hMl
    have g7 := (sL.pull 9 rfl).rdAll (n := 2) rfl
    have gp := (sL.pull 10 rfl).rd
    simp (disch := omega) only [VW, VY, VZ, VA, VB, VC, VE, TY, ↓reduceIte, Nat.reduceEqDiff, Nat.reduceAdd, Nat.reduceMul, Nat.reduceSub, Nat.reduceLeDiff, List.length_cons, List.length_nil, List.length_append, List.append_assoc, List.take_succ_cons, List.take_zero, List.drop_succ_cons, List.drop_zero, List.set_cons_zero, List.set_cons_succ, true_or, or_true, and_self, Bool.false_eq_true, Nat.le_refl, Option.bind_some, Option.map_some, Option.getD_some, Option.isSome_some, List.map_cons, List.map_nil, List.cons_append, List.nil_append, List.append_nil, List.getElem?_cons_zero, List.getElem?_cons_succ, eq_self, Int.reduceLT, Int.reduceLE, Int.reduceNeg, Int.reduceEq, e8, e7, e6, g7, gp]
    refine .inl ⟨by kernel_rfl, ?_⟩; refine LastMark_i (jn_okJ (j := A) (by omega) _) (siz_le_Jn (by omega)) (by omega) fun h2 E2 => ?_
    rw [hLast]
    have sL := sL.mono E2
    have g7 := (sL.pull 9 rfl).rdAll (n := 2) rfl
    simp (disch := omega) only [VW, VY, VZ, VA, VB, VC, VE, TY, ↓reduceIte, Nat.reduceEqDiff, Nat.reduceAdd, Nat.reduceMul, Nat.reduceSub, Nat.reduceLeDiff, List.length_cons, List.length_nil, List.length_append, List.append_assoc, List.take_succ_cons, List.take_zero, List.drop_succ_cons, List.drop_zero, List.set_cons_zero, List.set_cons_succ, true_or, or_true, and_self, Bool.false_eq_true, Nat.le_refl, Option.bind_some, Option.map_some, Option.getD_some, Option.isSome_some, List.map_cons, List.map_nil, List.cons_append, List.nil_append, List.append_nil, List.getElem?_cons_zero, List.getElem?_cons_succ, eq_self, Int.reduceLT, Int.reduceLE, Int.reduceNeg, Int.reduceEq, e7, g7]
    refine .inl ⟨by kernel_rfl, ?_⟩; refine MarksOf_i (jn_okJ (j := A) (by omega) _) (siz_le_Jn (by omega)) fun w h3 s3 => ?_
    rw [hAm] at s3 ⊢
    have s3 : Sep _ _ [repA (M ++ [m]) [w]] := s3
    have hMl := (marksJ_len a1).1
    have sB := sL.add s3
    have r1 := sB.rowR
    have r2 := (sB.pull 7 rfl).rowR
    have gm := (sB.pull 11 rfl).rdAll (n := 2) rfl
    have gp := (sB.pull 11 rfl).rd
    have hx : (M ++ [m])[M.length]? = some m := by simp
    obtain ⟨cs, x3, x4⟩ := Row.at r1 hx
    obtain ⟨rfl, _, _⟩ := here_Mk x4
    rw [Mk.sz] at x3
    have hl2 : ((M ++ [m]).length : Int) = (M.length : Int) + 1 := by simp
    have c1 : (M.length : Int) < ((M ++ [m]).length : Int) := by omega
    simp (disch := omega) only [VW, VY, VZ, VA, VB, VC, VE, TY, ↓reduceIte, Nat.reduceEqDiff, Nat.reduceAdd, Nat.reduceMul, Nat.reduceSub, Nat.reduceLeDiff, List.length_cons, List.length_nil, List.length_append, List.append_assoc, List.take_succ_cons, List.take_zero, List.drop_succ_cons, List.drop_zero, List.set_cons_zero, List.set_cons_succ, true_or, or_true, and_self, Bool.false_eq_true, Nat.le_refl, Option.bind_some, Option.map_some, Option.getD_some, Option.isSome_some, List.map_cons, List.map_nil, List.cons_append, List.nil_append, List.append_nil, List.getElem?_cons_zero, List.getElem?_cons_succ, eq_self, Int.reduceLT, Int.reduceLE, Int.reduceNeg, Int.reduceEq, Option.isSome_some]
    refine draw_slim (l' := [(some 235, Op.move (Operand.tmp 34), none), (some 236, Op.unOp UnOp.not 4 (Operand.tmp 235), none), (some 237, Op.move (Operand.tmp 236), none), (some 238, Op.move (Operand.tmp 33), some (some 237, false)), (some 239, Op.fieldAddr 26 (Operand.tmp 6) 1, some (some 237, false)), (some 240, Op.load 3 (Operand.tmp 239), some (some 237, false)), (some 241, Op.binOp BinOp.neq 3 (Operand.tmp 238) (Operand.tmp 240) 3, some (some 237, false)), (some 242, Op.pick (Operand.tmp 237) (Operand.const (Value.bool true)) (Operand.tmp 241), none), (some 243, Op.move (Operand.tmp 242), none), (some 244, Op.move (Operand.tmp 36), some (some 243, false)), (some 245, Op.unOp UnOp.not 4 (Operand.tmp 244), some (some 243, false)), (some 246, Op.pick (Operand.tmp 243) (Operand.const (Value.bool true)) (Operand.tmp 245), none), (some 247, Op.move (Operand.tmp 246), none), (some 248, Op.move (Operand.tmp 35), some (some 247, false)), (some 249, Op.call { callee := Callee.builtin Builtin.len, args := #[Operand.tmp 248], argTypes := #[31] }, some (some 247, false)), (some 250, Op.move (Operand.tmp 13), some (some 247, false)), (some 251, Op.call { callee := Callee.builtin Builtin.len, args := #[Operand.tmp 250], argTypes := #[31] }, some (some 247, false)), (some 252, Op.binOp BinOp.add 3 (Operand.tmp 251) (Operand.const (Value.int IntKind.i64 1)) 3, some (some 247, false)), (some 253, Op.binOp BinOp.neq 3 (Operand.tmp 249) (Operand.tmp 252) 3, some (some 247, false)), (some 254, Op.pick (Operand.tmp 247) (Operand.const (Value.bool true)) (Operand.tmp 253), none), (some 255, Op.move (Operand.tmp 254), none), (some 256, Op.move (Operand.tmp 35), some (some 255, false)), (some 257, Op.move (Operand.tmp 13), some (some 255, false)), (some 258, Op.call { callee := Callee.builtin Builtin.len, args := #[Operand.tmp 257], argTypes := #[31] }, some (some 255, false)), (some 259, Op.indexAddr 31 (Operand.tmp 256) (Operand.tmp 258), some (some 255, false)), (some 260, Op.load 26 (Operand.tmp 259), some (some 255, false)), (some 261, Op.load 26 (Operand.tmp 6), some (some 255, false)), (some 262, Op.binOp BinOp.neq 26 (Operand.tmp 260) (Operand.tmp 261) 26, some (some 255, false)), (some 263, Op.pick (Operand.tmp 255) (Operand.const (Value.bool true)) (Operand.tmp 262), none)]) [0, 1, 2, 3, 4, 5, 6, 7, 8, 9, 10, 11, 12, 13, 14, 15, 16, 17, 18, 19, 20, 21, 22, 23, 24, 25, 26, 27, 28] (by kernel_rfl) (by kernel_rfl) ?_
    have dk : decide (m.kind = m.kind) = true := decide_eq_true rfl
    have dl : decide (((M.length + 1 : Nat) : Int) = (M.length : Int) + 1) = true := decide_eq_true (by omega)
    have c2 : (M.length : Int) < ((M.length + 1 : Nat) : Int) := by omega
    simp (disch := omega) only [VW, VY, VZ, VA, VB, VC, VE, TY, ↓reduceIte, Nat.reduceEqDiff, Nat.reduceAdd, Nat.reduceMul, Nat.reduceSub, Nat.reduceLeDiff, List.length_cons, List.length_nil, List.length_append, List.append_assoc, List.take_succ_cons, List.take_zero, List.drop_succ_cons, List.drop_zero, List.set_cons_zero, List.set_cons_succ, true_or, or_true, and_self, Bool.false_eq_true, Nat.le_refl, Option.bind_some, Option.map_some, Option.getD_some, Option.isSome_some, List.map_cons, List.map_nil, List.cons_append, List.nil_append, List.append_nil, List.getElem?_cons_zero, List.getElem?_cons_succ, eq_self, Int.reduceLT, Int.reduceLE, Int.reduceNeg, Int.reduceEq, sl_nil, sl_cons, sl_guard, sl_K, sl_tt, sl_ff, sl_tf, sl_ft, sl_skip, e6, e13, gm, gp, r1.isRow.len, r2.isRow.len, wrap_in, r1.isRow.ix, c1, c2, x3, dk, dl]
    refine binC_ne_si (a := m.path) (b := m.kind) Tryz.underlying26 (by decide) (by decide) rfl rfl Tryz.underlying9 Tryz.underlying3 (by kernel_rfl) (by kernel_rfl) ?_
    rw [mk_ext, decide_eq_true rfl]
    simp (disch := omega) only [VW, VY, VZ, VA, VB, VC, VE, TY, ↓reduceIte, Nat.reduceEqDiff, Nat.reduceAdd, Nat.reduceMul, Nat.reduceSub, Nat.reduceLeDiff, List.length_cons, List.length_nil, List.length_append, List.append_assoc, List.take_succ_cons, List.take_zero, List.drop_succ_cons, List.drop_zero, List.set_cons_zero, List.set_cons_succ, true_or, or_true, and_self, Bool.false_eq_true, Nat.le_refl, Option.bind_some, Option.map_some, Option.getD_some, Option.isSome_some, List.map_cons, List.map_nil, List.cons_append, List.nil_append, List.append_nil, List.getElem?_cons_zero, List.getElem?_cons_succ, eq_self, Int.reduceLT, Int.reduceLE, Int.reduceNeg, Int.reduceEq, sl_nil, sl_cons, sl_guard, sl_K, sl_tt, sl_ff, sl_tf, sl_ft, sl_skip, gm, gp, x3]
    have sL := sB.tail
    exact key _ _ ⟨e5, e6, e7, e8, e9, e10, e11, e12, e13, e14, e15, e16, e17, e18, e19, e20, e21, e22, e23, e24, e25, e26, e29, e30, e31, e32, sL⟩
end Go.Proofs
