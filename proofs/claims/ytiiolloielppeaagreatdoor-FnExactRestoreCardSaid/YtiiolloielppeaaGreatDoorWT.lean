/- Contracts of functions, facts of types, or the plain law behind one statement (own work): WT. Conditions: those told in each theorem. -/
import Derived.Test.YtiiolloielppeaaGreatDoorWTM
set_option linter.all false
set_option linter.unusedSimpArgs false
set_option linter.unusedVariables false
set_option maxRecDepth 4000
namespace Go.Proofs
open Go Go.V
theorem itoaB_L (n : Int) : itoaB n = bL (Lib.itoa n) := rfl
theorem decB_L (n : Nat) : decB n = bL (Lib.itoa n) := by
  unfold decB bL Lib.itoa
  rw [if_neg (by omega)]; rfl
theorem cat {a b : ByteArray} (h : a.size + b.size ≤ 1000000000) : strV .add a b = some (.string (a ++ b)) := str_add a b (by omega)
theorem one_size (c : UInt8) : (⟨#[c]⟩ : ByteArray).size = 1 := rfl
theorem one_bL (c : UInt8) : (⟨#[c]⟩ : ByteArray) = bL [c] := rfl
theorem l1Int_c {n : Int} {h : Heap} {Q : Value → Heap → Prop} (hn : n.natAbs ≤ 100000) (hQ : ∀ h', Ext h h' → Q (.string (bL (Lib.itoa n))) h') : CallsV Tryz.prog 61 [.int .i64 n] h Q := by
  refine CallsV.start Tryz.func61 rfl (by rw [Tryz.results61]) (by kernel_rfl) (by rw [Tryz.ntmps61]; simp) ?_
  by_cases c : n < 0
  · obtain ⟨k, hk⟩ : ∃ k : Nat, n = -(k : Int) := ⟨n.natAbs, by omega⟩
    subst hk
    have e : Lib.itoa (-(k : Int)) = [45] ++ Lib.itoa (k : Int) := by
      unfold Lib.itoa
      rw [if_pos c, if_neg (by omega)]
      simp
    have hl := itoa_len (n := (k : Int)) 6 (by decide) (by have : (10 : Nat) ^ 6 = 1000000 := by decide
                                                           omega)
    have a1 := cat (a := ⟨#[45]⟩) (b := bL (Lib.itoa (k : Int))) (by rw [one_size, bL_size]; omega)
    have nn : 0 - -(k : Int) = (k : Int) := by omega
    simp (disch := omega) only [VW, VY, VZ, VA, VB, VC, VE, TY, ↓reduceIte, Nat.reduceEqDiff, Nat.reduceAdd, Nat.reduceMul, Nat.reduceSub, Nat.reduceLeDiff, List.length_cons, List.length_nil, List.length_append, List.append_assoc, List.take_succ_cons, List.take_zero, List.drop_succ_cons, List.drop_zero, List.set_cons_zero, List.set_cons_succ, true_or, or_true, and_self, Bool.false_eq_true, Nat.le_refl, Option.bind_some, Option.map_some, Option.getD_some, Option.isSome_some, List.map_cons, List.map_nil, List.cons_append, List.nil_append, List.append_nil, List.getElem?_cons_zero, List.getElem?_cons_succ, eq_self, Int.reduceLT, Int.reduceLE, Int.reduceNeg, Int.reduceEq, c, nn, wrap_in]
    refine .inl ⟨by kernel_rfl, ?_⟩; refine l1Num_c k _ _ (by omega) fun h1 E1 => ?_
    rw [decB_L]
    simp (disch := omega) only [VW, VY, VZ, VA, VB, VC, VE, TY, ↓reduceIte, Nat.reduceEqDiff, Nat.reduceAdd, Nat.reduceMul, Nat.reduceSub, Nat.reduceLeDiff, List.length_cons, List.length_nil, List.length_append, List.append_assoc, List.take_succ_cons, List.take_zero, List.drop_succ_cons, List.drop_zero, List.set_cons_zero, List.set_cons_succ, true_or, or_true, and_self, Bool.false_eq_true, Nat.le_refl, Option.bind_some, Option.map_some, Option.getD_some, Option.isSome_some, List.map_cons, List.map_nil, List.cons_append, List.nil_append, List.append_nil, List.getElem?_cons_zero, List.getElem?_cons_succ, eq_self, Int.reduceLT, Int.reduceLE, Int.reduceNeg, Int.reduceEq, a1]
    rw [e, ← bL_app] at hQ
    exact hQ _ E1
  · obtain ⟨k, rfl⟩ : ∃ k : Nat, n = (k : Int) := ⟨n.toNat, by omega⟩
    simp (disch := omega) only [VW, VY, VZ, VA, VB, VC, VE, TY, ↓reduceIte, Nat.reduceEqDiff, Nat.reduceAdd, Nat.reduceMul, Nat.reduceSub, Nat.reduceLeDiff, List.length_cons, List.length_nil, List.length_append, List.append_assoc, List.take_succ_cons, List.take_zero, List.drop_succ_cons, List.drop_zero, List.set_cons_zero, List.set_cons_succ, true_or, or_true, and_self, Bool.false_eq_true, Nat.le_refl, Option.bind_some, Option.map_some, Option.getD_some, Option.isSome_some, List.map_cons, List.map_nil, List.cons_append, List.nil_append, List.append_nil, List.getElem?_cons_zero, List.getElem?_cons_succ, eq_self, Int.reduceLT, Int.reduceLE, Int.reduceNeg, Int.reduceEq, c]
    refine .inl ⟨by kernel_rfl, ?_⟩; refine l1Num_c _ _ _ (by omega) fun h1 E1 => ?_
    rw [decB_L]
    simp (disch := omega) only [VW, VY, VZ, VA, VB, VC, VE, TY, ↓reduceIte, Nat.reduceEqDiff, Nat.reduceAdd, Nat.reduceMul, Nat.reduceSub, Nat.reduceLeDiff, List.length_cons, List.length_nil, List.length_append, List.append_assoc, List.take_succ_cons, List.take_zero, List.drop_succ_cons, List.drop_zero, List.set_cons_zero, List.set_cons_succ, true_or, or_true, and_self, Bool.false_eq_true, Nat.le_refl, Option.bind_some, Option.map_some, Option.getD_some, Option.isSome_some, List.map_cons, List.map_nil, List.cons_append, List.nil_append, List.append_nil, List.getElem?_cons_zero, List.getElem?_cons_succ, eq_self, Int.reduceLT, Int.reduceLE, Int.reduceNeg, Int.reduceEq]
    exact hQ _ E1
theorem boxText_c {x : Bx} {b off : Nat} {h : Heap} {Q : Value → Heap → Prop} (hp : At h b off x) (hb : boxM x = true) (hQ : Q (.string (bL (boxL x))) h) :
    CallsV Tryz.prog 59 [.pointer (some ⟨b, off, none⟩)] h Q := by
  obtain ⟨v1, v2, g0, g1, g2, f1, r1, r2, _⟩ := at_Bx hp
  obtain ⟨hk, hl3, hlh, hsm⟩ := box_small hb
  refine CallsV.start Tryz.func59 rfl (by rw [Tryz.results59]) (by kernel_rfl) (by rw [Tryz.ntmps59]; simp) ?_
  have hkl := boxK_len hb
  have a1 := cat (a := bL (Lib.itoa x.k)) (b := ⟨#[58]⟩) (by rw [one_size, bL_size]; omega)
  simp (disch := omega) only [VW, VY, VZ, VA, VB, VC, VE, TY, ↓reduceIte, Nat.reduceEqDiff, Nat.reduceAdd, Nat.reduceMul, Nat.reduceSub, Nat.reduceLeDiff, List.length_cons, List.length_nil, List.length_append, List.append_assoc, List.take_succ_cons, List.take_zero, List.drop_succ_cons, List.drop_zero, List.set_cons_zero, List.set_cons_succ, true_or, or_true, and_self, Bool.false_eq_true, Nat.le_refl, Option.bind_some, Option.map_some, Option.getD_some, Option.isSome_some, List.map_cons, List.map_nil, List.cons_append, List.nil_append, List.append_nil, List.getElem?_cons_zero, List.getElem?_cons_succ, eq_self, Int.reduceLT, Int.reduceLE, Int.reduceNeg, Int.reduceEq, g0]
  refine .inl ⟨by kernel_rfl, ?_⟩; refine itoa_c f1 ?_
  rw [itoaB_L]
  simp (disch := omega) only [VW, VY, VZ, VA, VB, VC, VE, TY, ↓reduceIte, Nat.reduceEqDiff, Nat.reduceAdd, Nat.reduceMul, Nat.reduceSub, Nat.reduceLeDiff, List.length_cons, List.length_nil, List.length_append, List.append_assoc, List.take_succ_cons, List.take_zero, List.drop_succ_cons, List.drop_zero, List.set_cons_zero, List.set_cons_succ, true_or, or_true, and_self, Bool.false_eq_true, Nat.le_refl, Option.bind_some, Option.map_some, Option.getD_some, Option.isSome_some, List.map_cons, List.map_nil, List.cons_append, List.nil_append, List.append_nil, List.getElem?_cons_zero, List.getElem?_cons_succ, eq_self, Int.reduceLT, Int.reduceLE, Int.reduceNeg, Int.reduceEq, a1, g1, r1.isRow.len]
  have hzl : (x.low.zip x.high).length = x.low.length := by rw [List.length_zip]; omega
  refine loop_rule (fun n e h' => ∃ (i : Nat), e 0 = .pointer (some ⟨b, off, none⟩) ∧ e 15 = v1 ∧ e 16 = .int .i64 x.low.length ∧ e 17 = .int .i64 i ∧
    e 3 = .string (bL (Lib.itoa x.k ++ [58] ++ ((x.low.zip x.high).take i).flatMap pairT)) ∧ i ≤ x.low.length ∧ n = x.low.length - i ∧ h' = h) ?_ x.low.length _ _
    ⟨0, rfl, rfl, rfl, rfl, by simp [upd, ← bL_app]; rfl, Nat.zero_le _, rfl, rfl⟩
  rintro n e h' ⟨i, e0, e15, e16, e17, e3, hi, rfl, rfl⟩
  simp (disch := omega) only [VW, VY, VZ, VA, VB, VC, VE, TY, ↓reduceIte, Nat.reduceEqDiff, Nat.reduceAdd, Nat.reduceMul, Nat.reduceSub, Nat.reduceLeDiff, List.length_cons, List.length_nil, List.length_append, List.append_assoc, List.take_succ_cons, List.take_zero, List.drop_succ_cons, List.drop_zero, List.set_cons_zero, List.set_cons_succ, true_or, or_true, and_self, Bool.false_eq_true, Nat.le_refl, Option.bind_some, Option.map_some, Option.getD_some, Option.isSome_some, List.map_cons, List.map_nil, List.cons_append, List.nil_append, List.append_nil, List.getElem?_cons_zero, List.getElem?_cons_succ, eq_self, Int.reduceLT, Int.reduceLE, Int.reduceNeg, Int.reduceEq, e16, e17]
  by_cases hlt : i < x.low.length
  · obtain ⟨y, hy⟩ := get_some hlt
    obtain ⟨z, hz⟩ := get_some (show i < x.high.length by omega)
    have hyz := zip_get hy hz
    obtain ⟨y1, y2⟩ := row_int r1 hy
    obtain ⟨z1, z2⟩ := row_int r2 hz
    have q1 : (i : Int) < (x.low.length : Int) := by omega
    have q2 : (i : Int) < (x.high.length : Int) := by omega
    have hpl := pairs_len hb i
    have sm := hsm _ (List.mem_of_getElem? hyz)
    have hy4 := itoa_len (n := y) 4 (by decide) (by have : (10 : Nat) ^ 4 = 10000 := by decide
                                                    omega)
    have hz4 := itoa_len (n := z) 4 (by decide) (by have : (10 : Nat) ^ 4 = 10000 := by decide
                                                    omega)
    generalize hacc : Lib.itoa x.k ++ [58] ++ ((x.low.zip x.high).take i).flatMap pairT = acc at *
    have hal : acc.length ≤ 38 := by rw [← hacc]; simp only [List.length_append, List.length_cons, List.length_nil]; omega
    have b1 := cat (a := ⟨#[32]⟩) (b := bL (Lib.itoa y)) (by simp only [size_append, one_size, bL_size]; omega)
    have b2 := cat (a := ⟨#[32]⟩ ++ bL (Lib.itoa y)) (b := ⟨#[32]⟩) (by simp only [size_append, one_size, bL_size]; omega)
    have b3 := cat (a := ⟨#[32]⟩ ++ bL (Lib.itoa y) ++ ⟨#[32]⟩) (b := bL (Lib.itoa z)) (by simp only [size_append, one_size, bL_size]; omega)
    have b4 := cat (a := bL acc) (b := ⟨#[32]⟩ ++ bL (Lib.itoa y) ++ ⟨#[32]⟩ ++ bL (Lib.itoa z)) (by simp only [size_append, one_size, bL_size]; omega)
    simp (disch := omega) only [VW, VY, VZ, VA, VB, VC, VE, TY, ↓reduceIte, Nat.reduceEqDiff, Nat.reduceAdd, Nat.reduceMul, Nat.reduceSub, Nat.reduceLeDiff, List.length_cons, List.length_nil, List.length_append, List.append_assoc, List.take_succ_cons, List.take_zero, List.drop_succ_cons, List.drop_zero, List.set_cons_zero, List.set_cons_succ, true_or, or_true, and_self, Bool.false_eq_true, Nat.le_refl, Option.bind_some, Option.map_some, Option.getD_some, Option.isSome_some, List.map_cons, List.map_nil, List.cons_append, List.nil_append, List.append_nil, List.getElem?_cons_zero, List.getElem?_cons_succ, eq_self, Int.reduceLT, Int.reduceLE, Int.reduceNeg, Int.reduceEq, e0, e15, e17, q1, r1.isRow.ix, y1]
    refine draw_ord [0, 1, 5, 6, 7, 8, 9, 10, 11, 2, 3, 4, 12, 13, 14, 15] (by kernel_rfl) (by simp only [List.filterMap_cons, List.filterMap_nil, List.getElem?_cons_zero, List.getElem?_cons_succ]; rfl) ?_
    simp (disch := omega) only [VW, VY, VZ, VA, VB, VC, VE, TY, ↓reduceIte, Nat.reduceEqDiff, Nat.reduceAdd, Nat.reduceMul, Nat.reduceSub, Nat.reduceLeDiff, List.length_cons, List.length_nil, List.length_append, List.append_assoc, List.take_succ_cons, List.take_zero, List.drop_succ_cons, List.drop_zero, List.set_cons_zero, List.set_cons_succ, true_or, or_true, and_self, Bool.false_eq_true, Nat.le_refl, Option.bind_some, Option.map_some, Option.getD_some, Option.isSome_some, List.map_cons, List.map_nil, List.cons_append, List.nil_append, List.append_nil, List.getElem?_cons_zero, List.getElem?_cons_succ, eq_self, Int.reduceLT, Int.reduceLE, Int.reduceNeg, Int.reduceEq, e0, e3, g2, r2.isRow.ix, z1, q2]
    refine .inl ⟨by kernel_rfl, ?_⟩; refine itoa_c y2 ?_
    rw [itoaB_L]
    simp (disch := omega) only [VW, VY, VZ, VA, VB, VC, VE, TY, ↓reduceIte, Nat.reduceEqDiff, Nat.reduceAdd, Nat.reduceMul, Nat.reduceSub, Nat.reduceLeDiff, List.length_cons, List.length_nil, List.length_append, List.append_assoc, List.take_succ_cons, List.take_zero, List.drop_succ_cons, List.drop_zero, List.set_cons_zero, List.set_cons_succ, true_or, or_true, and_self, Bool.false_eq_true, Nat.le_refl, Option.bind_some, Option.map_some, Option.getD_some, Option.isSome_some, List.map_cons, List.map_nil, List.cons_append, List.nil_append, List.append_nil, List.getElem?_cons_zero, List.getElem?_cons_succ, eq_self, Int.reduceLT, Int.reduceLE, Int.reduceNeg, Int.reduceEq, b1, b2, z1, g2]
    refine .inl ⟨by kernel_rfl, ?_⟩; refine itoa_c z2 ?_
    rw [itoaB_L]
    have key : bL acc ++ (⟨#[32]⟩ ++ bL (Lib.itoa y) ++ ⟨#[32]⟩ ++ bL (Lib.itoa z)) = bL (Lib.itoa x.k ++ [58] ++ ((x.low.zip x.high).take (i + 1)).flatMap pairT) := by
      rw [flat_take pairT hyz, ← List.append_assoc, hacc]
      simp only [one_bL, bL_app]; rfl
    simp (disch := omega) only [VW, VY, VZ, VA, VB, VC, VE, TY, ↓reduceIte, Nat.reduceEqDiff, Nat.reduceAdd, Nat.reduceMul, Nat.reduceSub, Nat.reduceLeDiff, List.length_cons, List.length_nil, List.length_append, List.append_assoc, List.take_succ_cons, List.take_zero, List.drop_succ_cons, List.drop_zero, List.set_cons_zero, List.set_cons_succ, true_or, or_true, and_self, Bool.false_eq_true, Nat.le_refl, Option.bind_some, Option.map_some, Option.getD_some, Option.isSome_some, List.map_cons, List.map_nil, List.cons_append, List.nil_append, List.append_nil, List.getElem?_cons_zero, List.getElem?_cons_succ, eq_self, Int.reduceLT, Int.reduceLE, Int.reduceNeg, Int.reduceEq, b3, b4, e15, e16, e17, e0, wrap_in, z1, g2]
    refine ⟨_, by omega, i + 1, by simp, ?_, by omega, rfl⟩
    rw [key]; simp
  · obtain rfl : i = x.low.length := by omega
    have q1 : ¬ (x.low.length : Int) < (x.low.length : Int) := by omega
    rw [← hzl, List.take_length] at e3
    have e3 : e 3 = .string (bL (boxL x)) := e3
    simp (disch := omega) only [VW, VY, VZ, VA, VB, VC, VE, TY, ↓reduceIte, Nat.reduceEqDiff, Nat.reduceAdd, Nat.reduceMul, Nat.reduceSub, Nat.reduceLeDiff, List.length_cons, List.length_nil, List.length_append, List.append_assoc, List.take_succ_cons, List.take_zero, List.drop_succ_cons, List.drop_zero, List.set_cons_zero, List.set_cons_succ, true_or, or_true, and_self, Bool.false_eq_true, Nat.le_refl, Option.bind_some, Option.map_some, Option.getD_some, Option.isSome_some, List.map_cons, List.map_nil, List.cons_append, List.nil_append, List.append_nil, List.getElem?_cons_zero, List.getElem?_cons_succ, eq_self, Int.reduceLT, Int.reduceLE, Int.reduceNeg, Int.reduceEq, e3, q1]
    exact hQ
theorem workNames_c {h : Heap} {Q : Value → Heap → Prop} (hQ : ∀ v h', Ext h h' → Row h' (namesL.map bL) v → Q v h') : CallsV Tryz.prog 38 [] h Q := by
  refine CallsV.start Tryz.func38 rfl (by rw [Tryz.results38]) (by kernel_rfl) (by rw [Tryz.ntmps38]; simp) ?_
  simp (disch := omega) only [VW, VY, VZ, VA, VB, VC, VE, TY, ↓reduceIte, Nat.reduceEqDiff, Nat.reduceAdd, Nat.reduceMul, Nat.reduceSub, Nat.reduceLeDiff, List.length_cons, List.length_nil, List.length_append, List.append_assoc, List.take_succ_cons, List.take_zero, List.drop_succ_cons, List.drop_zero, List.set_cons_zero, List.set_cons_succ, true_or, or_true, and_self, Bool.false_eq_true, Nat.le_refl, Option.bind_some, Option.map_some, Option.getD_some, Option.isSome_some, List.map_cons, List.map_nil, List.cons_append, List.nil_append, List.append_nil, List.getElem?_cons_zero, List.getElem?_cons_succ, eq_self, Int.reduceLT, Int.reduceLE, Int.reduceNeg, Int.reduceEq]
  refine hQ _ _ (.app _ _) ?_
  exact Row.ofBlk (cs := [.string (bL [111, 112, 101, 110]), .string (bL [102, 114, 101, 101]), .string (bL [104, 111, 108, 100, 115]), .string (bL [107, 101, 112, 116])]) (by simp (disch := omega) only [VW, VY, VZ, VA, VB, VC, VE, TY, ↓reduceIte, Nat.reduceEqDiff, Nat.reduceAdd, Nat.reduceMul, Nat.reduceSub, Nat.reduceLeDiff, List.length_cons, List.length_nil, List.length_append, List.append_assoc, List.take_succ_cons, List.take_zero, List.drop_succ_cons, List.drop_zero, List.set_cons_zero, List.set_cons_succ, true_or, or_true, and_self, Bool.false_eq_true, Nat.le_refl, Option.bind_some, Option.map_some, Option.getD_some, Option.isSome_some, List.map_cons, List.map_nil, List.cons_append, List.nil_append, List.append_nil, List.getElem?_cons_zero, List.getElem?_cons_succ, eq_self, Int.reduceLT, Int.reduceLE, Int.reduceNeg, Int.reduceEq]; rfl)
    (.cons (mk_str (by decide)) (.cons (mk_str (by decide)) (.cons (mk_str (by decide)) (.cons (mk_str (by decide)) .nil)))) rfl (by decide)
theorem cpNames_c {h : Heap} {Q : Value → Heap → Prop} (hQ : ∀ v h', Ext h h' → Row h' (namesL.map bL) v → Q v h') : CallsV Tryz.prog 50 [] h Q := by
  refine CallsV.start Tryz.func50 rfl (by rw [Tryz.results50]) (by kernel_rfl) (by rw [Tryz.ntmps50]; simp) ?_
  simp (disch := omega) only [VW, VY, VZ, VA, VB, VC, VE, TY, ↓reduceIte, Nat.reduceEqDiff, Nat.reduceAdd, Nat.reduceMul, Nat.reduceSub, Nat.reduceLeDiff, List.length_cons, List.length_nil, List.length_append, List.append_assoc, List.take_succ_cons, List.take_zero, List.drop_succ_cons, List.drop_zero, List.set_cons_zero, List.set_cons_succ, true_or, or_true, and_self, Bool.false_eq_true, Nat.le_refl, Option.bind_some, Option.map_some, Option.getD_some, Option.isSome_some, List.map_cons, List.map_nil, List.cons_append, List.nil_append, List.append_nil, List.getElem?_cons_zero, List.getElem?_cons_succ, eq_self, Int.reduceLT, Int.reduceLE, Int.reduceNeg, Int.reduceEq]
  refine hQ _ _ (.app _ _) ?_
  exact Row.ofBlk (cs := [.string (bL [111, 112, 101, 110]), .string (bL [102, 114, 101, 101]), .string (bL [104, 111, 108, 100, 115]), .string (bL [107, 101, 112, 116])]) (by simp (disch := omega) only [VW, VY, VZ, VA, VB, VC, VE, TY, ↓reduceIte, Nat.reduceEqDiff, Nat.reduceAdd, Nat.reduceMul, Nat.reduceSub, Nat.reduceLeDiff, List.length_cons, List.length_nil, List.length_append, List.append_assoc, List.take_succ_cons, List.take_zero, List.drop_succ_cons, List.drop_zero, List.set_cons_zero, List.set_cons_succ, true_or, or_true, and_self, Bool.false_eq_true, Nat.le_refl, Option.bind_some, Option.map_some, Option.getD_some, Option.isSome_some, List.map_cons, List.map_nil, List.cons_append, List.nil_append, List.append_nil, List.getElem?_cons_zero, List.getElem?_cons_succ, eq_self, Int.reduceLT, Int.reduceLE, Int.reduceNeg, Int.reduceEq]; rfl)
    (.cons (mk_str (by decide)) (.cons (mk_str (by decide)) (.cons (mk_str (by decide)) (.cons (mk_str (by decide)) .nil)))) rfl (by decide)
theorem stepsB (n : Int) : (⟨#[115, 116, 101, 112, 115, 32]⟩ : ByteArray) ++ bL (Lib.itoa n) ++ ⟨#[10]⟩ = bL (stepsL n) := by
  unfold stepsL
  rw [← bL_app, ← bL_app]; rfl
theorem lineB' (nm : List UInt8) (x : Bx) : bL nm ++ ⟨#[32]⟩ ++ bL (boxL x) ++ ⟨#[10]⟩ = bL (lineT nm x) := by
  unfold lineT
  rw [← bL_app, ← bL_app, ← bL_app]; rfl
theorem workText_c {x : Wk} {s : Int} {b off : Nat} {h : Heap} {Q : Value → Heap → Prop} (hp : At h b off x) (hw : workM x s = true) (hQ : ∀ h', Ext h h' → Q (.string (bL (workL x))) h') :
    CallsV Tryz.prog 41 [.pointer (some ⟨b, off, none⟩)] h Q := by
  obtain ⟨v1, v2, v3, v4, g0, g1, g2, g3, g4, r1, r2, r3, r4, f5, ga⟩ := at_Wk hp
  refine CallsV.start Tryz.func41 rfl (by rw [Tryz.results41]) (by kernel_rfl) (by rw [Tryz.ntmps41]; simp) ?_
  have E := Ext.one h (some ⟨[v1, v2, v3, v4], 22, false, true⟩)
  have c1 := r1.isRow.cells
  have c2 := r2.isRow.cells
  have c3 := r3.isRow.cells
  have c4 := r4.isRow.cells
  have ws := work_steps hw
  have hsl := steps_len ws
  have z6 : (⟨#[115, 116, 101, 112, 115, 32]⟩ : ByteArray).size = 6 := rfl
  have hil := itoa_len0 (n := x.steps) 5 (by decide) ws.1 (by have : (10 : Nat) ^ 5 = 100000 := by decide
                                                              omega)
  have a1 := cat (a := ⟨#[115, 116, 101, 112, 115, 32]⟩) (b := bL (Lib.itoa x.steps)) (by rw [z6, bL_size]; omega)
  have a2 := cat (a := ⟨#[115, 116, 101, 112, 115, 32]⟩ ++ bL (Lib.itoa x.steps)) (b := ⟨#[10]⟩) (by rw [size_append, z6, one_size, bL_size]; omega)
  have a3 := stepsB x.steps
  simp (disch := omega) only [VW, VY, VZ, VA, VB, VC, VE, TY, ↓reduceIte, Nat.reduceEqDiff, Nat.reduceAdd, Nat.reduceMul, Nat.reduceSub, Nat.reduceLeDiff, List.length_cons, List.length_nil, List.length_append, List.append_assoc, List.take_succ_cons, List.take_zero, List.drop_succ_cons, List.drop_zero, List.set_cons_zero, List.set_cons_succ, true_or, or_true, and_self, Bool.false_eq_true, Nat.le_refl, Option.bind_some, Option.map_some, Option.getD_some, Option.isSome_some, List.map_cons, List.map_nil, List.cons_append, List.nil_append, List.append_nil, List.getElem?_cons_zero, List.getElem?_cons_succ, eq_self, Int.reduceLT, Int.reduceLE, Int.reduceNeg, Int.reduceEq, g4]
  refine .inl ⟨by kernel_rfl, ?_⟩; refine itoa_c f5 ?_
  rw [itoaB_L]
  simp (disch := omega) only [VW, VY, VZ, VA, VB, VC, VE, TY, ↓reduceIte, Nat.reduceEqDiff, Nat.reduceAdd, Nat.reduceMul, Nat.reduceSub, Nat.reduceLeDiff, List.length_cons, List.length_nil, List.length_append, List.append_assoc, List.take_succ_cons, List.take_zero, List.drop_succ_cons, List.drop_zero, List.set_cons_zero, List.set_cons_succ, true_or, or_true, and_self, Bool.false_eq_true, Nat.le_refl, Option.bind_some, Option.map_some, Option.getD_some, Option.isSome_some, List.map_cons, List.map_nil, List.cons_append, List.nil_append, List.append_nil, List.getElem?_cons_zero, List.getElem?_cons_succ, eq_self, Int.reduceLT, Int.reduceLE, Int.reduceNeg, Int.reduceEq, a1, a2, a3]
  refine draw_ord [0, 1, 2, 3, 4, 5, 6, 7, 8, 9, 10, 11, 12, 13, 14, 15, 18, 16, 17] (by kernel_rfl) (by simp only [List.filterMap_cons, List.filterMap_nil, List.getElem?_cons_zero, List.getElem?_cons_succ]; rfl) ?_
  simp (disch := omega) only [VW, VY, VZ, VA, VB, VC, VE, TY, ↓reduceIte, Nat.reduceEqDiff, Nat.reduceAdd, Nat.reduceMul, Nat.reduceSub, Nat.reduceLeDiff, List.length_cons, List.length_nil, List.length_append, List.append_assoc, List.take_succ_cons, List.take_zero, List.drop_succ_cons, List.drop_zero, List.set_cons_zero, List.set_cons_succ, true_or, or_true, and_self, Bool.false_eq_true, Nat.le_refl, Option.bind_some, Option.map_some, Option.getD_some, Option.isSome_some, List.map_cons, List.map_nil, List.cons_append, List.nil_append, List.append_nil, List.getElem?_cons_zero, List.getElem?_cons_succ, eq_self, Int.reduceLT, Int.reduceLE, Int.reduceNeg, Int.reduceEq, g0, g1, g2, g3, c1, c2, c3, c4, E.keepC g0, E.keepC g1, E.keepC g2, E.keepC g3]
  have rl : Row (h ++ [some ⟨[v1, v2, v3, v4], 22, false, true⟩]) (lists x) (.slice (some ⟨h.length, 0, none⟩) 4 4) := Row.ofBlk (cs := [v1, v2, v3, v4]) (by simp (disch := omega) only [VW, VY, VZ, VA, VB, VC, VE, TY, ↓reduceIte, Nat.reduceEqDiff, Nat.reduceAdd, Nat.reduceMul, Nat.reduceSub, Nat.reduceLeDiff, List.length_cons, List.length_nil, List.length_append, List.append_assoc, List.take_succ_cons, List.take_zero, List.drop_succ_cons, List.drop_zero, List.set_cons_zero, List.set_cons_succ, true_or, or_true, and_self, Bool.false_eq_true, Nat.le_refl, Option.bind_some, Option.map_some, Option.getD_some, Option.isSome_some, List.map_cons, List.map_nil, List.cons_append, List.nil_append, List.append_nil, List.getElem?_cons_zero, List.getElem?_cons_succ, eq_self, Int.reduceLT, Int.reduceLE, Int.reduceNeg, Int.reduceEq])
    (.cons (mk_list (r1.mono E)) (.cons (mk_list (r2.mono E)) (.cons (mk_list (r3.mono E)) (.cons (mk_list (r4.mono E)) .nil)))) rfl (by decide)
  generalize h ++ [some ⟨[v1, v2, v3, v4], 22, false, true⟩] = H at *
  generalize Value.slice (some ⟨h.length, 0, none⟩) 4 4 = vl at *
  have hl4 : (lists x).length = 4 := rfl
  have hz4 : (namesL.zip (lists x)).length = 4 := rfl
  refine loop_rule (fun n e h' => ∃ (j : Nat), e 30 = vl ∧ e 31 = .int .i64 4 ∧ e 32 = .int .i64 j ∧ e 3 = .string (bL (stepsL x.steps) ++ bL (((namesL.zip (lists x)).take j).flatMap listT)) ∧ j ≤ 4 ∧ n = 4 - j ∧ Ext H h') ?_ 4 _ _
    ⟨0, rfl, rfl, rfl, by simp [upd, bL_app], by omega, rfl, .refl _⟩
  rintro n e h' ⟨j, e30, e31, e32, e3, hj, rfl, EH⟩
  have E := E.trans EH
  have rl := rl.mono EH
  simp (disch := omega) only [VW, VY, VZ, VA, VB, VC, VE, TY, ↓reduceIte, Nat.reduceEqDiff, Nat.reduceAdd, Nat.reduceMul, Nat.reduceSub, Nat.reduceLeDiff, List.length_cons, List.length_nil, List.length_append, List.append_assoc, List.take_succ_cons, List.take_zero, List.drop_succ_cons, List.drop_zero, List.set_cons_zero, List.set_cons_succ, true_or, or_true, and_self, Bool.false_eq_true, Nat.le_refl, Option.bind_some, Option.map_some, Option.getD_some, Option.isSome_some, List.map_cons, List.map_nil, List.cons_append, List.nil_append, List.append_nil, List.getElem?_cons_zero, List.getElem?_cons_succ, eq_self, Int.reduceLT, Int.reduceLE, Int.reduceNeg, Int.reduceEq, e30, e31, e32]
  by_cases hlt : j < 4
  · obtain ⟨l, hl⟩ := get_some (show j < (lists x).length by omega)
    obtain ⟨nm, hnm⟩ := get_some (show j < namesL.length from hlt)
    have hzj := zip_get hnm hl
    obtain ⟨v, x3, rv⟩ := row_list rl hl
    have q1 : (j : Int) < 4 := by omega
    have ix := rl.isRow.ix Tryz.prog
    rw [hl4] at ix
    have hle := rv.le
    have hbx := work_box hw l (List.mem_of_getElem? hl)
    have hn5 := names_len nm (List.mem_of_getElem? hnm)
    have hll := lists_len hw j
    simp (disch := omega) only [VW, VY, VZ, VA, VB, VC, VE, TY, ↓reduceIte, Nat.reduceEqDiff, Nat.reduceAdd, Nat.reduceMul, Nat.reduceSub, Nat.reduceLeDiff, List.length_cons, List.length_nil, List.length_append, List.append_assoc, List.take_succ_cons, List.take_zero, List.drop_succ_cons, List.drop_zero, List.set_cons_zero, List.set_cons_succ, true_or, or_true, and_self, Bool.false_eq_true, Nat.le_refl, Option.bind_some, Option.map_some, Option.getD_some, Option.isSome_some, List.map_cons, List.map_nil, List.cons_append, List.nil_append, List.append_nil, List.getElem?_cons_zero, List.getElem?_cons_succ, eq_self, Int.reduceLT, Int.reduceLE, Int.reduceNeg, Int.reduceEq, e30, e31, e32, q1, ix, x3, rv.isRow.len]
    generalize hacc : stepsL x.steps ++ ((namesL.zip (lists x)).take j).flatMap listT = acc
    rw [bL_app, hacc] at e3
    have hal : acc.length ≤ 7300 := by rw [← hacc, List.length_append]; omega
    refine loop_rule (fun n e h2 => ∃ (i : Nat), e 30 = vl ∧ e 31 = .int .i64 4 ∧ e 32 = .int .i64 j ∧ e 4 = .int .i64 j ∧ e 5 = v ∧ e 38 = .int .i64 l.length ∧ e 39 = .int .i64 i ∧ e 3 = .string (bL acc ++ bL ((l.take i).flatMap (lineT nm))) ∧ i ≤ l.length ∧ n = l.length - i ∧ Ext h' h2) ?_ l.length _ _
      ⟨0, e30, e31, e32, rfl, rfl, rfl, rfl, by simpa [upd, bL_app] using e3, by omega, rfl, .refl _⟩
    rintro n e h2 ⟨i, e30, e31, e32, e4, e5, e38, e39, e3, hi, rfl, E2⟩
    have rv := rv.mono E2
    simp (disch := omega) only [VW, VY, VZ, VA, VB, VC, VE, TY, ↓reduceIte, Nat.reduceEqDiff, Nat.reduceAdd, Nat.reduceMul, Nat.reduceSub, Nat.reduceLeDiff, List.length_cons, List.length_nil, List.length_append, List.append_assoc, List.take_succ_cons, List.take_zero, List.drop_succ_cons, List.drop_zero, List.set_cons_zero, List.set_cons_succ, true_or, or_true, and_self, Bool.false_eq_true, Nat.le_refl, Option.bind_some, Option.map_some, Option.getD_some, Option.isSome_some, List.map_cons, List.map_nil, List.cons_append, List.nil_append, List.append_nil, List.getElem?_cons_zero, List.getElem?_cons_succ, eq_self, Int.reduceLT, Int.reduceLE, Int.reduceNeg, Int.reduceEq, e38, e39]
    by_cases hlt2 : i < l.length
    · obtain ⟨y, hy⟩ := get_some hlt2
      have q2 : (i : Int) < (l.length : Int) := by omega
      have hby := hbx.2 y (List.mem_of_getElem? hy)
      have hyl := boxL_len hby
      have hli := lines_len hn5 hbx.2 hbx.1 i
      have b1 := cat (a := bL nm) (b := ⟨#[32]⟩) (by simp only [size_append, one_size, bL_size]; omega)
      have b2 := cat (a := bL nm ++ ⟨#[32]⟩) (b := bL (boxL y)) (by simp only [size_append, one_size, bL_size]; omega)
      have b3 := cat (a := bL nm ++ ⟨#[32]⟩ ++ bL (boxL y)) (b := ⟨#[10]⟩) (by simp only [size_append, one_size, bL_size]; omega)
      have b4 := cat (a := bL acc ++ bL ((l.take i).flatMap (lineT nm))) (b := bL nm ++ ⟨#[32]⟩ ++ bL (boxL y) ++ ⟨#[10]⟩) (by simp only [size_append, one_size, bL_size]; omega)
      simp (disch := omega) only [VW, VY, VZ, VA, VB, VC, VE, TY, ↓reduceIte, Nat.reduceEqDiff, Nat.reduceAdd, Nat.reduceMul, Nat.reduceSub, Nat.reduceLeDiff, List.length_cons, List.length_nil, List.length_append, List.append_assoc, List.take_succ_cons, List.take_zero, List.drop_succ_cons, List.drop_zero, List.set_cons_zero, List.set_cons_succ, true_or, or_true, and_self, Bool.false_eq_true, Nat.le_refl, Option.bind_some, Option.map_some, Option.getD_some, Option.isSome_some, List.map_cons, List.map_nil, List.cons_append, List.nil_append, List.append_nil, List.getElem?_cons_zero, List.getElem?_cons_succ, eq_self, Int.reduceLT, Int.reduceLE, Int.reduceNeg, Int.reduceEq, e39, q2]
      refine draw_ord [0, 2, 6, 7, 8, 1, 3, 4, 5, 9, 10, 11, 12, 13] (by kernel_rfl) (by simp only [List.filterMap_cons, List.filterMap_nil, List.getElem?_cons_zero, List.getElem?_cons_succ]; rfl) ?_
      simp (disch := omega) only [VW, VY, VZ, VA, VB, VC, VE, TY, ↓reduceIte, Nat.reduceEqDiff, Nat.reduceAdd, Nat.reduceMul, Nat.reduceSub, Nat.reduceLeDiff, List.length_cons, List.length_nil, List.length_append, List.append_assoc, List.take_succ_cons, List.take_zero, List.drop_succ_cons, List.drop_zero, List.set_cons_zero, List.set_cons_succ, true_or, or_true, and_self, Bool.false_eq_true, Nat.le_refl, Option.bind_some, Option.map_some, Option.getD_some, Option.isSome_some, List.map_cons, List.map_nil, List.cons_append, List.nil_append, List.append_nil, List.getElem?_cons_zero, List.getElem?_cons_succ, eq_self, Int.reduceLT, Int.reduceLE, Int.reduceNeg, Int.reduceEq, e3, e4, e5, e39, q2, rv.isRow.ix]
      refine .inl ⟨by kernel_rfl, ?_⟩; refine workNames_c fun vn h3 E3 rn => ?_
      have rv := rv.mono E3
      have ixn := rn.isRow.ix Tryz.prog
      have hn4 : (namesL.map bL).length = 4 := rfl
      rw [hn4] at ixn
      obtain ⟨x4, _⟩ := row_str rn (show (namesL.map bL)[j]? = some (bL nm) by rw [List.getElem?_map, hnm]; rfl)
      have py := rv.ptr hy
      rw [Bx.sz] at py
      simp (disch := omega) only [VW, VY, VZ, VA, VB, VC, VE, TY, ↓reduceIte, Nat.reduceEqDiff, Nat.reduceAdd, Nat.reduceMul, Nat.reduceSub, Nat.reduceLeDiff, List.length_cons, List.length_nil, List.length_append, List.append_assoc, List.take_succ_cons, List.take_zero, List.drop_succ_cons, List.drop_zero, List.set_cons_zero, List.set_cons_succ, true_or, or_true, and_self, Bool.false_eq_true, Nat.le_refl, Option.bind_some, Option.map_some, Option.getD_some, Option.isSome_some, List.map_cons, List.map_nil, List.cons_append, List.nil_append, List.append_nil, List.getElem?_cons_zero, List.getElem?_cons_succ, eq_self, Int.reduceLT, Int.reduceLE, Int.reduceNeg, Int.reduceEq, ixn, x4, q1, b1, rv.isRow.ix, q2]
      refine .inl ⟨by kernel_rfl, ?_⟩; refine boxText_c py hby ?_
      simp (disch := omega) only [VW, VY, VZ, VA, VB, VC, VE, TY, ↓reduceIte, Nat.reduceEqDiff, Nat.reduceAdd, Nat.reduceMul, Nat.reduceSub, Nat.reduceLeDiff, List.length_cons, List.length_nil, List.length_append, List.append_assoc, List.take_succ_cons, List.take_zero, List.drop_succ_cons, List.drop_zero, List.set_cons_zero, List.set_cons_succ, true_or, or_true, and_self, Bool.false_eq_true, Nat.le_refl, Option.bind_some, Option.map_some, Option.getD_some, Option.isSome_some, List.map_cons, List.map_nil, List.cons_append, List.nil_append, List.append_nil, List.getElem?_cons_zero, List.getElem?_cons_succ, eq_self, Int.reduceLT, Int.reduceLE, Int.reduceNeg, Int.reduceEq, x4, b2, b3, b4, e30, e31, e32, e4, e5, e38, e39, wrap_in]
      refine ⟨_, by omega, i + 1, by simp, ?_, by omega, rfl, E2.trans E3⟩
      rw [flat_take (lineT nm) hy, lineB', ← bL_app, ByteArray.append_assoc]
    · obtain rfl : i = l.length := by omega
      have q2 : ¬ (l.length : Int) < (l.length : Int) := by omega
      rw [List.take_length] at e3
      simp (disch := omega) only [VW, VY, VZ, VA, VB, VC, VE, TY, ↓reduceIte, Nat.reduceEqDiff, Nat.reduceAdd, Nat.reduceMul, Nat.reduceSub, Nat.reduceLeDiff, List.length_cons, List.length_nil, List.length_append, List.append_assoc, List.take_succ_cons, List.take_zero, List.drop_succ_cons, List.drop_zero, List.set_cons_zero, List.set_cons_succ, true_or, or_true, and_self, Bool.false_eq_true, Nat.le_refl, Option.bind_some, Option.map_some, Option.getD_some, Option.isSome_some, List.map_cons, List.map_nil, List.cons_append, List.nil_append, List.append_nil, List.getElem?_cons_zero, List.getElem?_cons_succ, eq_self, Int.reduceLT, Int.reduceLE, Int.reduceNeg, Int.reduceEq, e30, e31, e32, q2, wrap_in]
      refine ⟨_, by omega, j + 1, by simp, ?_, by omega, rfl, EH.trans E2⟩
      rw [e3, flat_take listT hzj, bL_app, bL_app, ← List.append_assoc, hacc]; rfl
  · obtain rfl : j = 4 := by omega
    have q4 : ¬ ((4 : Nat) : Int) < 4 := by decide
    rw [← hz4, List.take_length, bL_app] at e3
    have e3 : e 3 = .string (bL (workL x)) := e3
    simp (disch := omega) only [VW, VY, VZ, VA, VB, VC, VE, TY, ↓reduceIte, Nat.reduceEqDiff, Nat.reduceAdd, Nat.reduceMul, Nat.reduceSub, Nat.reduceLeDiff, List.length_cons, List.length_nil, List.length_append, List.append_assoc, List.take_succ_cons, List.take_zero, List.drop_succ_cons, List.drop_zero, List.set_cons_zero, List.set_cons_succ, true_or, or_true, and_self, Bool.false_eq_true, Nat.le_refl, Option.bind_some, Option.map_some, Option.getD_some, Option.isSome_some, List.map_cons, List.map_nil, List.cons_append, List.nil_append, List.append_nil, List.getElem?_cons_zero, List.getElem?_cons_succ, eq_self, Int.reduceLT, Int.reduceLE, Int.reduceNeg, Int.reduceEq, e3, q4]
    exact hQ _ E
end Go.Proofs
