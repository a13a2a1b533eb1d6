/- Contracts of functions, facts of types, or the plain law behind one statement (own work): S1. Conditions: those told in each theorem. -/
import Derived.Test.YtkapgaajomaheaaGreatDoorTF
set_option linter.all false
set_option linter.unusedSimpArgs false
set_option linter.unusedVariables false
set_option maxRecDepth 4000
namespace Go.Proofs
open Go Go.V

/-- The table of the letters of a text. -/
def setA (l : List UInt8) : List Value := (List.range 256).map fun k => .bool (l.any fun c => c.toNat == k)
theorem x_ixarr (P : Program) (t : TypeId) (b off : Nat) (k : IntKind) (i : Int) : indexAddrV P t (.pointer (some ⟨b, off, none⟩)) (.int k i) = (tArr P t).bind fun p => (tk P p.2).bind fun kd => if 0 ≤ i ∧ i < p.1 then some (.pointer (some ⟨b, off + i.toNat * kd.size, none⟩)) else none := by
  unfold indexAddrV
  cases tArr P t <;> rfl
theorem x_ix_zero (P : Program) (t : TypeId) (s : ByteArray) (k : IntKind) : indexV P t (.string s) (.int k 0) = if (tk P t).map (·.kind) = some 3 then (s[0]?).map fun b => .int .u8 b.toNat else none := x_ix_nat P t s k 0
theorem setA_len (l : List UInt8) : (setA l).length = 256 := by simp [setA]
theorem setA_nil : setA [] = List.replicate 256 (.bool false) := by
  unfold setA
  simp only [List.any_nil, List.map_const', List.length_range]
theorem setA_get (l : List UInt8) (c : UInt8) : (setA l)[c.toNat]? = some (.bool (l.any (· == c))) := by
  have := c.toNat_lt
  unfold setA
  rw [List.getElem?_map, List.getElem?_range (by omega)]
  simp only [Option.map_some, Option.some.injEq, Value.bool.injEq]
  congr 1; funext d
  rw [Bool.eq_iff_iff]
  simp [UInt8.toNat_inj]
theorem setA_put (l : List UInt8) (c : UInt8) : putCells (setA l) c.toNat [.bool true] = setA (l ++ [c]) := by
  have hc := c.toNat_lt
  have hl := setA_len l
  apply List.ext_getElem?
  intro i
  by_cases h : i = c.toNat
  · subst h
    rw [putCells_in (by simp [hl]; omega) (Nat.le_refl _) (by simp)]
    rw [setA_get]; simp
  · rw [putCells_out (by simp [hl]; omega) (by simp; omega)]
    unfold setA
    simp only [List.getElem?_map]
    by_cases k : i < 256
    · rw [List.getElem?_range k]
      simp only [Option.map_some, Option.some.injEq, Value.bool.injEq, List.any_append, List.any_cons, List.any_nil, Bool.or_false]
      have : (c.toNat == i) = false := by simp; omega
      rw [this]; simp
    · rw [List.getElem?_eq_none (by simp; omega)]; rfl

variable [Laid Tryz.prog]
set_option linter.unusedSectionVars false
theorem makeSet_c {s : ByteArray} {h : Heap} {Q : Value → Heap → Prop} (hs : s.size ≤ 1000000000) (ha : ∀ c ∈ s.data.toList, c.toNat < 128)
    (hQ : ∀ h', Ext h h' → Q (.tuple #[.agg (setA s.data.toList).toArray, .bool true]) h') : CallsV Tryz.prog 84 [.string s] h Q := by
  refine CallsV.start Tryz.func84 rfl (by rw [Tryz.results84]) (by kernel_rfl) (by rw [Tryz.ntmps84]; simp) ?_
  have hl := str_len s
  simp (disch := omega) only [VW, VY, VZ, VA, VB, VC, VE, TY, ↓reduceIte, Nat.reduceEqDiff, Nat.reduceAdd, Nat.reduceMul, Nat.reduceSub, Nat.reduceLeDiff, List.length_cons, List.length_nil, List.length_append, List.append_assoc, List.take_succ_cons, List.take_zero, List.drop_succ_cons, List.drop_zero, List.set_cons_zero, List.set_cons_succ, true_or, or_true, and_self, Bool.false_eq_true, Nat.le_refl, Option.bind_some, Option.map_some, Option.getD_some, Option.isSome_some, List.map_cons, List.map_nil, List.cons_append, List.nil_append, List.append_nil, List.getElem?_cons_zero, List.getElem?_cons_succ, eq_self, Int.reduceLT, Int.reduceLE, Int.reduceNeg, Int.reduceEq]
  rw [← setA_nil]
  have sp := Sep.blk1 h (setA []) 99 true
  refine loop_rule (fun n e h' => ∃ (i : Nat), e 0 = .string s ∧ e 2 = .pointer (some ⟨h.length, 0, none⟩) ∧ e 4 = .int .i64 i ∧ i ≤ s.size ∧ n = s.size - i ∧ Sep h h' [blkA h.length (setA (s.data.toList.take i)) 99]) ?_ s.size _ _ ⟨0, rfl, rfl, rfl, Nat.zero_le _, rfl, sp⟩
  rintro n e h' ⟨i, e0, e2, e4, hi, rfl, sp⟩
  simp (disch := omega) only [VW, VY, VZ, VA, VB, VC, VE, TY, ↓reduceIte, Nat.reduceEqDiff, Nat.reduceAdd, Nat.reduceMul, Nat.reduceSub, Nat.reduceLeDiff, List.length_cons, List.length_nil, List.length_append, List.append_assoc, List.take_succ_cons, List.take_zero, List.drop_succ_cons, List.drop_zero, List.set_cons_zero, List.set_cons_succ, true_or, or_true, and_self, Bool.false_eq_true, Nat.le_refl, Option.bind_some, Option.map_some, Option.getD_some, Option.isSome_some, List.map_cons, List.map_nil, List.cons_append, List.nil_append, List.append_nil, List.getElem?_cons_zero, List.getElem?_cons_succ, eq_self, Int.reduceLT, Int.reduceLE, Int.reduceNeg, Int.reduceEq, e0, e4]
  by_cases hlt : i < s.size
  · obtain ⟨c, hc, hc'⟩ := get_str hlt
    have q1 : (i : Int) < (s.size : Int) := by omega
    have hc5 := c.toNat_lt
    have hc6 := ha c (List.mem_of_getElem? hc')
    have q2 : ¬ (128 : Int) ≤ (c.toNat : Int) := by omega
    have q3 : (0 : Int) ≤ (c.toNat : Int) ∧ (c.toNat : Int) < ((256 : Nat) : Int) := by omega
    simp (disch := omega) only [VW, VY, VZ, VA, VB, VC, VE, TY, ↓reduceIte, Nat.reduceEqDiff, Nat.reduceAdd, Nat.reduceMul, Nat.reduceSub, Nat.reduceLeDiff, List.length_cons, List.length_nil, List.length_append, List.append_assoc, List.take_succ_cons, List.take_zero, List.drop_succ_cons, List.drop_zero, List.set_cons_zero, List.set_cons_succ, true_or, or_true, and_self, Bool.false_eq_true, Nat.le_refl, Option.bind_some, Option.map_some, Option.getD_some, Option.isSome_some, List.map_cons, List.map_nil, List.cons_append, List.nil_append, List.append_nil, List.getElem?_cons_zero, List.getElem?_cons_succ, eq_self, Int.reduceLT, Int.reduceLE, Int.reduceNeg, Int.reduceEq, e0, e2, e4, q1, q2, q3, hc, x_ixarr]
    have hl := setA_len (s.data.toList.take i)
    refine sep_store sp (by simp [hl]; omega) fun h2 sp => ?_
    rw [setA_put] at sp
    simp (disch := omega) only [VW, VY, VZ, VA, VB, VC, VE, TY, ↓reduceIte, Nat.reduceEqDiff, Nat.reduceAdd, Nat.reduceMul, Nat.reduceSub, Nat.reduceLeDiff, List.length_cons, List.length_nil, List.length_append, List.append_assoc, List.take_succ_cons, List.take_zero, List.drop_succ_cons, List.drop_zero, List.set_cons_zero, List.set_cons_succ, true_or, or_true, and_self, Bool.false_eq_true, Nat.le_refl, Option.bind_some, Option.map_some, Option.getD_some, Option.isSome_some, List.map_cons, List.map_nil, List.cons_append, List.nil_append, List.append_nil, List.getElem?_cons_zero, List.getElem?_cons_succ, eq_self, Int.reduceLT, Int.reduceLE, Int.reduceNeg, Int.reduceEq, e0, e2, e4, wrap_in]
    refine ⟨_, by omega, i + 1, by simp, by omega, rfl, ?_⟩
    rw [List.take_add_one, hc']
    exact sp
  · obtain rfl : i = s.size := by omega
    rw [List.take_of_length_le (by omega)] at sp
    have q1 : ¬ (s.size : Int) < (s.size : Int) := by omega
    have ga := sp.rdAll (n := 256) (setA_len _).symm
    simp (disch := omega) only [VW, VY, VZ, VA, VB, VC, VE, TY, ↓reduceIte, Nat.reduceEqDiff, Nat.reduceAdd, Nat.reduceMul, Nat.reduceSub, Nat.reduceLeDiff, List.length_cons, List.length_nil, List.length_append, List.append_assoc, List.take_succ_cons, List.take_zero, List.drop_succ_cons, List.drop_zero, List.set_cons_zero, List.set_cons_succ, true_or, or_true, and_self, Bool.false_eq_true, Nat.le_refl, Option.bind_some, Option.map_some, Option.getD_some, Option.isSome_some, List.map_cons, List.map_nil, List.cons_append, List.nil_append, List.append_nil, List.getElem?_cons_zero, List.getElem?_cons_succ, eq_self, Int.reduceLT, Int.reduceLE, Int.reduceNeg, Int.reduceEq, e0, e2, e4, q1, ga]
    refine sep_store sp (by simp) fun h2 sp => ?_
    have sp := sp.as (ds := setA s.data.toList) (by simp [t_put])
    have ga := sp.rdAll (n := 256) (setA_len _).symm
    simp (disch := omega) only [VW, VY, VZ, VA, VB, VC, VE, TY, ↓reduceIte, Nat.reduceEqDiff, Nat.reduceAdd, Nat.reduceMul, Nat.reduceSub, Nat.reduceLeDiff, List.length_cons, List.length_nil, List.length_append, List.append_assoc, List.take_succ_cons, List.take_zero, List.drop_succ_cons, List.drop_zero, List.set_cons_zero, List.set_cons_succ, true_or, or_true, and_self, Bool.false_eq_true, Nat.le_refl, Option.bind_some, Option.map_some, Option.getD_some, Option.isSome_some, List.map_cons, List.map_nil, List.cons_append, List.nil_append, List.append_nil, List.getElem?_cons_zero, List.getElem?_cons_succ, eq_self, Int.reduceLT, Int.reduceLE, Int.reduceNeg, Int.reduceEq, e2, ga]
    exact hQ _ sp.ext
theorem contains_c {b : Nat} {l : List UInt8} {c : UInt8} {h : Heap} {Q : Value → Heap → Prop} (hb : ∀ k, getC h b k = (setA l)[k]?) (hQ : Q (.bool (l.any (· == c))) h) :
    CallsV Tryz.prog 99 [.pointer (some ⟨b, 0, none⟩), .int .u8 c.toNat] h Q := by
  refine CallsV.start Tryz.func99 rfl (by rw [Tryz.results99]) (by kernel_rfl) (by rw [Tryz.ntmps99]; simp) ?_
  have hc5 := c.toNat_lt
  have q3 : (0 : Int) ≤ (c.toNat : Int) ∧ (c.toNat : Int) < ((256 : Nat) : Int) := by omega
  have g := (hb c.toNat).trans (setA_get l c)
  simp (disch := omega) only [VW, VY, VZ, VA, VB, VC, VE, TY, ↓reduceIte, Nat.reduceEqDiff, Nat.reduceAdd, Nat.reduceMul, Nat.reduceSub, Nat.reduceLeDiff, List.length_cons, List.length_nil, List.length_append, List.append_assoc, List.take_succ_cons, List.take_zero, List.drop_succ_cons, List.drop_zero, List.set_cons_zero, List.set_cons_succ, true_or, or_true, and_self, Bool.false_eq_true, Nat.le_refl, Option.bind_some, Option.map_some, Option.getD_some, Option.isSome_some, List.map_cons, List.map_nil, List.cons_append, List.nil_append, List.append_nil, List.getElem?_cons_zero, List.getElem?_cons_succ, eq_self, Int.reduceLT, Int.reduceLE, Int.reduceNeg, Int.reduceEq, q3, g, x_ixarr]
  exact hQ

def mkB (l : List UInt8) : ByteArray := ⟨l.toArray⟩
theorem mkB_size (l : List UInt8) : (mkB l).size = l.length := by
  show l.toArray.size = l.length
  simp
theorem mkB_list (l : List UInt8) : (mkB l).data.toList = l := rfl
theorem mkB_of (s : ByteArray) : mkB s.data.toList = s := rfl
theorem mkB_nil (l : List UInt8) : mkB l = ⟨#[]⟩ ↔ l = [] := by
  constructor
  · intro h
    have := congrArg (fun b : ByteArray => b.data.toList) h
    simpa [mkB] using this
  · rintro rfl; rfl
theorem mkB_get (l : List UInt8) (i : Nat) : (mkB l)[i]? = l[i]? := by
  by_cases h : i < l.length
  · obtain ⟨c, h1, h2⟩ := get_str (s := mkB l) (i := i) (by rw [mkB_size]; exact h)
    rw [h1, ← h2]; rfl
  · rw [List.getElem?_eq_none (by omega)]
    have := mkB_size l
    simp; omega
theorem mkB_tail (c : UInt8) (l : List UInt8) : (mkB (c :: l)).extract 1 (l.length + 1) = mkB l := by
  apply bytes_inj
  simp [mkB]
theorem mkB_front (l : List UInt8) (c : UInt8) : (mkB (l ++ [c])).extract 0 l.length = mkB l := by
  apply bytes_inj
  simp [mkB]
theorem trimLeft_c {b : Nat} {cut : List UInt8} {s : ByteArray} {h : Heap} {Q : Value → Heap → Prop} (hs : s.size ≤ 9223372036854775807) (hb : ∀ k, getC h b k = (setA cut)[k]?)
    (hQ : Q (.string (mkB (s.data.toList.dropWhile fun c => cut.any (· == c)))) h) : CallsV Tryz.prog 85 [.string s, .pointer (some ⟨b, 0, none⟩)] h Q := by
  refine CallsV.start Tryz.func85 rfl (by rw [Tryz.results85]) (by kernel_rfl) (by rw [Tryz.ntmps85]; simp) ?_
  simp (disch := omega) only [VW, VY, VZ, VA, VB, VC, VE, TY, ↓reduceIte, Nat.reduceEqDiff, Nat.reduceAdd, Nat.reduceMul, Nat.reduceSub, Nat.reduceLeDiff, List.length_cons, List.length_nil, List.length_append, List.append_assoc, List.take_succ_cons, List.take_zero, List.drop_succ_cons, List.drop_zero, List.set_cons_zero, List.set_cons_succ, true_or, or_true, and_self, Bool.false_eq_true, Nat.le_refl, Option.bind_some, Option.map_some, Option.getD_some, Option.isSome_some, List.map_cons, List.map_nil, List.cons_append, List.nil_append, List.append_nil, List.getElem?_cons_zero, List.getElem?_cons_succ, eq_self, Int.reduceLT, Int.reduceLE, Int.reduceNeg, Int.reduceEq]
  refine loop_rule (fun n e h' => ∃ t : ByteArray, e 0 = .string t ∧ e 1 = .pointer (some ⟨b, 0, none⟩) ∧ t.size ≤ s.size ∧ n = t.size ∧ h = h' ∧ (s.data.toList.dropWhile fun c => cut.any (· == c)) = t.data.toList.dropWhile fun c => cut.any (· == c)) ?_ s.size _ _ ⟨s, rfl, rfl, Nat.le_refl _, rfl, rfl, rfl⟩
  rintro n e h' ⟨t, e0, e1, hm, rfl, rfl, hD⟩
  have hz := str_len t
  simp (disch := omega) only [VW, VY, VZ, VA, VB, VC, VE, TY, ↓reduceIte, Nat.reduceEqDiff, Nat.reduceAdd, Nat.reduceMul, Nat.reduceSub, Nat.reduceLeDiff, List.length_cons, List.length_nil, List.length_append, List.append_assoc, List.take_succ_cons, List.take_zero, List.drop_succ_cons, List.drop_zero, List.set_cons_zero, List.set_cons_succ, true_or, or_true, and_self, Bool.false_eq_true, Nat.le_refl, Option.bind_some, Option.map_some, Option.getD_some, Option.isSome_some, List.map_cons, List.map_nil, List.cons_append, List.nil_append, List.append_nil, List.getElem?_cons_zero, List.getElem?_cons_succ, eq_self, Int.reduceLT, Int.reduceLE, Int.reduceNeg, Int.reduceEq, e0, e1]
  by_cases k : 0 < t.size
  · obtain ⟨c, g, g'⟩ := get_str k
    have q1 : (0 : Int) < (t.size : Int) := by omega
    simp (disch := omega) only [VW, VY, VZ, VA, VB, VC, VE, TY, ↓reduceIte, Nat.reduceEqDiff, Nat.reduceAdd, Nat.reduceMul, Nat.reduceSub, Nat.reduceLeDiff, List.length_cons, List.length_nil, List.length_append, List.append_assoc, List.take_succ_cons, List.take_zero, List.drop_succ_cons, List.drop_zero, List.set_cons_zero, List.set_cons_succ, true_or, or_true, and_self, Bool.false_eq_true, Nat.le_refl, Option.bind_some, Option.map_some, Option.getD_some, Option.isSome_some, List.map_cons, List.map_nil, List.cons_append, List.nil_append, List.append_nil, List.getElem?_cons_zero, List.getElem?_cons_succ, eq_self, Int.reduceLT, Int.reduceLE, Int.reduceNeg, Int.reduceEq, e0, e1, q1, g, x_ix_zero]
    refine .inl ⟨by kernel_rfl, ?_⟩; refine contains_c hb ?_
    cases hl : t.data.toList with
    | nil => rw [hl] at hz; simp at hz; omega
    | cons d m =>
      rw [hl] at g' hz hD
      obtain rfl : d = c := by simpa using g'
      have ht : (t.extract 1 t.size).data.toList = m := by simp [hl, ← hz]
      have hk : (t.extract 1 t.size).size = t.size - 1 := by rw [ByteArray.size_extract]; omega
      simp only [List.length_cons] at hz
      cases hc : cut.any (· == d) with
      | false =>
        rw [List.dropWhile_cons_of_neg (by simp [hc])] at hD
        rw [hD, ← hl, mkB_of] at hQ
        simp (disch := omega) only [VW, VY, VZ, VA, VB, VC, VE, TY, ↓reduceIte, Nat.reduceEqDiff, Nat.reduceAdd, Nat.reduceMul, Nat.reduceSub, Nat.reduceLeDiff, List.length_cons, List.length_nil, List.length_append, List.append_assoc, List.take_succ_cons, List.take_zero, List.drop_succ_cons, List.drop_zero, List.set_cons_zero, List.set_cons_succ, true_or, or_true, and_self, Bool.false_eq_true, Nat.le_refl, Option.bind_some, Option.map_some, Option.getD_some, Option.isSome_some, List.map_cons, List.map_nil, List.cons_append, List.nil_append, List.append_nil, List.getElem?_cons_zero, List.getElem?_cons_succ, eq_self, Int.reduceLT, Int.reduceLE, Int.reduceNeg, Int.reduceEq, e0]
        exact hQ
      | true =>
        rw [List.dropWhile_cons_of_pos (by simp [hc])] at hD
        have q2 : (1 : Int) ≤ (t.size : Int) := by omega
        have i1 : Int.toNat 1 = 1 := rfl
        simp (disch := omega) only [VW, VY, VZ, VA, VB, VC, VE, TY, ↓reduceIte, Nat.reduceEqDiff, Nat.reduceAdd, Nat.reduceMul, Nat.reduceSub, Nat.reduceLeDiff, List.length_cons, List.length_nil, List.length_append, List.append_assoc, List.take_succ_cons, List.take_zero, List.drop_succ_cons, List.drop_zero, List.set_cons_zero, List.set_cons_succ, true_or, or_true, and_self, Bool.false_eq_true, Nat.le_refl, Option.bind_some, Option.map_some, Option.getD_some, Option.isSome_some, List.map_cons, List.map_nil, List.cons_append, List.nil_append, List.append_nil, List.getElem?_cons_zero, List.getElem?_cons_succ, eq_self, Int.reduceLT, Int.reduceLE, Int.reduceNeg, Int.reduceEq, e0, e1, q2, i1]
        exact ⟨_, by omega, _, rfl, by omega, rfl, by rw [ht]; exact hD⟩
  · have q1 : ¬ (0 : Int) < (t.size : Int) := by omega
    have hn : t.data.toList = [] := List.eq_nil_of_length_eq_zero (by omega)
    rw [hD, hn, List.dropWhile_nil, ← hn, mkB_of] at hQ
    simp (disch := omega) only [VW, VY, VZ, VA, VB, VC, VE, TY, ↓reduceIte, Nat.reduceEqDiff, Nat.reduceAdd, Nat.reduceMul, Nat.reduceSub, Nat.reduceLeDiff, List.length_cons, List.length_nil, List.length_append, List.append_assoc, List.take_succ_cons, List.take_zero, List.drop_succ_cons, List.drop_zero, List.set_cons_zero, List.set_cons_succ, true_or, or_true, and_self, Bool.false_eq_true, Nat.le_refl, Option.bind_some, Option.map_some, Option.getD_some, Option.isSome_some, List.map_cons, List.map_nil, List.cons_append, List.nil_append, List.append_nil, List.getElem?_cons_zero, List.getElem?_cons_succ, eq_self, Int.reduceLT, Int.reduceLE, Int.reduceNeg, Int.reduceEq, e0, e1, q1]
    exact hQ
theorem trimRight_c {b : Nat} {cut : List UInt8} {s : ByteArray} {h : Heap} {Q : Value → Heap → Prop} (hs : s.size ≤ 9223372036854775807) (hb : ∀ k, getC h b k = (setA cut)[k]?)
    (hQ : Q (.string (mkB (s.data.toList.reverse.dropWhile fun c => cut.any (· == c)).reverse)) h) : CallsV Tryz.prog 86 [.string s, .pointer (some ⟨b, 0, none⟩)] h Q := by
  refine CallsV.start Tryz.func86 rfl (by rw [Tryz.results86]) (by kernel_rfl) (by rw [Tryz.ntmps86]; simp) ?_
  simp (disch := omega) only [VW, VY, VZ, VA, VB, VC, VE, TY, ↓reduceIte, Nat.reduceEqDiff, Nat.reduceAdd, Nat.reduceMul, Nat.reduceSub, Nat.reduceLeDiff, List.length_cons, List.length_nil, List.length_append, List.append_assoc, List.take_succ_cons, List.take_zero, List.drop_succ_cons, List.drop_zero, List.set_cons_zero, List.set_cons_succ, true_or, or_true, and_self, Bool.false_eq_true, Nat.le_refl, Option.bind_some, Option.map_some, Option.getD_some, Option.isSome_some, List.map_cons, List.map_nil, List.cons_append, List.nil_append, List.append_nil, List.getElem?_cons_zero, List.getElem?_cons_succ, eq_self, Int.reduceLT, Int.reduceLE, Int.reduceNeg, Int.reduceEq]
  refine loop_rule (fun n e h' => ∃ t : ByteArray, e 0 = .string t ∧ e 1 = .pointer (some ⟨b, 0, none⟩) ∧ t.size ≤ s.size ∧ n = t.size ∧ h = h' ∧ (s.data.toList.reverse.dropWhile fun c => cut.any (· == c)) = t.data.toList.reverse.dropWhile fun c => cut.any (· == c)) ?_ s.size _ _ ⟨s, rfl, rfl, Nat.le_refl _, rfl, rfl, rfl⟩
  rintro n e h' ⟨t, e0, e1, hm, rfl, rfl, hD⟩
  have hz := str_len t
  simp (disch := omega) only [VW, VY, VZ, VA, VB, VC, VE, TY, ↓reduceIte, Nat.reduceEqDiff, Nat.reduceAdd, Nat.reduceMul, Nat.reduceSub, Nat.reduceLeDiff, List.length_cons, List.length_nil, List.length_append, List.append_assoc, List.take_succ_cons, List.take_zero, List.drop_succ_cons, List.drop_zero, List.set_cons_zero, List.set_cons_succ, true_or, or_true, and_self, Bool.false_eq_true, Nat.le_refl, Option.bind_some, Option.map_some, Option.getD_some, Option.isSome_some, List.map_cons, List.map_nil, List.cons_append, List.nil_append, List.append_nil, List.getElem?_cons_zero, List.getElem?_cons_succ, eq_self, Int.reduceLT, Int.reduceLE, Int.reduceNeg, Int.reduceEq, e0, e1]
  by_cases k : 0 < t.size
  · obtain ⟨i, hi⟩ : ∃ i, t.size = i + 1 := ⟨t.size - 1, by omega⟩
    obtain ⟨c, g, g'⟩ := get_str (s := t) (i := i) (by omega)
    have q1 : (0 : Int) < (t.size : Int) := by omega
    have q2 : (t.size : Int) - 1 = (i : Int) := by omega
    have q3 : (i : Int) ≤ (t.size : Int) := by omega
    simp (disch := omega) only [VW, VY, VZ, VA, VB, VC, VE, TY, ↓reduceIte, Nat.reduceEqDiff, Nat.reduceAdd, Nat.reduceMul, Nat.reduceSub, Nat.reduceLeDiff, List.length_cons, List.length_nil, List.length_append, List.append_assoc, List.take_succ_cons, List.take_zero, List.drop_succ_cons, List.drop_zero, List.set_cons_zero, List.set_cons_succ, true_or, or_true, and_self, Bool.false_eq_true, Nat.le_refl, Option.bind_some, Option.map_some, Option.getD_some, Option.isSome_some, List.map_cons, List.map_nil, List.cons_append, List.nil_append, List.append_nil, List.getElem?_cons_zero, List.getElem?_cons_succ, eq_self, Int.reduceLT, Int.reduceLE, Int.reduceNeg, Int.reduceEq, e0, e1, q1, q2, g, wrap_in]
    refine .inl ⟨by kernel_rfl, ?_⟩; refine contains_c hb ?_
    have hl : t.data.toList = t.data.toList.take i ++ [c] := by
      conv => lhs; rw [← List.take_append_drop i t.data.toList]
      congr 1
      rw [List.drop_eq_getElem_cons (by omega), List.drop_of_length_le (by omega)]
      rw [List.getElem?_eq_getElem (by omega)] at g'
      simpa using g'
    have hr : t.data.toList.reverse = c :: (t.data.toList.take i).reverse := by
      conv => lhs; rw [hl]
      simp
    rw [hr] at hD
    have ht : (t.extract 0 i).data.toList = t.data.toList.take i := by simp
    have hk : (t.extract 0 i).size = i := by rw [ByteArray.size_extract]; omega
    cases hc : cut.any (· == c) with
    | false =>
      rw [List.dropWhile_cons_of_neg (by simp [hc]), ← hr] at hD
      rw [hD, List.reverse_reverse, mkB_of] at hQ
      simp (disch := omega) only [VW, VY, VZ, VA, VB, VC, VE, TY, ↓reduceIte, Nat.reduceEqDiff, Nat.reduceAdd, Nat.reduceMul, Nat.reduceSub, Nat.reduceLeDiff, List.length_cons, List.length_nil, List.length_append, List.append_assoc, List.take_succ_cons, List.take_zero, List.drop_succ_cons, List.drop_zero, List.set_cons_zero, List.set_cons_succ, true_or, or_true, and_self, Bool.false_eq_true, Nat.le_refl, Option.bind_some, Option.map_some, Option.getD_some, Option.isSome_some, List.map_cons, List.map_nil, List.cons_append, List.nil_append, List.append_nil, List.getElem?_cons_zero, List.getElem?_cons_succ, eq_self, Int.reduceLT, Int.reduceLE, Int.reduceNeg, Int.reduceEq, e0]
      exact hQ
    | true =>
      rw [List.dropWhile_cons_of_pos (by simp [hc])] at hD
      simp (disch := omega) only [VW, VY, VZ, VA, VB, VC, VE, TY, ↓reduceIte, Nat.reduceEqDiff, Nat.reduceAdd, Nat.reduceMul, Nat.reduceSub, Nat.reduceLeDiff, List.length_cons, List.length_nil, List.length_append, List.append_assoc, List.take_succ_cons, List.take_zero, List.drop_succ_cons, List.drop_zero, List.set_cons_zero, List.set_cons_succ, true_or, or_true, and_self, Bool.false_eq_true, Nat.le_refl, Option.bind_some, Option.map_some, Option.getD_some, Option.isSome_some, List.map_cons, List.map_nil, List.cons_append, List.nil_append, List.append_nil, List.getElem?_cons_zero, List.getElem?_cons_succ, eq_self, Int.reduceLT, Int.reduceLE, Int.reduceNeg, Int.reduceEq, e0, e1, q2, q3, wrap_in]
      exact ⟨_, by omega, _, rfl, by omega, rfl, by rw [ht]; exact hD⟩
  · have q1 : ¬ (0 : Int) < (t.size : Int) := by omega
    have hn : t.data.toList = [] := List.eq_nil_of_length_eq_zero (by omega)
    rw [hD, hn, List.reverse_nil, List.dropWhile_nil, List.reverse_nil, ← hn, mkB_of] at hQ
    simp (disch := omega) only [VW, VY, VZ, VA, VB, VC, VE, TY, ↓reduceIte, Nat.reduceEqDiff, Nat.reduceAdd, Nat.reduceMul, Nat.reduceSub, Nat.reduceLeDiff, List.length_cons, List.length_nil, List.length_append, List.append_assoc, List.take_succ_cons, List.take_zero, List.drop_succ_cons, List.drop_zero, List.set_cons_zero, List.set_cons_succ, true_or, or_true, and_self, Bool.false_eq_true, Nat.le_refl, Option.bind_some, Option.map_some, Option.getD_some, Option.isSome_some, List.map_cons, List.map_nil, List.cons_append, List.nil_append, List.append_nil, List.getElem?_cons_zero, List.getElem?_cons_succ, eq_self, Int.reduceLT, Int.reduceLE, Int.reduceNeg, Int.reduceEq, e0, e1, q1]
    exact hQ
def trimM (cut l : List UInt8) : List UInt8 := ((l.reverse.dropWhile fun c => cut.any (· == c)).reverse).dropWhile fun c => cut.any (· == c)
theorem trimM_nil (cut l : List UInt8) : trimM cut l = [] ↔ l.all (fun c => cut.any (· == c)) = true := by
  unfold trimM
  constructor
  · intro h
    have h1 : ∀ {m : List UInt8}, m.dropWhile (fun c => cut.any (· == c)) = [] → ∀ x ∈ m, cut.any (· == x) = true := by
      intro m
      induction m with
      | nil => intro _ x hx; cases hx
      | cons y m ih =>
        intro h x hx
        by_cases k : cut.any (· == y) = true
        · rw [List.dropWhile_cons_of_pos (by simpa using k)] at h
          rcases List.mem_cons.1 hx with rfl | hx
          · exact k
          · exact ih h x hx
        · rw [List.dropWhile_cons_of_neg (by simpa using k)] at h
          cases h
    have h2 := h1 h
    have h3 : l.reverse.dropWhile (fun c => cut.any (· == c)) = [] := by
      cases hd : l.reverse.dropWhile (fun c => cut.any (· == c)) with
      | nil => rfl
      | cons y m =>
        exfalso
        have hy := h2 y (by rw [hd]; simp)
        have := List.head_dropWhile_not (fun c => cut.any (· == c)) (l := l.reverse) (by rw [hd]; simp)
        simp only [hd, List.head_cons] at this
        have hy := this.symm.trans hy
        cases hy
    have h4 := h1 h3
    rw [List.all_eq_true]
    intro x hx
    exact h4 x (by simpa using hx)
  · intro h
    rw [List.all_eq_true] at h
    have h1 : ∀ {m : List UInt8}, (∀ x ∈ m, cut.any (· == x) = true) → m.dropWhile (fun c => cut.any (· == c)) = [] := by
      intro m
      induction m with
      | nil => intro _; rfl
      | cons y m ih =>
        intro h
        rw [List.dropWhile_cons_of_pos (by simpa using h y (by simp))]
        exact ih fun x hx => h x (by simp [hx])
    rw [h1 (m := l.reverse) (fun x hx => h x (by simpa using hx))]
    rfl
theorem trim_c {s cut : ByteArray} {h : Heap} {Q : Value → Heap → Prop} (hs : s.size ≤ 9223372036854775807) (hc : 1 < cut.size) (hc' : cut.size ≤ 1000000) (ha : ∀ c ∈ cut.data.toList, c.toNat < 128)
    (hQ : ∀ h', Ext h h' → Q (.string (mkB (trimM cut.data.toList s.data.toList))) h') : CallsV Tryz.prog 65 [.string s, .string cut] h Q := by
  refine CallsV.start Tryz.func65 rfl (by rw [Tryz.results65]) (by kernel_rfl) (by rw [Tryz.ntmps65]; simp) ?_
  have hl := str_len s
  have hlc := str_len cut
  by_cases z : s = ⟨#[]⟩
  · subst z
    simp (disch := omega) only [VW, VY, VZ, VA, VB, VC, VE, TY, ↓reduceIte, Nat.reduceEqDiff, Nat.reduceAdd, Nat.reduceMul, Nat.reduceSub, Nat.reduceLeDiff, List.length_cons, List.length_nil, List.length_append, List.append_assoc, List.take_succ_cons, List.take_zero, List.drop_succ_cons, List.drop_zero, List.set_cons_zero, List.set_cons_succ, true_or, or_true, and_self, Bool.false_eq_true, Nat.le_refl, Option.bind_some, Option.map_some, Option.getD_some, Option.isSome_some, List.map_cons, List.map_nil, List.cons_append, List.nil_append, List.append_nil, List.getElem?_cons_zero, List.getElem?_cons_succ, eq_self, Int.reduceLT, Int.reduceLE, Int.reduceNeg, Int.reduceEq]
    exact hQ _ (.refl _)
  · have zc : ¬ cut = ⟨#[]⟩ := by
      rintro rfl
      have : (⟨#[]⟩ : ByteArray).size = 0 := rfl
      omega
    have z1 : ¬ (cut.size : Int) = 1 := by omega
    simp (disch := omega) only [VW, VY, VZ, VA, VB, VC, VE, TY, ↓reduceIte, Nat.reduceEqDiff, Nat.reduceAdd, Nat.reduceMul, Nat.reduceSub, Nat.reduceLeDiff, List.length_cons, List.length_nil, List.length_append, List.append_assoc, List.take_succ_cons, List.take_zero, List.drop_succ_cons, List.drop_zero, List.set_cons_zero, List.set_cons_succ, true_or, or_true, and_self, Bool.false_eq_true, Nat.le_refl, Option.bind_some, Option.map_some, Option.getD_some, Option.isSome_some, List.map_cons, List.map_nil, List.cons_append, List.nil_append, List.append_nil, List.getElem?_cons_zero, List.getElem?_cons_succ, eq_self, Int.reduceLT, Int.reduceLE, Int.reduceNeg, Int.reduceEq, z, zc, z1]
    refine .inl ⟨by kernel_rfl, ?_⟩; refine makeSet_c (by omega) ha fun h1 E1 => ?_
    have hA := setA_len cut.data.toList
    have hR : (List.replicate 256 (Value.bool false)).length = 256 := List.length_replicate
    have hD : List.drop 256 (List.replicate 256 (Value.bool false)) = [] := List.drop_of_length_le (by rw [hR]; exact Nat.le_refl _)
    simp (disch := omega) only [VW, VY, VZ, VA, VB, VC, VE, TY, ↓reduceIte, Nat.reduceEqDiff, Nat.reduceAdd, Nat.reduceMul, Nat.reduceSub, Nat.reduceLeDiff, List.length_cons, List.length_nil, List.length_append, List.append_assoc, List.take_succ_cons, List.take_zero, List.drop_succ_cons, List.drop_zero, List.set_cons_zero, List.set_cons_succ, true_or, or_true, and_self, Bool.false_eq_true, Nat.le_refl, Option.bind_some, Option.map_some, Option.getD_some, Option.isSome_some, List.map_cons, List.map_nil, List.cons_append, List.nil_append, List.append_nil, List.getElem?_cons_zero, List.getElem?_cons_succ, eq_self, Int.reduceLT, Int.reduceLE, Int.reduceNeg, Int.reduceEq, hA, hR, hD]
    have sp := ((Sep.nil E1).newBlk (setA cut.data.toList) 99 true)
    refine .inl ⟨by kernel_rfl, ?_⟩; refine trimRight_c (by omega) (sp.rd) ?_
    simp (disch := omega) only [VW, VY, VZ, VA, VB, VC, VE, TY, ↓reduceIte, Nat.reduceEqDiff, Nat.reduceAdd, Nat.reduceMul, Nat.reduceSub, Nat.reduceLeDiff, List.length_cons, List.length_nil, List.length_append, List.append_assoc, List.take_succ_cons, List.take_zero, List.drop_succ_cons, List.drop_zero, List.set_cons_zero, List.set_cons_succ, true_or, or_true, and_self, Bool.false_eq_true, Nat.le_refl, Option.bind_some, Option.map_some, Option.getD_some, Option.isSome_some, List.map_cons, List.map_nil, List.cons_append, List.nil_append, List.append_nil, List.getElem?_cons_zero, List.getElem?_cons_succ, eq_self, Int.reduceLT, Int.reduceLE, Int.reduceNeg, Int.reduceEq]
    refine .inl ⟨by kernel_rfl, ?_⟩; refine trimLeft_c (by
      rw [mkB_size, List.length_reverse]
      have := (List.dropWhile_sublist (l := s.data.toList.reverse) (fun c => cut.data.toList.any (· == c))).length_le
      rw [List.length_reverse] at this; omega) (sp.rd) ?_
    simp (disch := omega) only [VW, VY, VZ, VA, VB, VC, VE, TY, ↓reduceIte, Nat.reduceEqDiff, Nat.reduceAdd, Nat.reduceMul, Nat.reduceSub, Nat.reduceLeDiff, List.length_cons, List.length_nil, List.length_append, List.append_assoc, List.take_succ_cons, List.take_zero, List.drop_succ_cons, List.drop_zero, List.set_cons_zero, List.set_cons_succ, true_or, or_true, and_self, Bool.false_eq_true, Nat.le_refl, Option.bind_some, Option.map_some, Option.getD_some, Option.isSome_some, List.map_cons, List.map_nil, List.cons_append, List.nil_append, List.append_nil, List.getElem?_cons_zero, List.getElem?_cons_succ, eq_self, Int.reduceLT, Int.reduceLE, Int.reduceNeg, Int.reduceEq]
    exact hQ _ sp.ext
end Go.Proofs
