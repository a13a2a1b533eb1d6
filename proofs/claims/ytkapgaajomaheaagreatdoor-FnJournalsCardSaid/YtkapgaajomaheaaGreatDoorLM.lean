/- Contracts of functions, facts of types, or the plain law behind one statement (own work): LM. Conditions: those told in each theorem. -/
import Derived.Test.YtkapgaajomaheaaGreatDoorJM
import Derived.Test.YtkapgaajomaheaaGreatDoorD1
set_option linter.all false
set_option linter.unusedSimpArgs false
set_option linter.unusedVariables false
set_option maxRecDepth 4000
namespace Go.Proofs
open Go Go.V

def jstep (a : Nat) (c : UInt8) : Nat := (37 * a + c.toNat) % 65521
def jsumM (n : Nat) (l : List UInt8) : Nat := l.foldl jstep (n + 7)
theorem jsumM_lt {n : Nat} (hn : n ≤ 60000) (l : List UInt8) : jsumM n l < 65521 := by
  unfold jsumM
  have : ∀ (l : List UInt8) (a : Nat), a < 65521 → l.foldl jstep a < 65521 := by
    intro l
    induction l with
    | nil => intro a h; exact h
    | cons c l ih => intro a h; exact ih _ (Nat.mod_lt _ (by decide))
  exact this l _ (by omega)
theorem jsumM_take {n : Nat} {l : List UInt8} {i : Nat} {c : UInt8} (hc : l[i]? = some c) : jsumM n (l.take (i + 1)) = (37 * jsumM n (l.take i) + c.toNat) % 65521 := by
  unfold jsumM; rw [List.take_add_one, hc, List.foldl_append]; rfl
def fho : ByteArray := ⟨#[102, 104, 111]⟩
def fhoB (k : Int) : ByteArray := fho.extract (k - 1).toNat k.toNat
def colB : ByteArray := ⟨#[58]⟩
def lineS (n : Nat) (m : Mk) : ByteArray := decB n ++ colB ++ m.path ++ colB ++ fhoB m.kind ++ colB
def lineB (n : Nat) (m : Mk) : ByteArray := lineS n m ++ decB (jsumM n (lineS n m).data.toList) ++ ⟨#[10]⟩
theorem col_size : colB.size = 1 := rfl
theorem fhoB_size (k : Int) : (fhoB k).size ≤ 3 := by unfold fhoB fho; rw [ByteArray.size_extract]; have : (⟨#[102, 104, 111]⟩ : ByteArray).size = 3 := rfl; omega
theorem lineS_size {n : Nat} (m : Mk) (hn : n ≤ 60000) : (lineS n m).size ≤ m.path.size + 1006 := by
  unfold lineS
  have := decB_size n (by omega)
  have := fhoB_size m.kind
  have := col_size
  rw [size_append, size_append, size_append, size_append, size_append]; omega
theorem lineB_size {n : Nat} (m : Mk) (hn : n ≤ 60000) : (lineB n m).size ≤ m.path.size + 2007 := by
  unfold lineB
  have := decB_size (jsumM n (lineS n m).data.toList) (by have := jsumM_lt hn (lineS n m).data.toList; omega)
  have := lineS_size m hn
  have e : (⟨#[10]⟩ : ByteArray).size = 1 := rfl
  rw [size_append, size_append]; omega

theorem lineOfMark_c {n : Nat} {m : Mk} {h : Heap} {Q : Value → Heap → Prop} (hn : n ≤ 60000) (hk : 1 ≤ m.kind ∧ m.kind ≤ 3) (hp : m.path.size ≤ 1000000000) (hQ : ∀ h', Ext h h' → Q (.string (lineB n m)) h') :
    CallsV Tryz.prog 27 [.int .i64 n, .agg #[.string m.path, .int .i64 m.kind]] h Q := by
  refine CallsV.start Tryz.func27 rfl (by rw [Tryz.results27]) (by kernel_rfl) (by rw [Tryz.ntmps27]; simp) ?_
  have s := Sep.blk1 h [.string m.path, .int .i64 m.kind] 26 true
  have g := s.rd
  have hd := decB_size n (by omega)
  have hf := fhoB_size m.kind
  have hc := col_size
  have s1 := size_append (decB n) colB
  have s2 := size_append (decB n ++ colB) m.path
  have s3 := size_append (decB n ++ colB ++ m.path) colB
  have s4 := size_append (decB n ++ colB ++ m.path ++ colB) (fhoB m.kind)
  have a1 := str_add (decB n) colB (by omega)
  have a2 := str_add (decB n ++ colB) m.path (by omega)
  have a3 := str_add (decB n ++ colB ++ m.path) colB (by omega)
  have a4 := str_add (decB n ++ colB ++ m.path ++ colB) (fhoB m.kind) (by omega)
  have a5 := str_add (decB n ++ colB ++ m.path ++ colB ++ fhoB m.kind) colB (by omega)
  have f1 : (⟨#[58]⟩ : ByteArray) = colB := rfl
  have f2 : (⟨#[102, 104, 111]⟩ : ByteArray) = fho := rfl
  have f3 : fho.size = 3 := rfl
  have f4 : fho.extract (m.kind - 1).toNat m.kind.toNat = fhoB m.kind := rfl
  have k0 : (0 : Int) ≤ m.kind - 1 := by omega
  have k1 : m.kind - 1 ≤ m.kind := by omega
  have k2 : m.kind ≤ (3 : Nat) := by omega
  have k3 : (0 : Int) ≤ m.kind := by omega
  simp (disch := omega) only [VW, VY, VZ, VA, VB, VC, VE, TY, ↓reduceIte, Nat.reduceEqDiff, Nat.reduceAdd, Nat.reduceMul, Nat.reduceSub, Nat.reduceLeDiff, List.length_cons, List.length_nil, List.length_append, List.append_assoc, List.take_succ_cons, List.take_zero, List.drop_succ_cons, List.drop_zero, List.set_cons_zero, List.set_cons_succ, true_or, or_true, and_self, Bool.false_eq_true, Nat.le_refl, Option.bind_some, Option.map_some, Option.getD_some, Option.isSome_some, List.map_cons, List.map_nil, List.cons_append, List.nil_append, List.append_nil, List.getElem?_cons_zero, List.getElem?_cons_succ, eq_self, Int.reduceLT, Int.reduceLE, Int.reduceNeg, Int.reduceEq]
  refine draw_ord [0, 3, 4, 7, 8, 9, 10, 11, 12, 1, 2, 5, 6, 13, 14, 15] (by kernel_rfl) (by simp only [List.filterMap_cons, List.filterMap_nil, List.getElem?_cons_zero, List.getElem?_cons_succ]; rfl) ?_
  simp (disch := omega) only [VW, VY, VZ, VA, VB, VC, VE, TY, ↓reduceIte, Nat.reduceEqDiff, Nat.reduceAdd, Nat.reduceMul, Nat.reduceSub, Nat.reduceLeDiff, List.length_cons, List.length_nil, List.length_append, List.append_assoc, List.take_succ_cons, List.take_zero, List.drop_succ_cons, List.drop_zero, List.set_cons_zero, List.set_cons_succ, true_or, or_true, and_self, Bool.false_eq_true, Nat.le_refl, Option.bind_some, Option.map_some, Option.getD_some, Option.isSome_some, List.map_cons, List.map_nil, List.cons_append, List.nil_append, List.append_nil, List.getElem?_cons_zero, List.getElem?_cons_succ, eq_self, Int.reduceLT, Int.reduceLE, Int.reduceNeg, Int.reduceEq, g, f1, f2, f3, k0, k1, k2, k3, f4, wrap_in]
  refine .inl ⟨by kernel_rfl, ?_⟩; refine itoa_c ⟨by omega, by omega⟩ ?_
  rw [itoaB_nat]
  simp (disch := omega) only [VW, VY, VZ, VA, VB, VC, VE, TY, ↓reduceIte, Nat.reduceEqDiff, Nat.reduceAdd, Nat.reduceMul, Nat.reduceSub, Nat.reduceLeDiff, List.length_cons, List.length_nil, List.length_append, List.append_assoc, List.take_succ_cons, List.take_zero, List.drop_succ_cons, List.drop_zero, List.set_cons_zero, List.set_cons_succ, true_or, or_true, and_self, Bool.false_eq_true, Nat.le_refl, Option.bind_some, Option.map_some, Option.getD_some, Option.isSome_some, List.map_cons, List.map_nil, List.cons_append, List.nil_append, List.append_nil, List.getElem?_cons_zero, List.getElem?_cons_succ, eq_self, Int.reduceLT, Int.reduceLE, Int.reduceNeg, Int.reduceEq, a1, a2, a3, a4, a5, f1, f2, f3, f4, wrap_in]
  have fl : decB n ++ colB ++ m.path ++ colB ++ fhoB m.kind ++ colB = lineS n m := rfl
  rw [fl]
  have hz := lineS_size m hn
  have hl := str_len (lineS n m)
  refine loop_rule (fun k e h' => ∃ (i : Nat), e 5 = .string (lineS n m) ∧ e 6 = .int .i64 (jsumM n ((lineS n m).data.toList.take i) : Nat) ∧ e 26 = .int .i64 (lineS n m).size ∧ e 27 = .int .i64 i ∧ i ≤ (lineS n m).size ∧ k = (lineS n m).size - i ∧ h' = h ++ [some ⟨[.string m.path, .int .i64 m.kind], 26, false, true⟩]) ?_ (lineS n m).size _ _ ⟨0, rfl, rfl, rfl, rfl, Nat.zero_le _, rfl, rfl⟩
  rintro k e h' ⟨i, e5, e6, e26, e27, hi, rfl, rfl⟩
  simp (disch := omega) only [VW, VY, VZ, VA, VB, VC, VE, TY, ↓reduceIte, Nat.reduceEqDiff, Nat.reduceAdd, Nat.reduceMul, Nat.reduceSub, Nat.reduceLeDiff, List.length_cons, List.length_nil, List.length_append, List.append_assoc, List.take_succ_cons, List.take_zero, List.drop_succ_cons, List.drop_zero, List.set_cons_zero, List.set_cons_succ, true_or, or_true, and_self, Bool.false_eq_true, Nat.le_refl, Option.bind_some, Option.map_some, Option.getD_some, Option.isSome_some, List.map_cons, List.map_nil, List.cons_append, List.nil_append, List.append_nil, List.getElem?_cons_zero, List.getElem?_cons_succ, eq_self, Int.reduceLT, Int.reduceLE, Int.reduceNeg, Int.reduceEq, e26, e27]
  by_cases hlt : i < (lineS n m).size
  · obtain ⟨c, hc, hc'⟩ := get_str hlt
    have q1 : (i : Int) < ((lineS n m).size : Int) := by omega
    have hc5 := c.toNat_lt
    have hsm : jsumM n ((lineS n m).data.toList.take i) < 65521 := jsumM_lt hn _
    have z : ¬ (65521 : Int) = 0 := by decide
    have tm : Int.tmod (37 * (jsumM n ((lineS n m).data.toList.take i) : Nat) + (c.toNat : Int)) 65521 = ((jsumM n ((lineS n m).data.toList.take (i + 1)) : Nat) : Int) := by
      rw [jsumM_take hc']
      have := tmod_nat (37 * jsumM n ((lineS n m).data.toList.take i) + c.toNat) 65521
      simpa using this
    simp (disch := omega) only [VW, VY, VZ, VA, VB, VC, VE, TY, ↓reduceIte, Nat.reduceEqDiff, Nat.reduceAdd, Nat.reduceMul, Nat.reduceSub, Nat.reduceLeDiff, List.length_cons, List.length_nil, List.length_append, List.append_assoc, List.take_succ_cons, List.take_zero, List.drop_succ_cons, List.drop_zero, List.set_cons_zero, List.set_cons_succ, true_or, or_true, and_self, Bool.false_eq_true, Nat.le_refl, Option.bind_some, Option.map_some, Option.getD_some, Option.isSome_some, List.map_cons, List.map_nil, List.cons_append, List.nil_append, List.append_nil, List.getElem?_cons_zero, List.getElem?_cons_succ, eq_self, Int.reduceLT, Int.reduceLE, Int.reduceNeg, Int.reduceEq, e5, e6, e26, e27, q1, hc, wrap_in, z, tm]
    exact ⟨_, by omega, i + 1, rfl, by simp, by omega, rfl⟩
  · obtain rfl : i = (lineS n m).size := by omega
    have q1 : ¬ ((lineS n m).size : Int) < ((lineS n m).size : Int) := by omega
    rw [List.take_of_length_le (by omega)] at e6
    have hsm : jsumM n (lineS n m).data.toList < 65521 := jsumM_lt hn _
    have hd := decB_size (jsumM n (lineS n m).data.toList) (by omega)
    have s6 := size_append (lineS n m) (decB (jsumM n (lineS n m).data.toList))
    have ez : (⟨#[10]⟩ : ByteArray).size = 1 := rfl
    have a6 := str_add (lineS n m) (decB (jsumM n (lineS n m).data.toList)) (by omega)
    have a7 := str_add (lineS n m ++ decB (jsumM n (lineS n m).data.toList)) ⟨#[10]⟩ (by omega)
    simp (disch := omega) only [VW, VY, VZ, VA, VB, VC, VE, TY, ↓reduceIte, Nat.reduceEqDiff, Nat.reduceAdd, Nat.reduceMul, Nat.reduceSub, Nat.reduceLeDiff, List.length_cons, List.length_nil, List.length_append, List.append_assoc, List.take_succ_cons, List.take_zero, List.drop_succ_cons, List.drop_zero, List.set_cons_zero, List.set_cons_succ, true_or, or_true, and_self, Bool.false_eq_true, Nat.le_refl, Option.bind_some, Option.map_some, Option.getD_some, Option.isSome_some, List.map_cons, List.map_nil, List.cons_append, List.nil_append, List.append_nil, List.getElem?_cons_zero, List.getElem?_cons_succ, eq_self, Int.reduceLT, Int.reduceLE, Int.reduceNeg, Int.reduceEq, e5, e6, q1]
    refine .inl ⟨by kernel_rfl, ?_⟩; refine itoa_c ⟨by omega, by omega⟩ ?_
    rw [itoaB_nat]
    simp (disch := omega) only [VW, VY, VZ, VA, VB, VC, VE, TY, ↓reduceIte, Nat.reduceEqDiff, Nat.reduceAdd, Nat.reduceMul, Nat.reduceSub, Nat.reduceLeDiff, List.length_cons, List.length_nil, List.length_append, List.append_assoc, List.take_succ_cons, List.take_zero, List.drop_succ_cons, List.drop_zero, List.set_cons_zero, List.set_cons_succ, true_or, or_true, and_self, Bool.false_eq_true, Nat.le_refl, Option.bind_some, Option.map_some, Option.getD_some, Option.isSome_some, List.map_cons, List.map_nil, List.cons_append, List.nil_append, List.append_nil, List.getElem?_cons_zero, List.getElem?_cons_succ, eq_self, Int.reduceLT, Int.reduceLE, Int.reduceNeg, Int.reduceEq, a6, a7]
    exact hQ _ s.ext
theorem jrSum_c {n : Nat} {s : ByteArray} {h : Heap} {Q : Value → Heap → Prop} (hn : n ≤ 60000) (hs : s.size ≤ 9223372036854775807) (hQ : Q (.int .i64 (jsumM n s.data.toList : Nat)) h) : CallsV Tryz.prog 57 [.string s, .int .i64 n] h Q := by
  refine CallsV.start Tryz.func57 rfl (by rw [Tryz.results57]) (by kernel_rfl) (by rw [Tryz.ntmps57]; simp) ?_
  have hl := str_len s
  simp (disch := omega) only [VW, VY, VZ, VA, VB, VC, VE, TY, ↓reduceIte, Nat.reduceEqDiff, Nat.reduceAdd, Nat.reduceMul, Nat.reduceSub, Nat.reduceLeDiff, List.length_cons, List.length_nil, List.length_append, List.append_assoc, List.take_succ_cons, List.take_zero, List.drop_succ_cons, List.drop_zero, List.set_cons_zero, List.set_cons_succ, true_or, or_true, and_self, Bool.false_eq_true, Nat.le_refl, Option.bind_some, Option.map_some, Option.getD_some, Option.isSome_some, List.map_cons, List.map_nil, List.cons_append, List.nil_append, List.append_nil, List.getElem?_cons_zero, List.getElem?_cons_succ, eq_self, Int.reduceLT, Int.reduceLE, Int.reduceNeg, Int.reduceEq, wrap_in]
  refine loop_rule (fun k e h' => ∃ (i : Nat), e 0 = .string s ∧ e 5 = .int .i64 (jsumM n (s.data.toList.take i) : Nat) ∧ e 6 = .int .i64 i ∧ i ≤ s.size ∧ k = s.size - i ∧ h = h') ?_ s.size _ _ ⟨0, rfl, rfl, rfl, Nat.zero_le _, rfl, rfl⟩
  rintro k e h' ⟨i, e0, e5, e6, hi, rfl, rfl⟩
  simp (disch := omega) only [VW, VY, VZ, VA, VB, VC, VE, TY, ↓reduceIte, Nat.reduceEqDiff, Nat.reduceAdd, Nat.reduceMul, Nat.reduceSub, Nat.reduceLeDiff, List.length_cons, List.length_nil, List.length_append, List.append_assoc, List.take_succ_cons, List.take_zero, List.drop_succ_cons, List.drop_zero, List.set_cons_zero, List.set_cons_succ, true_or, or_true, and_self, Bool.false_eq_true, Nat.le_refl, Option.bind_some, Option.map_some, Option.getD_some, Option.isSome_some, List.map_cons, List.map_nil, List.cons_append, List.nil_append, List.append_nil, List.getElem?_cons_zero, List.getElem?_cons_succ, eq_self, Int.reduceLT, Int.reduceLE, Int.reduceNeg, Int.reduceEq, e0, e6]
  by_cases hlt : i < s.size
  · obtain ⟨c, hc, hc'⟩ := get_str hlt
    have q1 : (i : Int) < (s.size : Int) := by omega
    have hc5 := c.toNat_lt
    have hsm := jsumM_lt hn (s.data.toList.take i)
    have hsm' : jsumM n (s.data.toList.take i) ≤ 70000 := by omega
    have z : ¬ (65521 : Int) = 0 := by decide
    have tm : Int.tmod (37 * (jsumM n (s.data.toList.take i) : Nat) + (c.toNat : Int)) 65521 = ((jsumM n (s.data.toList.take (i + 1)) : Nat) : Int) := by
      rw [jsumM_take hc']
      have := tmod_nat (37 * jsumM n (s.data.toList.take i) + c.toNat) 65521
      simpa using this
    simp (disch := omega) only [VW, VY, VZ, VA, VB, VC, VE, TY, ↓reduceIte, Nat.reduceEqDiff, Nat.reduceAdd, Nat.reduceMul, Nat.reduceSub, Nat.reduceLeDiff, List.length_cons, List.length_nil, List.length_append, List.append_assoc, List.take_succ_cons, List.take_zero, List.drop_succ_cons, List.drop_zero, List.set_cons_zero, List.set_cons_succ, true_or, or_true, and_self, Bool.false_eq_true, Nat.le_refl, Option.bind_some, Option.map_some, Option.getD_some, Option.isSome_some, List.map_cons, List.map_nil, List.cons_append, List.nil_append, List.append_nil, List.getElem?_cons_zero, List.getElem?_cons_succ, eq_self, Int.reduceLT, Int.reduceLE, Int.reduceNeg, Int.reduceEq, e0, e5, e6, q1, hc, wrap_in, z, tm]
    exact ⟨_, by omega, i + 1, rfl, by simp, by omega, rfl⟩
  · obtain rfl : i = s.size := by omega
    have q1 : ¬ (s.size : Int) < (s.size : Int) := by omega
    rw [List.take_of_length_le (by omega)] at e5
    simp (disch := omega) only [VW, VY, VZ, VA, VB, VC, VE, TY, ↓reduceIte, Nat.reduceEqDiff, Nat.reduceAdd, Nat.reduceMul, Nat.reduceSub, Nat.reduceLeDiff, List.length_cons, List.length_nil, List.length_append, List.append_assoc, List.take_succ_cons, List.take_zero, List.drop_succ_cons, List.drop_zero, List.set_cons_zero, List.set_cons_succ, true_or, or_true, and_self, Bool.false_eq_true, Nat.le_refl, Option.bind_some, Option.map_some, Option.getD_some, Option.isSome_some, List.map_cons, List.map_nil, List.cons_append, List.nil_append, List.append_nil, List.getElem?_cons_zero, List.getElem?_cons_succ, eq_self, Int.reduceLT, Int.reduceLE, Int.reduceNeg, Int.reduceEq, e0, e5, e6, q1]
    exact hQ
theorem jrLine_c {n : Nat} {m : Mk} {h : Heap} {Q : Value → Heap → Prop} (hn : n ≤ 60000) (hk : 1 ≤ m.kind ∧ m.kind ≤ 3) (hp : m.path.size ≤ 1000000000) (hQ : ∀ h', Ext h h' → Q (.string (lineB n m)) h') :
    CallsV Tryz.prog 31 [.int .i64 n, .agg #[.string m.path, .int .i64 m.kind]] h Q := by
  refine CallsV.start Tryz.func31 rfl (by rw [Tryz.results31]) (by kernel_rfl) (by rw [Tryz.ntmps31]; simp) ?_
  have s := Sep.blk1 h [.string m.path, .int .i64 m.kind] 26 true
  have g := s.rd
  have hd := decB_size n (by omega)
  have hf := fhoB_size m.kind
  have hc := col_size
  have s1 := size_append (decB n) colB
  have s2 := size_append (decB n ++ colB) m.path
  have s3 := size_append (decB n ++ colB ++ m.path) colB
  have s4 := size_append (decB n ++ colB ++ m.path ++ colB) (fhoB m.kind)
  have a1 := str_add (decB n) colB (by omega)
  have a2 := str_add (decB n ++ colB) m.path (by omega)
  have a3 := str_add (decB n ++ colB ++ m.path) colB (by omega)
  have a4 := str_add (decB n ++ colB ++ m.path ++ colB) (fhoB m.kind) (by omega)
  have a5 := str_add (decB n ++ colB ++ m.path ++ colB ++ fhoB m.kind) colB (by omega)
  have f1 : (⟨#[58]⟩ : ByteArray) = colB := rfl
  have f2 : (⟨#[102, 104, 111]⟩ : ByteArray) = fho := rfl
  have f3 : fho.size = 3 := rfl
  have f4 : fho.extract (m.kind - 1).toNat m.kind.toNat = fhoB m.kind := rfl
  have k0 : (0 : Int) ≤ m.kind - 1 := by omega
  have k1 : m.kind - 1 ≤ m.kind := by omega
  have k2 : m.kind ≤ (3 : Nat) := by omega
  have k3 : (0 : Int) ≤ m.kind := by omega
  simp (disch := omega) only [VW, VY, VZ, VA, VB, VC, VE, TY, ↓reduceIte, Nat.reduceEqDiff, Nat.reduceAdd, Nat.reduceMul, Nat.reduceSub, Nat.reduceLeDiff, List.length_cons, List.length_nil, List.length_append, List.append_assoc, List.take_succ_cons, List.take_zero, List.drop_succ_cons, List.drop_zero, List.set_cons_zero, List.set_cons_succ, true_or, or_true, and_self, Bool.false_eq_true, Nat.le_refl, Option.bind_some, Option.map_some, Option.getD_some, Option.isSome_some, List.map_cons, List.map_nil, List.cons_append, List.nil_append, List.append_nil, List.getElem?_cons_zero, List.getElem?_cons_succ, eq_self, Int.reduceLT, Int.reduceLE, Int.reduceNeg, Int.reduceEq]
  refine draw_ord [0, 3, 4, 7, 8, 9, 10, 11, 12, 1, 2, 5, 6, 13, 14, 15] (by kernel_rfl) (by simp only [List.filterMap_cons, List.filterMap_nil, List.getElem?_cons_zero, List.getElem?_cons_succ]; rfl) ?_
  simp (disch := omega) only [VW, VY, VZ, VA, VB, VC, VE, TY, ↓reduceIte, Nat.reduceEqDiff, Nat.reduceAdd, Nat.reduceMul, Nat.reduceSub, Nat.reduceLeDiff, List.length_cons, List.length_nil, List.length_append, List.append_assoc, List.take_succ_cons, List.take_zero, List.drop_succ_cons, List.drop_zero, List.set_cons_zero, List.set_cons_succ, true_or, or_true, and_self, Bool.false_eq_true, Nat.le_refl, Option.bind_some, Option.map_some, Option.getD_some, Option.isSome_some, List.map_cons, List.map_nil, List.cons_append, List.nil_append, List.append_nil, List.getElem?_cons_zero, List.getElem?_cons_succ, eq_self, Int.reduceLT, Int.reduceLE, Int.reduceNeg, Int.reduceEq, g, f1, f2, f3, k0, k1, k2, k3, f4, wrap_in]
  refine .inl ⟨by kernel_rfl, ?_⟩; refine l1Num_c _ _ _ (by omega) fun h1 E1 => ?_
  have s := s.mono E1
  have g := s.rd
  simp (disch := omega) only [VW, VY, VZ, VA, VB, VC, VE, TY, ↓reduceIte, Nat.reduceEqDiff, Nat.reduceAdd, Nat.reduceMul, Nat.reduceSub, Nat.reduceLeDiff, List.length_cons, List.length_nil, List.length_append, List.append_assoc, List.take_succ_cons, List.take_zero, List.drop_succ_cons, List.drop_zero, List.set_cons_zero, List.set_cons_succ, true_or, or_true, and_self, Bool.false_eq_true, Nat.le_refl, Option.bind_some, Option.map_some, Option.getD_some, Option.isSome_some, List.map_cons, List.map_nil, List.cons_append, List.nil_append, List.append_nil, List.getElem?_cons_zero, List.getElem?_cons_succ, eq_self, Int.reduceLT, Int.reduceLE, Int.reduceNeg, Int.reduceEq, g, a1, a2, a3, a4, a5, f1, f2, f3, f4]
  have fl : decB n ++ colB ++ m.path ++ colB ++ fhoB m.kind ++ colB = lineS n m := rfl
  rw [fl]
  have hz := lineS_size m hn
  have hsm : jsumM n (lineS n m).data.toList < 65521 := jsumM_lt hn _
  have hd := decB_size (jsumM n (lineS n m).data.toList) (by omega)
  have s6 := size_append (lineS n m) (decB (jsumM n (lineS n m).data.toList))
  have ez : (⟨#[10]⟩ : ByteArray).size = 1 := rfl
  have a6 := str_add (lineS n m) (decB (jsumM n (lineS n m).data.toList)) (by omega)
  have a7 := str_add (lineS n m ++ decB (jsumM n (lineS n m).data.toList)) ⟨#[10]⟩ (by omega)
  refine .inl ⟨by kernel_rfl, ?_⟩; refine jrSum_c hn (by omega) ?_
  simp (disch := omega) only [VW, VY, VZ, VA, VB, VC, VE, TY, ↓reduceIte, Nat.reduceEqDiff, Nat.reduceAdd, Nat.reduceMul, Nat.reduceSub, Nat.reduceLeDiff, List.length_cons, List.length_nil, List.length_append, List.append_assoc, List.take_succ_cons, List.take_zero, List.drop_succ_cons, List.drop_zero, List.set_cons_zero, List.set_cons_succ, true_or, or_true, and_self, Bool.false_eq_true, Nat.le_refl, Option.bind_some, Option.map_some, Option.getD_some, Option.isSome_some, List.map_cons, List.map_nil, List.cons_append, List.nil_append, List.append_nil, List.getElem?_cons_zero, List.getElem?_cons_succ, eq_self, Int.reduceLT, Int.reduceLE, Int.reduceNeg, Int.reduceEq]
  refine .inl ⟨by kernel_rfl, ?_⟩; refine l1Num_c _ _ _ (by omega) fun h2 E2 => ?_
  simp (disch := omega) only [VW, VY, VZ, VA, VB, VC, VE, TY, ↓reduceIte, Nat.reduceEqDiff, Nat.reduceAdd, Nat.reduceMul, Nat.reduceSub, Nat.reduceLeDiff, List.length_cons, List.length_nil, List.length_append, List.append_assoc, List.take_succ_cons, List.take_zero, List.drop_succ_cons, List.drop_zero, List.set_cons_zero, List.set_cons_succ, true_or, or_true, and_self, Bool.false_eq_true, Nat.le_refl, Option.bind_some, Option.map_some, Option.getD_some, Option.isSome_some, List.map_cons, List.map_nil, List.cons_append, List.nil_append, List.append_nil, List.getElem?_cons_zero, List.getElem?_cons_succ, eq_self, Int.reduceLT, Int.reduceLE, Int.reduceNeg, Int.reduceEq, a6, a7]
  exact hQ _ (s.ext.trans E2)
end Go.Proofs
