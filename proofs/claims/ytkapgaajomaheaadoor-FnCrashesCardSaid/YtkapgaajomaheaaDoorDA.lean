/- Contracts of functions, facts of types, or the plain law behind one statement (own work): DA. Conditions: those told in each theorem. -/
import Derived.Test.YtkapgaajomaheaaDoorJ1
set_option linter.all false
set_option linter.unusedSimpArgs false
set_option linter.unusedVariables false
set_option maxRecDepth 4000
namespace Go.Proofs
open Go Go.V
set_option linter.unusedSectionVars false
variable [Laid Tryd.prog]
/- What is drawn from bytes: any choice within its bounds. -/
/-- A place in the bytes. -/
def Cur (a h : Heap) (b : Nat) (vc : Value) (B : Nat) (L : List Asr) : Prop :=
  ∃ t sd : Nat, t ≤ B ∧ sd < 18446744073709551616 ∧ Sep a h (blkA b [vc, .int .i64 t, .int .u64 sd] 47 :: L)
section
variable {a h h' : Heap} {b : Nat} {vc : Value} {B : Nat} {L M : List Asr}
theorem Cur.mono (c : Cur a h b vc B L) (E : Ext h h') : Cur a h' b vc B L := by
  obtain ⟨t, sd, h1, h2, s⟩ := c; exact ⟨t, sd, h1, h2, s.mono E⟩
theorem Cur.up (c : Cur a h b vc B L) {B' : Nat} (hb : B ≤ B') : Cur a h b vc B' L := by
  obtain ⟨t, sd, h1, h2, s⟩ := c; exact ⟨t, sd, by omega, h2, s⟩
theorem Cur.ext (c : Cur a h b vc B L) : Ext a h := by
  obtain ⟨t, sd, h1, h2, s⟩ := c; exact s.ext
theorem Cur.rest (c : Cur a h b vc B L) : Sep a h L := by
  obtain ⟨t, sd, h1, h2, s⟩ := c; exact s.tail
theorem Cur.only (c : Cur a h b vc B L) : Cur a h b vc B [] := by
  obtain ⟨t, sd, h1, h2, s⟩ := c; exact ⟨t, sd, h1, h2, s.head⟩
theorem Cur.add (c : Cur a h b vc B L) (u : Sep h h' M) : Cur a h' b vc B (M ++ L) := by
  obtain ⟨t, sd, h1, h2, s⟩ := c
  refine ⟨t, sd, h1, h2, ?_⟩
  have p := (s.add u).pull M.length (x := blkA b [vc, .int .i64 t, .int .u64 sd] 47) (by simp)
  simpa [List.eraseIdx_append_of_length_le] using p
end
theorem and255 {x : Int} (h0 : 0 ≤ x) : ∃ r : Nat, r ≤ 255 ∧ bitsV .and .u64 x 255 = some (.int .u64 (r : Nat)) := by
  refine ⟨(BitVec.ofInt 64 x &&& BitVec.ofInt 64 255).toNat, ?_, ?_⟩
  · rw [BitVec.toNat_and]
    have : (BitVec.ofInt 64 255).toNat = 255 := by decide
    rw [this]
    exact Nat.and_le_right
  · show some (Value.int .u64 (IntKind.wrap .u64 ((BitVec.ofInt 64 x &&& BitVec.ofInt 64 255 : BitVec 64).toNat))) = _
    have hlt := (BitVec.ofInt 64 x &&& BitVec.ofInt 64 255).isLt
    rw [wrapu_in _ (by omega)]
theorem b_and (n : Nat) (k : IntKind) (a b : Int) : binV .and n (.int k a) (.int k b) = bitsV .and k a b := by simp [binV, intV]
theorem wrapu_lt (x : Int) : ∃ r : Nat, r < 18446744073709551616 ∧ IntKind.wrap .u64 x = (r : Int) := by
  have e : IntKind.wrap .u64 x = x % 18446744073709551616 := by simp [IntKind.wrap, IntKind.bits, IntKind.signed]
  refine ⟨(x % 18446744073709551616).toNat, by omega, ?_⟩
  rw [e]; omega
theorem row_u8 {h : Heap} {l : List UInt8} {v : Value} (hr : Row h l v) {i : Nat} {x : UInt8} (hx : l[i]? = some x) : getC h (rowB v) (rowO v + i) = some (.int .u8 x.toNat) := by
  obtain ⟨xs, hc, fp, h1, h2⟩ := hr.at hx
  subst h1
  have := cellsAt_getC hc 0 (by decide)
  have e : Rep.sz UInt8 = 1 := rfl
  rw [e, Nat.mul_one] at this
  exact this
theorem cond_cutD {c : Value} {a b : Code} {e : Env} {h : Heap} {K : VX → Env → Heap → Prop} (I : Env → Heap → Prop) (key : ∀ e' h', I e' h' → K .norm e' h')
    (main : ∀ K' : VX → Env → Heap → Prop, (∀ e' h', I e' h' → K' .norm e' h') → condK Tryd.prog c a b e h K') : condK Tryd.prog c a b e h K := main K key
theorem next_c {a h : Heap} {b : Nat} {vc : Value} {B : Nat} {L : List Asr} {code : List UInt8} {Q : Value → Heap → Prop} (r : Row a code vc) (hl : code.length ≤ 1048576) (hB : B ≤ 1000000000000) (c : Cur a h b vc B L)
    (hQ : ∀ n : Nat, n ≤ 255 → ∀ h', Cur a h' b vc (B + 1) L → Q (.int .i64 (n : Nat)) h') : CallsV Tryd.prog 37 [.pointer (some ⟨b, 0, none⟩)] h Q := by
  obtain ⟨t, sd, ht, hsd, s⟩ := c
  refine CallsV.start Tryd.func37 rfl (by rw [Tryd.results37]) (by kernel_rfl) (by rw [Tryd.ntmps37]; simp) ?_
  have len := r.isRow.len Tryd.prog
  have g := s.rd
  simp (disch := omega) only [VW, VY, VZ, VA, VB, VC, VE, TY, ↓reduceIte, Nat.reduceEqDiff, Nat.reduceAdd, Nat.reduceMul, Nat.reduceSub, Nat.reduceLeDiff, List.length_cons, List.length_nil, List.length_append, List.append_assoc, List.take_succ_cons, List.take_zero, List.drop_succ_cons, List.drop_zero, List.set_cons_zero, List.set_cons_succ, true_or, or_true, and_self, Bool.false_eq_true, Nat.le_refl, Option.bind_some, Option.map_some, Option.getD_some, Option.isSome_some, List.map_cons, List.map_nil, List.cons_append, List.nil_append, List.append_nil, List.getElem?_cons_zero, List.getElem?_cons_succ, eq_self, Int.reduceLT, Int.reduceLE, Int.reduceNeg, Int.reduceEq]
  refine draw_ord [0, 1, 2, 3, 4, 5, 6, 7, 8, 9] (by kernel_rfl) (by simp only [List.filterMap_cons, List.filterMap_nil, List.getElem?_cons_zero, List.getElem?_cons_succ]; rfl) ?_
  simp (disch := omega) only [VW, VY, VZ, VA, VB, VC, VE, TY, ↓reduceIte, Nat.reduceEqDiff, Nat.reduceAdd, Nat.reduceMul, Nat.reduceSub, Nat.reduceLeDiff, List.length_cons, List.length_nil, List.length_append, List.append_assoc, List.take_succ_cons, List.take_zero, List.drop_succ_cons, List.drop_zero, List.set_cons_zero, List.set_cons_succ, true_or, or_true, and_self, Bool.false_eq_true, Nat.le_refl, Option.bind_some, Option.map_some, Option.getD_some, Option.isSome_some, List.map_cons, List.map_nil, List.cons_append, List.nil_append, List.append_nil, List.getElem?_cons_zero, List.getElem?_cons_succ, eq_self, Int.reduceLT, Int.reduceLE, Int.reduceNeg, Int.reduceEq, g, len]
  refine cond_cutD (fun e' h' => ∃ n : Nat, n ≤ 255 ∧ e' 0 = .pointer (some ⟨b, 0, none⟩) ∧ e' 3 = .int .i64 (n : Nat) ∧ h' = h) ?_ ?_
  · rintro e h1 ⟨n, hn, e0, e3, rfl⟩
    have k1 : (t : Int) + 1 = ((t + 1 : Nat) : Int) := by omega
    simp (disch := omega) only [VW, VY, VZ, VA, VB, VC, VE, TY, ↓reduceIte, Nat.reduceEqDiff, Nat.reduceAdd, Nat.reduceMul, Nat.reduceSub, Nat.reduceLeDiff, List.length_cons, List.length_nil, List.length_append, List.append_assoc, List.take_succ_cons, List.take_zero, List.drop_succ_cons, List.drop_zero, List.set_cons_zero, List.set_cons_succ, true_or, or_true, and_self, Bool.false_eq_true, Nat.le_refl, Option.bind_some, Option.map_some, Option.getD_some, Option.isSome_some, List.map_cons, List.map_nil, List.cons_append, List.nil_append, List.append_nil, List.getElem?_cons_zero, List.getElem?_cons_succ, eq_self, Int.reduceLT, Int.reduceLE, Int.reduceNeg, Int.reduceEq, e0, g, wrap_in, k1]
    refine sep_store s (by simp) fun h2 s => ?_
    have s := s.as (ds := [vc, .int .i64 (t + 1 : Nat), .int .u64 sd]) (by simp [t_put])
    have g := s.rd
    obtain ⟨r1, hr1, w1⟩ := wrapu_lt ((sd : Int) * 6364136223846793005)
    obtain ⟨r2, hr2, w2⟩ := wrapu_lt (r1 + (n : Int))
    obtain ⟨r3, hr3, w3⟩ := wrapu_lt (r2 + 1442695040888963407)
    have wn : IntKind.wrap .u64 (n : Int) = (n : Int) := wrapu_in _ (by omega)
    simp (disch := omega) only [VW, VY, VZ, VA, VB, VC, VE, TY, ↓reduceIte, Nat.reduceEqDiff, Nat.reduceAdd, Nat.reduceMul, Nat.reduceSub, Nat.reduceLeDiff, List.length_cons, List.length_nil, List.length_append, List.append_assoc, List.take_succ_cons, List.take_zero, List.drop_succ_cons, List.drop_zero, List.set_cons_zero, List.set_cons_succ, true_or, or_true, and_self, Bool.false_eq_true, Nat.le_refl, Option.bind_some, Option.map_some, Option.getD_some, Option.isSome_some, List.map_cons, List.map_nil, List.cons_append, List.nil_append, List.append_nil, List.getElem?_cons_zero, List.getElem?_cons_succ, eq_self, Int.reduceLT, Int.reduceLE, Int.reduceNeg, Int.reduceEq, e0, e3, g, wn, w1, w2, w3]
    refine sep_store s (by simp) fun h3 s => ?_
    have s := s.as (ds := [vc, .int .i64 (t + 1 : Nat), .int .u64 r3]) (by simp [t_put])
    have g := s.rd
    have fin : ∀ n : Nat, n ≤ 255 → Q (.int .i64 (n : Nat)) h3 := fun n hn => hQ n hn h3 ⟨t + 1, r3, by omega, hr3, s⟩
    simp (disch := omega) only [VW, VY, VZ, VA, VB, VC, VE, TY, ↓reduceIte, Nat.reduceEqDiff, Nat.reduceAdd, Nat.reduceMul, Nat.reduceSub, Nat.reduceLeDiff, List.length_cons, List.length_nil, List.length_append, List.append_assoc, List.take_succ_cons, List.take_zero, List.drop_succ_cons, List.drop_zero, List.set_cons_zero, List.set_cons_succ, true_or, or_true, and_self, Bool.false_eq_true, Nat.le_refl, Option.bind_some, Option.map_some, Option.getD_some, Option.isSome_some, List.map_cons, List.map_nil, List.cons_append, List.nil_append, List.append_nil, List.getElem?_cons_zero, List.getElem?_cons_succ, eq_self, Int.reduceLT, Int.reduceLE, Int.reduceNeg, Int.reduceEq]
    refine draw_ord [0, 1, 2, 3, 4, 5, 6, 7, 8, 9] (by kernel_rfl) (by simp only [List.filterMap_cons, List.filterMap_nil, List.getElem?_cons_zero, List.getElem?_cons_succ]; rfl) ?_
    simp (disch := omega) only [VW, VY, VZ, VA, VB, VC, VE, TY, ↓reduceIte, Nat.reduceEqDiff, Nat.reduceAdd, Nat.reduceMul, Nat.reduceSub, Nat.reduceLeDiff, List.length_cons, List.length_nil, List.length_append, List.append_assoc, List.take_succ_cons, List.take_zero, List.drop_succ_cons, List.drop_zero, List.set_cons_zero, List.set_cons_succ, true_or, or_true, and_self, Bool.false_eq_true, Nat.le_refl, Option.bind_some, Option.map_some, Option.getD_some, Option.isSome_some, List.map_cons, List.map_nil, List.cons_append, List.nil_append, List.append_nil, List.getElem?_cons_zero, List.getElem?_cons_succ, eq_self, Int.reduceLT, Int.reduceLE, Int.reduceNeg, Int.reduceEq, e0, g, len]
    by_cases c : t + 1 ≤ code.length
    · have c1 : ((t + 1 : Nat) : Int) ≤ (code.length : Int) := by omega
      simp (disch := omega) only [VW, VY, VZ, VA, VB, VC, VE, TY, ↓reduceIte, Nat.reduceEqDiff, Nat.reduceAdd, Nat.reduceMul, Nat.reduceSub, Nat.reduceLeDiff, List.length_cons, List.length_nil, List.length_append, List.append_assoc, List.take_succ_cons, List.take_zero, List.drop_succ_cons, List.drop_zero, List.set_cons_zero, List.set_cons_succ, true_or, or_true, and_self, Bool.false_eq_true, Nat.le_refl, Option.bind_some, Option.map_some, Option.getD_some, Option.isSome_some, List.map_cons, List.map_nil, List.cons_append, List.nil_append, List.append_nil, List.getElem?_cons_zero, List.getElem?_cons_succ, eq_self, Int.reduceLT, Int.reduceLE, Int.reduceNeg, Int.reduceEq, c1, e3]
      exact fin n hn
    · have c1 : ¬ ((t + 1 : Nat) : Int) ≤ (code.length : Int) := by omega
      have f0 : (0 : Int) ≤ Int.fdiv (r3 : Int) (2 ^ min (Int.toNat 40) 64) := by
        rw [Int.fdiv_eq_ediv_of_nonneg _ (by decide)]
        exact Int.ediv_nonneg (by omega) (by decide)
      obtain ⟨r4, hr4, w4⟩ := and255 f0
      have ub : IntKind.u64.bits = 64 := rfl
      simp (disch := omega) only [VW, VY, VZ, VA, VB, VC, VE, TY, ↓reduceIte, Nat.reduceEqDiff, Nat.reduceAdd, Nat.reduceMul, Nat.reduceSub, Nat.reduceLeDiff, List.length_cons, List.length_nil, List.length_append, List.append_assoc, List.take_succ_cons, List.take_zero, List.drop_succ_cons, List.drop_zero, List.set_cons_zero, List.set_cons_succ, true_or, or_true, and_self, Bool.false_eq_true, Nat.le_refl, Option.bind_some, Option.map_some, Option.getD_some, Option.isSome_some, List.map_cons, List.map_nil, List.cons_append, List.nil_append, List.append_nil, List.getElem?_cons_zero, List.getElem?_cons_succ, eq_self, Int.reduceLT, Int.reduceLE, Int.reduceNeg, Int.reduceEq, c1, e0, g, ub, b_and, w4, wrap_in]
      exact fin r4 hr4
  · intro K key
    by_cases c : t < code.length
    · obtain ⟨x, hx⟩ := get_some c
      have c1 : (t : Int) < (code.length : Int) := by omega
      have x3 := row_u8 (r.mono s.ext) hx
      have hxl := x.toNat_lt
      simp (disch := omega) only [VW, VY, VZ, VA, VB, VC, VE, TY, ↓reduceIte, Nat.reduceEqDiff, Nat.reduceAdd, Nat.reduceMul, Nat.reduceSub, Nat.reduceLeDiff, List.length_cons, List.length_nil, List.length_append, List.append_assoc, List.take_succ_cons, List.take_zero, List.drop_succ_cons, List.drop_zero, List.set_cons_zero, List.set_cons_succ, true_or, or_true, and_self, Bool.false_eq_true, Nat.le_refl, Option.bind_some, Option.map_some, Option.getD_some, Option.isSome_some, List.map_cons, List.map_nil, List.cons_append, List.nil_append, List.append_nil, List.getElem?_cons_zero, List.getElem?_cons_succ, eq_self, Int.reduceLT, Int.reduceLE, Int.reduceNeg, Int.reduceEq, c1]
      refine draw_ord [0, 1, 2, 3, 4, 5, 6, 7, 8, 9, 10, 11] (by kernel_rfl) (by simp only [List.filterMap_cons, List.filterMap_nil, List.getElem?_cons_zero, List.getElem?_cons_succ]; rfl) ?_
      simp (disch := omega) only [VW, VY, VZ, VA, VB, VC, VE, TY, ↓reduceIte, Nat.reduceEqDiff, Nat.reduceAdd, Nat.reduceMul, Nat.reduceSub, Nat.reduceLeDiff, List.length_cons, List.length_nil, List.length_append, List.append_assoc, List.take_succ_cons, List.take_zero, List.drop_succ_cons, List.drop_zero, List.set_cons_zero, List.set_cons_succ, true_or, or_true, and_self, Bool.false_eq_true, Nat.le_refl, Option.bind_some, Option.map_some, Option.getD_some, Option.isSome_some, List.map_cons, List.map_nil, List.cons_append, List.nil_append, List.append_nil, List.getElem?_cons_zero, List.getElem?_cons_succ, eq_self, Int.reduceLT, Int.reduceLE, Int.reduceNeg, Int.reduceEq, g, r.isRow.ix, x3, wrap_in]
      exact key _ _ ⟨x.toNat, by omega, rfl, rfl, rfl⟩
    · have c1 : ¬ (t : Int) < (code.length : Int) := by omega
      simp (disch := omega) only [VW, VY, VZ, VA, VB, VC, VE, TY, ↓reduceIte, Nat.reduceEqDiff, Nat.reduceAdd, Nat.reduceMul, Nat.reduceSub, Nat.reduceLeDiff, List.length_cons, List.length_nil, List.length_append, List.append_assoc, List.take_succ_cons, List.take_zero, List.drop_succ_cons, List.drop_zero, List.set_cons_zero, List.set_cons_succ, true_or, or_true, and_self, Bool.false_eq_true, Nat.le_refl, Option.bind_some, Option.map_some, Option.getD_some, Option.isSome_some, List.map_cons, List.map_nil, List.cons_append, List.nil_append, List.append_nil, List.getElem?_cons_zero, List.getElem?_cons_succ, eq_self, Int.reduceLT, Int.reduceLE, Int.reduceNeg, Int.reduceEq, c1]
      exact key _ _ ⟨0, by omega, rfl, rfl, rfl⟩
end Go.Proofs
