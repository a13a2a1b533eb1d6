/- The layer V and contracts of functions over it, or plain laws behind one statement (own work): DX=DA,DB,DC,DD,DE,DF. Conditions: those told in each theorem. -/
import Derived.Test.YtkapgaajomaheaaGreatDoorJ1
import Derived.Test.YtkapgaajomaheaaGreatDoorJX
set_option linter.all false
section
set_option linter.unusedSimpArgs false
set_option linter.unusedVariables false
set_option maxRecDepth 4000
namespace Go.Proofs
open Go Go.V
set_option linter.unusedSectionVars false
variable [Laid Tryz.prog]
/- What is drawn from bytes: any choice within its bounds. -/
/-- A place in the bytes. -/
def Cur (a h : Heap) (b : Nat) (vc : Value) (B : Nat) (L : List Asr) : Prop :=
  ∃ t sd : Nat, t ≤ B ∧ sd < 18446744073709551616 ∧ Sep a h (blkA b [vc, .int .i64 t, .int .u64 sd] 50 :: L)
section
variable {a h h' : Heap} {b : Nat} {vc : Value} {B : Nat} {L M : List Asr}
theorem Cur.mono (c : Cur a h b vc B L) (E : Ext h h') : Cur a h' b vc B L := by
  obtain ⟨t, sd, h1, h2, s⟩ := c; exact ⟨t, sd, h1, h2, s.mono E⟩
theorem Cur.up (c : Cur a h b vc B L) {B' : Nat} (hb : B ≤ B') : Cur a h b vc B' L := by
  obtain ⟨t, sd, h1, h2, s⟩ := c; exact ⟨t, sd, by omega, h2, s⟩
theorem Cur.ext (c : Cur a h b vc B L) : Ext a h := by
  obtain ⟨t, sd, h1, h2, s⟩ := c; exact s.ext
theorem Cur.rest (c : Cur a h b vc B L) : Sep a h L := by
  obtain ⟨t, sd, h1, h2, s⟩ := c; exact s.tail
theorem Cur.only (c : Cur a h b vc B L) : Cur a h b vc B [] := by
  obtain ⟨t, sd, h1, h2, s⟩ := c; exact ⟨t, sd, h1, h2, s.head⟩
theorem Cur.add (c : Cur a h b vc B L) (u : Sep h h' M) : Cur a h' b vc B (M ++ L) := by
  obtain ⟨t, sd, h1, h2, s⟩ := c
  refine ⟨t, sd, h1, h2, ?_⟩
  have p := (s.add u).pull M.length (x := blkA b [vc, .int .i64 t, .int .u64 sd] 50) (by simp)
  simpa [List.eraseIdx_append_of_length_le] using p
end
theorem and255 {x : Int} (h0 : 0 ≤ x) : ∃ r : Nat, r ≤ 255 ∧ bitsV .and .u64 x 255 = some (.int .u64 (r : Nat)) := by
  refine ⟨(BitVec.ofInt 64 x &&& BitVec.ofInt 64 255).toNat, ?_, ?_⟩
  · rw [BitVec.toNat_and]
    have : (BitVec.ofInt 64 255).toNat = 255 := by decide
    rw [this]
    exact Nat.and_le_right
  · show some (Value.int .u64 (IntKind.wrap .u64 ((BitVec.ofInt 64 x &&& BitVec.ofInt 64 255 : BitVec 64).toNat))) = _
    have hlt := (BitVec.ofInt 64 x &&& BitVec.ofInt 64 255).isLt
    rw [wrapu_in _ (by omega)]
theorem b_and (n : Nat) (k : IntKind) (a b : Int) : binV .and n (.int k a) (.int k b) = bitsV .and k a b := by simp [binV, intV]
theorem wrapu_lt (x : Int) : ∃ r : Nat, r < 18446744073709551616 ∧ IntKind.wrap .u64 x = (r : Int) := by
  have e : IntKind.wrap .u64 x = x % 18446744073709551616 := by simp [IntKind.wrap, IntKind.bits, IntKind.signed]
  refine ⟨(x % 18446744073709551616).toNat, by omega, ?_⟩
  rw [e]; omega
theorem row_u8 {h : Heap} {l : List UInt8} {v : Value} (hr : Row h l v) {i : Nat} {x : UInt8} (hx : l[i]? = some x) : getC h (rowB v) (rowO v + i) = some (.int .u8 x.toNat) := by
  obtain ⟨xs, hc, fp, h1, h2⟩ := hr.at hx
  subst h1
  have := cellsAt_getC hc 0 (by decide)
  have e : Rep.sz UInt8 = 1 := rfl
  rw [e, Nat.mul_one] at this
  exact this
theorem cond_cutD {c : Value} {a b : Code} {e : Env} {h : Heap} {K : VX → Env → Heap → Prop} (I : Env → Heap → Prop) (key : ∀ e' h', I e' h' → K .norm e' h')
    (main : ∀ K' : VX → Env → Heap → Prop, (∀ e' h', I e' h' → K' .norm e' h') → condK Tryz.prog c a b e h K') : condK Tryz.prog c a b e h K := main K key
theorem next_c {a h : Heap} {b : Nat} {vc : Value} {B : Nat} {L : List Asr} {code : List UInt8} {Q : Value → Heap → Prop} (r : Row a code vc) (hl : code.length ≤ 1048576) (hB : B ≤ 1000000000000) (c : Cur a h b vc B L)
    (hQ : ∀ n : Nat, n ≤ 255 → ∀ h', Cur a h' b vc (B + 1) L → Q (.int .i64 (n : Nat)) h') : CallsV Tryz.prog 64 [.pointer (some ⟨b, 0, none⟩)] h Q := by
  obtain ⟨t, sd, ht, hsd, s⟩ := c
  refine CallsV.start Tryz.func64 rfl (by rw [Tryz.results64]) (by kernel_rfl) (by rw [Tryz.ntmps64]; simp) ?_
  have len := r.isRow.len Tryz.prog
  have g := s.rd
  simp (disch := omega) only [VW, VY, VZ, VA, VB, VC, VE, TY, ↓reduceIte, Nat.reduceEqDiff, Nat.reduceAdd, Nat.reduceMul, Nat.reduceSub, Nat.reduceLeDiff, List.length_cons, List.length_nil, List.length_append, List.append_assoc, List.take_succ_cons, List.take_zero, List.drop_succ_cons, List.drop_zero, List.set_cons_zero, List.set_cons_succ, true_or, or_true, and_self, Bool.false_eq_true, Nat.le_refl, Option.bind_some, Option.map_some, Option.getD_some, Option.isSome_some, List.map_cons, List.map_nil, List.cons_append, List.nil_append, List.append_nil, List.getElem?_cons_zero, List.getElem?_cons_succ, eq_self, Int.reduceLT, Int.reduceLE, Int.reduceNeg, Int.reduceEq]
  refine draw_ord [0, 1, 2, 3, 4, 5, 6, 7, 8, 9] (by kernel_rfl) (by simp only [List.filterMap_cons, List.filterMap_nil, List.getElem?_cons_zero, List.getElem?_cons_succ]; rfl) ?_
  simp (disch := omega) only [VW, VY, VZ, VA, VB, VC, VE, TY, ↓reduceIte, Nat.reduceEqDiff, Nat.reduceAdd, Nat.reduceMul, Nat.reduceSub, Nat.reduceLeDiff, List.length_cons, List.length_nil, List.length_append, List.append_assoc, List.take_succ_cons, List.take_zero, List.drop_succ_cons, List.drop_zero, List.set_cons_zero, List.set_cons_succ, true_or, or_true, and_self, Bool.false_eq_true, Nat.le_refl, Option.bind_some, Option.map_some, Option.getD_some, Option.isSome_some, List.map_cons, List.map_nil, List.cons_append, List.nil_append, List.append_nil, List.getElem?_cons_zero, List.getElem?_cons_succ, eq_self, Int.reduceLT, Int.reduceLE, Int.reduceNeg, Int.reduceEq, g, len]
  refine cond_cutD (fun e' h' => ∃ n : Nat, n ≤ 255 ∧ e' 0 = .pointer (some ⟨b, 0, none⟩) ∧ e' 3 = .int .i64 (n : Nat) ∧ h' = h) ?_ ?_
  · rintro e h1 ⟨n, hn, e0, e3, rfl⟩
    have k1 : (t : Int) + 1 = ((t + 1 : Nat) : Int) := by omega
    simp (disch := omega) only [VW, VY, VZ, VA, VB, VC, VE, TY, ↓reduceIte, Nat.reduceEqDiff, Nat.reduceAdd, Nat.reduceMul, Nat.reduceSub, Nat.reduceLeDiff, List.length_cons, List.length_nil, List.length_append, List.append_assoc, List.take_succ_cons, List.take_zero, List.drop_succ_cons, List.drop_zero, List.set_cons_zero, List.set_cons_succ, true_or, or_true, and_self, Bool.false_eq_true, Nat.le_refl, Option.bind_some, Option.map_some, Option.getD_some, Option.isSome_some, List.map_cons, List.map_nil, List.cons_append, List.nil_append, List.append_nil, List.getElem?_cons_zero, List.getElem?_cons_succ, eq_self, Int.reduceLT, Int.reduceLE, Int.reduceNeg, Int.reduceEq, e0, g, wrap_in, k1]
    refine sep_store s (by simp) fun h2 s => ?_
    have s := s.as (ds := [vc, .int .i64 (t + 1 : Nat), .int .u64 sd]) (by simp [t_put])
    have g := s.rd
    obtain ⟨r1, hr1, w1⟩ := wrapu_lt ((sd : Int) * 6364136223846793005)
    obtain ⟨r2, hr2, w2⟩ := wrapu_lt (r1 + (n : Int))
    obtain ⟨r3, hr3, w3⟩ := wrapu_lt (r2 + 1442695040888963407)
    have wn : IntKind.wrap .u64 (n : Int) = (n : Int) := wrapu_in _ (by omega)
    simp (disch := omega) only [VW, VY, VZ, VA, VB, VC, VE, TY, ↓reduceIte, Nat.reduceEqDiff, Nat.reduceAdd, Nat.reduceMul, Nat.reduceSub, Nat.reduceLeDiff, List.length_cons, List.length_nil, List.length_append, List.append_assoc, List.take_succ_cons, List.take_zero, List.drop_succ_cons, List.drop_zero, List.set_cons_zero, List.set_cons_succ, true_or, or_true, and_self, Bool.false_eq_true, Nat.le_refl, Option.bind_some, Option.map_some, Option.getD_some, Option.isSome_some, List.map_cons, List.map_nil, List.cons_append, List.nil_append, List.append_nil, List.getElem?_cons_zero, List.getElem?_cons_succ, eq_self, Int.reduceLT, Int.reduceLE, Int.reduceNeg, Int.reduceEq, e0, e3, g, wn, w1, w2, w3]
    refine sep_store s (by simp) fun h3 s => ?_
    have s := s.as (ds := [vc, .int .i64 (t + 1 : Nat), .int .u64 r3]) (by simp [t_put])
    have g := s.rd
    have fin : ∀ n : Nat, n ≤ 255 → Q (.int .i64 (n : Nat)) h3 := fun n hn => hQ n hn h3 ⟨t + 1, r3, by omega, hr3, s⟩
    simp (disch := omega) only [VW, VY, VZ, VA, VB, VC, VE, TY, ↓reduceIte, Nat.reduceEqDiff, Nat.reduceAdd, Nat.reduceMul, Nat.reduceSub, Nat.reduceLeDiff, List.length_cons, List.length_nil, List.length_append, List.append_assoc, List.take_succ_cons, List.take_zero, List.drop_succ_cons, List.drop_zero, List.set_cons_zero, List.set_cons_succ, true_or, or_true, and_self, Bool.false_eq_true, Nat.le_refl, Option.bind_some, Option.map_some, Option.getD_some, Option.isSome_some, List.map_cons, List.map_nil, List.cons_append, List.nil_append, List.append_nil, List.getElem?_cons_zero, List.getElem?_cons_succ, eq_self, Int.reduceLT, Int.reduceLE, Int.reduceNeg, Int.reduceEq]
    refine draw_ord [0, 1, 2, 3, 4, 5, 6, 7, 8, 9] (by kernel_rfl) (by simp only [List.filterMap_cons, List.filterMap_nil, List.getElem?_cons_zero, List.getElem?_cons_succ]; rfl) ?_
    simp (disch := omega) only [VW, VY, VZ, VA, VB, VC, VE, TY, ↓reduceIte, Nat.reduceEqDiff, Nat.reduceAdd, Nat.reduceMul, Nat.reduceSub, Nat.reduceLeDiff, List.length_cons, List.length_nil, List.length_append, List.append_assoc, List.take_succ_cons, List.take_zero, List.drop_succ_cons, List.drop_zero, List.set_cons_zero, List.set_cons_succ, true_or, or_true, and_self, Bool.false_eq_true, Nat.le_refl, Option.bind_some, Option.map_some, Option.getD_some, Option.isSome_some, List.map_cons, List.map_nil, List.cons_append, List.nil_append, List.append_nil, List.getElem?_cons_zero, List.getElem?_cons_succ, eq_self, Int.reduceLT, Int.reduceLE, Int.reduceNeg, Int.reduceEq, e0, g, len]
    by_cases c : t + 1 ≤ code.length
    · have c1 : ((t + 1 : Nat) : Int) ≤ (code.length : Int) := by omega
      simp (disch := omega) only [VW, VY, VZ, VA, VB, VC, VE, TY, ↓reduceIte, Nat.reduceEqDiff, Nat.reduceAdd, Nat.reduceMul, Nat.reduceSub, Nat.reduceLeDiff, List.length_cons, List.length_nil, List.length_append, List.append_assoc, List.take_succ_cons, List.take_zero, List.drop_succ_cons, List.drop_zero, List.set_cons_zero, List.set_cons_succ, true_or, or_true, and_self, Bool.false_eq_true, Nat.le_refl, Option.bind_some, Option.map_some, Option.getD_some, Option.isSome_some, List.map_cons, List.map_nil, List.cons_append, List.nil_append, List.append_nil, List.getElem?_cons_zero, List.getElem?_cons_succ, eq_self, Int.reduceLT, Int.reduceLE, Int.reduceNeg, Int.reduceEq, c1, e3]
      exact fin n hn
    · have c1 : ¬ ((t + 1 : Nat) : Int) ≤ (code.length : Int) := by omega
      have f0 : (0 : Int) ≤ Int.fdiv (r3 : Int) (2 ^ min (Int.toNat 40) 64) := by
        rw [Int.fdiv_eq_ediv_of_nonneg _ (by decide)]
        exact Int.ediv_nonneg (by omega) (by decide)
      obtain ⟨r4, hr4, w4⟩ := and255 f0
      have ub : IntKind.u64.bits = 64 := rfl
      simp (disch := omega) only [VW, VY, VZ, VA, VB, VC, VE, TY, ↓reduceIte, Nat.reduceEqDiff, Nat.reduceAdd, Nat.reduceMul, Nat.reduceSub, Nat.reduceLeDiff, List.length_cons, List.length_nil, List.length_append, List.append_assoc, List.take_succ_cons, List.take_zero, List.drop_succ_cons, List.drop_zero, List.set_cons_zero, List.set_cons_succ, true_or, or_true, and_self, Bool.false_eq_true, Nat.le_refl, Option.bind_some, Option.map_some, Option.getD_some, Option.isSome_some, List.map_cons, List.map_nil, List.cons_append, List.nil_append, List.append_nil, List.getElem?_cons_zero, List.getElem?_cons_succ, eq_self, Int.reduceLT, Int.reduceLE, Int.reduceNeg, Int.reduceEq, c1, e0, g, ub, b_and, w4, wrap_in]
      exact fin r4 hr4
  · intro K key
    by_cases c : t < code.length
    · obtain ⟨x, hx⟩ := get_some c
      have c1 : (t : Int) < (code.length : Int) := by omega
      have x3 := row_u8 (r.mono s.ext) hx
      have hxl := x.toNat_lt
      simp (disch := omega) only [VW, VY, VZ, VA, VB, VC, VE, TY, ↓reduceIte, Nat.reduceEqDiff, Nat.reduceAdd, Nat.reduceMul, Nat.reduceSub, Nat.reduceLeDiff, List.length_cons, List.length_nil, List.length_append, List.append_assoc, List.take_succ_cons, List.take_zero, List.drop_succ_cons, List.drop_zero, List.set_cons_zero, List.set_cons_succ, true_or, or_true, and_self, Bool.false_eq_true, Nat.le_refl, Option.bind_some, Option.map_some, Option.getD_some, Option.isSome_some, List.map_cons, List.map_nil, List.cons_append, List.nil_append, List.append_nil, List.getElem?_cons_zero, List.getElem?_cons_succ, eq_self, Int.reduceLT, Int.reduceLE, Int.reduceNeg, Int.reduceEq, c1]
      refine draw_ord [0, 1, 2, 3, 4, 5, 6, 7, 8, 9, 10, 11] (by kernel_rfl) (by simp only [List.filterMap_cons, List.filterMap_nil, List.getElem?_cons_zero, List.getElem?_cons_succ]; rfl) ?_
      simp (disch := omega) only [VW, VY, VZ, VA, VB, VC, VE, TY, ↓reduceIte, Nat.reduceEqDiff, Nat.reduceAdd, Nat.reduceMul, Nat.reduceSub, Nat.reduceLeDiff, List.length_cons, List.length_nil, List.length_append, List.append_assoc, List.take_succ_cons, List.take_zero, List.drop_succ_cons, List.drop_zero, List.set_cons_zero, List.set_cons_succ, true_or, or_true, and_self, Bool.false_eq_true, Nat.le_refl, Option.bind_some, Option.map_some, Option.getD_some, Option.isSome_some, List.map_cons, List.map_nil, List.cons_append, List.nil_append, List.append_nil, List.getElem?_cons_zero, List.getElem?_cons_succ, eq_self, Int.reduceLT, Int.reduceLE, Int.reduceNeg, Int.reduceEq, g, r.isRow.ix, x3, wrap_in]
      exact key _ _ ⟨x.toNat, by omega, rfl, rfl, rfl⟩
    · have c1 : ¬ (t : Int) < (code.length : Int) := by omega
      simp (disch := omega) only [VW, VY, VZ, VA, VB, VC, VE, TY, ↓reduceIte, Nat.reduceEqDiff, Nat.reduceAdd, Nat.reduceMul, Nat.reduceSub, Nat.reduceLeDiff, List.length_cons, List.length_nil, List.length_append, List.append_assoc, List.take_succ_cons, List.take_zero, List.drop_succ_cons, List.drop_zero, List.set_cons_zero, List.set_cons_succ, true_or, or_true, and_self, Bool.false_eq_true, Nat.le_refl, Option.bind_some, Option.map_some, Option.getD_some, Option.isSome_some, List.map_cons, List.map_nil, List.cons_append, List.nil_append, List.append_nil, List.getElem?_cons_zero, List.getElem?_cons_succ, eq_self, Int.reduceLT, Int.reduceLE, Int.reduceNeg, Int.reduceEq, c1]
      exact key _ _ ⟨0, by omega, rfl, rfl, rfl⟩
end Go.Proofs
end

section
set_option linter.unusedSimpArgs false
set_option linter.unusedVariables false
set_option maxRecDepth 4000
namespace Go.Proofs
open Go Go.V
set_option linter.unusedSectionVars false
variable [Laid Tryz.prog]
/- Choices. -/
section
variable {a h : Heap} {b : Nat} {vc : Value} {B : Nat} {L : List Asr} {code : List UInt8} {Q : Value → Heap → Prop} (r : Row a code vc) (hl : code.length ≤ 1048576) (hB : B ≤ 1000000000) (c : Cur a h b vc B L)
theorem pick_c {n : Int} (r : Row a code vc) (hl : code.length ≤ 1048576) (hB : B ≤ 100000000000) (c : Cur a h b vc B L) (hn : n ≤ 1000000000)
    (hQ : ∀ x : Nat, (x = 0 ∨ (x : Int) < n) → ∀ h', Cur a h' b vc (B + 2) L → Q (.int .i64 (x : Nat)) h') : CallsV Tryz.prog 44 [.pointer (some ⟨b, 0, none⟩), .int .i64 n] h Q := by
  refine CallsV.start Tryz.func44 rfl (by rw [Tryz.results44]) (by kernel_rfl) (by rw [Tryz.ntmps44]; simp) ?_
  by_cases c1 : n ≤ 1
  · simp (disch := omega) only [VW, VY, VZ, VA, VB, VC, VE, TY, ↓reduceIte, Nat.reduceEqDiff, Nat.reduceAdd, Nat.reduceMul, Nat.reduceSub, Nat.reduceLeDiff, List.length_cons, List.length_nil, List.length_append, List.append_assoc, List.take_succ_cons, List.take_zero, List.drop_succ_cons, List.drop_zero, List.set_cons_zero, List.set_cons_succ, true_or, or_true, and_self, Bool.false_eq_true, Nat.le_refl, Option.bind_some, Option.map_some, Option.getD_some, Option.isSome_some, List.map_cons, List.map_nil, List.cons_append, List.nil_append, List.append_nil, List.getElem?_cons_zero, List.getElem?_cons_succ, eq_self, Int.reduceLT, Int.reduceLE, Int.reduceNeg, Int.reduceEq, c1]
    exact hQ 0 (.inl rfl) _ (c.up (by omega))
  · obtain ⟨m, hm⟩ : ∃ m : Nat, n = m := ⟨n.toNat, by omega⟩
    subst hm
    simp (disch := omega) only [VW, VY, VZ, VA, VB, VC, VE, TY, ↓reduceIte, Nat.reduceEqDiff, Nat.reduceAdd, Nat.reduceMul, Nat.reduceSub, Nat.reduceLeDiff, List.length_cons, List.length_nil, List.length_append, List.append_assoc, List.take_succ_cons, List.take_zero, List.drop_succ_cons, List.drop_zero, List.set_cons_zero, List.set_cons_succ, true_or, or_true, and_self, Bool.false_eq_true, Nat.le_refl, Option.bind_some, Option.map_some, Option.getD_some, Option.isSome_some, List.map_cons, List.map_nil, List.cons_append, List.nil_append, List.append_nil, List.getElem?_cons_zero, List.getElem?_cons_succ, eq_self, Int.reduceLT, Int.reduceLE, Int.reduceNeg, Int.reduceEq, c1]
    refine .inl ⟨by kernel_rfl, ?_⟩; refine next_c r hl (by omega) c fun x hx h1 c => ?_
    have z : ¬ (m : Int) = 0 := by omega
    by_cases c2 : (200 : Int) < (m : Int)
    · simp (disch := omega) only [VW, VY, VZ, VA, VB, VC, VE, TY, ↓reduceIte, Nat.reduceEqDiff, Nat.reduceAdd, Nat.reduceMul, Nat.reduceSub, Nat.reduceLeDiff, List.length_cons, List.length_nil, List.length_append, List.append_assoc, List.take_succ_cons, List.take_zero, List.drop_succ_cons, List.drop_zero, List.set_cons_zero, List.set_cons_succ, true_or, or_true, and_self, Bool.false_eq_true, Nat.le_refl, Option.bind_some, Option.map_some, Option.getD_some, Option.isSome_some, List.map_cons, List.map_nil, List.cons_append, List.nil_append, List.append_nil, List.getElem?_cons_zero, List.getElem?_cons_succ, eq_self, Int.reduceLT, Int.reduceLE, Int.reduceNeg, Int.reduceEq, c2, wrap_in]
      refine .inl ⟨by kernel_rfl, ?_⟩; refine next_c r hl (by omega) c fun y hy h2 c => ?_
      have e1 : (x : Int) * 256 + (y : Int) = ((x * 256 + y : Nat) : Int) := by omega
      have tm := tmod_nat (x * 256 + y) m
      have hlt : (x * 256 + y) % m < m := Nat.mod_lt _ (by omega)
      simp (disch := omega) only [VW, VY, VZ, VA, VB, VC, VE, TY, ↓reduceIte, Nat.reduceEqDiff, Nat.reduceAdd, Nat.reduceMul, Nat.reduceSub, Nat.reduceLeDiff, List.length_cons, List.length_nil, List.length_append, List.append_assoc, List.take_succ_cons, List.take_zero, List.drop_succ_cons, List.drop_zero, List.set_cons_zero, List.set_cons_succ, true_or, or_true, and_self, Bool.false_eq_true, Nat.le_refl, Option.bind_some, Option.map_some, Option.getD_some, Option.isSome_some, List.map_cons, List.map_nil, List.cons_append, List.nil_append, List.append_nil, List.getElem?_cons_zero, List.getElem?_cons_succ, eq_self, Int.reduceLT, Int.reduceLE, Int.reduceNeg, Int.reduceEq, wrap_in, e1, z, tm]
      exact hQ _ (.inr (by omega)) _ c
    · have tm := tmod_nat x m
      have hlt : x % m < m := Nat.mod_lt _ (by omega)
      simp (disch := omega) only [VW, VY, VZ, VA, VB, VC, VE, TY, ↓reduceIte, Nat.reduceEqDiff, Nat.reduceAdd, Nat.reduceMul, Nat.reduceSub, Nat.reduceLeDiff, List.length_cons, List.length_nil, List.length_append, List.append_assoc, List.take_succ_cons, List.take_zero, List.drop_succ_cons, List.drop_zero, List.set_cons_zero, List.set_cons_succ, true_or, or_true, and_self, Bool.false_eq_true, Nat.le_refl, Option.bind_some, Option.map_some, Option.getD_some, Option.isSome_some, List.map_cons, List.map_nil, List.cons_append, List.nil_append, List.append_nil, List.getElem?_cons_zero, List.getElem?_cons_succ, eq_self, Int.reduceLT, Int.reduceLE, Int.reduceNeg, Int.reduceEq, c2, z, tm, wrap_in]
      exact hQ _ (.inr (by omega)) _ (c.up (by omega))
theorem one_c {n : Int} (r : Row a code vc) (hl : code.length ≤ 1048576) (hB : B ≤ 100000000000) (c : Cur a h b vc B L) (hn : n ≤ 1000000000)
    (hQ : ∀ x : Bool, ∀ h', Cur a h' b vc (B + 2) L → Q (.bool x) h') : CallsV Tryz.prog 43 [.pointer (some ⟨b, 0, none⟩), .int .i64 n] h Q := by
  refine CallsV.start Tryz.func43 rfl (by rw [Tryz.results43]) (by kernel_rfl) (by rw [Tryz.ntmps43]; simp) ?_
  simp (disch := omega) only [VW, VY, VZ, VA, VB, VC, VE, TY, ↓reduceIte, Nat.reduceEqDiff, Nat.reduceAdd, Nat.reduceMul, Nat.reduceSub, Nat.reduceLeDiff, List.length_cons, List.length_nil, List.length_append, List.append_assoc, List.take_succ_cons, List.take_zero, List.drop_succ_cons, List.drop_zero, List.set_cons_zero, List.set_cons_succ, true_or, or_true, and_self, Bool.false_eq_true, Nat.le_refl, Option.bind_some, Option.map_some, Option.getD_some, Option.isSome_some, List.map_cons, List.map_nil, List.cons_append, List.nil_append, List.append_nil, List.getElem?_cons_zero, List.getElem?_cons_succ, eq_self, Int.reduceLT, Int.reduceLE, Int.reduceNeg, Int.reduceEq]
  refine .inl ⟨by kernel_rfl, ?_⟩; refine pick_c r hl hB c hn fun x hx h1 c => ?_
  simp (disch := omega) only [VW, VY, VZ, VA, VB, VC, VE, TY, ↓reduceIte, Nat.reduceEqDiff, Nat.reduceAdd, Nat.reduceMul, Nat.reduceSub, Nat.reduceLeDiff, List.length_cons, List.length_nil, List.length_append, List.append_assoc, List.take_succ_cons, List.take_zero, List.drop_succ_cons, List.drop_zero, List.set_cons_zero, List.set_cons_succ, true_or, or_true, and_self, Bool.false_eq_true, Nat.le_refl, Option.bind_some, Option.map_some, Option.getD_some, Option.isSome_some, List.map_cons, List.map_nil, List.cons_append, List.nil_append, List.append_nil, List.getElem?_cons_zero, List.getElem?_cons_succ, eq_self, Int.reduceLT, Int.reduceLE, Int.reduceNeg, Int.reduceEq]
  exact hQ _ _ c
theorem among_c {l : List Int} {v : Value} (r : Row a code vc) (hl : code.length ≤ 1048576) (hB : B ≤ 100000000000) (c : Cur a h b vc B (repA l [v] :: L)) (hne : 0 < l.length ∧ l.length ≤ 1000)
    (hQ : ∀ x ∈ l, inI64 x → ∀ h', Cur a h' b vc (B + 2) L → Q (.int .i64 x) h') : CallsV Tryz.prog 51 [.pointer (some ⟨b, 0, none⟩), v] h Q := by
  refine CallsV.start Tryz.func51 rfl (by rw [Tryz.results51]) (by kernel_rfl) (by rw [Tryz.ntmps51]; simp) ?_
  have rv := c.rest.rowR
  simp (disch := omega) only [VW, VY, VZ, VA, VB, VC, VE, TY, ↓reduceIte, Nat.reduceEqDiff, Nat.reduceAdd, Nat.reduceMul, Nat.reduceSub, Nat.reduceLeDiff, List.length_cons, List.length_nil, List.length_append, List.append_assoc, List.take_succ_cons, List.take_zero, List.drop_succ_cons, List.drop_zero, List.set_cons_zero, List.set_cons_succ, true_or, or_true, and_self, Bool.false_eq_true, Nat.le_refl, Option.bind_some, Option.map_some, Option.getD_some, Option.isSome_some, List.map_cons, List.map_nil, List.cons_append, List.nil_append, List.append_nil, List.getElem?_cons_zero, List.getElem?_cons_succ, eq_self, Int.reduceLT, Int.reduceLE, Int.reduceNeg, Int.reduceEq, rv.isRow.len]
  refine .inl ⟨by kernel_rfl, ?_⟩; refine pick_c r hl hB c (by omega) fun i hi h1 c => ?_
  have rv := c.rest.rowR
  obtain ⟨x, hx⟩ := get_some (show i < l.length by omega)
  obtain ⟨x3, x4⟩ := row_int rv hx
  simp (disch := omega) only [VW, VY, VZ, VA, VB, VC, VE, TY, ↓reduceIte, Nat.reduceEqDiff, Nat.reduceAdd, Nat.reduceMul, Nat.reduceSub, Nat.reduceLeDiff, List.length_cons, List.length_nil, List.length_append, List.append_assoc, List.take_succ_cons, List.take_zero, List.drop_succ_cons, List.drop_zero, List.set_cons_zero, List.set_cons_succ, true_or, or_true, and_self, Bool.false_eq_true, Nat.le_refl, Option.bind_some, Option.map_some, Option.getD_some, Option.isSome_some, List.map_cons, List.map_nil, List.cons_append, List.nil_append, List.append_nil, List.getElem?_cons_zero, List.getElem?_cons_succ, eq_self, Int.reduceLT, Int.reduceLE, Int.reduceNeg, Int.reduceEq, rv.isRow.ix, x3]
  obtain ⟨t, sd, h1, h2, s⟩ := c
  exact hQ x (List.mem_of_getElem? hx) x4 _ ⟨t, sd, h1, h2, s.swap.tail⟩
theorem of_c {l : List ByteArray} {v : Value} (r : Row a code vc) (hl : code.length ≤ 1048576) (hB : B ≤ 100000000000) (c : Cur a h b vc B (repA l [v] :: L)) (hne : 0 < l.length ∧ l.length ≤ 1000)
    (hQ : ∀ x ∈ l, ∀ h', Cur a h' b vc (B + 2) L → Q (.string x) h') : CallsV Tryz.prog 45 [.pointer (some ⟨b, 0, none⟩), v] h Q := by
  refine CallsV.start Tryz.func45 rfl (by rw [Tryz.results45]) (by kernel_rfl) (by rw [Tryz.ntmps45]; simp) ?_
  have rv := c.rest.rowR
  simp (disch := omega) only [VW, VY, VZ, VA, VB, VC, VE, TY, ↓reduceIte, Nat.reduceEqDiff, Nat.reduceAdd, Nat.reduceMul, Nat.reduceSub, Nat.reduceLeDiff, List.length_cons, List.length_nil, List.length_append, List.append_assoc, List.take_succ_cons, List.take_zero, List.drop_succ_cons, List.drop_zero, List.set_cons_zero, List.set_cons_succ, true_or, or_true, and_self, Bool.false_eq_true, Nat.le_refl, Option.bind_some, Option.map_some, Option.getD_some, Option.isSome_some, List.map_cons, List.map_nil, List.cons_append, List.nil_append, List.append_nil, List.getElem?_cons_zero, List.getElem?_cons_succ, eq_self, Int.reduceLT, Int.reduceLE, Int.reduceNeg, Int.reduceEq, rv.isRow.len]
  refine .inl ⟨by kernel_rfl, ?_⟩; refine pick_c r hl hB c (by omega) fun i hi h1 c => ?_
  have rv := c.rest.rowR
  obtain ⟨x, hx⟩ := get_some (show i < l.length by omega)
  obtain ⟨x3, x4⟩ := row_str rv hx
  simp (disch := omega) only [VW, VY, VZ, VA, VB, VC, VE, TY, ↓reduceIte, Nat.reduceEqDiff, Nat.reduceAdd, Nat.reduceMul, Nat.reduceSub, Nat.reduceLeDiff, List.length_cons, List.length_nil, List.length_append, List.append_assoc, List.take_succ_cons, List.take_zero, List.drop_succ_cons, List.drop_zero, List.set_cons_zero, List.set_cons_succ, true_or, or_true, and_self, Bool.false_eq_true, Nat.le_refl, Option.bind_some, Option.map_some, Option.getD_some, Option.isSome_some, List.map_cons, List.map_nil, List.cons_append, List.nil_append, List.append_nil, List.getElem?_cons_zero, List.getElem?_cons_succ, eq_self, Int.reduceLT, Int.reduceLE, Int.reduceNeg, Int.reduceEq, rv.isRow.ix, x3]
  obtain ⟨t, sd, h1, h2, s⟩ := c
  exact hQ x (List.mem_of_getElem? hx) _ ⟨t, sd, h1, h2, s.swap.tail⟩
def digs7 : ByteArray := ⟨#[48, 48, 49, 50, 51, 52, 55]⟩
theorem path_c (r : Row a code vc) (hl : code.length ≤ 1048576) (hB : B ≤ 10000000000) (c : Cur a h b vc B L)
    (hQ : ∀ p : ByteArray, p.size ≤ 8 → ∀ h', Cur a h' b vc (B + 10) L → Q (.string p) h') : CallsV Tryz.prog 50 [.pointer (some ⟨b, 0, none⟩)] h Q := by
  refine CallsV.start Tryz.func50 rfl (by rw [Tryz.results50]) (by kernel_rfl) (by rw [Tryz.ntmps50]; simp) ?_
  simp (disch := omega) only [VW, VY, VZ, VA, VB, VC, VE, TY, ↓reduceIte, Nat.reduceEqDiff, Nat.reduceAdd, Nat.reduceMul, Nat.reduceSub, Nat.reduceLeDiff, List.length_cons, List.length_nil, List.length_append, List.append_assoc, List.take_succ_cons, List.take_zero, List.drop_succ_cons, List.drop_zero, List.set_cons_zero, List.set_cons_succ, true_or, or_true, and_self, Bool.false_eq_true, Nat.le_refl, Option.bind_some, Option.map_some, Option.getD_some, Option.isSome_some, List.map_cons, List.map_nil, List.cons_append, List.nil_append, List.append_nil, List.getElem?_cons_zero, List.getElem?_cons_succ, eq_self, Int.reduceLT, Int.reduceLE, Int.reduceNeg, Int.reduceEq]
  refine .inl ⟨by kernel_rfl, ?_⟩; refine pick_c r hl (by omega) c (by decide) fun n hn h1 c => ?_
  have hn : n ≤ 3 := by omega
  simp (disch := omega) only [VW, VY, VZ, VA, VB, VC, VE, TY, ↓reduceIte, Nat.reduceEqDiff, Nat.reduceAdd, Nat.reduceMul, Nat.reduceSub, Nat.reduceLeDiff, List.length_cons, List.length_nil, List.length_append, List.append_assoc, List.take_succ_cons, List.take_zero, List.drop_succ_cons, List.drop_zero, List.set_cons_zero, List.set_cons_succ, true_or, or_true, and_self, Bool.false_eq_true, Nat.le_refl, Option.bind_some, Option.map_some, Option.getD_some, Option.isSome_some, List.map_cons, List.map_nil, List.cons_append, List.nil_append, List.append_nil, List.getElem?_cons_zero, List.getElem?_cons_succ, eq_self, Int.reduceLT, Int.reduceLE, Int.reduceNeg, Int.reduceEq]
  refine loop_rule (fun k e h' => ∃ (s : ByteArray), e 0 = .pointer (some ⟨b, 0, none⟩) ∧ e 3 = .string s ∧ e 4 = .int .i64 (k : Nat) ∧ k ≤ 3 ∧ s.size ≤ 3 - k ∧ Cur a h' b vc (B + 2 + 2 * (3 - k)) L) ?_ n _ _
    ⟨⟨#[]⟩, rfl, rfl, rfl, hn, Nat.zero_le _, c.up (by omega)⟩
  clear c
  rintro k e h2 ⟨s, e0, e3, e4, hk, hs, c⟩
  cases k with
  | zero =>
    have q : ¬ (0 : Int) < ((0 : Nat) : Int) := by decide
    have q' : ¬ (0 : Int) < 0 := by decide
    simp (disch := omega) only [VW, VY, VZ, VA, VB, VC, VE, TY, ↓reduceIte, Nat.reduceEqDiff, Nat.reduceAdd, Nat.reduceMul, Nat.reduceSub, Nat.reduceLeDiff, List.length_cons, List.length_nil, List.length_append, List.append_assoc, List.take_succ_cons, List.take_zero, List.drop_succ_cons, List.drop_zero, List.set_cons_zero, List.set_cons_succ, true_or, or_true, and_self, Bool.false_eq_true, Nat.le_refl, Option.bind_some, Option.map_some, Option.getD_some, Option.isSome_some, List.map_cons, List.map_nil, List.cons_append, List.nil_append, List.append_nil, List.getElem?_cons_zero, List.getElem?_cons_succ, eq_self, Int.reduceLT, Int.reduceLE, Int.reduceNeg, Int.reduceEq, e4, q, q', e0]
    refine .inl ⟨by kernel_rfl, ?_⟩; refine one_c r hl (by omega) c (by decide) fun x h3 c => ?_
    cases x with
    | false =>
      simp (disch := omega) only [VW, VY, VZ, VA, VB, VC, VE, TY, ↓reduceIte, Nat.reduceEqDiff, Nat.reduceAdd, Nat.reduceMul, Nat.reduceSub, Nat.reduceLeDiff, List.length_cons, List.length_nil, List.length_append, List.append_assoc, List.take_succ_cons, List.take_zero, List.drop_succ_cons, List.drop_zero, List.set_cons_zero, List.set_cons_succ, true_or, or_true, and_self, Bool.false_eq_true, Nat.le_refl, Option.bind_some, Option.map_some, Option.getD_some, Option.isSome_some, List.map_cons, List.map_nil, List.cons_append, List.nil_append, List.append_nil, List.getElem?_cons_zero, List.getElem?_cons_succ, eq_self, Int.reduceLT, Int.reduceLE, Int.reduceNeg, Int.reduceEq, e3]
      exact hQ s (by omega) _ (c.up (by omega))
    | true =>
      simp (disch := omega) only [VW, VY, VZ, VA, VB, VC, VE, TY, ↓reduceIte, Nat.reduceEqDiff, Nat.reduceAdd, Nat.reduceMul, Nat.reduceSub, Nat.reduceLeDiff, List.length_cons, List.length_nil, List.length_append, List.append_assoc, List.take_succ_cons, List.take_zero, List.drop_succ_cons, List.drop_zero, List.set_cons_zero, List.set_cons_succ, true_or, or_true, and_self, Bool.false_eq_true, Nat.le_refl, Option.bind_some, Option.map_some, Option.getD_some, Option.isSome_some, List.map_cons, List.map_nil, List.cons_append, List.nil_append, List.append_nil, List.getElem?_cons_zero, List.getElem?_cons_succ, eq_self, Int.reduceLT, Int.reduceLE, Int.reduceNeg, Int.reduceEq]
      refine loop_rule (fun k e h' => ∃ (s : ByteArray), e 3 = .string s ∧ s.size ≤ 8 ∧ k = 8 - s.size ∧ h' = h3) ?_ (8 - s.size) _ _ ⟨s, e3, by omega, rfl, rfl⟩
      rintro k e h4 ⟨s, e3, hs, rfl, rfl⟩
      by_cases c8 : s.size < 8
      · have q1 : (s.size : Int) < 8 := by omega
        have z1 : (⟨#[51]⟩ : ByteArray).size = 1 := rfl
        have a1 := str_add s ⟨#[51]⟩ (by omega)
        have a2 := size_append s ⟨#[51]⟩
        simp (disch := omega) only [VW, VY, VZ, VA, VB, VC, VE, TY, ↓reduceIte, Nat.reduceEqDiff, Nat.reduceAdd, Nat.reduceMul, Nat.reduceSub, Nat.reduceLeDiff, List.length_cons, List.length_nil, List.length_append, List.append_assoc, List.take_succ_cons, List.take_zero, List.drop_succ_cons, List.drop_zero, List.set_cons_zero, List.set_cons_succ, true_or, or_true, and_self, Bool.false_eq_true, Nat.le_refl, Option.bind_some, Option.map_some, Option.getD_some, Option.isSome_some, List.map_cons, List.map_nil, List.cons_append, List.nil_append, List.append_nil, List.getElem?_cons_zero, List.getElem?_cons_succ, eq_self, Int.reduceLT, Int.reduceLE, Int.reduceNeg, Int.reduceEq, e3, q1, a1]
        exact ⟨_, by omega, _, rfl, by omega, rfl⟩
      · have q1 : ¬ (s.size : Int) < 8 := by omega
        simp (disch := omega) only [VW, VY, VZ, VA, VB, VC, VE, TY, ↓reduceIte, Nat.reduceEqDiff, Nat.reduceAdd, Nat.reduceMul, Nat.reduceSub, Nat.reduceLeDiff, List.length_cons, List.length_nil, List.length_append, List.append_assoc, List.take_succ_cons, List.take_zero, List.drop_succ_cons, List.drop_zero, List.set_cons_zero, List.set_cons_succ, true_or, or_true, and_self, Bool.false_eq_true, Nat.le_refl, Option.bind_some, Option.map_some, Option.getD_some, Option.isSome_some, List.map_cons, List.map_nil, List.cons_append, List.nil_append, List.append_nil, List.getElem?_cons_zero, List.getElem?_cons_succ, eq_self, Int.reduceLT, Int.reduceLE, Int.reduceNeg, Int.reduceEq, e3, q1]
        exact hQ s hs _ (c.up (by omega))
  | succ k =>
    have q : (0 : Int) < ((k + 1 : Nat) : Int) := by omega
    have kk : ((k + 1 : Nat) : Int) - 1 = (k : Int) := by omega
    simp (disch := omega) only [VW, VY, VZ, VA, VB, VC, VE, TY, ↓reduceIte, Nat.reduceEqDiff, Nat.reduceAdd, Nat.reduceMul, Nat.reduceSub, Nat.reduceLeDiff, List.length_cons, List.length_nil, List.length_append, List.append_assoc, List.take_succ_cons, List.take_zero, List.drop_succ_cons, List.drop_zero, List.set_cons_zero, List.set_cons_succ, true_or, or_true, and_self, Bool.false_eq_true, Nat.le_refl, Option.bind_some, Option.map_some, Option.getD_some, Option.isSome_some, List.map_cons, List.map_nil, List.cons_append, List.nil_append, List.append_nil, List.getElem?_cons_zero, List.getElem?_cons_succ, eq_self, Int.reduceLT, Int.reduceLE, Int.reduceNeg, Int.reduceEq, e4, q, e0, e3]
    refine .inl ⟨by kernel_rfl, ?_⟩; refine pick_c r hl (by omega) c (by decide) fun i hi h3 c => ?_
    have z7 : digs7.size = 7 := rfl
    have d7 : (⟨#[48, 48, 49, 50, 51, 52, 55]⟩ : ByteArray) = digs7 := rfl
    have w1 : (digs7.extract i 7).size = 7 - i := by rw [ByteArray.size_extract, z7]; omega
    have w2 : ((digs7.extract i 7).extract 0 1).size = 1 := by rw [ByteArray.size_extract, w1]; omega
    have a1 := str_add s ((digs7.extract i 7).extract 0 1) (by omega)
    have a2 := size_append s ((digs7.extract i 7).extract 0 1)
    have k0 : (0 : Int) ≤ (i : Int) := by omega
    have k1 : (i : Int) ≤ ((7 : Nat) : Int) := by omega
    have k2 : (1 : Int) ≤ ((7 - i : Nat) : Int) := by omega
    have t1 : Int.toNat 1 = 1 := rfl
    simp (disch := omega) only [VW, VY, VZ, VA, VB, VC, VE, TY, ↓reduceIte, Nat.reduceEqDiff, Nat.reduceAdd, Nat.reduceMul, Nat.reduceSub, Nat.reduceLeDiff, List.length_cons, List.length_nil, List.length_append, List.append_assoc, List.take_succ_cons, List.take_zero, List.drop_succ_cons, List.drop_zero, List.set_cons_zero, List.set_cons_succ, true_or, or_true, and_self, Bool.false_eq_true, Nat.le_refl, Option.bind_some, Option.map_some, Option.getD_some, Option.isSome_some, List.map_cons, List.map_nil, List.cons_append, List.nil_append, List.append_nil, List.getElem?_cons_zero, List.getElem?_cons_succ, eq_self, Int.reduceLT, Int.reduceLE, Int.reduceNeg, Int.reduceEq, d7, z7, k0, k1, k2, w1, t1, a1, e0, e4, kk, wrap_in]
    exact ⟨k, by omega, _, rfl, rfl, by omega, by omega, c.up (by omega)⟩
end
end Go.Proofs
end

section
set_option linter.unusedSimpArgs false
set_option linter.unusedVariables false
set_option maxRecDepth 4000
namespace Go.Proofs
open Go Go.V
set_option linter.unusedSectionVars false
variable [Laid Tryz.prog]
/- Marks that are drawn. -/
theorem mark_c {a h : Heap} {b : Nat} {vc : Value} {B : Nat} {L : List Asr} {code : List UInt8} {Q : Value → Heap → Prop} (r : Row a code vc) (hl : code.length ≤ 1048576) (hB : B ≤ 1000000000) (c : Cur a h b vc B L)
    (hQ : ∀ m : Mk, m.path.size ≤ 9 → inI64 m.kind → ∀ h', Cur a h' b vc (B + 20) L → Q (.agg #[.string m.path, .int .i64 m.kind]) h') : CallsV Tryz.prog 24 [.pointer (some ⟨b, 0, none⟩)] h Q := by
  refine CallsV.start Tryz.func24 rfl (by rw [Tryz.results24]) (by kernel_rfl) (by rw [Tryz.ntmps24]; simp) ?_
  have c := c.add (Sep.blk1 h [.string ⟨#[]⟩, .int .i64 0] 26 true)
  simp (disch := omega) only [VW, VY, VZ, VA, VB, VC, VE, TY, ↓reduceIte, Nat.reduceEqDiff, Nat.reduceAdd, Nat.reduceMul, Nat.reduceSub, Nat.reduceLeDiff, List.length_cons, List.length_nil, List.length_append, List.append_assoc, List.take_succ_cons, List.take_zero, List.drop_succ_cons, List.drop_zero, List.set_cons_zero, List.set_cons_succ, true_or, or_true, and_self, Bool.false_eq_true, Nat.le_refl, Option.bind_some, Option.map_some, Option.getD_some, Option.isSome_some, List.map_cons, List.map_nil, List.cons_append, List.nil_append, List.append_nil, List.getElem?_cons_zero, List.getElem?_cons_succ, eq_self, Int.reduceLT, Int.reduceLE, Int.reduceNeg, Int.reduceEq]
  refine .inl ⟨by kernel_rfl, ?_⟩; refine path_c r hl (by omega) c fun p hp h1 c => ?_
  simp (disch := omega) only [VW, VY, VZ, VA, VB, VC, VE, TY, ↓reduceIte, Nat.reduceEqDiff, Nat.reduceAdd, Nat.reduceMul, Nat.reduceSub, Nat.reduceLeDiff, List.length_cons, List.length_nil, List.length_append, List.append_assoc, List.take_succ_cons, List.take_zero, List.drop_succ_cons, List.drop_zero, List.set_cons_zero, List.set_cons_succ, true_or, or_true, and_self, Bool.false_eq_true, Nat.le_refl, Option.bind_some, Option.map_some, Option.getD_some, Option.isSome_some, List.map_cons, List.map_nil, List.cons_append, List.nil_append, List.append_nil, List.getElem?_cons_zero, List.getElem?_cons_succ, eq_self, Int.reduceLT, Int.reduceLE, Int.reduceNeg, Int.reduceEq]
  refine .inl ⟨by kernel_rfl, ?_⟩; refine pick_c r hl (by omega) c (by decide) fun k hk h2 c => ?_
  simp (disch := omega) only [VW, VY, VZ, VA, VB, VC, VE, TY, ↓reduceIte, Nat.reduceEqDiff, Nat.reduceAdd, Nat.reduceMul, Nat.reduceSub, Nat.reduceLeDiff, List.length_cons, List.length_nil, List.length_append, List.append_assoc, List.take_succ_cons, List.take_zero, List.drop_succ_cons, List.drop_zero, List.set_cons_zero, List.set_cons_succ, true_or, or_true, and_self, Bool.false_eq_true, Nat.le_refl, Option.bind_some, Option.map_some, Option.getD_some, Option.isSome_some, List.map_cons, List.map_nil, List.cons_append, List.nil_append, List.append_nil, List.getElem?_cons_zero, List.getElem?_cons_succ, eq_self, Int.reduceLT, Int.reduceLE, Int.reduceNeg, Int.reduceEq, wrap_in]
  have hk3 : k ≤ 2 := by omega
  have c := c.add (Sep.blk1 h2 [.string p, .int .i64 (1 + (k : Int))] 26 true)
  refine .inl ⟨by kernel_rfl, ?_⟩; refine pick_c r hl (by omega) c (by decide) fun x hx h3 c => ?_
  simp (disch := omega) only [VW, VY, VZ, VA, VB, VC, VE, TY, ↓reduceIte, Nat.reduceEqDiff, Nat.reduceAdd, Nat.reduceMul, Nat.reduceSub, Nat.reduceLeDiff, List.length_cons, List.length_nil, List.length_append, List.append_assoc, List.take_succ_cons, List.take_zero, List.drop_succ_cons, List.drop_zero, List.set_cons_zero, List.set_cons_succ, true_or, or_true, and_self, Bool.false_eq_true, Nat.le_refl, Option.bind_some, Option.map_some, Option.getD_some, Option.isSome_some, List.map_cons, List.map_nil, List.cons_append, List.nil_append, List.append_nil, List.getElem?_cons_zero, List.getElem?_cons_succ, eq_self, Int.reduceLT, Int.reduceLE, Int.reduceNeg, Int.reduceEq]
  refine cond_cutD (fun e' h' => ∃ m : Mk, m.path.size ≤ 9 ∧ inI64 m.kind ∧ e' 2 = .pointer (some ⟨h.length, 0, none⟩) ∧ e' 3 = .pointer (some ⟨h2.length, 0, none⟩) ∧ Cur a h' b vc (B + 16) (blkA h2.length [.string m.path, .int .i64 m.kind] 26 :: blkA h.length [.string ⟨#[]⟩, .int .i64 0] 26 :: L)) ?_ ?_
  · clear c
    rintro e h4 ⟨m, hm, hk, e2, e3, t, sd, ht, hsd, s⟩
    have s := s.pull 1 rfl
    have ga := s.rdAll (n := 2) rfl
    simp (disch := omega) only [VW, VY, VZ, VA, VB, VC, VE, TY, ↓reduceIte, Nat.reduceEqDiff, Nat.reduceAdd, Nat.reduceMul, Nat.reduceSub, Nat.reduceLeDiff, List.length_cons, List.length_nil, List.length_append, List.append_assoc, List.take_succ_cons, List.take_zero, List.drop_succ_cons, List.drop_zero, List.set_cons_zero, List.set_cons_succ, true_or, or_true, and_self, Bool.false_eq_true, Nat.le_refl, Option.bind_some, Option.map_some, Option.getD_some, Option.isSome_some, List.map_cons, List.map_nil, List.cons_append, List.nil_append, List.append_nil, List.getElem?_cons_zero, List.getElem?_cons_succ, eq_self, Int.reduceLT, Int.reduceLE, Int.reduceNeg, Int.reduceEq, e2, e3, ga]
    refine sep_store (s.pull 2 rfl) (by simp) fun h5 s => ?_
    have s := s.as (ds := [.string m.path, .int .i64 m.kind]) (by simp [t_put])
    have ga := s.rdAll (n := 2) rfl
    simp (disch := omega) only [VW, VY, VZ, VA, VB, VC, VE, TY, ↓reduceIte, Nat.reduceEqDiff, Nat.reduceAdd, Nat.reduceMul, Nat.reduceSub, Nat.reduceLeDiff, List.length_cons, List.length_nil, List.length_append, List.append_assoc, List.take_succ_cons, List.take_zero, List.drop_succ_cons, List.drop_zero, List.set_cons_zero, List.set_cons_succ, true_or, or_true, and_self, Bool.false_eq_true, Nat.le_refl, Option.bind_some, Option.map_some, Option.getD_some, Option.isSome_some, List.map_cons, List.map_nil, List.cons_append, List.nil_append, List.append_nil, List.getElem?_cons_zero, List.getElem?_cons_succ, eq_self, Int.reduceLT, Int.reduceLE, Int.reduceNeg, Int.reduceEq, e2, ga]
    exact hQ m hm hk _ ⟨t, sd, by omega, hsd, ((s.tail).tail.pull 0 rfl)⟩
  · intro K key
    by_cases c0 : x = 0
    · have c0' : decide ((x : Int) = 0) = true := by simpa using c0
      simp (disch := omega) only [VW, VY, VZ, VA, VB, VC, VE, TY, ↓reduceIte, Nat.reduceEqDiff, Nat.reduceAdd, Nat.reduceMul, Nat.reduceSub, Nat.reduceLeDiff, List.length_cons, List.length_nil, List.length_append, List.append_assoc, List.take_succ_cons, List.take_zero, List.drop_succ_cons, List.drop_zero, List.set_cons_zero, List.set_cons_succ, true_or, or_true, and_self, Bool.false_eq_true, Nat.le_refl, Option.bind_some, Option.map_some, Option.getD_some, Option.isSome_some, List.map_cons, List.map_nil, List.cons_append, List.nil_append, List.append_nil, List.getElem?_cons_zero, List.getElem?_cons_succ, eq_self, Int.reduceLT, Int.reduceLE, Int.reduceNeg, Int.reduceEq, c0']
      have c := c.add (((Sep.blk1 h3 [.int .i64 0, .int .i64 4, .int .i64 (-1)] 3 true).blkRow (l := [(0 : Int), 4, -1]) (n := 3) ⟨[[], [], []], ⟨[_], [], _, _, rfl, rfl, rep_int ⟨by decide, by decide⟩, ⟨[_], [], _, _, rfl, rfl, rep_int ⟨by decide, by decide⟩, ⟨[_], [], _, _, rfl, rfl, rep_int ⟨by decide, by decide⟩, rfl, rfl⟩⟩⟩, rfl⟩ rfl (by decide)))
      refine .inl ⟨by kernel_rfl, ?_⟩; refine among_c r hl (by omega) c (by decide) fun y hy hyi h4 c => ?_
      obtain ⟨t, sd, ht, hsd, s⟩ := c
      simp (disch := omega) only [VW, VY, VZ, VA, VB, VC, VE, TY, ↓reduceIte, Nat.reduceEqDiff, Nat.reduceAdd, Nat.reduceMul, Nat.reduceSub, Nat.reduceLeDiff, List.length_cons, List.length_nil, List.length_append, List.append_assoc, List.take_succ_cons, List.take_zero, List.drop_succ_cons, List.drop_zero, List.set_cons_zero, List.set_cons_succ, true_or, or_true, and_self, Bool.false_eq_true, Nat.le_refl, Option.bind_some, Option.map_some, Option.getD_some, Option.isSome_some, List.map_cons, List.map_nil, List.cons_append, List.nil_append, List.append_nil, List.getElem?_cons_zero, List.getElem?_cons_succ, eq_self, Int.reduceLT, Int.reduceLE, Int.reduceNeg, Int.reduceEq]
      refine sep_store (s.pull 1 rfl) (by simp) fun h5 s => ?_
      have s := s.as (ds := [.string p, .int .i64 y]) (by simp [t_put])
      simp (disch := omega) only [VW, VY, VZ, VA, VB, VC, VE, TY, ↓reduceIte, Nat.reduceEqDiff, Nat.reduceAdd, Nat.reduceMul, Nat.reduceSub, Nat.reduceLeDiff, List.length_cons, List.length_nil, List.length_append, List.append_assoc, List.take_succ_cons, List.take_zero, List.drop_succ_cons, List.drop_zero, List.set_cons_zero, List.set_cons_succ, true_or, or_true, and_self, Bool.false_eq_true, Nat.le_refl, Option.bind_some, Option.map_some, Option.getD_some, Option.isSome_some, List.map_cons, List.map_nil, List.cons_append, List.nil_append, List.append_nil, List.getElem?_cons_zero, List.getElem?_cons_succ, eq_self, Int.reduceLT, Int.reduceLE, Int.reduceNeg, Int.reduceEq]
      exact key _ _ ⟨⟨p, y⟩, by simp only []; omega, hyi, rfl, rfl, t, sd, by omega, hsd, s.swap⟩
    · have c0' : decide ((x : Int) = 0) = false := by simpa using c0
      simp (disch := omega) only [VW, VY, VZ, VA, VB, VC, VE, TY, ↓reduceIte, Nat.reduceEqDiff, Nat.reduceAdd, Nat.reduceMul, Nat.reduceSub, Nat.reduceLeDiff, List.length_cons, List.length_nil, List.length_append, List.append_assoc, List.take_succ_cons, List.take_zero, List.drop_succ_cons, List.drop_zero, List.set_cons_zero, List.set_cons_succ, true_or, or_true, and_self, Bool.false_eq_true, Nat.le_refl, Option.bind_some, Option.map_some, Option.getD_some, Option.isSome_some, List.map_cons, List.map_nil, List.cons_append, List.nil_append, List.append_nil, List.getElem?_cons_zero, List.getElem?_cons_succ, eq_self, Int.reduceLT, Int.reduceLE, Int.reduceNeg, Int.reduceEq, c0']
      by_cases c1 : x = 1
      · have c1' : (x : Int) = 1 := by omega
        simp (disch := omega) only [VW, VY, VZ, VA, VB, VC, VE, TY, ↓reduceIte, Nat.reduceEqDiff, Nat.reduceAdd, Nat.reduceMul, Nat.reduceSub, Nat.reduceLeDiff, List.length_cons, List.length_nil, List.length_append, List.append_assoc, List.take_succ_cons, List.take_zero, List.drop_succ_cons, List.drop_zero, List.set_cons_zero, List.set_cons_succ, true_or, or_true, and_self, Bool.false_eq_true, Nat.le_refl, Option.bind_some, Option.map_some, Option.getD_some, Option.isSome_some, List.map_cons, List.map_nil, List.cons_append, List.nil_append, List.append_nil, List.getElem?_cons_zero, List.getElem?_cons_succ, eq_self, Int.reduceLT, Int.reduceLE, Int.reduceNeg, Int.reduceEq, c1']
        have c := c.add (((Sep.blk1 h3 [.string ⟨#[56]⟩, .string ⟨#[48, 32]⟩, .string ⟨#[48, 48, 48, 48, 48, 48, 48, 48, 48]⟩, .string ⟨#[58]⟩] 9 true).blkRow (l := [(⟨#[56]⟩ : ByteArray), ⟨#[48, 32]⟩, ⟨#[48, 48, 48, 48, 48, 48, 48, 48, 48]⟩, ⟨#[58]⟩]) (n := 4)
          ⟨[[], [], [], []], ⟨[_], [], _, _, rfl, rfl, ⟨rfl, rfl, by decide⟩, ⟨[_], [], _, _, rfl, rfl, ⟨rfl, rfl, by decide⟩, ⟨[_], [], _, _, rfl, rfl, ⟨rfl, rfl, by decide⟩, ⟨[_], [], _, _, rfl, rfl, ⟨rfl, rfl, by decide⟩, rfl, rfl⟩⟩⟩⟩, rfl⟩ rfl (by decide)))
        refine .inl ⟨by kernel_rfl, ?_⟩; refine of_c r hl (by omega) c (by decide) fun y hy h4 c => ?_
        have hys : y.size ≤ 9 := by
          have : ∀ z ∈ [(⟨#[56]⟩ : ByteArray), ⟨#[48, 32]⟩, ⟨#[48, 48, 48, 48, 48, 48, 48, 48, 48]⟩, ⟨#[58]⟩], z.size ≤ 9 := by decide
          exact this y hy
        obtain ⟨t, sd, ht, hsd, s⟩ := c
        simp (disch := omega) only [VW, VY, VZ, VA, VB, VC, VE, TY, ↓reduceIte, Nat.reduceEqDiff, Nat.reduceAdd, Nat.reduceMul, Nat.reduceSub, Nat.reduceLeDiff, List.length_cons, List.length_nil, List.length_append, List.append_assoc, List.take_succ_cons, List.take_zero, List.drop_succ_cons, List.drop_zero, List.set_cons_zero, List.set_cons_succ, true_or, or_true, and_self, Bool.false_eq_true, Nat.le_refl, Option.bind_some, Option.map_some, Option.getD_some, Option.isSome_some, List.map_cons, List.map_nil, List.cons_append, List.nil_append, List.append_nil, List.getElem?_cons_zero, List.getElem?_cons_succ, eq_self, Int.reduceLT, Int.reduceLE, Int.reduceNeg, Int.reduceEq]
        refine sep_store (s.pull 1 rfl) (by simp) fun h5 s => ?_
        have s := s.as (ds := [.string y, .int .i64 (1 + (k : Int))]) (by simp [t_put])
        simp (disch := omega) only [VW, VY, VZ, VA, VB, VC, VE, TY, ↓reduceIte, Nat.reduceEqDiff, Nat.reduceAdd, Nat.reduceMul, Nat.reduceSub, Nat.reduceLeDiff, List.length_cons, List.length_nil, List.length_append, List.append_assoc, List.take_succ_cons, List.take_zero, List.drop_succ_cons, List.drop_zero, List.set_cons_zero, List.set_cons_succ, true_or, or_true, and_self, Bool.false_eq_true, Nat.le_refl, Option.bind_some, Option.map_some, Option.getD_some, Option.isSome_some, List.map_cons, List.map_nil, List.cons_append, List.nil_append, List.append_nil, List.getElem?_cons_zero, List.getElem?_cons_succ, eq_self, Int.reduceLT, Int.reduceLE, Int.reduceNeg, Int.reduceEq]
        exact key _ _ ⟨⟨y, 1 + k⟩, hys, ⟨by simp only []; omega, by simp only []; omega⟩, rfl, rfl, t, sd, by omega, hsd, s.swap⟩
      · have c1' : ¬ (x : Int) = 1 := by omega
        simp (disch := omega) only [VW, VY, VZ, VA, VB, VC, VE, TY, ↓reduceIte, Nat.reduceEqDiff, Nat.reduceAdd, Nat.reduceMul, Nat.reduceSub, Nat.reduceLeDiff, List.length_cons, List.length_nil, List.length_append, List.append_assoc, List.take_succ_cons, List.take_zero, List.drop_succ_cons, List.drop_zero, List.set_cons_zero, List.set_cons_succ, true_or, or_true, and_self, Bool.false_eq_true, Nat.le_refl, Option.bind_some, Option.map_some, Option.getD_some, Option.isSome_some, List.map_cons, List.map_nil, List.cons_append, List.nil_append, List.append_nil, List.getElem?_cons_zero, List.getElem?_cons_succ, eq_self, Int.reduceLT, Int.reduceLE, Int.reduceNeg, Int.reduceEq, c1']
        exact key _ _ ⟨⟨p, 1 + k⟩, by simp only []; omega, ⟨by simp only []; omega, by simp only []; omega⟩, rfl, rfl, c.up (by omega)⟩
end Go.Proofs
end

section
set_option linter.unusedSimpArgs false
set_option linter.unusedVariables false
set_option maxRecDepth 4000
namespace Go.Proofs
open Go Go.V
/- Journals that are drawn. -/
theorem append_sz2 (j : Jn) (m : Mk) (hm : m.path.size ≤ 9) : (appendM j m).1.safe.size + (appendM j m).1.pending.size ≤ j.safe.size + j.pending.size + 2016 := by
  unfold appendM
  have z0 : jn0.safe.size = 0 := rfl
  have z1 : jn0.pending.size = 0 := rfl
  split
  · rename_i l hl
    have hn := marksJ_len hl
    have hz := lineB_size (n := l.length) m (by omega)
    have sz := size_append j.pending (lineB l.length m)
    split
    · simp only []; omega
    · simp only []; omega
  · simp only []; omega
theorem siz_le_Jn {j : Jn} (h : j.safe.size + j.pending.size ≤ 1000000) : Siz.siz j ≤ 1000000 := h
theorem siz_le_Mk {m : Mk} (h : m.path.size ≤ 1000000) : Siz.siz m ≤ 1000000 := h
def dig4 : ByteArray := ⟨#[48, 49, 50, 51]⟩
theorem journal_c {a h : Heap} {b : Nat} {vc : Value} {B : Nat} {L : List Asr} {code : List UInt8} {Q : Value → Heap → Prop} (r : Row a code vc) (hl : code.length ≤ 1048576) (hB : B ≤ 100000000) (c : Cur a h b vc B L)
    (hQ : ∀ j : Jn, j.safe.size + j.pending.size ≤ 120000 → ∀ h', Cur a h' b vc (B + 2000) L → Q (.agg #[.string j.safe, .string j.pending]) h') : CallsV Tryz.prog 48 [.pointer (some ⟨b, 0, none⟩)] h Q := by
  refine CallsV.start Tryz.func48 rfl (by rw [Tryz.results48]) (by kernel_rfl) (by rw [Tryz.ntmps48]; simp) ?_
  have c := c.add (Sep.blk2 h [.string ⟨#[]⟩, .string ⟨#[]⟩] [.string ⟨#[]⟩, .string ⟨#[]⟩] 24 24 true true)
  simp (disch := omega) only [VW, VY, VZ, VA, VB, VC, VE, TY, ↓reduceIte, Nat.reduceEqDiff, Nat.reduceAdd, Nat.reduceMul, Nat.reduceSub, Nat.reduceLeDiff, List.length_cons, List.length_nil, List.length_append, List.append_assoc, List.take_succ_cons, List.take_zero, List.drop_succ_cons, List.drop_zero, List.set_cons_zero, List.set_cons_succ, true_or, or_true, and_self, Bool.false_eq_true, Nat.le_refl, Option.bind_some, Option.map_some, Option.getD_some, Option.isSome_some, List.map_cons, List.map_nil, List.cons_append, List.nil_append, List.append_nil, List.getElem?_cons_zero, List.getElem?_cons_succ, eq_self, Int.reduceLT, Int.reduceLE, Int.reduceNeg, Int.reduceEq]
  refine .inl ⟨by kernel_rfl, ?_⟩; refine pick_c r hl (by omega) c (by decide) fun n hn h1 c => ?_
  have hn : n ≤ 8 := by omega
  simp (disch := omega) only [VW, VY, VZ, VA, VB, VC, VE, TY, ↓reduceIte, Nat.reduceEqDiff, Nat.reduceAdd, Nat.reduceMul, Nat.reduceSub, Nat.reduceLeDiff, List.length_cons, List.length_nil, List.length_append, List.append_assoc, List.take_succ_cons, List.take_zero, List.drop_succ_cons, List.drop_zero, List.set_cons_zero, List.set_cons_succ, true_or, or_true, and_self, Bool.false_eq_true, Nat.le_refl, Option.bind_some, Option.map_some, Option.getD_some, Option.isSome_some, List.map_cons, List.map_nil, List.cons_append, List.nil_append, List.append_nil, List.getElem?_cons_zero, List.getElem?_cons_succ, eq_self, Int.reduceLT, Int.reduceLE, Int.reduceNeg, Int.reduceEq]
  refine .inl ⟨by kernel_rfl, ?_⟩; refine one_c r hl (by omega) c (by decide) fun x h2 c => ?_
  refine cond_cutD (fun e' h' => ∃ k : Nat, k ≤ 40 ∧ e' 0 = .pointer (some ⟨b, 0, none⟩) ∧ e' 2 = .pointer (some ⟨h.length, 0, none⟩) ∧ e' 3 = .pointer (some ⟨h.length + 1, 0, none⟩) ∧ e' 4 = .int .i64 (k : Nat) ∧ h' = h2) ?_ ?_
  · rintro e h3 ⟨n, hn, e0, e2, e3, e4, rfl⟩
    simp (disch := omega) only [VW, VY, VZ, VA, VB, VC, VE, TY, ↓reduceIte, Nat.reduceEqDiff, Nat.reduceAdd, Nat.reduceMul, Nat.reduceSub, Nat.reduceLeDiff, List.length_cons, List.length_nil, List.length_append, List.append_assoc, List.take_succ_cons, List.take_zero, List.drop_succ_cons, List.drop_zero, List.set_cons_zero, List.set_cons_succ, true_or, or_true, and_self, Bool.false_eq_true, Nat.le_refl, Option.bind_some, Option.map_some, Option.getD_some, Option.isSome_some, List.map_cons, List.map_nil, List.cons_append, List.nil_append, List.append_nil, List.getElem?_cons_zero, List.getElem?_cons_succ, eq_self, Int.reduceLT, Int.reduceLE, Int.reduceNeg, Int.reduceEq]
    refine loop_rule (fun k e h' => ∃ j : Jn, k ≤ 40 ∧ j.safe.size + j.pending.size ≤ 3000 * (40 - k) ∧ e 0 = .pointer (some ⟨b, 0, none⟩) ∧ e 2 = .pointer (some ⟨h.length, 0, none⟩) ∧ e 3 = .pointer (some ⟨h.length + 1, 0, none⟩) ∧ e 4 = .int .i64 (k : Nat) ∧
      Cur a h' b vc (B + 10 + 40 * (40 - k)) (blkA (h.length + 1) [.string j.safe, .string j.pending] 24 :: blkA h.length [.string ⟨#[]⟩, .string ⟨#[]⟩] 24 :: L)) ?_ n _ _ ⟨jn0, hn, Nat.zero_le _, e0, e2, e3, e4, c.up (by omega)⟩
    clear e0 e2 e3 e4 c
    rintro k e h4 ⟨j, hk, hj, e0, e2, e3, e4, c⟩
    cases k with
    | zero =>
      have q : ¬ (0 : Int) < ((0 : Nat) : Int) := by decide
      have q' : ¬ (0 : Int) < 0 := by decide
      obtain ⟨t, sd, ht, hsd, s⟩ := c
      have ga := (s.pull 1 rfl).rdAll (n := 2) rfl
      simp (disch := omega) only [VW, VY, VZ, VA, VB, VC, VE, TY, ↓reduceIte, Nat.reduceEqDiff, Nat.reduceAdd, Nat.reduceMul, Nat.reduceSub, Nat.reduceLeDiff, List.length_cons, List.length_nil, List.length_append, List.append_assoc, List.take_succ_cons, List.take_zero, List.drop_succ_cons, List.drop_zero, List.set_cons_zero, List.set_cons_succ, true_or, or_true, and_self, Bool.false_eq_true, Nat.le_refl, Option.bind_some, Option.map_some, Option.getD_some, Option.isSome_some, List.map_cons, List.map_nil, List.cons_append, List.nil_append, List.append_nil, List.getElem?_cons_zero, List.getElem?_cons_succ, eq_self, Int.reduceLT, Int.reduceLE, Int.reduceNeg, Int.reduceEq, e4, q, q', e3, e2, ga]
      refine sep_store (s.pull 2 rfl) (by simp) fun h5 s => ?_
      have s := s.as (ds := [.string j.safe, .string j.pending]) (by simp [t_put])
      have ga := s.rdAll (n := 2) rfl
      simp (disch := omega) only [VW, VY, VZ, VA, VB, VC, VE, TY, ↓reduceIte, Nat.reduceEqDiff, Nat.reduceAdd, Nat.reduceMul, Nat.reduceSub, Nat.reduceLeDiff, List.length_cons, List.length_nil, List.length_append, List.append_assoc, List.take_succ_cons, List.take_zero, List.drop_succ_cons, List.drop_zero, List.set_cons_zero, List.set_cons_succ, true_or, or_true, and_self, Bool.false_eq_true, Nat.le_refl, Option.bind_some, Option.map_some, Option.getD_some, Option.isSome_some, List.map_cons, List.map_nil, List.cons_append, List.nil_append, List.append_nil, List.getElem?_cons_zero, List.getElem?_cons_succ, eq_self, Int.reduceLT, Int.reduceLE, Int.reduceNeg, Int.reduceEq, e2, ga]
      exact hQ j (by omega) _ ⟨t, sd, by omega, hsd, (s.tail.pull 1 rfl).tail.pull 0 rfl⟩
    | succ k =>
      have q : (0 : Int) < ((k + 1 : Nat) : Int) := by omega
      have kk : ((k + 1 : Nat) : Int) - 1 = (k : Int) := by omega
      simp (disch := omega) only [VW, VY, VZ, VA, VB, VC, VE, TY, ↓reduceIte, Nat.reduceEqDiff, Nat.reduceAdd, Nat.reduceMul, Nat.reduceSub, Nat.reduceLeDiff, List.length_cons, List.length_nil, List.length_append, List.append_assoc, List.take_succ_cons, List.take_zero, List.drop_succ_cons, List.drop_zero, List.set_cons_zero, List.set_cons_succ, true_or, or_true, and_self, Bool.false_eq_true, Nat.le_refl, Option.bind_some, Option.map_some, Option.getD_some, Option.isSome_some, List.map_cons, List.map_nil, List.cons_append, List.nil_append, List.append_nil, List.getElem?_cons_zero, List.getElem?_cons_succ, eq_self, Int.reduceLT, Int.reduceLE, Int.reduceNeg, Int.reduceEq, e4, q, e0]
      refine .inl ⟨by kernel_rfl, ?_⟩; refine mark_c r hl (by omega) c fun m hm hmk h5 c => ?_
      have c0 := c
      have c := c.add (Sep.blk1 h5 [.string m.path, .int .i64 m.kind] 26 true)
      simp (disch := omega) only [VW, VY, VZ, VA, VB, VC, VE, TY, ↓reduceIte, Nat.reduceEqDiff, Nat.reduceAdd, Nat.reduceMul, Nat.reduceSub, Nat.reduceLeDiff, List.length_cons, List.length_nil, List.length_append, List.append_assoc, List.take_succ_cons, List.take_zero, List.drop_succ_cons, List.drop_zero, List.set_cons_zero, List.set_cons_succ, true_or, or_true, and_self, Bool.false_eq_true, Nat.le_refl, Option.bind_some, Option.map_some, Option.getD_some, Option.isSome_some, List.map_cons, List.map_nil, List.cons_append, List.nil_append, List.append_nil, List.getElem?_cons_zero, List.getElem?_cons_succ, eq_self, Int.reduceLT, Int.reduceLE, Int.reduceNeg, Int.reduceEq, e4]
      refine cond_cutD (fun e' h' => ∃ m : Mk, m.path.size ≤ 9 ∧ inI64 m.kind ∧ e' 0 = .pointer (some ⟨b, 0, none⟩) ∧ e' 2 = .pointer (some ⟨h.length, 0, none⟩) ∧ e' 3 = .pointer (some ⟨h.length + 1, 0, none⟩) ∧ e' 4 = .int .i64 (k + 1 : Nat) ∧ e' 5 = .pointer (some ⟨h5.length, 0, none⟩) ∧
        Cur a h' b vc (B + 10 + 40 * (40 - (k + 1)) + 20) (blkA h5.length [.string m.path, .int .i64 m.kind] 26 :: blkA (h.length + 1) [.string j.safe, .string j.pending] 24 :: blkA h.length [.string ⟨#[]⟩, .string ⟨#[]⟩] 24 :: L)) ?_ ?_
      · clear c e0 e2 e3 e4
        rintro e h6 ⟨m, hm, hmk, e0, e2, e3, e4, e5, c⟩
        have ga := (c.rest.pull 1 rfl).rdAll (n := 2) rfl
        have gm := c.rest.rdAll (n := 2) rfl
        simp (disch := omega) only [VW, VY, VZ, VA, VB, VC, VE, TY, ↓reduceIte, Nat.reduceEqDiff, Nat.reduceAdd, Nat.reduceMul, Nat.reduceSub, Nat.reduceLeDiff, List.length_cons, List.length_nil, List.length_append, List.append_assoc, List.take_succ_cons, List.take_zero, List.drop_succ_cons, List.drop_zero, List.set_cons_zero, List.set_cons_succ, true_or, or_true, and_self, Bool.false_eq_true, Nat.le_refl, Option.bind_some, Option.map_some, Option.getD_some, Option.isSome_some, List.map_cons, List.map_nil, List.cons_append, List.nil_append, List.append_nil, List.getElem?_cons_zero, List.getElem?_cons_succ, eq_self, Int.reduceLT, Int.reduceLE, Int.reduceNeg, Int.reduceEq, e3, e5, ga, gm]
        refine .inl ⟨by kernel_rfl, ?_⟩; refine AppendMark_s (mk_Jn (x := j) (by omega) (by omega)) (mk_Mk (x := m) (by omega) hmk) (siz_le_Jn (j := j) (by omega)) (siz_le_Mk (m := m) (by omega)) fun h7 E7 => ?_
        have hz := append_sz2 j m hm
        have c := (c.mono E7).add (Sep.blk1 h7 [.string (appendM j m).1.safe, .string (appendM j m).1.pending] 24 true)
        generalize appendM j m = R at *
        obtain ⟨⟨rs, rp⟩, ok⟩ := R
        simp (disch := omega) only [VW, VY, VZ, VA, VB, VC, VE, TY, ↓reduceIte, Nat.reduceEqDiff, Nat.reduceAdd, Nat.reduceMul, Nat.reduceSub, Nat.reduceLeDiff, List.length_cons, List.length_nil, List.length_append, List.append_assoc, List.take_succ_cons, List.take_zero, List.drop_succ_cons, List.drop_zero, List.set_cons_zero, List.set_cons_succ, true_or, or_true, and_self, Bool.false_eq_true, Nat.le_refl, Option.bind_some, Option.map_some, Option.getD_some, Option.isSome_some, List.map_cons, List.map_nil, List.cons_append, List.nil_append, List.append_nil, List.getElem?_cons_zero, List.getElem?_cons_succ, eq_self, Int.reduceLT, Int.reduceLE, Int.reduceNeg, Int.reduceEq]
        refine cond_cutD (fun e' h' => ∃ j : Jn, j.safe.size + j.pending.size ≤ 3000 * (40 - (k + 1)) + 2016 ∧ e' 0 = .pointer (some ⟨b, 0, none⟩) ∧ e' 2 = .pointer (some ⟨h.length, 0, none⟩) ∧ e' 3 = .pointer (some ⟨h.length + 1, 0, none⟩) ∧ e' 4 = .int .i64 (k + 1 : Nat) ∧
          Cur a h' b vc (B + 10 + 40 * (40 - (k + 1)) + 20) (blkA (h.length + 1) [.string j.safe, .string j.pending] 24 :: blkA h.length [.string ⟨#[]⟩, .string ⟨#[]⟩] 24 :: L)) ?_ ?_
        · clear c e0 e2 e3 e4 e5 hz ga gm
          rintro e h8 ⟨j, hj, e0, e2, e3, e4, c⟩
          simp (disch := omega) only [VW, VY, VZ, VA, VB, VC, VE, TY, ↓reduceIte, Nat.reduceEqDiff, Nat.reduceAdd, Nat.reduceMul, Nat.reduceSub, Nat.reduceLeDiff, List.length_cons, List.length_nil, List.length_append, List.append_assoc, List.take_succ_cons, List.take_zero, List.drop_succ_cons, List.drop_zero, List.set_cons_zero, List.set_cons_succ, true_or, or_true, and_self, Bool.false_eq_true, Nat.le_refl, Option.bind_some, Option.map_some, Option.getD_some, Option.isSome_some, List.map_cons, List.map_nil, List.cons_append, List.nil_append, List.append_nil, List.getElem?_cons_zero, List.getElem?_cons_succ, eq_self, Int.reduceLT, Int.reduceLE, Int.reduceNeg, Int.reduceEq, e0]
          refine .inl ⟨by kernel_rfl, ?_⟩; refine one_c r hl (by omega) c (by decide) fun x h9 c => ?_
          cases x with
          | true =>
            have g := c.rest.rd
            have a1 := str_add j.safe j.pending (by omega)
            have a2 := size_append j.safe j.pending
            obtain ⟨t, sd, ht, hsd, s⟩ := c
            simp (disch := omega) only [VW, VY, VZ, VA, VB, VC, VE, TY, ↓reduceIte, Nat.reduceEqDiff, Nat.reduceAdd, Nat.reduceMul, Nat.reduceSub, Nat.reduceLeDiff, List.length_cons, List.length_nil, List.length_append, List.append_assoc, List.take_succ_cons, List.take_zero, List.drop_succ_cons, List.drop_zero, List.set_cons_zero, List.set_cons_succ, true_or, or_true, and_self, Bool.false_eq_true, Nat.le_refl, Option.bind_some, Option.map_some, Option.getD_some, Option.isSome_some, List.map_cons, List.map_nil, List.cons_append, List.nil_append, List.append_nil, List.getElem?_cons_zero, List.getElem?_cons_succ, eq_self, Int.reduceLT, Int.reduceLE, Int.reduceNeg, Int.reduceEq, e3, g, a1]
            refine sep_store (s.pull 1 rfl) (by simp) fun h10 s => ?_
            have s := s.as (ds := [.string (j.safe ++ j.pending), .string ⟨#[]⟩]) (by simp [t_put])
            have z0 : (⟨#[]⟩ : ByteArray).size = 0 := rfl
            simp (disch := omega) only [VW, VY, VZ, VA, VB, VC, VE, TY, ↓reduceIte, Nat.reduceEqDiff, Nat.reduceAdd, Nat.reduceMul, Nat.reduceSub, Nat.reduceLeDiff, List.length_cons, List.length_nil, List.length_append, List.append_assoc, List.take_succ_cons, List.take_zero, List.drop_succ_cons, List.drop_zero, List.set_cons_zero, List.set_cons_succ, true_or, or_true, and_self, Bool.false_eq_true, Nat.le_refl, Option.bind_some, Option.map_some, Option.getD_some, Option.isSome_some, List.map_cons, List.map_nil, List.cons_append, List.nil_append, List.append_nil, List.getElem?_cons_zero, List.getElem?_cons_succ, eq_self, Int.reduceLT, Int.reduceLE, Int.reduceNeg, Int.reduceEq, e0, e2, e3, e4, kk, wrap_in]
            exact ⟨k, by omega, ⟨j.safe ++ j.pending, ⟨#[]⟩⟩, by omega, by simp only []; omega, rfl, t, sd, by omega, hsd, s.swap⟩
          | false =>
            simp (disch := omega) only [VW, VY, VZ, VA, VB, VC, VE, TY, ↓reduceIte, Nat.reduceEqDiff, Nat.reduceAdd, Nat.reduceMul, Nat.reduceSub, Nat.reduceLeDiff, List.length_cons, List.length_nil, List.length_append, List.append_assoc, List.take_succ_cons, List.take_zero, List.drop_succ_cons, List.drop_zero, List.set_cons_zero, List.set_cons_succ, true_or, or_true, and_self, Bool.false_eq_true, Nat.le_refl, Option.bind_some, Option.map_some, Option.getD_some, Option.isSome_some, List.map_cons, List.map_nil, List.cons_append, List.nil_append, List.append_nil, List.getElem?_cons_zero, List.getElem?_cons_succ, eq_self, Int.reduceLT, Int.reduceLE, Int.reduceNeg, Int.reduceEq, e0, e2, e3, e4, kk, wrap_in]
            exact ⟨k, by omega, j, by omega, by omega, rfl, c.up (by omega)⟩
        · intro K key
          cases ok with
          | false =>
            simp (disch := omega) only [VW, VY, VZ, VA, VB, VC, VE, TY, ↓reduceIte, Nat.reduceEqDiff, Nat.reduceAdd, Nat.reduceMul, Nat.reduceSub, Nat.reduceLeDiff, List.length_cons, List.length_nil, List.length_append, List.append_assoc, List.take_succ_cons, List.take_zero, List.drop_succ_cons, List.drop_zero, List.set_cons_zero, List.set_cons_succ, true_or, or_true, and_self, Bool.false_eq_true, Nat.le_refl, Option.bind_some, Option.map_some, Option.getD_some, Option.isSome_some, List.map_cons, List.map_nil, List.cons_append, List.nil_append, List.append_nil, List.getElem?_cons_zero, List.getElem?_cons_succ, eq_self, Int.reduceLT, Int.reduceLE, Int.reduceNeg, Int.reduceEq]
            obtain ⟨t, sd, ht, hsd, s⟩ := c
            exact key _ _ ⟨j, by omega, e0, e2, e3, e4, t, sd, ht, hsd, (s.pull 1 rfl).tail.swap.tail⟩
          | true =>
            have ga := c.rest.rdAll (n := 2) rfl
            simp only [] at hz ga
            obtain ⟨t, sd, ht, hsd, s⟩ := c
            simp (disch := omega) only [VW, VY, VZ, VA, VB, VC, VE, TY, ↓reduceIte, Nat.reduceEqDiff, Nat.reduceAdd, Nat.reduceMul, Nat.reduceSub, Nat.reduceLeDiff, List.length_cons, List.length_nil, List.length_append, List.append_assoc, List.take_succ_cons, List.take_zero, List.drop_succ_cons, List.drop_zero, List.set_cons_zero, List.set_cons_succ, true_or, or_true, and_self, Bool.false_eq_true, Nat.le_refl, Option.bind_some, Option.map_some, Option.getD_some, Option.isSome_some, List.map_cons, List.map_nil, List.cons_append, List.nil_append, List.append_nil, List.getElem?_cons_zero, List.getElem?_cons_succ, eq_self, Int.reduceLT, Int.reduceLE, Int.reduceNeg, Int.reduceEq, ga, e3]
            refine sep_store (s.pull 3 rfl) (by simp) fun h8 s => ?_
            have s := s.as (ds := [.string rs, .string rp]) (by simp [t_put])
            simp (disch := omega) only [VW, VY, VZ, VA, VB, VC, VE, TY, ↓reduceIte, Nat.reduceEqDiff, Nat.reduceAdd, Nat.reduceMul, Nat.reduceSub, Nat.reduceLeDiff, List.length_cons, List.length_nil, List.length_append, List.append_assoc, List.take_succ_cons, List.take_zero, List.drop_succ_cons, List.drop_zero, List.set_cons_zero, List.set_cons_succ, true_or, or_true, and_self, Bool.false_eq_true, Nat.le_refl, Option.bind_some, Option.map_some, Option.getD_some, Option.isSome_some, List.map_cons, List.map_nil, List.cons_append, List.nil_append, List.append_nil, List.getElem?_cons_zero, List.getElem?_cons_succ, eq_self, Int.reduceLT, Int.reduceLE, Int.reduceNeg, Int.reduceEq]
            exact key _ _ ⟨⟨rs, rp⟩, by simp only []; omega, e0, e2, e3, e4, t, sd, ht, hsd, ((s.pull 2 rfl).tail.pull 2 rfl).tail.swap⟩
      · intro K key
        by_cases c9 : 9 < k + 1
        · have c9' : (9 : Int) < ((k + 1 : Nat) : Int) := by omega
          have tm4 := tmod_nat (k + 1) 4
          have tm3 := tmod_nat (k + 1) 3
          have l4 : (k + 1) % 4 < 4 := Nat.mod_lt _ (by decide)
          have l3 : (k + 1) % 3 < 3 := Nat.mod_lt _ (by decide)
          have d4 : (⟨#[48, 49, 50, 51]⟩ : ByteArray) = dig4 := rfl
          have z4 : dig4.size = 4 := rfl
          have i0 : (0 : Int) ≤ (((k + 1) % 4 : Nat) : Int) := by omega
          have i1 : (((k + 1) % 4 : Nat) : Int) ≤ ((4 : Nat) : Int) := by omega
          have y4 : ¬ (4 : Int) = 0 := by decide
          have y3 : ¬ (3 : Int) = 0 := by decide
          have t4 : Int.tmod ((k + 1 : Nat) : Int) 4 = (((k + 1) % 4 : Nat) : Int) := by simpa using tm4
          have t3 : Int.tmod ((k + 1 : Nat) : Int) 3 = (((k + 1) % 3 : Nat) : Int) := by simpa using tm3
          have hex : (dig4.extract 0 ((k + 1) % 4)).size ≤ 9 := by rw [ByteArray.size_extract, z4]; omega
          have c := c0.add (Sep.blk1 h5 [.string (dig4.extract 0 ((k + 1) % 4)), .int .i64 (1 + (((k + 1) % 3 : Nat) : Int))] 26 true)
          simp (disch := omega) only [VW, VY, VZ, VA, VB, VC, VE, TY, ↓reduceIte, Nat.reduceEqDiff, Nat.reduceAdd, Nat.reduceMul, Nat.reduceSub, Nat.reduceLeDiff, List.length_cons, List.length_nil, List.length_append, List.append_assoc, List.take_succ_cons, List.take_zero, List.drop_succ_cons, List.drop_zero, List.set_cons_zero, List.set_cons_succ, true_or, or_true, and_self, Bool.false_eq_true, Nat.le_refl, Option.bind_some, Option.map_some, Option.getD_some, Option.isSome_some, List.map_cons, List.map_nil, List.cons_append, List.nil_append, List.append_nil, List.getElem?_cons_zero, List.getElem?_cons_succ, eq_self, Int.reduceLT, Int.reduceLE, Int.reduceNeg, Int.reduceEq, c9', e4, t4, t3, y4, y3, d4, z4, i0, i1, wrap_in]
          exact key _ _ ⟨⟨dig4.extract 0 ((k + 1) % 4), 1 + (((k + 1) % 3 : Nat) : Int)⟩, hex, ⟨by simp only []; omega, by simp only []; omega⟩, e0, e2, e3, e4, rfl, c.up (by omega)⟩
        · have c9' : ¬ (9 : Int) < ((k + 1 : Nat) : Int) := by omega
          simp (disch := omega) only [VW, VY, VZ, VA, VB, VC, VE, TY, ↓reduceIte, Nat.reduceEqDiff, Nat.reduceAdd, Nat.reduceMul, Nat.reduceSub, Nat.reduceLeDiff, List.length_cons, List.length_nil, List.length_append, List.append_assoc, List.take_succ_cons, List.take_zero, List.drop_succ_cons, List.drop_zero, List.set_cons_zero, List.set_cons_succ, true_or, or_true, and_self, Bool.false_eq_true, Nat.le_refl, Option.bind_some, Option.map_some, Option.getD_some, Option.isSome_some, List.map_cons, List.map_nil, List.cons_append, List.nil_append, List.append_nil, List.getElem?_cons_zero, List.getElem?_cons_succ, eq_self, Int.reduceLT, Int.reduceLE, Int.reduceNeg, Int.reduceEq, c9']
          exact key _ _ ⟨m, hm, hmk, e0, e2, e3, e4, rfl, c.up (by omega)⟩
  · intro K key
    cases x with
    | true =>
      simp (disch := omega) only [VW, VY, VZ, VA, VB, VC, VE, TY, ↓reduceIte, Nat.reduceEqDiff, Nat.reduceAdd, Nat.reduceMul, Nat.reduceSub, Nat.reduceLeDiff, List.length_cons, List.length_nil, List.length_append, List.append_assoc, List.take_succ_cons, List.take_zero, List.drop_succ_cons, List.drop_zero, List.set_cons_zero, List.set_cons_succ, true_or, or_true, and_self, Bool.false_eq_true, Nat.le_refl, Option.bind_some, Option.map_some, Option.getD_some, Option.isSome_some, List.map_cons, List.map_nil, List.cons_append, List.nil_append, List.append_nil, List.getElem?_cons_zero, List.getElem?_cons_succ, eq_self, Int.reduceLT, Int.reduceLE, Int.reduceNeg, Int.reduceEq]
      exact key _ _ ⟨40, by decide, rfl, rfl, rfl, rfl, rfl⟩
    | false =>
      simp (disch := omega) only [VW, VY, VZ, VA, VB, VC, VE, TY, ↓reduceIte, Nat.reduceEqDiff, Nat.reduceAdd, Nat.reduceMul, Nat.reduceSub, Nat.reduceLeDiff, List.length_cons, List.length_nil, List.length_append, List.append_assoc, List.take_succ_cons, List.take_zero, List.drop_succ_cons, List.drop_zero, List.set_cons_zero, List.set_cons_succ, true_or, or_true, and_self, Bool.false_eq_true, Nat.le_refl, Option.bind_some, Option.map_some, Option.getD_some, Option.isSome_some, List.map_cons, List.map_nil, List.cons_append, List.nil_append, List.append_nil, List.getElem?_cons_zero, List.getElem?_cons_succ, eq_self, Int.reduceLT, Int.reduceLE, Int.reduceNeg, Int.reduceEq]
      exact key _ _ ⟨n, by omega, rfl, rfl, rfl, rfl, rfl⟩
end Go.Proofs
end

section
set_option linter.unusedSimpArgs false
set_option linter.unusedVariables false
set_option maxRecDepth 4000
namespace Go.Proofs
open Go Go.V
/- Texts that are spoilt. -/
theorem spoilt_c {a h : Heap} {b : Nat} {vc : Value} {B : Nat} {L : List Asr} {code : List UInt8} {t wi : ByteArray} {Q : Value → Heap → Prop} (r : Row a code vc) (hl : code.length ≤ 1048576) (hB : B ≤ 100000000) (c : Cur a h b vc B L)
    (ht : t.size ≤ 1000000) (hw : 1 ≤ wi.size ∧ wi.size ≤ 1000)
    (hQ : ∀ s : ByteArray, s.size ≤ t.size + 2 → ∀ h', Cur a h' b vc (B + 20) L → Q (.string s) h') : CallsV Tryz.prog 49 [.pointer (some ⟨b, 0, none⟩), .string t, .string wi] h Q := by
  refine CallsV.start Tryz.func49 rfl (by rw [Tryz.results49]) (by kernel_rfl) (by rw [Tryz.ntmps49]; simp) ?_
  simp (disch := omega) only [VW, VY, VZ, VA, VB, VC, VE, TY, ↓reduceIte, Nat.reduceEqDiff, Nat.reduceAdd, Nat.reduceMul, Nat.reduceSub, Nat.reduceLeDiff, List.length_cons, List.length_nil, List.length_append, List.append_assoc, List.take_succ_cons, List.take_zero, List.drop_succ_cons, List.drop_zero, List.set_cons_zero, List.set_cons_succ, true_or, or_true, and_self, Bool.false_eq_true, Nat.le_refl, Option.bind_some, Option.map_some, Option.getD_some, Option.isSome_some, List.map_cons, List.map_nil, List.cons_append, List.nil_append, List.append_nil, List.getElem?_cons_zero, List.getElem?_cons_succ, eq_self, Int.reduceLT, Int.reduceLE, Int.reduceNeg, Int.reduceEq]
  refine .inl ⟨by kernel_rfl, ?_⟩; refine pick_c r hl (by omega) c (by decide) fun n hn h1 c => ?_
  have hn : n ≤ 1 := by omega
  have e1 : (1 : Int) + (n : Int) = ((1 + n : Nat) : Int) := by omega
  simp (disch := omega) only [VW, VY, VZ, VA, VB, VC, VE, TY, ↓reduceIte, Nat.reduceEqDiff, Nat.reduceAdd, Nat.reduceMul, Nat.reduceSub, Nat.reduceLeDiff, List.length_cons, List.length_nil, List.length_append, List.append_assoc, List.take_succ_cons, List.take_zero, List.drop_succ_cons, List.drop_zero, List.set_cons_zero, List.set_cons_succ, true_or, or_true, and_self, Bool.false_eq_true, Nat.le_refl, Option.bind_some, Option.map_some, Option.getD_some, Option.isSome_some, List.map_cons, List.map_nil, List.cons_append, List.nil_append, List.append_nil, List.getElem?_cons_zero, List.getElem?_cons_succ, eq_self, Int.reduceLT, Int.reduceLE, Int.reduceNeg, Int.reduceEq, wrap_in, e1]
  refine loop_rule (fun k e h' => ∃ s : ByteArray, k ≤ 2 ∧ s.size ≤ t.size + (2 - k) ∧ e 0 = .pointer (some ⟨b, 0, none⟩) ∧ e 1 = .string s ∧ e 2 = .string wi ∧ e 7 = .int .i64 (k : Nat) ∧ Cur a h' b vc (B + 2 + 6 * (2 - k)) L) ?_ (1 + n) _ _
    ⟨t, by omega, by omega, rfl, rfl, rfl, rfl, c.up (by omega)⟩
  clear c
  rintro k e h2 ⟨s, hk, hs, e0, e1, e2, e7, c⟩
  cases k with
  | zero =>
    have q : ¬ (0 : Int) < ((0 : Nat) : Int) := by decide
    have q' : ¬ (0 : Int) < 0 := by decide
    simp (disch := omega) only [VW, VY, VZ, VA, VB, VC, VE, TY, ↓reduceIte, Nat.reduceEqDiff, Nat.reduceAdd, Nat.reduceMul, Nat.reduceSub, Nat.reduceLeDiff, List.length_cons, List.length_nil, List.length_append, List.append_assoc, List.take_succ_cons, List.take_zero, List.drop_succ_cons, List.drop_zero, List.set_cons_zero, List.set_cons_succ, true_or, or_true, and_self, Bool.false_eq_true, Nat.le_refl, Option.bind_some, Option.map_some, Option.getD_some, Option.isSome_some, List.map_cons, List.map_nil, List.cons_append, List.nil_append, List.append_nil, List.getElem?_cons_zero, List.getElem?_cons_succ, eq_self, Int.reduceLT, Int.reduceLE, Int.reduceNeg, Int.reduceEq, e7, q, q', e1]
    exact hQ s (by omega) _ (c.up (by omega))
  | succ k =>
    have q : (0 : Int) < ((k + 1 : Nat) : Int) := by omega
    have kk : ((k + 1 : Nat) : Int) - 1 = (k : Int) := by omega
    by_cases z : s.size = 0
    · have q2 : ¬ (0 : Int) < (s.size : Int) := by omega
      simp (disch := omega) only [VW, VY, VZ, VA, VB, VC, VE, TY, ↓reduceIte, Nat.reduceEqDiff, Nat.reduceAdd, Nat.reduceMul, Nat.reduceSub, Nat.reduceLeDiff, List.length_cons, List.length_nil, List.length_append, List.append_assoc, List.take_succ_cons, List.take_zero, List.drop_succ_cons, List.drop_zero, List.set_cons_zero, List.set_cons_succ, true_or, or_true, and_self, Bool.false_eq_true, Nat.le_refl, Option.bind_some, Option.map_some, Option.getD_some, Option.isSome_some, List.map_cons, List.map_nil, List.cons_append, List.nil_append, List.append_nil, List.getElem?_cons_zero, List.getElem?_cons_succ, eq_self, Int.reduceLT, Int.reduceLE, Int.reduceNeg, Int.reduceEq, e7, q, e1, q2]
      exact hQ s (by omega) _ (c.up (by omega))
    · have q2 : (0 : Int) < (s.size : Int) := by omega
      simp (disch := omega) only [VW, VY, VZ, VA, VB, VC, VE, TY, ↓reduceIte, Nat.reduceEqDiff, Nat.reduceAdd, Nat.reduceMul, Nat.reduceSub, Nat.reduceLeDiff, List.length_cons, List.length_nil, List.length_append, List.append_assoc, List.take_succ_cons, List.take_zero, List.drop_succ_cons, List.drop_zero, List.set_cons_zero, List.set_cons_succ, true_or, or_true, and_self, Bool.false_eq_true, Nat.le_refl, Option.bind_some, Option.map_some, Option.getD_some, Option.isSome_some, List.map_cons, List.map_nil, List.cons_append, List.nil_append, List.append_nil, List.getElem?_cons_zero, List.getElem?_cons_succ, eq_self, Int.reduceLT, Int.reduceLE, Int.reduceNeg, Int.reduceEq, e7, q, e1, q2, e0]
      refine .inl ⟨by kernel_rfl, ?_⟩; refine pick_c r hl (by omega) c (by omega) fun i hi h3 c => ?_
      have hi : i < s.size := by omega
      simp (disch := omega) only [VW, VY, VZ, VA, VB, VC, VE, TY, ↓reduceIte, Nat.reduceEqDiff, Nat.reduceAdd, Nat.reduceMul, Nat.reduceSub, Nat.reduceLeDiff, List.length_cons, List.length_nil, List.length_append, List.append_assoc, List.take_succ_cons, List.take_zero, List.drop_succ_cons, List.drop_zero, List.set_cons_zero, List.set_cons_succ, true_or, or_true, and_self, Bool.false_eq_true, Nat.le_refl, Option.bind_some, Option.map_some, Option.getD_some, Option.isSome_some, List.map_cons, List.map_nil, List.cons_append, List.nil_append, List.append_nil, List.getElem?_cons_zero, List.getElem?_cons_succ, eq_self, Int.reduceLT, Int.reduceLE, Int.reduceNeg, Int.reduceEq, e2, e0]
      refine .inl ⟨by kernel_rfl, ?_⟩; refine pick_c r hl (by omega) c (by omega) fun j hj h4 c => ?_
      obtain ⟨x, hx, _⟩ := get_str (s := wi) (i := j) (by omega)
      have hxl := x.toNat_lt
      have rd : cellsAt (h4 ++ [some ⟨[.int .u8 x.toNat], 5, false, true⟩]) h4.length 0 1 = some [.int .u8 x.toNat] := (Sep.blk1 h4 [.int .u8 x.toNat] 5 true).rdAll (n := 1) rfl
      have c := c.mono (.one h4 (some ⟨[.int .u8 x.toNat], 5, false, true⟩))
      simp (disch := omega) only [VW, VY, VZ, VA, VB, VC, VE, TY, ↓reduceIte, Nat.reduceEqDiff, Nat.reduceAdd, Nat.reduceMul, Nat.reduceSub, Nat.reduceLeDiff, List.length_cons, List.length_nil, List.length_append, List.append_assoc, List.take_succ_cons, List.take_zero, List.drop_succ_cons, List.drop_zero, List.set_cons_zero, List.set_cons_succ, true_or, or_true, and_self, Bool.false_eq_true, Nat.le_refl, Option.bind_some, Option.map_some, Option.getD_some, Option.isSome_some, List.map_cons, List.map_nil, List.cons_append, List.nil_append, List.append_nil, List.getElem?_cons_zero, List.getElem?_cons_succ, eq_self, Int.reduceLT, Int.reduceLE, Int.reduceNeg, Int.reduceEq, hx, e0, rd]
      refine .inl ⟨by kernel_rfl, ?_⟩; refine pick_c r hl (by omega) c (by decide) fun m hm h5 c => ?_
      simp (disch := omega) only [VW, VY, VZ, VA, VB, VC, VE, TY, ↓reduceIte, Nat.reduceEqDiff, Nat.reduceAdd, Nat.reduceMul, Nat.reduceSub, Nat.reduceLeDiff, List.length_cons, List.length_nil, List.length_append, List.append_assoc, List.take_succ_cons, List.take_zero, List.drop_succ_cons, List.drop_zero, List.set_cons_zero, List.set_cons_succ, true_or, or_true, and_self, Bool.false_eq_true, Nat.le_refl, Option.bind_some, Option.map_some, Option.getD_some, Option.isSome_some, List.map_cons, List.map_nil, List.cons_append, List.nil_append, List.append_nil, List.getElem?_cons_zero, List.getElem?_cons_succ, eq_self, Int.reduceLT, Int.reduceLE, Int.reduceNeg, Int.reduceEq]
      refine cond_cutD (fun e' h' => ∃ s' : ByteArray, s'.size ≤ s.size + 1 ∧ e' 0 = .pointer (some ⟨b, 0, none⟩) ∧ e' 1 = .string s' ∧ e' 2 = .string wi ∧ e' 7 = .int .i64 (k + 1 : Nat) ∧ Cur a h' b vc (B + 2 + 6 * (2 - (k + 1)) + 6) L) ?_ ?_
      · clear c rd e0 e1 e2 e7
        rintro e h6 ⟨s', hs', e0, e1, e2, e7, c⟩
        simp (disch := omega) only [VW, VY, VZ, VA, VB, VC, VE, TY, ↓reduceIte, Nat.reduceEqDiff, Nat.reduceAdd, Nat.reduceMul, Nat.reduceSub, Nat.reduceLeDiff, List.length_cons, List.length_nil, List.length_append, List.append_assoc, List.take_succ_cons, List.take_zero, List.drop_succ_cons, List.drop_zero, List.set_cons_zero, List.set_cons_succ, true_or, or_true, and_self, Bool.false_eq_true, Nat.le_refl, Option.bind_some, Option.map_some, Option.getD_some, Option.isSome_some, List.map_cons, List.map_nil, List.cons_append, List.nil_append, List.append_nil, List.getElem?_cons_zero, List.getElem?_cons_succ, eq_self, Int.reduceLT, Int.reduceLE, Int.reduceNeg, Int.reduceEq, e0, e1, e2, e7, kk, wrap_in]
        exact ⟨k, by omega, s', by omega, by omega, rfl, rfl, c.up (by omega)⟩
      · intro K key
        have k0 : (0 : Int) ≤ (i : Int) := by omega
        have k1 : (i : Int) ≤ (s.size : Int) := by omega
        have k2 : (i : Int) + 1 ≤ (s.size : Int) := by omega
        have k3 : (0 : Int) ≤ (i : Int) + 1 := by omega
        have k4 : Int.toNat ((i : Int) + 1) = i + 1 := by omega
        have z1 : (s.extract 0 i).size = i := by rw [ByteArray.size_extract]; omega
        have z2 : (s.extract i s.size).size = s.size - i := by rw [ByteArray.size_extract]; omega
        have z3 : (s.extract (i + 1) s.size).size = s.size - (i + 1) := by rw [ByteArray.size_extract]; omega
        have zW : (⟨#[UInt8.ofNat x.toNat]⟩ : ByteArray).size = 1 := rfl
        generalize (⟨#[UInt8.ofNat x.toNat]⟩ : ByteArray) = W at *
        have a1 := str_add (s.extract 0 i) W (by omega)
        have y1 := size_append (s.extract 0 i) W
        have a2 := str_add (s.extract 0 i ++ W) (s.extract i s.size) (by omega)
        have y2 := size_append (s.extract 0 i ++ W) (s.extract i s.size)
        have a3 := str_add (s.extract 0 i ++ W) (s.extract (i + 1) s.size) (by omega)
        have y3 := size_append (s.extract 0 i ++ W) (s.extract (i + 1) s.size)
        have a4 := str_add (s.extract 0 i) (s.extract (i + 1) s.size) (by omega)
        have y4 := size_append (s.extract 0 i) (s.extract (i + 1) s.size)
        by_cases m0 : m = 0
        · have m0' : decide ((m : Int) = 0) = true := by simpa using m0
          simp (disch := omega) only [VW, VY, VZ, VA, VB, VC, VE, TY, ↓reduceIte, Nat.reduceEqDiff, Nat.reduceAdd, Nat.reduceMul, Nat.reduceSub, Nat.reduceLeDiff, List.length_cons, List.length_nil, List.length_append, List.append_assoc, List.take_succ_cons, List.take_zero, List.drop_succ_cons, List.drop_zero, List.set_cons_zero, List.set_cons_succ, true_or, or_true, and_self, Bool.false_eq_true, Nat.le_refl, Option.bind_some, Option.map_some, Option.getD_some, Option.isSome_some, List.map_cons, List.map_nil, List.cons_append, List.nil_append, List.append_nil, List.getElem?_cons_zero, List.getElem?_cons_succ, eq_self, Int.reduceLT, Int.reduceLE, Int.reduceNeg, Int.reduceEq, m0']
          refine draw_ord [0, 1, 2, 3, 4, 5, 6, 7, 8, 9] (by kernel_rfl) (by simp only [List.filterMap_cons, List.filterMap_nil, List.getElem?_cons_zero, List.getElem?_cons_succ]; rfl) ?_
          simp (disch := omega) only [VW, VY, VZ, VA, VB, VC, VE, TY, ↓reduceIte, Nat.reduceEqDiff, Nat.reduceAdd, Nat.reduceMul, Nat.reduceSub, Nat.reduceLeDiff, List.length_cons, List.length_nil, List.length_append, List.append_assoc, List.take_succ_cons, List.take_zero, List.drop_succ_cons, List.drop_zero, List.set_cons_zero, List.set_cons_succ, true_or, or_true, and_self, Bool.false_eq_true, Nat.le_refl, Option.bind_some, Option.map_some, Option.getD_some, Option.isSome_some, List.map_cons, List.map_nil, List.cons_append, List.nil_append, List.append_nil, List.getElem?_cons_zero, List.getElem?_cons_succ, eq_self, Int.reduceLT, Int.reduceLE, Int.reduceNeg, Int.reduceEq, e1, k0, k1, a1, a2]
          exact key _ _ ⟨_, by omega, e0, rfl, e2, e7, c⟩
        · have m0' : decide ((m : Int) = 0) = false := by simpa using m0
          simp (disch := omega) only [VW, VY, VZ, VA, VB, VC, VE, TY, ↓reduceIte, Nat.reduceEqDiff, Nat.reduceAdd, Nat.reduceMul, Nat.reduceSub, Nat.reduceLeDiff, List.length_cons, List.length_nil, List.length_append, List.append_assoc, List.take_succ_cons, List.take_zero, List.drop_succ_cons, List.drop_zero, List.set_cons_zero, List.set_cons_succ, true_or, or_true, and_self, Bool.false_eq_true, Nat.le_refl, Option.bind_some, Option.map_some, Option.getD_some, Option.isSome_some, List.map_cons, List.map_nil, List.cons_append, List.nil_append, List.append_nil, List.getElem?_cons_zero, List.getElem?_cons_succ, eq_self, Int.reduceLT, Int.reduceLE, Int.reduceNeg, Int.reduceEq, m0']
          by_cases m1 : m = 1
          · have m1' : decide ((m : Int) = 1) = true := decide_eq_true (by omega)
            simp (disch := omega) only [VW, VY, VZ, VA, VB, VC, VE, TY, ↓reduceIte, Nat.reduceEqDiff, Nat.reduceAdd, Nat.reduceMul, Nat.reduceSub, Nat.reduceLeDiff, List.length_cons, List.length_nil, List.length_append, List.append_assoc, List.take_succ_cons, List.take_zero, List.drop_succ_cons, List.drop_zero, List.set_cons_zero, List.set_cons_succ, true_or, or_true, and_self, Bool.false_eq_true, Nat.le_refl, Option.bind_some, Option.map_some, Option.getD_some, Option.isSome_some, List.map_cons, List.map_nil, List.cons_append, List.nil_append, List.append_nil, List.getElem?_cons_zero, List.getElem?_cons_succ, eq_self, Int.reduceLT, Int.reduceLE, Int.reduceNeg, Int.reduceEq, m1']
            refine draw_ord [0, 1, 2, 3, 4, 5, 6, 7, 8, 9, 10] (by kernel_rfl) (by simp only [List.filterMap_cons, List.filterMap_nil, List.getElem?_cons_zero, List.getElem?_cons_succ]; rfl) ?_
            simp (disch := omega) only [VW, VY, VZ, VA, VB, VC, VE, TY, ↓reduceIte, Nat.reduceEqDiff, Nat.reduceAdd, Nat.reduceMul, Nat.reduceSub, Nat.reduceLeDiff, List.length_cons, List.length_nil, List.length_append, List.append_assoc, List.take_succ_cons, List.take_zero, List.drop_succ_cons, List.drop_zero, List.set_cons_zero, List.set_cons_succ, true_or, or_true, and_self, Bool.false_eq_true, Nat.le_refl, Option.bind_some, Option.map_some, Option.getD_some, Option.isSome_some, List.map_cons, List.map_nil, List.cons_append, List.nil_append, List.append_nil, List.getElem?_cons_zero, List.getElem?_cons_succ, eq_self, Int.reduceLT, Int.reduceLE, Int.reduceNeg, Int.reduceEq, e1, k0, k1, k2, k3, k4, a1, a3, wrap_in]
            exact key _ _ ⟨_, by omega, e0, rfl, e2, e7, c⟩
          · have m1' : decide ((m : Int) = 1) = false := decide_eq_false (by omega)
            simp (disch := omega) only [VW, VY, VZ, VA, VB, VC, VE, TY, ↓reduceIte, Nat.reduceEqDiff, Nat.reduceAdd, Nat.reduceMul, Nat.reduceSub, Nat.reduceLeDiff, List.length_cons, List.length_nil, List.length_append, List.append_assoc, List.take_succ_cons, List.take_zero, List.drop_succ_cons, List.drop_zero, List.set_cons_zero, List.set_cons_succ, true_or, or_true, and_self, Bool.false_eq_true, Nat.le_refl, Option.bind_some, Option.map_some, Option.getD_some, Option.isSome_some, List.map_cons, List.map_nil, List.cons_append, List.nil_append, List.append_nil, List.getElem?_cons_zero, List.getElem?_cons_succ, eq_self, Int.reduceLT, Int.reduceLE, Int.reduceNeg, Int.reduceEq, m1']
            refine draw_ord [0, 1, 2, 3, 4, 5, 6, 7, 8] (by kernel_rfl) (by simp only [List.filterMap_cons, List.filterMap_nil, List.getElem?_cons_zero, List.getElem?_cons_succ]; rfl) ?_
            simp (disch := omega) only [VW, VY, VZ, VA, VB, VC, VE, TY, ↓reduceIte, Nat.reduceEqDiff, Nat.reduceAdd, Nat.reduceMul, Nat.reduceSub, Nat.reduceLeDiff, List.length_cons, List.length_nil, List.length_append, List.append_assoc, List.take_succ_cons, List.take_zero, List.drop_succ_cons, List.drop_zero, List.set_cons_zero, List.set_cons_succ, true_or, or_true, and_self, Bool.false_eq_true, Nat.le_refl, Option.bind_some, Option.map_some, Option.getD_some, Option.isSome_some, List.map_cons, List.map_nil, List.cons_append, List.nil_append, List.append_nil, List.getElem?_cons_zero, List.getElem?_cons_succ, eq_self, Int.reduceLT, Int.reduceLE, Int.reduceNeg, Int.reduceEq, e1, k0, k1, k2, k3, k4, a4, wrap_in]
            exact key _ _ ⟨_, by omega, e0, rfl, e2, e7, c⟩
end Go.Proofs
end

section
set_option linter.unusedSimpArgs false
set_option linter.unusedVariables false
set_option maxRecDepth 4000
namespace Go.Proofs
open Go Go.V
/- Any journals that are drawn. -/
def spoilW : ByteArray := ⟨#[58, 102, 104, 111, 48, 49, 57, 10]⟩
theorem anyJournal_c {a h : Heap} {b : Nat} {vc : Value} {B : Nat} {L : List Asr} {code : List UInt8} {Q : Value → Heap → Prop} (r : Row a code vc) (hl : code.length ≤ 1048576) (hB : B ≤ 10000000) (c : Cur a h b vc B L)
    (hQ : ∀ j : Jn, j.safe.size + j.pending.size ≤ 300000 → ∀ h', Cur a h' b vc (B + 3000) L → Q (.agg #[.string j.safe, .string j.pending]) h') : CallsV Tryz.prog 23 [.pointer (some ⟨b, 0, none⟩)] h Q := by
  refine CallsV.start Tryz.func23 rfl (by rw [Tryz.results23]) (by kernel_rfl) (by rw [Tryz.ntmps23]; simp) ?_
  have c := c.add (Sep.blk1 h [.string ⟨#[]⟩, .string ⟨#[]⟩] 24 true)
  simp (disch := omega) only [VW, VY, VZ, VA, VB, VC, VE, TY, ↓reduceIte, Nat.reduceEqDiff, Nat.reduceAdd, Nat.reduceMul, Nat.reduceSub, Nat.reduceLeDiff, List.length_cons, List.length_nil, List.length_append, List.append_assoc, List.take_succ_cons, List.take_zero, List.drop_succ_cons, List.drop_zero, List.set_cons_zero, List.set_cons_succ, true_or, or_true, and_self, Bool.false_eq_true, Nat.le_refl, Option.bind_some, Option.map_some, Option.getD_some, Option.isSome_some, List.map_cons, List.map_nil, List.cons_append, List.nil_append, List.append_nil, List.getElem?_cons_zero, List.getElem?_cons_succ, eq_self, Int.reduceLT, Int.reduceLE, Int.reduceNeg, Int.reduceEq]
  refine .inl ⟨by kernel_rfl, ?_⟩; refine journal_c r hl (by omega) c fun j hj h1 c => ?_
  have c := c.add (Sep.blk1 h1 [.string j.safe, .string j.pending] 24 true)
  simp (disch := omega) only [VW, VY, VZ, VA, VB, VC, VE, TY, ↓reduceIte, Nat.reduceEqDiff, Nat.reduceAdd, Nat.reduceMul, Nat.reduceSub, Nat.reduceLeDiff, List.length_cons, List.length_nil, List.length_append, List.append_assoc, List.take_succ_cons, List.take_zero, List.drop_succ_cons, List.drop_zero, List.set_cons_zero, List.set_cons_succ, true_or, or_true, and_self, Bool.false_eq_true, Nat.le_refl, Option.bind_some, Option.map_some, Option.getD_some, Option.isSome_some, List.map_cons, List.map_nil, List.cons_append, List.nil_append, List.append_nil, List.getElem?_cons_zero, List.getElem?_cons_succ, eq_self, Int.reduceLT, Int.reduceLE, Int.reduceNeg, Int.reduceEq]
  refine .inl ⟨by kernel_rfl, ?_⟩; refine pick_c r hl (by omega) c (by decide) fun m hm h2 c => ?_
  simp (disch := omega) only [VW, VY, VZ, VA, VB, VC, VE, TY, ↓reduceIte, Nat.reduceEqDiff, Nat.reduceAdd, Nat.reduceMul, Nat.reduceSub, Nat.reduceLeDiff, List.length_cons, List.length_nil, List.length_append, List.append_assoc, List.take_succ_cons, List.take_zero, List.drop_succ_cons, List.drop_zero, List.set_cons_zero, List.set_cons_succ, true_or, or_true, and_self, Bool.false_eq_true, Nat.le_refl, Option.bind_some, Option.map_some, Option.getD_some, Option.isSome_some, List.map_cons, List.map_nil, List.cons_append, List.nil_append, List.append_nil, List.getElem?_cons_zero, List.getElem?_cons_succ, eq_self, Int.reduceLT, Int.reduceLE, Int.reduceNeg, Int.reduceEq]
  refine cond_cutD (fun e' h' => ∃ j : Jn, j.safe.size + j.pending.size ≤ 300000 ∧ e' 2 = .pointer (some ⟨h.length, 0, none⟩) ∧ e' 3 = .pointer (some ⟨h1.length, 0, none⟩) ∧ Cur a h' b vc (B + 3000) (blkA h1.length [.string j.safe, .string j.pending] 24 :: blkA h.length [.string ⟨#[]⟩, .string ⟨#[]⟩] 24 :: L)) ?_ ?_
  · clear c
    rintro e h3 ⟨j, hj, e2, e3, t, sd, ht, hsd, s⟩
    have ga := (s.pull 1 rfl).rdAll (n := 2) rfl
    simp (disch := omega) only [VW, VY, VZ, VA, VB, VC, VE, TY, ↓reduceIte, Nat.reduceEqDiff, Nat.reduceAdd, Nat.reduceMul, Nat.reduceSub, Nat.reduceLeDiff, List.length_cons, List.length_nil, List.length_append, List.append_assoc, List.take_succ_cons, List.take_zero, List.drop_succ_cons, List.drop_zero, List.set_cons_zero, List.set_cons_succ, true_or, or_true, and_self, Bool.false_eq_true, Nat.le_refl, Option.bind_some, Option.map_some, Option.getD_some, Option.isSome_some, List.map_cons, List.map_nil, List.cons_append, List.nil_append, List.append_nil, List.getElem?_cons_zero, List.getElem?_cons_succ, eq_self, Int.reduceLT, Int.reduceLE, Int.reduceNeg, Int.reduceEq, e2, e3, ga]
    refine sep_store (s.pull 2 rfl) (by simp) fun h5 s => ?_
    have s := s.as (ds := [.string j.safe, .string j.pending]) (by simp [t_put])
    have ga := s.rdAll (n := 2) rfl
    simp (disch := omega) only [VW, VY, VZ, VA, VB, VC, VE, TY, ↓reduceIte, Nat.reduceEqDiff, Nat.reduceAdd, Nat.reduceMul, Nat.reduceSub, Nat.reduceLeDiff, List.length_cons, List.length_nil, List.length_append, List.append_assoc, List.take_succ_cons, List.take_zero, List.drop_succ_cons, List.drop_zero, List.set_cons_zero, List.set_cons_succ, true_or, or_true, and_self, Bool.false_eq_true, Nat.le_refl, Option.bind_some, Option.map_some, Option.getD_some, Option.isSome_some, List.map_cons, List.map_nil, List.cons_append, List.nil_append, List.append_nil, List.getElem?_cons_zero, List.getElem?_cons_succ, eq_self, Int.reduceLT, Int.reduceLE, Int.reduceNeg, Int.reduceEq, e2, ga]
    exact hQ j hj _ ⟨t, sd, ht, hsd, (s.tail.pull 1 rfl).tail.pull 0 rfl⟩
  · intro K key
    have g := c.rest.rd
    by_cases m0 : m = 0
    · have m0' : decide ((m : Int) = 0) = true := decide_eq_true (by omega)
      have dw : (⟨#[58, 102, 104, 111, 48, 49, 57, 10]⟩ : ByteArray) = spoilW := rfl
      simp (disch := omega) only [VW, VY, VZ, VA, VB, VC, VE, TY, ↓reduceIte, Nat.reduceEqDiff, Nat.reduceAdd, Nat.reduceMul, Nat.reduceSub, Nat.reduceLeDiff, List.length_cons, List.length_nil, List.length_append, List.append_assoc, List.take_succ_cons, List.take_zero, List.drop_succ_cons, List.drop_zero, List.set_cons_zero, List.set_cons_succ, true_or, or_true, and_self, Bool.false_eq_true, Nat.le_refl, Option.bind_some, Option.map_some, Option.getD_some, Option.isSome_some, List.map_cons, List.map_nil, List.cons_append, List.nil_append, List.append_nil, List.getElem?_cons_zero, List.getElem?_cons_succ, eq_self, Int.reduceLT, Int.reduceLE, Int.reduceNeg, Int.reduceEq, m0', g, dw]
      refine .inl ⟨by kernel_rfl, ?_⟩; refine spoilt_c r hl (by omega) c (by omega) (by decide) fun s' hs' h3 c => ?_
      obtain ⟨t, sd, ht, hsd, s⟩ := c
      simp (disch := omega) only [VW, VY, VZ, VA, VB, VC, VE, TY, ↓reduceIte, Nat.reduceEqDiff, Nat.reduceAdd, Nat.reduceMul, Nat.reduceSub, Nat.reduceLeDiff, List.length_cons, List.length_nil, List.length_append, List.append_assoc, List.take_succ_cons, List.take_zero, List.drop_succ_cons, List.drop_zero, List.set_cons_zero, List.set_cons_succ, true_or, or_true, and_self, Bool.false_eq_true, Nat.le_refl, Option.bind_some, Option.map_some, Option.getD_some, Option.isSome_some, List.map_cons, List.map_nil, List.cons_append, List.nil_append, List.append_nil, List.getElem?_cons_zero, List.getElem?_cons_succ, eq_self, Int.reduceLT, Int.reduceLE, Int.reduceNeg, Int.reduceEq]
      refine sep_store (s.pull 1 rfl) (by simp) fun h4 s => ?_
      have s := s.as (ds := [.string j.safe, .string s']) (by simp [t_put])
      simp (disch := omega) only [VW, VY, VZ, VA, VB, VC, VE, TY, ↓reduceIte, Nat.reduceEqDiff, Nat.reduceAdd, Nat.reduceMul, Nat.reduceSub, Nat.reduceLeDiff, List.length_cons, List.length_nil, List.length_append, List.append_assoc, List.take_succ_cons, List.take_zero, List.drop_succ_cons, List.drop_zero, List.set_cons_zero, List.set_cons_succ, true_or, or_true, and_self, Bool.false_eq_true, Nat.le_refl, Option.bind_some, Option.map_some, Option.getD_some, Option.isSome_some, List.map_cons, List.map_nil, List.cons_append, List.nil_append, List.append_nil, List.getElem?_cons_zero, List.getElem?_cons_succ, eq_self, Int.reduceLT, Int.reduceLE, Int.reduceNeg, Int.reduceEq]
      exact key _ _ ⟨⟨j.safe, s'⟩, by simp only []; omega, rfl, rfl, t, sd, by omega, hsd, s.swap⟩
    · have m0' : decide ((m : Int) = 0) = false := decide_eq_false (by omega)
      simp (disch := omega) only [VW, VY, VZ, VA, VB, VC, VE, TY, ↓reduceIte, Nat.reduceEqDiff, Nat.reduceAdd, Nat.reduceMul, Nat.reduceSub, Nat.reduceLeDiff, List.length_cons, List.length_nil, List.length_append, List.append_assoc, List.take_succ_cons, List.take_zero, List.drop_succ_cons, List.drop_zero, List.set_cons_zero, List.set_cons_succ, true_or, or_true, and_self, Bool.false_eq_true, Nat.le_refl, Option.bind_some, Option.map_some, Option.getD_some, Option.isSome_some, List.map_cons, List.map_nil, List.cons_append, List.nil_append, List.append_nil, List.getElem?_cons_zero, List.getElem?_cons_succ, eq_self, Int.reduceLT, Int.reduceLE, Int.reduceNeg, Int.reduceEq, m0']
      by_cases m1 : m = 1
      · have m1' : decide ((m : Int) = 1) = true := decide_eq_true (by omega)
        have a1 := str_add j.safe j.pending (by omega)
        have a2 := size_append j.safe j.pending
        obtain ⟨t, sd, ht, hsd, s⟩ := c
        simp (disch := omega) only [VW, VY, VZ, VA, VB, VC, VE, TY, ↓reduceIte, Nat.reduceEqDiff, Nat.reduceAdd, Nat.reduceMul, Nat.reduceSub, Nat.reduceLeDiff, List.length_cons, List.length_nil, List.length_append, List.append_assoc, List.take_succ_cons, List.take_zero, List.drop_succ_cons, List.drop_zero, List.set_cons_zero, List.set_cons_succ, true_or, or_true, and_self, Bool.false_eq_true, Nat.le_refl, Option.bind_some, Option.map_some, Option.getD_some, Option.isSome_some, List.map_cons, List.map_nil, List.cons_append, List.nil_append, List.append_nil, List.getElem?_cons_zero, List.getElem?_cons_succ, eq_self, Int.reduceLT, Int.reduceLE, Int.reduceNeg, Int.reduceEq, m1', g, a1]
        refine sep_store (s.pull 1 rfl) (by simp) fun h4 s => ?_
        have s := s.as (ds := [.string (j.safe ++ j.pending), .string j.pending]) (by simp [t_put])
        simp (disch := omega) only [VW, VY, VZ, VA, VB, VC, VE, TY, ↓reduceIte, Nat.reduceEqDiff, Nat.reduceAdd, Nat.reduceMul, Nat.reduceSub, Nat.reduceLeDiff, List.length_cons, List.length_nil, List.length_append, List.append_assoc, List.take_succ_cons, List.take_zero, List.drop_succ_cons, List.drop_zero, List.set_cons_zero, List.set_cons_succ, true_or, or_true, and_self, Bool.false_eq_true, Nat.le_refl, Option.bind_some, Option.map_some, Option.getD_some, Option.isSome_some, List.map_cons, List.map_nil, List.cons_append, List.nil_append, List.append_nil, List.getElem?_cons_zero, List.getElem?_cons_succ, eq_self, Int.reduceLT, Int.reduceLE, Int.reduceNeg, Int.reduceEq]
        exact key _ _ ⟨⟨j.safe ++ j.pending, j.pending⟩, by simp only []; omega, rfl, rfl, t, sd, by omega, hsd, s.swap⟩
      · have m1' : decide ((m : Int) = 1) = false := decide_eq_false (by omega)
        simp (disch := omega) only [VW, VY, VZ, VA, VB, VC, VE, TY, ↓reduceIte, Nat.reduceEqDiff, Nat.reduceAdd, Nat.reduceMul, Nat.reduceSub, Nat.reduceLeDiff, List.length_cons, List.length_nil, List.length_append, List.append_assoc, List.take_succ_cons, List.take_zero, List.drop_succ_cons, List.drop_zero, List.set_cons_zero, List.set_cons_succ, true_or, or_true, and_self, Bool.false_eq_true, Nat.le_refl, Option.bind_some, Option.map_some, Option.getD_some, Option.isSome_some, List.map_cons, List.map_nil, List.cons_append, List.nil_append, List.append_nil, List.getElem?_cons_zero, List.getElem?_cons_succ, eq_self, Int.reduceLT, Int.reduceLE, Int.reduceNeg, Int.reduceEq, m1']
        by_cases m2 : m = 2
        · have m2' : decide ((m : Int) = 2) = true := decide_eq_true (by omega)
          simp (disch := omega) only [VW, VY, VZ, VA, VB, VC, VE, TY, ↓reduceIte, Nat.reduceEqDiff, Nat.reduceAdd, Nat.reduceMul, Nat.reduceSub, Nat.reduceLeDiff, List.length_cons, List.length_nil, List.length_append, List.append_assoc, List.take_succ_cons, List.take_zero, List.drop_succ_cons, List.drop_zero, List.set_cons_zero, List.set_cons_succ, true_or, or_true, and_self, Bool.false_eq_true, Nat.le_refl, Option.bind_some, Option.map_some, Option.getD_some, Option.isSome_some, List.map_cons, List.map_nil, List.cons_append, List.nil_append, List.append_nil, List.getElem?_cons_zero, List.getElem?_cons_succ, eq_self, Int.reduceLT, Int.reduceLE, Int.reduceNeg, Int.reduceEq, m2', g]
          by_cases z : j.safe.size = 0
          · have q : ¬ (0 : Int) < (j.safe.size : Int) := by omega
            simp (disch := omega) only [VW, VY, VZ, VA, VB, VC, VE, TY, ↓reduceIte, Nat.reduceEqDiff, Nat.reduceAdd, Nat.reduceMul, Nat.reduceSub, Nat.reduceLeDiff, List.length_cons, List.length_nil, List.length_append, List.append_assoc, List.take_succ_cons, List.take_zero, List.drop_succ_cons, List.drop_zero, List.set_cons_zero, List.set_cons_succ, true_or, or_true, and_self, Bool.false_eq_true, Nat.le_refl, Option.bind_some, Option.map_some, Option.getD_some, Option.isSome_some, List.map_cons, List.map_nil, List.cons_append, List.nil_append, List.append_nil, List.getElem?_cons_zero, List.getElem?_cons_succ, eq_self, Int.reduceLT, Int.reduceLE, Int.reduceNeg, Int.reduceEq, q]
            exact key _ _ ⟨j, by omega, rfl, rfl, c.up (by omega)⟩
          · have q : (0 : Int) < (j.safe.size : Int) := by omega
            have k0 : (0 : Int) ≤ (j.safe.size : Int) - 1 := by omega
            have k1 : (j.safe.size : Int) - 1 ≤ (j.safe.size : Int) := by omega
            have k2 : Int.toNat ((j.safe.size : Int) - 1) = j.safe.size - 1 := by omega
            have z1 : (j.safe.extract 0 (j.safe.size - 1)).size = j.safe.size - 1 := by rw [ByteArray.size_extract]; omega
            obtain ⟨t, sd, ht, hsd, s⟩ := c
            simp (disch := omega) only [VW, VY, VZ, VA, VB, VC, VE, TY, ↓reduceIte, Nat.reduceEqDiff, Nat.reduceAdd, Nat.reduceMul, Nat.reduceSub, Nat.reduceLeDiff, List.length_cons, List.length_nil, List.length_append, List.append_assoc, List.take_succ_cons, List.take_zero, List.drop_succ_cons, List.drop_zero, List.set_cons_zero, List.set_cons_succ, true_or, or_true, and_self, Bool.false_eq_true, Nat.le_refl, Option.bind_some, Option.map_some, Option.getD_some, Option.isSome_some, List.map_cons, List.map_nil, List.cons_append, List.nil_append, List.append_nil, List.getElem?_cons_zero, List.getElem?_cons_succ, eq_self, Int.reduceLT, Int.reduceLE, Int.reduceNeg, Int.reduceEq, q, g, k0, k1, k2, wrap_in]
            refine sep_store (s.pull 1 rfl) (by simp) fun h4 s => ?_
            have s := s.as (ds := [.string (j.safe.extract 0 (j.safe.size - 1)), .string j.pending]) (by simp [t_put])
            simp (disch := omega) only [VW, VY, VZ, VA, VB, VC, VE, TY, ↓reduceIte, Nat.reduceEqDiff, Nat.reduceAdd, Nat.reduceMul, Nat.reduceSub, Nat.reduceLeDiff, List.length_cons, List.length_nil, List.length_append, List.append_assoc, List.take_succ_cons, List.take_zero, List.drop_succ_cons, List.drop_zero, List.set_cons_zero, List.set_cons_succ, true_or, or_true, and_self, Bool.false_eq_true, Nat.le_refl, Option.bind_some, Option.map_some, Option.getD_some, Option.isSome_some, List.map_cons, List.map_nil, List.cons_append, List.nil_append, List.append_nil, List.getElem?_cons_zero, List.getElem?_cons_succ, eq_self, Int.reduceLT, Int.reduceLE, Int.reduceNeg, Int.reduceEq]
            exact key _ _ ⟨⟨j.safe.extract 0 (j.safe.size - 1), j.pending⟩, by simp only []; omega, rfl, rfl, t, sd, by omega, hsd, s.swap⟩
        · have m2' : decide ((m : Int) = 2) = false := decide_eq_false (by omega)
          simp (disch := omega) only [VW, VY, VZ, VA, VB, VC, VE, TY, ↓reduceIte, Nat.reduceEqDiff, Nat.reduceAdd, Nat.reduceMul, Nat.reduceSub, Nat.reduceLeDiff, List.length_cons, List.length_nil, List.length_append, List.append_assoc, List.take_succ_cons, List.take_zero, List.drop_succ_cons, List.drop_zero, List.set_cons_zero, List.set_cons_succ, true_or, or_true, and_self, Bool.false_eq_true, Nat.le_refl, Option.bind_some, Option.map_some, Option.getD_some, Option.isSome_some, List.map_cons, List.map_nil, List.cons_append, List.nil_append, List.append_nil, List.getElem?_cons_zero, List.getElem?_cons_succ, eq_self, Int.reduceLT, Int.reduceLE, Int.reduceNeg, Int.reduceEq, m2']
          exact key _ _ ⟨j, by omega, rfl, rfl, c.up (by omega)⟩
end Go.Proofs
end
