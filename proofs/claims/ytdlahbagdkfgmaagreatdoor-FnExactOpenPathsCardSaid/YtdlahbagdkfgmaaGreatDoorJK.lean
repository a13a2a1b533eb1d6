/- Contracts of functions, facts of types, or the plain law behind one statement (own work): JK. Conditions: those told in each theorem. -/
import Derived.Test.YtdlahbagdkfgmaaGreatDoorJM
import Derived.Test.YtdlahbagdkfgmaaGreatDoorD1
set_option linter.all false
set_option linter.unusedSimpArgs false
set_option linter.unusedVariables false
set_option maxRecDepth 4000
namespace Go.Proofs
open Go Go.V
/- The harness' marks of texts. -/
def markT (k : Int) : ByteArray := if k ≤ 0 then ⟨#[109, 48]⟩ else ⟨#[109]⟩ ++ decB k.toNat
theorem markT_size {k : Int} (h : k ≤ 1000000000000000) : (markT k).size ≤ 2000 := by
  unfold markT
  split
  · show 2 ≤ 2000; decide
  · have := decB_size k.toNat (by omega)
    have e : (⟨#[109]⟩ : ByteArray).size = 1 := rfl
    rw [size_append]; omega
theorem markText_c {k : Int} {h : Heap} {Q : Value → Heap → Prop} (hk : k ≤ 1000000000000000) (hQ : ∀ h', Ext h h' → Q (.string (markT k)) h') : CallsV Tryz.prog 40 [.int .i64 k] h Q := by
  refine CallsV.start Tryz.func40 rfl (by rw [Tryz.results40]) (by kernel_rfl) (by rw [Tryz.ntmps40]; simp) ?_
  unfold markT at hQ
  simp (disch := omega) only [VW, VY, VZ, VA, VB, VC, VE, TY, ↓reduceIte, Nat.reduceEqDiff, Nat.reduceAdd, Nat.reduceMul, Nat.reduceSub, Nat.reduceLeDiff, List.length_cons, List.length_nil, List.length_append, List.append_assoc, List.take_succ_cons, List.take_zero, List.drop_succ_cons, List.drop_zero, List.set_cons_zero, List.set_cons_succ, true_or, or_true, and_self, Bool.false_eq_true, Nat.le_refl, Option.bind_some, Option.map_some, Option.getD_some, Option.isSome_some, List.map_cons, List.map_nil, List.cons_append, List.nil_append, List.append_nil, List.getElem?_cons_zero, List.getElem?_cons_succ, eq_self, Int.reduceLT, Int.reduceLE, Int.reduceNeg, Int.reduceEq]
  by_cases c : k ≤ 0
  · rw [if_pos c] at hQ
    simp (disch := omega) only [VW, VY, VZ, VA, VB, VC, VE, TY, ↓reduceIte, Nat.reduceEqDiff, Nat.reduceAdd, Nat.reduceMul, Nat.reduceSub, Nat.reduceLeDiff, List.length_cons, List.length_nil, List.length_append, List.append_assoc, List.take_succ_cons, List.take_zero, List.drop_succ_cons, List.drop_zero, List.set_cons_zero, List.set_cons_succ, true_or, or_true, and_self, Bool.false_eq_true, Nat.le_refl, Option.bind_some, Option.map_some, Option.getD_some, Option.isSome_some, List.map_cons, List.map_nil, List.cons_append, List.nil_append, List.append_nil, List.getElem?_cons_zero, List.getElem?_cons_succ, eq_self, Int.reduceLT, Int.reduceLE, Int.reduceNeg, Int.reduceEq, c]
    exact hQ _ (.refl h)
  · rw [if_neg c] at hQ
    have hz := decB_size k.toNat (by omega)
    have z1 : (⟨#[109]⟩ : ByteArray).size = 1 := rfl
    have kk : (k.toNat : Int) = k := by omega
    simp (disch := omega) only [VW, VY, VZ, VA, VB, VC, VE, TY, ↓reduceIte, Nat.reduceEqDiff, Nat.reduceAdd, Nat.reduceMul, Nat.reduceSub, Nat.reduceLeDiff, List.length_cons, List.length_nil, List.length_append, List.append_assoc, List.take_succ_cons, List.take_zero, List.drop_succ_cons, List.drop_zero, List.set_cons_zero, List.set_cons_succ, true_or, or_true, and_self, Bool.false_eq_true, Nat.le_refl, Option.bind_some, Option.map_some, Option.getD_some, Option.isSome_some, List.map_cons, List.map_nil, List.cons_append, List.nil_append, List.append_nil, List.getElem?_cons_zero, List.getElem?_cons_succ, eq_self, Int.reduceLT, Int.reduceLE, Int.reduceNeg, Int.reduceEq, c]
    refine loop_rule (fun n e h' => ∃ (m : Nat) (o : ByteArray), e 0 = .int .i64 m ∧ e 3 = .string o ∧ m ≤ k.toNat ∧ n = m ∧ decB k.toNat = (if m = 0 then o else decB m ++ o) ∧ o.size ≤ 1000 ∧ Ext h h') ?_ k.toNat _ _ ⟨k.toNat, ⟨#[]⟩, by simp [upd, startEnv, kk], rfl, Nat.le_refl _, rfl, by rw [if_neg (by omega)]; apply bytes_inj; simp, by decide, .refl h⟩
    rintro n e h' ⟨m, o, e0, e3, hm, rfl, hd, ho, E⟩
    simp (disch := omega) only [VW, VY, VZ, VA, VB, VC, VE, TY, ↓reduceIte, Nat.reduceEqDiff, Nat.reduceAdd, Nat.reduceMul, Nat.reduceSub, Nat.reduceLeDiff, List.length_cons, List.length_nil, List.length_append, List.append_assoc, List.take_succ_cons, List.take_zero, List.drop_succ_cons, List.drop_zero, List.set_cons_zero, List.set_cons_succ, true_or, or_true, and_self, Bool.false_eq_true, Nat.le_refl, Option.bind_some, Option.map_some, Option.getD_some, Option.isSome_some, List.map_cons, List.map_nil, List.cons_append, List.nil_append, List.append_nil, List.getElem?_cons_zero, List.getElem?_cons_succ, eq_self, Int.reduceLT, Int.reduceLE, Int.reduceNeg, Int.reduceEq, e0]
    by_cases m0 : n = 0
    · subst m0
      have q : ¬ (0 : Int) < ((0 : Nat) : Int) := by decide
      rw [if_pos rfl] at hd
      have a1 := str_add ⟨#[109]⟩ o (by omega)
      simp (disch := omega) only [VW, VY, VZ, VA, VB, VC, VE, TY, ↓reduceIte, Nat.reduceEqDiff, Nat.reduceAdd, Nat.reduceMul, Nat.reduceSub, Nat.reduceLeDiff, List.length_cons, List.length_nil, List.length_append, List.append_assoc, List.take_succ_cons, List.take_zero, List.drop_succ_cons, List.drop_zero, List.set_cons_zero, List.set_cons_succ, true_or, or_true, and_self, Bool.false_eq_true, Nat.le_refl, Option.bind_some, Option.map_some, Option.getD_some, Option.isSome_some, List.map_cons, List.map_nil, List.cons_append, List.nil_append, List.append_nil, List.getElem?_cons_zero, List.getElem?_cons_succ, eq_self, Int.reduceLT, Int.reduceLE, Int.reduceNeg, Int.reduceEq, q, e3, a1]
      rw [hd] at hQ
      exact hQ _ E
    · have q : (0 : Int) < (n : Int) := by omega
      rw [if_neg m0] at hd
      have q10 : ¬ (10 : Int) = 0 := by decide
      have t1 : Int.tdiv (n : Int) 10 = ((n / 10 : Nat) : Int) := by rw [Int.tdiv_eq_ediv_of_nonneg (by omega)]; rfl
      have t2 : Int.tmod (n : Int) 10 = ((n % 10 : Nat) : Int) := tmod_nat n 10
      have e8 : IntKind.u8.wrap (48 + ((n % 10 : Nat) : Int)) = 48 + ((n % 10 : Nat) : Int) := wrap8_in _ (by omega)
      have e9 : (48 + ((n % 10 : Nat) : Int)).toNat = 48 + n % 10 := by omega
      have hz1 : (⟨#[UInt8.ofNat (48 + n % 10)]⟩ : ByteArray).size = 1 := rfl
      have hb : (⟨#[UInt8.ofNat (48 + n % 10)]⟩ ++ o : ByteArray).size ≤ 1000 := by
        rw [hd] at hz
        rw [size_append] at hz ⊢
        by_cases c10 : n < 10
        · rw [decB_small c10] at hz
          have : (⟨#[UInt8.ofNat (48 + n)]⟩ : ByteArray).size = 1 := rfl
          omega
        · rw [decB_step c10, size_append] at hz
          omega
      have a1 := str_add ⟨#[UInt8.ofNat (48 + n % 10)]⟩ o (by rw [size_append] at hb; omega)
      simp (disch := omega) only [VW, VY, VZ, VA, VB, VC, VE, TY, ↓reduceIte, Nat.reduceEqDiff, Nat.reduceAdd, Nat.reduceMul, Nat.reduceSub, Nat.reduceLeDiff, List.length_cons, List.length_nil, List.length_append, List.append_assoc, List.take_succ_cons, List.take_zero, List.drop_succ_cons, List.drop_zero, List.set_cons_zero, List.set_cons_succ, true_or, or_true, and_self, Bool.false_eq_true, Nat.le_refl, Option.bind_some, Option.map_some, Option.getD_some, Option.isSome_some, List.map_cons, List.map_nil, List.cons_append, List.nil_append, List.append_nil, List.getElem?_cons_zero, List.getElem?_cons_succ, eq_self, Int.reduceLT, Int.reduceLE, Int.reduceNeg, Int.reduceEq, q, e0, e3, q10, t1, t2, wrap_in, e8, e9, a1]
      refine ⟨_, ?_, n / 10, _, rfl, rfl, by omega, rfl, ?_, hb, E.trans (.one _ _)⟩
      · omega
      · rw [hd]
        by_cases c10 : n < 10
        · rw [if_pos (by omega), decB_small c10]
          have : n % 10 = n := by omega
          rw [this]
        · rw [if_neg (by omega), decB_step c10]
          apply bytes_inj; simp
instance : Mrk ByteArray := ⟨fun x _ => x, fun _ => 0, fun _ k => markT k, fun _ => 1⟩
instance : CntB ByteArray := ⟨fun _ => Nat.zero_le _, fun x => by show 1 ≤ 8 * (1 + Siz.siz x); omega⟩
instance : Mrk Mk := ⟨fun x _ => x, fun _ => 0, fun _ k => ⟨markT k, k + 1⟩, fun _ => 2⟩
instance : CntB Mk := ⟨fun _ => Nat.zero_le _, fun x => by show 2 ≤ 8 * (1 + Siz.siz x); omega⟩
end Go.Proofs
