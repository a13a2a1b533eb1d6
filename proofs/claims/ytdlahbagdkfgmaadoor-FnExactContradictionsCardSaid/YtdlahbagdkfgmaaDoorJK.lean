/- Contracts of functions, facts of types, or the plain law behind one statement (own work): JK. Conditions: those told in each theorem. -/
import Derived.Test.YtdlahbagdkfgmaaDoorJM
import Derived.Test.YtdlahbagdkfgmaaDoorD1
set_option linter.all false
set_option linter.unusedSimpArgs false
set_option linter.unusedVariables false
set_option maxRecDepth 4000
namespace Go.Proofs
open Go Go.V
/- The harness' marks of texts. -/
def markT (k : Int) : ByteArray := if k ≤ 0 then ⟨#[109, 48]⟩ else ⟨#[109]⟩ ++ decB k.toNat
theorem markT_size {k : Int} (h : k ≤ 1000000000000000) : (markT k).size ≤ 2000 := by
  unfold markT
  split
  · show 2 ≤ 2000; decide
  · have := decB_size k.toNat (by omega)
    have e : (⟨#[109]⟩ : ByteArray).size = 1 := rfl
    rw [size_append]; omega
theorem markText_c {k : Int} {h : Heap} {Q : Value → Heap → Prop} (hk : k ≤ 1000000000000000) (hQ : ∀ h', Ext h h' → Q (.string (markT k)) h') : CallsV Tryd.prog 63 [.int .i64 k] h Q := by
  refine CallsV.start Tryd.func63 rfl (by rw [Tryd.results63]) (by kernel_rfl) (by rw [Tryd.ntmps63]; simp) ?_
  unfold markT at hQ
  simp (disch := omega) only [VW, VY, VZ, VA, VB, VC, VE, TY, ↓reduceIte, Nat.reduceEqDiff, Nat.reduceAdd, Nat.reduceMul, Nat.reduceSub, Nat.reduceLeDiff, List.length_cons, List.length_nil, List.length_append, List.append_assoc, List.take_succ_cons, List.take_zero, List.drop_succ_cons, List.drop_zero, List.set_cons_zero, List.set_cons_succ, true_or, or_true, and_self, Bool.false_eq_true, Nat.le_refl, Option.bind_some, Option.map_some, Option.getD_some, Option.isSome_some, List.map_cons, List.map_nil, List.cons_append, List.nil_append, List.append_nil, List.getElem?_cons_zero, List.getElem?_cons_succ, eq_self, Int.reduceLT, Int.reduceLE, Int.reduceNeg, Int.reduceEq]
  by_cases c : k ≤ 0
  · rw [if_pos c] at hQ
    simp (disch := omega) only [VW, VY, VZ, VA, VB, VC, VE, TY, ↓reduceIte, Nat.reduceEqDiff, Nat.reduceAdd, Nat.reduceMul, Nat.reduceSub, Nat.reduceLeDiff, List.length_cons, List.length_nil, List.length_append, List.append_assoc, List.take_succ_cons, List.take_zero, List.drop_succ_cons, List.drop_zero, List.set_cons_zero, List.set_cons_succ, true_or, or_true, and_self, Bool.false_eq_true, Nat.le_refl, Option.bind_some, Option.map_some, Option.getD_some, Option.isSome_some, List.map_cons, List.map_nil, List.cons_append, List.nil_append, List.append_nil, List.getElem?_cons_zero, List.getElem?_cons_succ, eq_self, Int.reduceLT, Int.reduceLE, Int.reduceNeg, Int.reduceEq, c]
    exact hQ _ (.refl h)
  · rw [if_neg c] at hQ
    have hz := decB_size k.toNat (by omega)
    have z1 : (⟨#[109]⟩ : ByteArray).size = 1 := rfl
    have kk : (k.toNat : Int) = k := by omega
    simp (disch := omega) only [VW, VY, VZ, VA, VB, VC, VE, TY, ↓reduceIte, Nat.reduceEqDiff, Nat.reduceAdd, Nat.reduceMul, Nat.reduceSub, Nat.reduceLeDiff, List.length_cons, List.length_nil, List.length_append, List.append_assoc, List.take_succ_cons, List.take_zero, List.drop_succ_cons, List.drop_zero, List.set_cons_zero, List.set_cons_succ, true_or, or_true, and_self, Bool.false_eq_true, Nat.le_refl, Option.bind_some, Option.map_some, Option.getD_some, Option.isSome_some, List.map_cons, List.map_nil, List.cons_append, List.nil_append, List.append_nil, List.getElem?_cons_zero, List.getElem?_cons_succ, eq_self, Int.reduceLT, Int.reduceLE, Int.reduceNeg, Int.reduceEq, c]
    refine loop_rule (fun n e h' => ∃ (m : Nat) (o : ByteArray), e 0 = .int .i64 m ∧ e 3 = .string o ∧ m ≤ k.toNat ∧ n = m ∧ decB k.toNat = (if m = 0 then o else decB m ++ o) ∧ o.size ≤ 1000 ∧ Ext h h') ?_ k.toNat _ _ ⟨k.toNat, ⟨#[]⟩, by simp [upd, startEnv, kk], rfl, Nat.le_refl _, rfl, by rw [if_neg (by omega)]; apply bytes_inj; simp, by decide, .refl h⟩
    rintro n e h' ⟨m, o, e0, e3, hm, rfl, hd, ho, E⟩
    simp (disch := omega) only [VW, VY, VZ, VA, VB, VC, VE, TY, ↓reduceIte, Nat.reduceEqDiff, Nat.reduceAdd, Nat.reduceMul, Nat.reduceSub, Nat.reduceLeDiff, List.length_cons, List.length_nil, List.length_append, List.append_assoc, List.take_succ_cons, List.take_zero, List.drop_succ_cons, List.drop_zero, List.set_cons_zero, List.set_cons_succ, true_or, or_true, and_self, Bool.false_eq_true, Nat.le_refl, Option.bind_some, Option.map_some, Option.getD_some, Option.isSome_some, List.map_cons, List.map_nil, List.cons_append, List.nil_append, List.append_nil, List.getElem?_cons_zero, List.getElem?_cons_succ, eq_self, Int.reduceLT, Int.reduceLE, Int.reduceNeg, Int.reduceEq, e0]
    by_cases m0 : n = 0
    · subst m0
      have q : ¬ (0 : Int) < ((0 : Nat) : Int) := by decide
      rw [if_pos rfl] at hd
      have a1 := str_add ⟨#[109]⟩ o (by omega)
      simp (disch := omega) only [VW, VY, VZ, VA, VB, VC, VE, TY, ↓reduceIte, Nat.reduceEqDiff, Nat.reduceAdd, Nat.reduceMul, Nat.reduceSub, Nat.reduceLeDiff, List.length_cons, List.length_nil, List.length_append, List.append_assoc, List.take_succ_cons, List.take_zero, List.drop_succ_cons, List.drop_zero, List.set_cons_zero, List.set_cons_succ, true_or, or_true, and_self, Bool.false_eq_true, Nat.le_refl, Option.bind_some, Option.map_some, Option.getD_some, Option.isSome_some, List.map_cons, List.map_nil, List.cons_append, List.nil_append, List.append_nil, List.getElem?_cons_zero, List.getElem?_cons_succ, eq_self, Int.reduceLT, Int.reduceLE, Int.reduceNeg, Int.reduceEq, q, e3, a1]
      rw [hd] at hQ
      exact hQ _ E
    · have q : (0 : Int) < (n : Int) := by omega
      rw [if_neg m0] at hd
      have q10 : ¬ (10 : Int) = 0 := by decide
      have t1 : Int.tdiv (n : Int) 10 = ((n / 10 : Nat) : Int) := by rw [Int.tdiv_eq_ediv_of_nonneg (by omega)]; rfl
      have t2 : Int.tmod (n : Int) 10 = ((n % 10 : Nat) : Int) := tmod_nat n 10
      have e8 : IntKind.u8.wrap (48 + ((n % 10 : Nat) : Int)) = 48 + ((n % 10 : Nat) : Int) := wrap8_in _ (by omega)
      have e9 : (48 + ((n % 10 : Nat) : Int)).toNat = 48 + n % 10 := by omega
      have hz1 : (⟨#[UInt8.ofNat (48 + n % 10)]⟩ : ByteArray).size = 1 := rfl
      have hb : (⟨#[UInt8.ofNat (48 + n % 10)]⟩ ++ o : ByteArray).size ≤ 1000 := by
        rw [hd] at hz
        rw [size_append] at hz ⊢
        by_cases c10 : n < 10
        · rw [decB_small c10] at hz
          have : (⟨#[UInt8.ofNat (48 + n)]⟩ : ByteArray).size = 1 := rfl
          omega
        · rw [decB_step c10, size_append] at hz
          omega
      have a1 := str_add ⟨#[UInt8.ofNat (48 + n % 10)]⟩ o (by rw [size_append] at hb; omega)
      simp (disch := omega) only [VW, VY, VZ, VA, VB, VC, VE, TY, ↓reduceIte, Nat.reduceEqDiff, Nat.reduceAdd, Nat.reduceMul, Nat.reduceSub, Nat.reduceLeDiff, List.length_cons, List.length_nil, List.length_append, List.append_assoc, List.take_succ_cons, List.take_zero, List.drop_succ_cons, List.drop_zero, List.set_cons_zero, List.set_cons_succ, true_or, or_true, and_self, Bool.false_eq_true, Nat.le_refl, Option.bind_some, Option.map_some, Option.getD_some, Option.isSome_some, List.map_cons, List.map_nil, List.cons_append, List.nil_append, List.append_nil, List.getElem?_cons_zero, List.getElem?_cons_succ, eq_self, Int.reduceLT, Int.reduceLE, Int.reduceNeg, Int.reduceEq, q, e0, e3, q10, t1, t2, wrap_in, e8, e9, a1]
      refine ⟨_, ?_, n / 10, _, rfl, rfl, by omega, rfl, ?_, hb, E.trans (.one _ _)⟩
      · omega
      · rw [hd]
        by_cases c10 : n < 10
        · rw [if_pos (by omega), decB_small c10]
          have : n % 10 = n := by omega
          rw [this]
        · rw [if_neg (by omega), decB_step c10]
          apply bytes_inj; simp
instance : Mrk ByteArray := ⟨fun x _ => x, fun _ => 0, fun _ k => markT k, fun _ => 1⟩
instance : CntB ByteArray := ⟨fun _ => Nat.zero_le _, fun x => by show 1 ≤ 8 * (1 + Siz.siz x); omega⟩
instance : Mrk Mk := ⟨fun x _ => x, fun _ => 0, fun _ k => ⟨markT k, k + 1⟩, fun _ => 2⟩
instance : CntB Mk := ⟨fun _ => Nat.zero_le _, fun x => by show 2 ≤ 8 * (1 + Siz.siz x); omega⟩
theorem markMarkS_c {l : List Mk} {v : Value} {k : Int} {a h : Heap} {L : List Asr} {Q : Value → Heap → Prop} (s : Sep a h (repA l [v] :: L)) (k0 : 0 ≤ k) (hk : k + (cntL l : Nat) ≤ 1000000000000000)
    (hQ : ∀ h', Sep a h' (repA (mkL l k) [v] :: L) → Q (.int .i64 (k + (cntL l : Nat))) h') : CallsV Tryd.prog 33 [v, .int .i64 k] h Q := by
  refine CallsV.start Tryd.func33 rfl (by rw [Tryd.results33]) (by kernel_rfl) (by rw [Tryd.ntmps33]; simp) ?_
  have hle := s.rowR.le
  simp (disch := omega) only [VW, VY, VZ, VA, VB, VC, VE, TY, ↓reduceIte, Nat.reduceEqDiff, Nat.reduceAdd, Nat.reduceMul, Nat.reduceSub, Nat.reduceLeDiff, List.length_cons, List.length_nil, List.length_append, List.append_assoc, List.take_succ_cons, List.take_zero, List.drop_succ_cons, List.drop_zero, List.set_cons_zero, List.set_cons_succ, true_or, or_true, and_self, Bool.false_eq_true, Nat.le_refl, Option.bind_some, Option.map_some, Option.getD_some, Option.isSome_some, List.map_cons, List.map_nil, List.cons_append, List.nil_append, List.append_nil, List.getElem?_cons_zero, List.getElem?_cons_succ, eq_self, Int.reduceLT, Int.reduceLE, Int.reduceNeg, Int.reduceEq]
  refine loop_rule (fun n e h' => ∃ (i : Nat), e 0 = v ∧ e 1 = .int .i64 (k + (cntL (l.take i) : Nat)) ∧ e 5 = .int .i64 i ∧ i ≤ l.length ∧ n = l.length - i ∧ Sep a h' (repA (mkL (l.take i) k ++ l.drop i) [v] :: L)) ?_ l.length _ _ ⟨0, rfl, by simp [upd, cntL, startEnv], rfl, Nat.zero_le _, rfl, by simpa [mkL] using s⟩
  rintro n e h1 ⟨i, e0, e1, ei, hi, rfl, s⟩
  have hlen := mkP_length l k hi
  have ro := s.rowR.isRow
  rw [hlen] at ro
  simp (disch := omega) only [VW, VY, VZ, VA, VB, VC, VE, TY, ↓reduceIte, Nat.reduceEqDiff, Nat.reduceAdd, Nat.reduceMul, Nat.reduceSub, Nat.reduceLeDiff, List.length_cons, List.length_nil, List.length_append, List.append_assoc, List.take_succ_cons, List.take_zero, List.drop_succ_cons, List.drop_zero, List.set_cons_zero, List.set_cons_succ, true_or, or_true, and_self, Bool.false_eq_true, Nat.le_refl, Option.bind_some, Option.map_some, Option.getD_some, Option.isSome_some, List.map_cons, List.map_nil, List.cons_append, List.nil_append, List.append_nil, List.getElem?_cons_zero, List.getElem?_cons_succ, eq_self, Int.reduceLT, Int.reduceLE, Int.reduceNeg, Int.reduceEq, e0, ei, ro.len]
  by_cases hlt : i < l.length
  · obtain ⟨x, hx⟩ := get_some hlt
    have c1 : (i : Int) < (l.length : Int) := by omega
    have ct := cntL_take hx
    have cl := cntL_take_le l (i + 1)
    have hset := mkP_set hx k
    have ec : Mrk.ecnt x = 2 := rfl
    have em : ∀ K, Mrk.emk x K = ⟨markT K, K + 1⟩ := fun _ => rfl
    rw [em] at hset
    generalize hK : k + (cntL (l.take i) : Nat) = K at *
    have kb : 0 ≤ K ∧ K + (Mrk.ecnt x : Nat) ≤ 1000000000000000 := by omega
    simp (disch := omega) only [VW, VY, VZ, VA, VB, VC, VE, TY, ↓reduceIte, Nat.reduceEqDiff, Nat.reduceAdd, Nat.reduceMul, Nat.reduceSub, Nat.reduceLeDiff, List.length_cons, List.length_nil, List.length_append, List.append_assoc, List.take_succ_cons, List.take_zero, List.drop_succ_cons, List.drop_zero, List.set_cons_zero, List.set_cons_succ, true_or, or_true, and_self, Bool.false_eq_true, Nat.le_refl, Option.bind_some, Option.map_some, Option.getD_some, Option.isSome_some, List.map_cons, List.map_nil, List.cons_append, List.nil_append, List.append_nil, List.getElem?_cons_zero, List.getElem?_cons_succ, eq_self, Int.reduceLT, Int.reduceLE, Int.reduceNeg, Int.reduceEq, e0, e1, ei, c1]
    refine .inl ⟨by kernel_rfl, ?_⟩; refine markText_c (by omega) fun h2 E2 => ?_
    have s := s.mono E2
    obtain ⟨cs, x3, s⟩ := s.focus (mkP_get hx k)
    obtain ⟨rfl, fe1, fe2⟩ := here_Mk s.here
    have s := s.tail
    simp (disch := omega) only [VW, VY, VZ, VA, VB, VC, VE, TY, ↓reduceIte, Nat.reduceEqDiff, Nat.reduceAdd, Nat.reduceMul, Nat.reduceSub, Nat.reduceLeDiff, List.length_cons, List.length_nil, List.length_append, List.append_assoc, List.take_succ_cons, List.take_zero, List.drop_succ_cons, List.drop_zero, List.set_cons_zero, List.set_cons_succ, true_or, or_true, and_self, Bool.false_eq_true, Nat.le_refl, Option.bind_some, Option.map_some, Option.getD_some, Option.isSome_some, List.map_cons, List.map_nil, List.cons_append, List.nil_append, List.append_nil, List.getElem?_cons_zero, List.getElem?_cons_succ, eq_self, Int.reduceLT, Int.reduceLE, Int.reduceNeg, Int.reduceEq, e0, e1, ei, ro.ix]
    refine sep_hole (j := 0) s (by simp [show Rep.sz Mk = 2 from rfl]) (by simp) fun h10 s => ?_
    have s := Sep.hcs (ds := [.string (markT K), .int .i64 x.kind]) s rfl
    simp (disch := omega) only [VW, VY, VZ, VA, VB, VC, VE, TY, ↓reduceIte, Nat.reduceEqDiff, Nat.reduceAdd, Nat.reduceMul, Nat.reduceSub, Nat.reduceLeDiff, List.length_cons, List.length_nil, List.length_append, List.append_assoc, List.take_succ_cons, List.take_zero, List.drop_succ_cons, List.drop_zero, List.set_cons_zero, List.set_cons_succ, true_or, or_true, and_self, Bool.false_eq_true, Nat.le_refl, Option.bind_some, Option.map_some, Option.getD_some, Option.isSome_some, List.map_cons, List.map_nil, List.cons_append, List.nil_append, List.append_nil, List.getElem?_cons_zero, List.getElem?_cons_succ, eq_self, Int.reduceLT, Int.reduceLE, Int.reduceNeg, Int.reduceEq, e0, e1, ei, ro.ix, wrap_in]
    refine sep_hole (j := 1) s (by simp [show Rep.sz Mk = 2 from rfl]) (by simp) fun h11 s => ?_
    have s := Sep.hcs (ds := [.string (markT K), .int .i64 (K + 1)]) s rfl
    simp (disch := omega) only [VW, VY, VZ, VA, VB, VC, VE, TY, ↓reduceIte, Nat.reduceEqDiff, Nat.reduceAdd, Nat.reduceMul, Nat.reduceSub, Nat.reduceLeDiff, List.length_cons, List.length_nil, List.length_append, List.append_assoc, List.take_succ_cons, List.take_zero, List.drop_succ_cons, List.drop_zero, List.set_cons_zero, List.set_cons_succ, true_or, or_true, and_self, Bool.false_eq_true, Nat.le_refl, Option.bind_some, Option.map_some, Option.getD_some, Option.isSome_some, List.map_cons, List.map_nil, List.cons_append, List.nil_append, List.append_nil, List.getElem?_cons_zero, List.getElem?_cons_succ, eq_self, Int.reduceLT, Int.reduceLE, Int.reduceNeg, Int.reduceEq, e0, e1, ei, wrap_in]
    have zt := markT_size (k := K) (by omega)
    have s := Sep.rep0 (x := (⟨markT K, K + 1⟩ : Mk)) s (rep_Mk (x := ⟨markT K, K + 1⟩) (by simp only []; omega) ⟨by simp only []; omega, by simp only []; omega⟩)
    have s := Sep.close (y := (⟨markT K, K + 1⟩ : Mk)) (cs := [.string (markT K), .int .i64 (K + 1)]) s
    rw [hset] at s
    exact ⟨_, by omega, i + 1, by congr 1; omega, by simp, by omega, rfl, s⟩
  · obtain rfl : i = l.length := by omega
    have c1 : ¬ (l.length : Int) < (l.length : Int) := by omega
    rw [List.take_length, List.drop_length, List.append_nil] at s
    rw [List.take_length] at e1
    simp (disch := omega) only [VW, VY, VZ, VA, VB, VC, VE, TY, ↓reduceIte, Nat.reduceEqDiff, Nat.reduceAdd, Nat.reduceMul, Nat.reduceSub, Nat.reduceLeDiff, List.length_cons, List.length_nil, List.length_append, List.append_assoc, List.take_succ_cons, List.take_zero, List.drop_succ_cons, List.drop_zero, List.set_cons_zero, List.set_cons_succ, true_or, or_true, and_self, Bool.false_eq_true, Nat.le_refl, Option.bind_some, Option.map_some, Option.getD_some, Option.isSome_some, List.map_cons, List.map_nil, List.cons_append, List.nil_append, List.append_nil, List.getElem?_cons_zero, List.getElem?_cons_succ, eq_self, Int.reduceLT, Int.reduceLE, Int.reduceNeg, Int.reduceEq, e0, e1, ei, c1]
    exact hQ _ s
theorem heldMarkS_c {l : List Mk} {v : Value} {k : Int} {h : Heap} {Q : Value → Heap → Prop} (hl : Row h (mkL l k) v) (k0 : 0 ≤ k) (hk : k + (cntL l : Nat) ≤ 1000000000000000)
    (hQ : ∀ h', Ext h h' → Q (.int .i64 (k + (cntL l : Nat))) h') : CallsV Tryd.prog 34 [v, .int .i64 k] h Q := by
  refine CallsV.start Tryd.func34 rfl (by rw [Tryd.results34]) (by kernel_rfl) (by rw [Tryd.ntmps34]; simp) ?_
  have hle := hl.le
  have ro := hl.isRow
  rw [mkL_length] at hle ro
  simp (disch := omega) only [VW, VY, VZ, VA, VB, VC, VE, TY, ↓reduceIte, Nat.reduceEqDiff, Nat.reduceAdd, Nat.reduceMul, Nat.reduceSub, Nat.reduceLeDiff, List.length_cons, List.length_nil, List.length_append, List.append_assoc, List.take_succ_cons, List.take_zero, List.drop_succ_cons, List.drop_zero, List.set_cons_zero, List.set_cons_succ, true_or, or_true, and_self, Bool.false_eq_true, Nat.le_refl, Option.bind_some, Option.map_some, Option.getD_some, Option.isSome_some, List.map_cons, List.map_nil, List.cons_append, List.nil_append, List.append_nil, List.getElem?_cons_zero, List.getElem?_cons_succ, eq_self, Int.reduceLT, Int.reduceLE, Int.reduceNeg, Int.reduceEq]
  refine loop_rule (fun n e h' => ∃ (i : Nat), e 0 = v ∧ e 1 = .int .i64 (k + (cntL (l.take i) : Nat)) ∧ e 5 = .int .i64 i ∧ i ≤ l.length ∧ n = l.length - i ∧ Ext h h') ?_ l.length _ _ ⟨0, rfl, by simp [upd, cntL, startEnv], rfl, Nat.zero_le _, rfl, .refl _⟩
  rintro n e h1 ⟨i, e0, e1, ei, hi, rfl, E1⟩
  simp (disch := omega) only [VW, VY, VZ, VA, VB, VC, VE, TY, ↓reduceIte, Nat.reduceEqDiff, Nat.reduceAdd, Nat.reduceMul, Nat.reduceSub, Nat.reduceLeDiff, List.length_cons, List.length_nil, List.length_append, List.append_assoc, List.take_succ_cons, List.take_zero, List.drop_succ_cons, List.drop_zero, List.set_cons_zero, List.set_cons_succ, true_or, or_true, and_self, Bool.false_eq_true, Nat.le_refl, Option.bind_some, Option.map_some, Option.getD_some, Option.isSome_some, List.map_cons, List.map_nil, List.cons_append, List.nil_append, List.append_nil, List.getElem?_cons_zero, List.getElem?_cons_succ, eq_self, Int.reduceLT, Int.reduceLE, Int.reduceNeg, Int.reduceEq, e0, ei, ro.len]
  by_cases hlt : i < l.length
  · obtain ⟨x, hx⟩ := get_some hlt
    have c1 : (i : Int) < (l.length : Int) := by omega
    have ct := cntL_take hx
    have cl := cntL_take_le l (i + 1)
    have hx' := mkL_get hx k
    have ec : Mrk.ecnt x = 2 := rfl
    have em : ∀ K, Mrk.emk x K = ⟨markT K, K + 1⟩ := fun _ => rfl
    rw [em] at hx'
    generalize hK : k + (cntL (l.take i) : Nat) = K at *
    have kb : 0 ≤ K ∧ K + (Mrk.ecnt x : Nat) ≤ 1000000000000000 := by omega
    have hl1 := hl.mono E1
    obtain ⟨x3, x4⟩ := at_Mk (hl1.ptr hx')
    have x3 : getC h1 (rowB v) (rowO v + i * 2) = some (.string (markT K)) := x3
    have x4 : getC h1 (rowB v) (rowO v + i * 2 + 1) = some (.int .i64 (K + 1)) := x4.1
    simp (disch := omega) only [VW, VY, VZ, VA, VB, VC, VE, TY, ↓reduceIte, Nat.reduceEqDiff, Nat.reduceAdd, Nat.reduceMul, Nat.reduceSub, Nat.reduceLeDiff, List.length_cons, List.length_nil, List.length_append, List.append_assoc, List.take_succ_cons, List.take_zero, List.drop_succ_cons, List.drop_zero, List.set_cons_zero, List.set_cons_succ, true_or, or_true, and_self, Bool.false_eq_true, Nat.le_refl, Option.bind_some, Option.map_some, Option.getD_some, Option.isSome_some, List.map_cons, List.map_nil, List.cons_append, List.nil_append, List.append_nil, List.getElem?_cons_zero, List.getElem?_cons_succ, eq_self, Int.reduceLT, Int.reduceLE, Int.reduceNeg, Int.reduceEq, c1]
    refine draw_ord [0, 1, 2, 3, 4, 5, 6, 7] (by kernel_rfl) (by simp only [List.filterMap_cons, List.filterMap_nil, List.getElem?_cons_zero, List.getElem?_cons_succ]; rfl) ?_
    simp (disch := omega) only [VW, VY, VZ, VA, VB, VC, VE, TY, ↓reduceIte, Nat.reduceEqDiff, Nat.reduceAdd, Nat.reduceMul, Nat.reduceSub, Nat.reduceLeDiff, List.length_cons, List.length_nil, List.length_append, List.append_assoc, List.take_succ_cons, List.take_zero, List.drop_succ_cons, List.drop_zero, List.set_cons_zero, List.set_cons_succ, true_or, or_true, and_self, Bool.false_eq_true, Nat.le_refl, Option.bind_some, Option.map_some, Option.getD_some, Option.isSome_some, List.map_cons, List.map_nil, List.cons_append, List.nil_append, List.append_nil, List.getElem?_cons_zero, List.getElem?_cons_succ, eq_self, Int.reduceLT, Int.reduceLE, Int.reduceNeg, Int.reduceEq, e0, e1, ei, ro.ix, x3]
    refine .inl ⟨by kernel_rfl, ?_⟩; refine markText_c (by omega) fun h2 E2 => ?_
    have y3 := E2.keepC x3
    have y4 := E2.keepC x4
    simp (disch := omega) only [VW, VY, VZ, VA, VB, VC, VE, TY, ↓reduceIte, Nat.reduceEqDiff, Nat.reduceAdd, Nat.reduceMul, Nat.reduceSub, Nat.reduceLeDiff, List.length_cons, List.length_nil, List.length_append, List.append_assoc, List.take_succ_cons, List.take_zero, List.drop_succ_cons, List.drop_zero, List.set_cons_zero, List.set_cons_succ, true_or, or_true, and_self, Bool.false_eq_true, Nat.le_refl, Option.bind_some, Option.map_some, Option.getD_some, Option.isSome_some, List.map_cons, List.map_nil, List.cons_append, List.nil_append, List.append_nil, List.getElem?_cons_zero, List.getElem?_cons_succ, eq_self, Int.reduceLT, Int.reduceLE, Int.reduceNeg, Int.reduceEq, e0, e1, ei, y3, y4, ro.ix, wrap_in]
    exact ⟨_, by omega, i + 1, by congr 1; omega, by simp, by omega, rfl, E1.trans E2⟩
  · obtain rfl : i = l.length := by omega
    have c1 : ¬ (l.length : Int) < (l.length : Int) := by omega
    rw [List.take_length] at e1
    simp (disch := omega) only [VW, VY, VZ, VA, VB, VC, VE, TY, ↓reduceIte, Nat.reduceEqDiff, Nat.reduceAdd, Nat.reduceMul, Nat.reduceSub, Nat.reduceLeDiff, List.length_cons, List.length_nil, List.length_append, List.append_assoc, List.take_succ_cons, List.take_zero, List.drop_succ_cons, List.drop_zero, List.set_cons_zero, List.set_cons_succ, true_or, or_true, and_self, Bool.false_eq_true, Nat.le_refl, Option.bind_some, Option.map_some, Option.getD_some, Option.isSome_some, List.map_cons, List.map_nil, List.cons_append, List.nil_append, List.append_nil, List.getElem?_cons_zero, List.getElem?_cons_succ, eq_self, Int.reduceLT, Int.reduceLE, Int.reduceNeg, Int.reduceEq, e0, e1, ei, c1]
    exact hQ _ E1
end Go.Proofs
