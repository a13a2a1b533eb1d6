/- Contracts of functions, facts of types, or the plain law behind one statement (own work): DD. Conditions: those told in each theorem. -/
import Derived.Test.YtkapgaajomaheaaDoorDC
import Derived.Test.YtkapgaajomaheaaDoorJX
set_option linter.all false
set_option linter.unusedSimpArgs false
set_option linter.unusedVariables false
set_option maxRecDepth 4000
namespace Go.Proofs
open Go Go.V
/- Journals that are drawn. -/
theorem append_sz2 (j : Jn) (m : Mk) (hm : m.path.size ≤ 9) : (appendM j m).1.safe.size + (appendM j m).1.pending.size ≤ j.safe.size + j.pending.size + 2016 := by
  unfold appendM
  have z0 : jn0.safe.size = 0 := rfl
  have z1 : jn0.pending.size = 0 := rfl
  split
  · rename_i l hl
    have hn := marksJ_len hl
    have hz := lineB_size (n := l.length) m (by omega)
    have sz := size_append j.pending (lineB l.length m)
    split
    · simp only []; omega
    · simp only []; omega
  · simp only []; omega
theorem siz_le_Jn {j : Jn} (h : j.safe.size + j.pending.size ≤ 1000000) : Siz.siz j ≤ 1000000 := h
theorem siz_le_Mk {m : Mk} (h : m.path.size ≤ 1000000) : Siz.siz m ≤ 1000000 := h
def dig4 : ByteArray := ⟨#[48, 49, 50, 51]⟩
theorem journal_c {a h : Heap} {b : Nat} {vc : Value} {B : Nat} {L : List Asr} {code : List UInt8} {Q : Value → Heap → Prop} (r : Row a code vc) (hl : code.length ≤ 1048576) (hB : B ≤ 100000000) (c : Cur a h b vc B L)
    (hQ : ∀ j : Jn, j.safe.size + j.pending.size ≤ 120000 → ∀ h', Cur a h' b vc (B + 2000) L → Q (.agg #[.string j.safe, .string j.pending]) h') : CallsV Tryd.prog 25 [.pointer (some ⟨b, 0, none⟩)] h Q := by
  refine CallsV.start Tryd.func25 rfl (by rw [Tryd.results25]) (by kernel_rfl) (by rw [Tryd.ntmps25]; simp) ?_
  have c := c.add (Sep.blk2 h [.string ⟨#[]⟩, .string ⟨#[]⟩] [.string ⟨#[]⟩, .string ⟨#[]⟩] 24 24 true true)
  simp (disch := omega) only [VW, VY, VZ, VA, VB, VC, VE, TY, ↓reduceIte, Nat.reduceEqDiff, Nat.reduceAdd, Nat.reduceMul, Nat.reduceSub, Nat.reduceLeDiff, List.length_cons, List.length_nil, List.length_append, List.append_assoc, List.take_succ_cons, List.take_zero, List.drop_succ_cons, List.drop_zero, List.set_cons_zero, List.set_cons_succ, true_or, or_true, and_self, Bool.false_eq_true, Nat.le_refl, Option.bind_some, Option.map_some, Option.getD_some, Option.isSome_some, List.map_cons, List.map_nil, List.cons_append, List.nil_append, List.append_nil, List.getElem?_cons_zero, List.getElem?_cons_succ, eq_self, Int.reduceLT, Int.reduceLE, Int.reduceNeg, Int.reduceEq]
  refine .inl ⟨by kernel_rfl, ?_⟩; refine pick_c r hl (by omega) c (by decide) fun n hn h1 c => ?_
  have hn : n ≤ 8 := by omega
  simp (disch := omega) only [VW, VY, VZ, VA, VB, VC, VE, TY, ↓reduceIte, Nat.reduceEqDiff, Nat.reduceAdd, Nat.reduceMul, Nat.reduceSub, Nat.reduceLeDiff, List.length_cons, List.length_nil, List.length_append, List.append_assoc, List.take_succ_cons, List.take_zero, List.drop_succ_cons, List.drop_zero, List.set_cons_zero, List.set_cons_succ, true_or, or_true, and_self, Bool.false_eq_true, Nat.le_refl, Option.bind_some, Option.map_some, Option.getD_some, Option.isSome_some, List.map_cons, List.map_nil, List.cons_append, List.nil_append, List.append_nil, List.getElem?_cons_zero, List.getElem?_cons_succ, eq_self, Int.reduceLT, Int.reduceLE, Int.reduceNeg, Int.reduceEq]
  refine .inl ⟨by kernel_rfl, ?_⟩; refine one_c r hl (by omega) c (by decide) fun x h2 c => ?_
  refine cond_cutD (fun e' h' => ∃ k : Nat, k ≤ 40 ∧ e' 0 = .pointer (some ⟨b, 0, none⟩) ∧ e' 2 = .pointer (some ⟨h.length, 0, none⟩) ∧ e' 3 = .pointer (some ⟨h.length + 1, 0, none⟩) ∧ e' 4 = .int .i64 (k : Nat) ∧ h' = h2) ?_ ?_
  · rintro e h3 ⟨n, hn, e0, e2, e3, e4, rfl⟩
    simp (disch := omega) only [VW, VY, VZ, VA, VB, VC, VE, TY, ↓reduceIte, Nat.reduceEqDiff, Nat.reduceAdd, Nat.reduceMul, Nat.reduceSub, Nat.reduceLeDiff, List.length_cons, List.length_nil, List.length_append, List.append_assoc, List.take_succ_cons, List.take_zero, List.drop_succ_cons, List.drop_zero, List.set_cons_zero, List.set_cons_succ, true_or, or_true, and_self, Bool.false_eq_true, Nat.le_refl, Option.bind_some, Option.map_some, Option.getD_some, Option.isSome_some, List.map_cons, List.map_nil, List.cons_append, List.nil_append, List.append_nil, List.getElem?_cons_zero, List.getElem?_cons_succ, eq_self, Int.reduceLT, Int.reduceLE, Int.reduceNeg, Int.reduceEq]
    refine loop_rule (fun k e h' => ∃ j : Jn, k ≤ 40 ∧ j.safe.size + j.pending.size ≤ 3000 * (40 - k) ∧ e 0 = .pointer (some ⟨b, 0, none⟩) ∧ e 2 = .pointer (some ⟨h.length, 0, none⟩) ∧ e 3 = .pointer (some ⟨h.length + 1, 0, none⟩) ∧ e 4 = .int .i64 (k : Nat) ∧
      Cur a h' b vc (B + 10 + 40 * (40 - k)) (blkA (h.length + 1) [.string j.safe, .string j.pending] 24 :: blkA h.length [.string ⟨#[]⟩, .string ⟨#[]⟩] 24 :: L)) ?_ n _ _ ⟨jn0, hn, Nat.zero_le _, e0, e2, e3, e4, c.up (by omega)⟩
    clear e0 e2 e3 e4 c
    rintro k e h4 ⟨j, hk, hj, e0, e2, e3, e4, c⟩
    cases k with
    | zero =>
      have q : ¬ (0 : Int) < ((0 : Nat) : Int) := by decide
      have q' : ¬ (0 : Int) < 0 := by decide
      obtain ⟨t, sd, ht, hsd, s⟩ := c
      have ga := (s.pull 1 rfl).rdAll (n := 2) rfl
      simp (disch := omega) only [VW, VY, VZ, VA, VB, VC, VE, TY, ↓reduceIte, Nat.reduceEqDiff, Nat.reduceAdd, Nat.reduceMul, Nat.reduceSub, Nat.reduceLeDiff, List.length_cons, List.length_nil, List.length_append, List.append_assoc, List.take_succ_cons, List.take_zero, List.drop_succ_cons, List.drop_zero, List.set_cons_zero, List.set_cons_succ, true_or, or_true, and_self, Bool.false_eq_true, Nat.le_refl, Option.bind_some, Option.map_some, Option.getD_some, Option.isSome_some, List.map_cons, List.map_nil, List.cons_append, List.nil_append, List.append_nil, List.getElem?_cons_zero, List.getElem?_cons_succ, eq_self, Int.reduceLT, Int.reduceLE, Int.reduceNeg, Int.reduceEq, e4, q, q', e3, e2, ga]
      refine sep_store (s.pull 2 rfl) (by simp) fun h5 s => ?_
      have s := s.as (ds := [.string j.safe, .string j.pending]) (by simp [t_put])
      have ga := s.rdAll (n := 2) rfl
      simp (disch := omega) only [VW, VY, VZ, VA, VB, VC, VE, TY, ↓reduceIte, Nat.reduceEqDiff, Nat.reduceAdd, Nat.reduceMul, Nat.reduceSub, Nat.reduceLeDiff, List.length_cons, List.length_nil, List.length_append, List.append_assoc, List.take_succ_cons, List.take_zero, List.drop_succ_cons, List.drop_zero, List.set_cons_zero, List.set_cons_succ, true_or, or_true, and_self, Bool.false_eq_true, Nat.le_refl, Option.bind_some, Option.map_some, Option.getD_some, Option.isSome_some, List.map_cons, List.map_nil, List.cons_append, List.nil_append, List.append_nil, List.getElem?_cons_zero, List.getElem?_cons_succ, eq_self, Int.reduceLT, Int.reduceLE, Int.reduceNeg, Int.reduceEq, e2, ga]
      exact hQ j (by omega) _ ⟨t, sd, by omega, hsd, (s.tail.pull 1 rfl).tail.pull 0 rfl⟩
    | succ k =>
      have q : (0 : Int) < ((k + 1 : Nat) : Int) := by omega
      have kk : ((k + 1 : Nat) : Int) - 1 = (k : Int) := by omega
      simp (disch := omega) only [VW, VY, VZ, VA, VB, VC, VE, TY, ↓reduceIte, Nat.reduceEqDiff, Nat.reduceAdd, Nat.reduceMul, Nat.reduceSub, Nat.reduceLeDiff, List.length_cons, List.length_nil, List.length_append, List.append_assoc, List.take_succ_cons, List.take_zero, List.drop_succ_cons, List.drop_zero, List.set_cons_zero, List.set_cons_succ, true_or, or_true, and_self, Bool.false_eq_true, Nat.le_refl, Option.bind_some, Option.map_some, Option.getD_some, Option.isSome_some, List.map_cons, List.map_nil, List.cons_append, List.nil_append, List.append_nil, List.getElem?_cons_zero, List.getElem?_cons_succ, eq_self, Int.reduceLT, Int.reduceLE, Int.reduceNeg, Int.reduceEq, e4, q, e0]
      refine .inl ⟨by kernel_rfl, ?_⟩; refine mark_c r hl (by omega) c fun m hm hmk h5 c => ?_
      have c0 := c
      have c := c.add (Sep.blk1 h5 [.string m.path, .int .i64 m.kind] 34 true)
      simp (disch := omega) only [VW, VY, VZ, VA, VB, VC, VE, TY, ↓reduceIte, Nat.reduceEqDiff, Nat.reduceAdd, Nat.reduceMul, Nat.reduceSub, Nat.reduceLeDiff, List.length_cons, List.length_nil, List.length_append, List.append_assoc, List.take_succ_cons, List.take_zero, List.drop_succ_cons, List.drop_zero, List.set_cons_zero, List.set_cons_succ, true_or, or_true, and_self, Bool.false_eq_true, Nat.le_refl, Option.bind_some, Option.map_some, Option.getD_some, Option.isSome_some, List.map_cons, List.map_nil, List.cons_append, List.nil_append, List.append_nil, List.getElem?_cons_zero, List.getElem?_cons_succ, eq_self, Int.reduceLT, Int.reduceLE, Int.reduceNeg, Int.reduceEq, e4]
      refine cond_cutD (fun e' h' => ∃ m : Mk, m.path.size ≤ 9 ∧ inI64 m.kind ∧ e' 0 = .pointer (some ⟨b, 0, none⟩) ∧ e' 2 = .pointer (some ⟨h.length, 0, none⟩) ∧ e' 3 = .pointer (some ⟨h.length + 1, 0, none⟩) ∧ e' 4 = .int .i64 (k + 1 : Nat) ∧ e' 5 = .pointer (some ⟨h5.length, 0, none⟩) ∧
        Cur a h' b vc (B + 10 + 40 * (40 - (k + 1)) + 20) (blkA h5.length [.string m.path, .int .i64 m.kind] 34 :: blkA (h.length + 1) [.string j.safe, .string j.pending] 24 :: blkA h.length [.string ⟨#[]⟩, .string ⟨#[]⟩] 24 :: L)) ?_ ?_
      · clear c e0 e2 e3 e4
        rintro e h6 ⟨m, hm, hmk, e0, e2, e3, e4, e5, c⟩
        have ga := (c.rest.pull 1 rfl).rdAll (n := 2) rfl
        have gm := c.rest.rdAll (n := 2) rfl
        simp (disch := omega) only [VW, VY, VZ, VA, VB, VC, VE, TY, ↓reduceIte, Nat.reduceEqDiff, Nat.reduceAdd, Nat.reduceMul, Nat.reduceSub, Nat.reduceLeDiff, List.length_cons, List.length_nil, List.length_append, List.append_assoc, List.take_succ_cons, List.take_zero, List.drop_succ_cons, List.drop_zero, List.set_cons_zero, List.set_cons_succ, true_or, or_true, and_self, Bool.false_eq_true, Nat.le_refl, Option.bind_some, Option.map_some, Option.getD_some, Option.isSome_some, List.map_cons, List.map_nil, List.cons_append, List.nil_append, List.append_nil, List.getElem?_cons_zero, List.getElem?_cons_succ, eq_self, Int.reduceLT, Int.reduceLE, Int.reduceNeg, Int.reduceEq, e3, e5, ga, gm]
        refine .inl ⟨by kernel_rfl, ?_⟩; refine AppendMark_s (mk_Jn (x := j) (by omega) (by omega)) (mk_Mk (x := m) (by omega) hmk) (siz_le_Jn (j := j) (by omega)) (siz_le_Mk (m := m) (by omega)) fun h7 E7 => ?_
        have hz := append_sz2 j m hm
        have c := (c.mono E7).add (Sep.blk1 h7 [.string (appendM j m).1.safe, .string (appendM j m).1.pending] 24 true)
        generalize appendM j m = R at *
        obtain ⟨⟨rs, rp⟩, ok⟩ := R
        simp (disch := omega) only [VW, VY, VZ, VA, VB, VC, VE, TY, ↓reduceIte, Nat.reduceEqDiff, Nat.reduceAdd, Nat.reduceMul, Nat.reduceSub, Nat.reduceLeDiff, List.length_cons, List.length_nil, List.length_append, List.append_assoc, List.take_succ_cons, List.take_zero, List.drop_succ_cons, List.drop_zero, List.set_cons_zero, List.set_cons_succ, true_or, or_true, and_self, Bool.false_eq_true, Nat.le_refl, Option.bind_some, Option.map_some, Option.getD_some, Option.isSome_some, List.map_cons, List.map_nil, List.cons_append, List.nil_append, List.append_nil, List.getElem?_cons_zero, List.getElem?_cons_succ, eq_self, Int.reduceLT, Int.reduceLE, Int.reduceNeg, Int.reduceEq]
        refine cond_cutD (fun e' h' => ∃ j : Jn, j.safe.size + j.pending.size ≤ 3000 * (40 - (k + 1)) + 2016 ∧ e' 0 = .pointer (some ⟨b, 0, none⟩) ∧ e' 2 = .pointer (some ⟨h.length, 0, none⟩) ∧ e' 3 = .pointer (some ⟨h.length + 1, 0, none⟩) ∧ e' 4 = .int .i64 (k + 1 : Nat) ∧
          Cur a h' b vc (B + 10 + 40 * (40 - (k + 1)) + 20) (blkA (h.length + 1) [.string j.safe, .string j.pending] 24 :: blkA h.length [.string ⟨#[]⟩, .string ⟨#[]⟩] 24 :: L)) ?_ ?_
        · clear c e0 e2 e3 e4 e5 hz ga gm
          rintro e h8 ⟨j, hj, e0, e2, e3, e4, c⟩
          simp (disch := omega) only [VW, VY, VZ, VA, VB, VC, VE, TY, ↓reduceIte, Nat.reduceEqDiff, Nat.reduceAdd, Nat.reduceMul, Nat.reduceSub, Nat.reduceLeDiff, List.length_cons, List.length_nil, List.length_append, List.append_assoc, List.take_succ_cons, List.take_zero, List.drop_succ_cons, List.drop_zero, List.set_cons_zero, List.set_cons_succ, true_or, or_true, and_self, Bool.false_eq_true, Nat.le_refl, Option.bind_some, Option.map_some, Option.getD_some, Option.isSome_some, List.map_cons, List.map_nil, List.cons_append, List.nil_append, List.append_nil, List.getElem?_cons_zero, List.getElem?_cons_succ, eq_self, Int.reduceLT, Int.reduceLE, Int.reduceNeg, Int.reduceEq, e0]
          refine .inl ⟨by kernel_rfl, ?_⟩; refine one_c r hl (by omega) c (by decide) fun x h9 c => ?_
          cases x with
          | true =>
            have g := c.rest.rd
            have a1 := str_add j.safe j.pending (by omega)
            have a2 := size_append j.safe j.pending
            obtain ⟨t, sd, ht, hsd, s⟩ := c
            simp (disch := omega) only [VW, VY, VZ, VA, VB, VC, VE, TY, ↓reduceIte, Nat.reduceEqDiff, Nat.reduceAdd, Nat.reduceMul, Nat.reduceSub, Nat.reduceLeDiff, List.length_cons, List.length_nil, List.length_append, List.append_assoc, List.take_succ_cons, List.take_zero, List.drop_succ_cons, List.drop_zero, List.set_cons_zero, List.set_cons_succ, true_or, or_true, and_self, Bool.false_eq_true, Nat.le_refl, Option.bind_some, Option.map_some, Option.getD_some, Option.isSome_some, List.map_cons, List.map_nil, List.cons_append, List.nil_append, List.append_nil, List.getElem?_cons_zero, List.getElem?_cons_succ, eq_self, Int.reduceLT, Int.reduceLE, Int.reduceNeg, Int.reduceEq, e3, g, a1]
            refine sep_store (s.pull 1 rfl) (by simp) fun h10 s => ?_
            have s := s.as (ds := [.string (j.safe ++ j.pending), .string ⟨#[]⟩]) (by simp [t_put])
            have z0 : (⟨#[]⟩ : ByteArray).size = 0 := rfl
            simp (disch := omega) only [VW, VY, VZ, VA, VB, VC, VE, TY, ↓reduceIte, Nat.reduceEqDiff, Nat.reduceAdd, Nat.reduceMul, Nat.reduceSub, Nat.reduceLeDiff, List.length_cons, List.length_nil, List.length_append, List.append_assoc, List.take_succ_cons, List.take_zero, List.drop_succ_cons, List.drop_zero, List.set_cons_zero, List.set_cons_succ, true_or, or_true, and_self, Bool.false_eq_true, Nat.le_refl, Option.bind_some, Option.map_some, Option.getD_some, Option.isSome_some, List.map_cons, List.map_nil, List.cons_append, List.nil_append, List.append_nil, List.getElem?_cons_zero, List.getElem?_cons_succ, eq_self, Int.reduceLT, Int.reduceLE, Int.reduceNeg, Int.reduceEq, e0, e2, e3, e4, kk, wrap_in]
            exact ⟨k, by omega, ⟨j.safe ++ j.pending, ⟨#[]⟩⟩, by omega, by simp only []; omega, rfl, t, sd, by omega, hsd, s.swap⟩
          | false =>
            simp (disch := omega) only [VW, VY, VZ, VA, VB, VC, VE, TY, ↓reduceIte, Nat.reduceEqDiff, Nat.reduceAdd, Nat.reduceMul, Nat.reduceSub, Nat.reduceLeDiff, List.length_cons, List.length_nil, List.length_append, List.append_assoc, List.take_succ_cons, List.take_zero, List.drop_succ_cons, List.drop_zero, List.set_cons_zero, List.set_cons_succ, true_or, or_true, and_self, Bool.false_eq_true, Nat.le_refl, Option.bind_some, Option.map_some, Option.getD_some, Option.isSome_some, List.map_cons, List.map_nil, List.cons_append, List.nil_append, List.append_nil, List.getElem?_cons_zero, List.getElem?_cons_succ, eq_self, Int.reduceLT, Int.reduceLE, Int.reduceNeg, Int.reduceEq, e0, e2, e3, e4, kk, wrap_in]
            exact ⟨k, by omega, j, by omega, by omega, rfl, c.up (by omega)⟩
        · intro K key
          cases ok with
          | false =>
            simp (disch := omega) only [VW, VY, VZ, VA, VB, VC, VE, TY, ↓reduceIte, Nat.reduceEqDiff, Nat.reduceAdd, Nat.reduceMul, Nat.reduceSub, Nat.reduceLeDiff, List.length_cons, List.length_nil, List.length_append, List.append_assoc, List.take_succ_cons, List.take_zero, List.drop_succ_cons, List.drop_zero, List.set_cons_zero, List.set_cons_succ, true_or, or_true, and_self, Bool.false_eq_true, Nat.le_refl, Option.bind_some, Option.map_some, Option.getD_some, Option.isSome_some, List.map_cons, List.map_nil, List.cons_append, List.nil_append, List.append_nil, List.getElem?_cons_zero, List.getElem?_cons_succ, eq_self, Int.reduceLT, Int.reduceLE, Int.reduceNeg, Int.reduceEq]
            obtain ⟨t, sd, ht, hsd, s⟩ := c
            exact key _ _ ⟨j, by omega, e0, e2, e3, e4, t, sd, ht, hsd, (s.pull 1 rfl).tail.swap.tail⟩
          | true =>
            have ga := c.rest.rdAll (n := 2) rfl
            simp only [] at hz ga
            obtain ⟨t, sd, ht, hsd, s⟩ := c
            simp (disch := omega) only [VW, VY, VZ, VA, VB, VC, VE, TY, ↓reduceIte, Nat.reduceEqDiff, Nat.reduceAdd, Nat.reduceMul, Nat.reduceSub, Nat.reduceLeDiff, List.length_cons, List.length_nil, List.length_append, List.append_assoc, List.take_succ_cons, List.take_zero, List.drop_succ_cons, List.drop_zero, List.set_cons_zero, List.set_cons_succ, true_or, or_true, and_self, Bool.false_eq_true, Nat.le_refl, Option.bind_some, Option.map_some, Option.getD_some, Option.isSome_some, List.map_cons, List.map_nil, List.cons_append, List.nil_append, List.append_nil, List.getElem?_cons_zero, List.getElem?_cons_succ, eq_self, Int.reduceLT, Int.reduceLE, Int.reduceNeg, Int.reduceEq, ga, e3]
            refine sep_store (s.pull 3 rfl) (by simp) fun h8 s => ?_
            have s := s.as (ds := [.string rs, .string rp]) (by simp [t_put])
            simp (disch := omega) only [VW, VY, VZ, VA, VB, VC, VE, TY, ↓reduceIte, Nat.reduceEqDiff, Nat.reduceAdd, Nat.reduceMul, Nat.reduceSub, Nat.reduceLeDiff, List.length_cons, List.length_nil, List.length_append, List.append_assoc, List.take_succ_cons, List.take_zero, List.drop_succ_cons, List.drop_zero, List.set_cons_zero, List.set_cons_succ, true_or, or_true, and_self, Bool.false_eq_true, Nat.le_refl, Option.bind_some, Option.map_some, Option.getD_some, Option.isSome_some, List.map_cons, List.map_nil, List.cons_append, List.nil_append, List.append_nil, List.getElem?_cons_zero, List.getElem?_cons_succ, eq_self, Int.reduceLT, Int.reduceLE, Int.reduceNeg, Int.reduceEq]
            exact key _ _ ⟨⟨rs, rp⟩, by simp only []; omega, e0, e2, e3, e4, t, sd, ht, hsd, ((s.pull 2 rfl).tail.pull 2 rfl).tail.swap⟩
      · intro K key
        by_cases c9 : 9 < k + 1
        · have c9' : (9 : Int) < ((k + 1 : Nat) : Int) := by omega
          have tm4 := tmod_nat (k + 1) 4
          have tm3 := tmod_nat (k + 1) 3
          have l4 : (k + 1) % 4 < 4 := Nat.mod_lt _ (by decide)
          have l3 : (k + 1) % 3 < 3 := Nat.mod_lt _ (by decide)
          have d4 : (⟨#[48, 49, 50, 51]⟩ : ByteArray) = dig4 := rfl
          have z4 : dig4.size = 4 := rfl
          have i0 : (0 : Int) ≤ (((k + 1) % 4 : Nat) : Int) := by omega
          have i1 : (((k + 1) % 4 : Nat) : Int) ≤ ((4 : Nat) : Int) := by omega
          have y4 : ¬ (4 : Int) = 0 := by decide
          have y3 : ¬ (3 : Int) = 0 := by decide
          have t4 : Int.tmod ((k + 1 : Nat) : Int) 4 = (((k + 1) % 4 : Nat) : Int) := by simpa using tm4
          have t3 : Int.tmod ((k + 1 : Nat) : Int) 3 = (((k + 1) % 3 : Nat) : Int) := by simpa using tm3
          have hex : (dig4.extract 0 ((k + 1) % 4)).size ≤ 9 := by rw [ByteArray.size_extract, z4]; omega
          have c := c0.add (Sep.blk1 h5 [.string (dig4.extract 0 ((k + 1) % 4)), .int .i64 (1 + (((k + 1) % 3 : Nat) : Int))] 34 true)
          simp (disch := omega) only [VW, VY, VZ, VA, VB, VC, VE, TY, ↓reduceIte, Nat.reduceEqDiff, Nat.reduceAdd, Nat.reduceMul, Nat.reduceSub, Nat.reduceLeDiff, List.length_cons, List.length_nil, List.length_append, List.append_assoc, List.take_succ_cons, List.take_zero, List.drop_succ_cons, List.drop_zero, List.set_cons_zero, List.set_cons_succ, true_or, or_true, and_self, Bool.false_eq_true, Nat.le_refl, Option.bind_some, Option.map_some, Option.getD_some, Option.isSome_some, List.map_cons, List.map_nil, List.cons_append, List.nil_append, List.append_nil, List.getElem?_cons_zero, List.getElem?_cons_succ, eq_self, Int.reduceLT, Int.reduceLE, Int.reduceNeg, Int.reduceEq, c9', e4, t4, t3, y4, y3, d4, z4, i0, i1, wrap_in]
          exact key _ _ ⟨⟨dig4.extract 0 ((k + 1) % 4), 1 + (((k + 1) % 3 : Nat) : Int)⟩, hex, ⟨by simp only []; omega, by simp only []; omega⟩, e0, e2, e3, e4, rfl, c.up (by omega)⟩
        · have c9' : ¬ (9 : Int) < ((k + 1 : Nat) : Int) := by omega
          simp (disch := omega) only [VW, VY, VZ, VA, VB, VC, VE, TY, ↓reduceIte, Nat.reduceEqDiff, Nat.reduceAdd, Nat.reduceMul, Nat.reduceSub, Nat.reduceLeDiff, List.length_cons, List.length_nil, List.length_append, List.append_assoc, List.take_succ_cons, List.take_zero, List.drop_succ_cons, List.drop_zero, List.set_cons_zero, List.set_cons_succ, true_or, or_true, and_self, Bool.false_eq_true, Nat.le_refl, Option.bind_some, Option.map_some, Option.getD_some, Option.isSome_some, List.map_cons, List.map_nil, List.cons_append, List.nil_append, List.append_nil, List.getElem?_cons_zero, List.getElem?_cons_succ, eq_self, Int.reduceLT, Int.reduceLE, Int.reduceNeg, Int.reduceEq, c9']
          exact key _ _ ⟨m, hm, hmk, e0, e2, e3, e4, rfl, c.up (by omega)⟩
  · intro K key
    cases x with
    | true =>
      simp (disch := omega) only [VW, VY, VZ, VA, VB, VC, VE, TY, ↓reduceIte, Nat.reduceEqDiff, Nat.reduceAdd, Nat.reduceMul, Nat.reduceSub, Nat.reduceLeDiff, List.length_cons, List.length_nil, List.length_append, List.append_assoc, List.take_succ_cons, List.take_zero, List.drop_succ_cons, List.drop_zero, List.set_cons_zero, List.set_cons_succ, true_or, or_true, and_self, Bool.false_eq_true, Nat.le_refl, Option.bind_some, Option.map_some, Option.getD_some, Option.isSome_some, List.map_cons, List.map_nil, List.cons_append, List.nil_append, List.append_nil, List.getElem?_cons_zero, List.getElem?_cons_succ, eq_self, Int.reduceLT, Int.reduceLE, Int.reduceNeg, Int.reduceEq]
      exact key _ _ ⟨40, by decide, rfl, rfl, rfl, rfl, rfl⟩
    | false =>
      simp (disch := omega) only [VW, VY, VZ, VA, VB, VC, VE, TY, ↓reduceIte, Nat.reduceEqDiff, Nat.reduceAdd, Nat.reduceMul, Nat.reduceSub, Nat.reduceLeDiff, List.length_cons, List.length_nil, List.length_append, List.append_assoc, List.take_succ_cons, List.take_zero, List.drop_succ_cons, List.drop_zero, List.set_cons_zero, List.set_cons_succ, true_or, or_true, and_self, Bool.false_eq_true, Nat.le_refl, Option.bind_some, Option.map_some, Option.getD_some, Option.isSome_some, List.map_cons, List.map_nil, List.cons_append, List.nil_append, List.append_nil, List.getElem?_cons_zero, List.getElem?_cons_succ, eq_self, Int.reduceLT, Int.reduceLE, Int.reduceNeg, Int.reduceEq]
      exact key _ _ ⟨n, by omega, rfl, rfl, rfl, rfl, rfl⟩
end Go.Proofs
