/- Contracts of functions, facts of types, or the plain law behind one statement (own work): DI. Conditions: those told in each theorem. -/
import Derived.Test.YtkapgaajomaheaaDoorDH
import Derived.Test.YtkapgaajomaheaaDoorGB
set_option linter.all false
set_option linter.unusedSimpArgs false
set_option linter.unusedVariables false
set_option maxRecDepth 4000
namespace Go.Proofs
open Go Go.V
/- What was safe survives a crash. -/
theorem ops_cut {all : Array Oper} {os : List Oper} {d : Option Tmp} {e : Env} {v : Value} {h : Heap} {code : Code} {K : VX → Env → Heap → Prop} (I : Env → Heap → Prop)
    (main : ∀ K' : Env → Heap → Prop, (∀ e' h', I e' h' → K' e' h') → OpsK Tryd.prog all os d e K' v h) (key : ∀ e' h', I e' h' → wpV Tryd.prog code e' h' K) : OpsK Tryd.prog all os d e (SeqK Tryd.prog code K .norm) v h := main _ key
theorem seq_cut {X C : Code} {e : Env} {h : Heap} {K : VX → Env → Heap → Prop} (I : Env → Heap → Prop)
    (main : ∀ K' : VX → Env → Heap → Prop, (∀ e' h', I e' h' → K' .norm e' h') → wpV Tryd.prog X e h K') (key : ∀ e' h', I e' h' → wpV Tryd.prog C e' h' K) : wpV Tryd.prog (.seq X C) e h K :=
  main (SeqK Tryd.prog C K) fun e' h' i => key e' h' i
abbrev jnC (j : Jn) : List Value := [.string j.safe, .string j.pending]
theorem jn_ok {j : Jn} (h : j.safe.size + j.pending.size ≤ 300000) (h' : Heap) : Here h' j (jnC j) := mk_Jn (x := j) (by omega) (by omega)
theorem line_ok {n : Int} {m : Mk} {ln : ByteArray} (h : lineOfM n m = (ln, true)) : ln.size ≤ 2000 ∧ (recoverM ln).2 = true ∧ decide ((recoverM ln).1.safe = ln) = decide (n = 0) := by
  unfold lineOfM at h
  split at h
  · rename_i hh
    obtain ⟨hm, h0, h1⟩ := hh
    obtain ⟨k, rfl⟩ : ∃ k : Nat, n = k := ⟨n.toNat, by omega⟩
    rw [Int.toNat_natCast] at h
    have e : lineB k m = ln := congrArg Prod.fst h
    have hs := line_short (k := k) (by omega) hm
    rw [e] at hs
    refine ⟨by omega, ?_⟩
    have hr : recoverM ln = (⟨ln.extract 0 (readM 0 ln.data.toList).2, ⟨#[]⟩⟩, true) := by unfold recoverM; rw [if_pos (by omega)]
    rw [hr]
    refine ⟨rfl, ?_⟩
    simp only []
    by_cases c : k = 0
    · subst c
      have h5 := read_line0 hm 0 (by decide) []
      rw [List.append_nil, readM_nil, e] at h5
      rw [h5]
      have : ln.extract 0 ln.size = ln := by simp
      simp only [Nat.add_zero, this, decide_true]
      rfl
    · have h5 := read_line_other hm (n := k) (k := 0) (fun h => c h.symm)
      rw [e] at h5
      rw [h5, decide_eq_false (show ¬ ((k : Int) = 0) by omega)]
      refine decide_eq_false fun hx => ?_
      obtain ⟨a, h1, _, _⟩ := parse_line (k := k) hm
      rw [e] at h1
      have h2 := congrArg ByteArray.size hx
      rw [ByteArray.size_extract] at h2
      have h3 := str_len ln
      rw [h1] at h3
      simp at h3
      omega
  · cases congrArg Prod.snd h
theorem sync_ok {j S : Jn} (h : syncM j = (S, true)) : ∃ l, marksJ j = some l ∧ S = ⟨j.safe ++ j.pending, ⟨#[]⟩⟩ := by
  unfold syncM at h
  cases hm : marksJ j with
  | none => rw [hm] at h; cases congrArg Prod.snd h
  | some l =>
    rw [hm] at h
    exact ⟨l, rfl, (congrArg Prod.fst h).symm⟩
theorem crash_ok {j : Jn} {k : Int} {C : ByteArray} (h : crashM j k = (C, true)) : ∃ l, marksJ j = some l ∧ 0 ≤ k ∧ k ≤ (j.pending.size : Int) ∧ C = j.safe ++ j.pending.extract 0 k.toNat := by
  unfold crashM at h
  split at h
  · rename_i hh
    obtain ⟨h1, h2, h3⟩ := hh
    obtain ⟨l, hl⟩ := Option.isSome_iff_exists.1 h1
    exact ⟨l, hl, h2, h3, (congrArg Prod.fst h).symm⟩
  · cases congrArg Prod.snd h
/-- What the law holds behind its calls. -/
structure CrI (h : Heap) (v0 v1 : Value) (j S R : Jn) (C t ln : ByteArray) (m : Mk) (k n : Int) (ok one three five : Bool) (p1 p4 p5 p7 p8 p9 : Nat) (e : Env) (h' : Heap) : Prop where
  e5 : e 5 = .pointer (some ⟨p1, 0, none⟩)
  e6 : e 6 = .int .i64 k
  e7 : e 7 = .string C
  e8 : e 8 = .bool ok
  e9 : e 9 = .string C
  e10 : e 10 = .bool ok
  e11 : e 11 = .pointer (some ⟨p4, 0, none⟩)
  e12 : e 12 = .bool one
  e13 : e 13 = .pointer (some ⟨p5, 0, none⟩)
  e14 : e 14 = .bool one
  e15 : e 15 = .string t
  e16 : e 16 = .pointer (some ⟨p7, 0, none⟩)
  e17 : e 17 = .bool three
  e18 : e 18 = .pointer (some ⟨p8, 0, none⟩)
  e19 : e 19 = .bool three
  e20 : e 20 = .int .i64 n
  e21 : e 21 = .pointer (some ⟨p9, 0, none⟩)
  e22 : e 22 = .string ln
  e23 : e 23 = .bool five
  e24 : e 24 = .string ln
  e25 : e 25 = .bool five
  s : Sep h h' [blkA p9 [.string m.path, .int .i64 m.kind] 34, blkA p8 (jnC R) 24, blkA p7 (jnC R) 24, blkA p5 (jnC S) 24, blkA p4 (jnC S) 24, blkA p1 (jnC j) 24]
theorem crashes_law {h : Heap} {x0 x1 : List UInt8} {v0 v1 : Value} (i0 : Row h x0 v0) (b0 : x0.length ≤ 140737488351232) (i1 : Row h x1 v1) (b1 : x1.length ≤ 140737488351232) : CallsV Tryd.prog 3 [v0, v1] h fun v _ => v = .bool true := by
  refine CallsV.start Tryd.func3 rfl (by rw [Tryd.results3]) (by kernel_rfl) (by rw [Tryd.ntmps3]; simp) ?_
  have le0 := i0.le
  have le1 := i1.le
  by_cases z : (1048576 : Int) < (x0.length : Int) + (x1.length : Int)
  · have hw : IntKind.wrap .i64 ((x0.length : Int) + (x1.length : Int)) = (x0.length : Int) + (x1.length : Int) := wrap_in _ (by omega)
    simp (disch := omega) only [VW, VY, VZ, VA, VB, VC, VE, TY, ↓reduceIte, Nat.reduceEqDiff, Nat.reduceAdd, Nat.reduceMul, Nat.reduceSub, Nat.reduceLeDiff, List.length_cons, List.length_nil, List.length_append, List.append_assoc, List.take_succ_cons, List.take_zero, List.drop_succ_cons, List.drop_zero, List.set_cons_zero, List.set_cons_succ, true_or, or_true, and_self, Bool.false_eq_true, Nat.le_refl, Option.bind_some, Option.map_some, Option.getD_some, Option.isSome_some, List.map_cons, List.map_nil, List.cons_append, List.nil_append, List.append_nil, List.getElem?_cons_zero, List.getElem?_cons_succ, eq_self, Int.reduceLT, Int.reduceLE, Int.reduceNeg, Int.reduceEq, i0.isRow.len, i1.isRow.len, hw, z]
  have hw : IntKind.wrap .i64 ((x0.length : Int) + (x1.length : Int)) = (x0.length : Int) + (x1.length : Int) := wrap_in _ (by omega)
  simp (disch := omega) only [VW, VY, VZ, VA, VB, VC, VE, TY, ↓reduceIte, Nat.reduceEqDiff, Nat.reduceAdd, Nat.reduceMul, Nat.reduceSub, Nat.reduceLeDiff, List.length_cons, List.length_nil, List.length_append, List.append_assoc, List.take_succ_cons, List.take_zero, List.drop_succ_cons, List.drop_zero, List.set_cons_zero, List.set_cons_succ, true_or, or_true, and_self, Bool.false_eq_true, Nat.le_refl, Option.bind_some, Option.map_some, Option.getD_some, Option.isSome_some, List.map_cons, List.map_nil, List.cons_append, List.nil_append, List.append_nil, List.getElem?_cons_zero, List.getElem?_cons_succ, eq_self, Int.reduceLT, Int.reduceLE, Int.reduceNeg, Int.reduceEq, i0.isRow.len, i1.isRow.len, hw, z]
  refine .inl ⟨by kernel_rfl, ?_⟩; refine drawCrash_c i0 (by omega) fun j k hj hk h1 E1 => ?_
  have s := (Sep.nil E1).newBlk (jnC j) 24 true
  have ga := s.rdAll (n := 2) rfl
  simp (disch := omega) only [VW, VY, VZ, VA, VB, VC, VE, TY, ↓reduceIte, Nat.reduceEqDiff, Nat.reduceAdd, Nat.reduceMul, Nat.reduceSub, Nat.reduceLeDiff, List.length_cons, List.length_nil, List.length_append, List.append_assoc, List.take_succ_cons, List.take_zero, List.drop_succ_cons, List.drop_zero, List.set_cons_zero, List.set_cons_succ, true_or, or_true, and_self, Bool.false_eq_true, Nat.le_refl, Option.bind_some, Option.map_some, Option.getD_some, Option.isSome_some, List.map_cons, List.map_nil, List.cons_append, List.nil_append, List.append_nil, List.getElem?_cons_zero, List.getElem?_cons_succ, eq_self, Int.reduceLT, Int.reduceLE, Int.reduceNeg, Int.reduceEq, ga]
  refine .inl ⟨by kernel_rfl, ?_⟩; refine CrashJournal_i (jn_ok hj _) (siz_le_Jn (by omega)) hk fun h2 E2 => ?_
  have s := s.mono E2
  have ga := s.rdAll (n := 2) rfl
  simp (disch := omega) only [VW, VY, VZ, VA, VB, VC, VE, TY, ↓reduceIte, Nat.reduceEqDiff, Nat.reduceAdd, Nat.reduceMul, Nat.reduceSub, Nat.reduceLeDiff, List.length_cons, List.length_nil, List.length_append, List.append_assoc, List.take_succ_cons, List.take_zero, List.drop_succ_cons, List.drop_zero, List.set_cons_zero, List.set_cons_succ, true_or, or_true, and_self, Bool.false_eq_true, Nat.le_refl, Option.bind_some, Option.map_some, Option.getD_some, Option.isSome_some, List.map_cons, List.map_nil, List.cons_append, List.nil_append, List.append_nil, List.getElem?_cons_zero, List.getElem?_cons_succ, eq_self, Int.reduceLT, Int.reduceLE, Int.reduceNeg, Int.reduceEq, ga]
  refine .inl ⟨by kernel_rfl, ?_⟩; refine CrashJournal_s (jn_ok hj _) (siz_le_Jn (by omega)) hk fun h3 E3 => ?_
  have s := s.mono E3
  have ga := s.rdAll (n := 2) rfl
  simp (disch := omega) only [VW, VY, VZ, VA, VB, VC, VE, TY, ↓reduceIte, Nat.reduceEqDiff, Nat.reduceAdd, Nat.reduceMul, Nat.reduceSub, Nat.reduceLeDiff, List.length_cons, List.length_nil, List.length_append, List.append_assoc, List.take_succ_cons, List.take_zero, List.drop_succ_cons, List.drop_zero, List.set_cons_zero, List.set_cons_succ, true_or, or_true, and_self, Bool.false_eq_true, Nat.le_refl, Option.bind_some, Option.map_some, Option.getD_some, Option.isSome_some, List.map_cons, List.map_nil, List.cons_append, List.nil_append, List.append_nil, List.getElem?_cons_zero, List.getElem?_cons_succ, eq_self, Int.reduceLT, Int.reduceLE, Int.reduceNeg, Int.reduceEq, ga]
  refine .inl ⟨by kernel_rfl, ?_⟩; refine SyncJournal_i (jn_ok hj _) (siz_le_Jn (by omega)) fun ds h4 s4 => ?_
  have s := s.add s4
  obtain ⟨rfl, _, _⟩ := here_Jn s.here
  have s := s.tail.newBlk (jnC (syncM j).1) 24 true
  have ga := (s.pull 1 rfl).rdAll (n := 2) rfl
  simp (disch := omega) only [VW, VY, VZ, VA, VB, VC, VE, TY, ↓reduceIte, Nat.reduceEqDiff, Nat.reduceAdd, Nat.reduceMul, Nat.reduceSub, Nat.reduceLeDiff, List.length_cons, List.length_nil, List.length_append, List.append_assoc, List.take_succ_cons, List.take_zero, List.drop_succ_cons, List.drop_zero, List.set_cons_zero, List.set_cons_succ, true_or, or_true, and_self, Bool.false_eq_true, Nat.le_refl, Option.bind_some, Option.map_some, Option.getD_some, Option.isSome_some, List.map_cons, List.map_nil, List.cons_append, List.nil_append, List.append_nil, List.getElem?_cons_zero, List.getElem?_cons_succ, eq_self, Int.reduceLT, Int.reduceLE, Int.reduceNeg, Int.reduceEq, ga]
  refine .inl ⟨by kernel_rfl, ?_⟩; refine SyncJournal_s (jn_ok hj _) (siz_le_Jn (by omega)) fun ds h5 s5 => ?_
  have s := s.add s5
  obtain ⟨rfl, _, _⟩ := here_Jn s.here
  have s := s.tail.newBlk (jnC (syncM j).1) 24 true
  simp (disch := omega) only [VW, VY, VZ, VA, VB, VC, VE, TY, ↓reduceIte, Nat.reduceEqDiff, Nat.reduceAdd, Nat.reduceMul, Nat.reduceSub, Nat.reduceLeDiff, List.length_cons, List.length_nil, List.length_append, List.append_assoc, List.take_succ_cons, List.take_zero, List.drop_succ_cons, List.drop_zero, List.set_cons_zero, List.set_cons_succ, true_or, or_true, and_self, Bool.false_eq_true, Nat.le_refl, Option.bind_some, Option.map_some, Option.getD_some, Option.isSome_some, List.map_cons, List.map_nil, List.cons_append, List.nil_append, List.append_nil, List.getElem?_cons_zero, List.getElem?_cons_succ, eq_self, Int.reduceLT, Int.reduceLE, Int.reduceNeg, Int.reduceEq]
  refine .inl ⟨by kernel_rfl, ?_⟩; refine drawRecover_c (i1.mono s.ext) (by omega) fun t ht h6 E6 => ?_
  have s := s.mono E6
  simp (disch := omega) only [VW, VY, VZ, VA, VB, VC, VE, TY, ↓reduceIte, Nat.reduceEqDiff, Nat.reduceAdd, Nat.reduceMul, Nat.reduceSub, Nat.reduceLeDiff, List.length_cons, List.length_nil, List.length_append, List.append_assoc, List.take_succ_cons, List.take_zero, List.drop_succ_cons, List.drop_zero, List.set_cons_zero, List.set_cons_succ, true_or, or_true, and_self, Bool.false_eq_true, Nat.le_refl, Option.bind_some, Option.map_some, Option.getD_some, Option.isSome_some, List.map_cons, List.map_nil, List.cons_append, List.nil_append, List.append_nil, List.getElem?_cons_zero, List.getElem?_cons_succ, eq_self, Int.reduceLT, Int.reduceLE, Int.reduceNeg, Int.reduceEq]
  refine .inl ⟨by kernel_rfl, ?_⟩; refine RecoverJournal_i (s := t) (by omega) fun ds h7 s7 => ?_
  have s := s.add s7
  obtain ⟨rfl, _, _⟩ := here_Jn s.here
  have s := s.tail.newBlk (jnC (recoverM t).1) 24 true
  simp (disch := omega) only [VW, VY, VZ, VA, VB, VC, VE, TY, ↓reduceIte, Nat.reduceEqDiff, Nat.reduceAdd, Nat.reduceMul, Nat.reduceSub, Nat.reduceLeDiff, List.length_cons, List.length_nil, List.length_append, List.append_assoc, List.take_succ_cons, List.take_zero, List.drop_succ_cons, List.drop_zero, List.set_cons_zero, List.set_cons_succ, true_or, or_true, and_self, Bool.false_eq_true, Nat.le_refl, Option.bind_some, Option.map_some, Option.getD_some, Option.isSome_some, List.map_cons, List.map_nil, List.cons_append, List.nil_append, List.append_nil, List.getElem?_cons_zero, List.getElem?_cons_succ, eq_self, Int.reduceLT, Int.reduceLE, Int.reduceNeg, Int.reduceEq]
  refine .inl ⟨by kernel_rfl, ?_⟩; refine RecoverJournal_s (s := t) (by omega) fun ds h8 s8 => ?_
  have s := s.add s8
  obtain ⟨rfl, _, _⟩ := here_Jn s.here
  have s := s.tail.newBlk (jnC (recoverM t).1) 24 true
  simp (disch := omega) only [VW, VY, VZ, VA, VB, VC, VE, TY, ↓reduceIte, Nat.reduceEqDiff, Nat.reduceAdd, Nat.reduceMul, Nat.reduceSub, Nat.reduceLeDiff, List.length_cons, List.length_nil, List.length_append, List.append_assoc, List.take_succ_cons, List.take_zero, List.drop_succ_cons, List.drop_zero, List.set_cons_zero, List.set_cons_succ, true_or, or_true, and_self, Bool.false_eq_true, Nat.le_refl, Option.bind_some, Option.map_some, Option.getD_some, Option.isSome_some, List.map_cons, List.map_nil, List.cons_append, List.nil_append, List.append_nil, List.getElem?_cons_zero, List.getElem?_cons_succ, eq_self, Int.reduceLT, Int.reduceLE, Int.reduceNeg, Int.reduceEq]
  refine .inl ⟨by kernel_rfl, ?_⟩; refine drawLine_c (i1.mono s.ext) (by omega) fun n m hn hm hmk h9 E9 => ?_
  have s := (s.mono E9).newBlk [.string m.path, .int .i64 m.kind] 34 true
  have gm := s.rdAll (n := 2) rfl
  have hM : ∀ h, Here h m [.string m.path, .int .i64 m.kind] := fun h => mk_Mk (x := m) (by omega) hmk
  simp (disch := omega) only [VW, VY, VZ, VA, VB, VC, VE, TY, ↓reduceIte, Nat.reduceEqDiff, Nat.reduceAdd, Nat.reduceMul, Nat.reduceSub, Nat.reduceLeDiff, List.length_cons, List.length_nil, List.length_append, List.append_assoc, List.take_succ_cons, List.take_zero, List.drop_succ_cons, List.drop_zero, List.set_cons_zero, List.set_cons_succ, true_or, or_true, and_self, Bool.false_eq_true, Nat.le_refl, Option.bind_some, Option.map_some, Option.getD_some, Option.isSome_some, List.map_cons, List.map_nil, List.cons_append, List.nil_append, List.append_nil, List.getElem?_cons_zero, List.getElem?_cons_succ, eq_self, Int.reduceLT, Int.reduceLE, Int.reduceNeg, Int.reduceEq, gm]
  refine .inl ⟨by kernel_rfl, ?_⟩; refine LineOfMark_i hn (hM _) fun h10 E10 => ?_
  have s := s.mono E10
  have gm := s.rdAll (n := 2) rfl
  simp (disch := omega) only [VW, VY, VZ, VA, VB, VC, VE, TY, ↓reduceIte, Nat.reduceEqDiff, Nat.reduceAdd, Nat.reduceMul, Nat.reduceSub, Nat.reduceLeDiff, List.length_cons, List.length_nil, List.length_append, List.append_assoc, List.take_succ_cons, List.take_zero, List.drop_succ_cons, List.drop_zero, List.set_cons_zero, List.set_cons_succ, true_or, or_true, and_self, Bool.false_eq_true, Nat.le_refl, Option.bind_some, Option.map_some, Option.getD_some, Option.isSome_some, List.map_cons, List.map_nil, List.cons_append, List.nil_append, List.append_nil, List.getElem?_cons_zero, List.getElem?_cons_succ, eq_self, Int.reduceLT, Int.reduceLE, Int.reduceNeg, Int.reduceEq, gm]
  refine .inl ⟨by kernel_rfl, ?_⟩; refine LineOfMark_s hn (hM _) fun h11 E11 => ?_
  have s := s.mono E11
  have sR := recover_marks t
  have hok : (crashM j k).2 = true → (syncM j).2 = true := fun h => by
    unfold crashM at h
    unfold syncM
    cases hm : marksJ j with
    | none => rw [hm] at h; simp at h
    | some l => rfl
  clear gm ga s4 s5 s7 s8 E1 E2 E3 E6 E9 E10 E11 hw
  simp only [List.append_eq, List.nil_append] at s
  generalize h1.length = p1 at *
  generalize h4.length = p4 at *
  generalize h5.length = p5 at *
  generalize h7.length = p7 at *
  generalize h8.length = p8 at *
  generalize h9.length = p9 at *
  generalize hcr : crashM j k = cr at *
  generalize hsy : syncM j = sy at *
  generalize hre : recoverM t = re at *
  generalize hli : lineOfM n m = li at *
  obtain ⟨C, ok⟩ := cr
  obtain ⟨S, one⟩ := sy
  obtain ⟨R, three⟩ := re
  obtain ⟨ln, five⟩ := li
  simp only [] at hok s
  refine ops_cut (CrI h v0 v1 j S R C t ln m k n ok one three five p1 p4 p5 p7 p8 p9) (fun K key => ?_) ?_
  · simp (disch := omega) only [VW, VY, VZ, VA, VB, VC, VE, TY, ↓reduceIte, Nat.reduceEqDiff, Nat.reduceAdd, Nat.reduceMul, Nat.reduceSub, Nat.reduceLeDiff, List.length_cons, List.length_nil, List.length_append, List.append_assoc, List.take_succ_cons, List.take_zero, List.drop_succ_cons, List.drop_zero, List.set_cons_zero, List.set_cons_succ, true_or, or_true, and_self, Bool.false_eq_true, Nat.le_refl, Option.bind_some, Option.map_some, Option.getD_some, Option.isSome_some, List.map_cons, List.map_nil, List.cons_append, List.nil_append, List.append_nil, List.getElem?_cons_zero, List.getElem?_cons_succ, eq_self, Int.reduceLT, Int.reduceLE, Int.reduceNeg, Int.reduceEq]
    exact key _ _ ⟨rfl, rfl, rfl, rfl, rfl, rfl, rfl, rfl, rfl, rfl, rfl, rfl, rfl, rfl, rfl, rfl, rfl, rfl, rfl, rfl, rfl, s⟩
  have same : ∀ x : Jn, (!(decide (x.safe = x.safe) && decide (x.pending = x.pending))) = false := fun x => by simp
  rintro e h' ⟨e5, e6, e7, e8, e9, e10, e11, e12, e13, e14, e15, e16, e17, e18, e19, e20, e21, e22, e23, e24, e25, sL⟩
  refine seq_cut (CrI h v0 v1 j S R C t ln m k n ok one three five p1 p4 p5 p7 p8 p9) (fun K key => ?_) ?_
  · have g4 := (sL.pull 4 rfl).rdAll (n := 2) rfl
    have g5 := (sL.pull 3 rfl).rdAll (n := 2) rfl
    have g7 := (sL.pull 2 rfl).rdAll (n := 2) rfl
    have g8 := (sL.pull 1 rfl).rdAll (n := 2) rfl
    simp (disch := omega) only [VW, VY, VZ, VA, VB, VC, VE, TY, ↓reduceIte, Nat.reduceEqDiff, Nat.reduceAdd, Nat.reduceMul, Nat.reduceSub, Nat.reduceLeDiff, List.length_cons, List.length_nil, List.length_append, List.append_assoc, List.take_succ_cons, List.take_zero, List.drop_succ_cons, List.drop_zero, List.set_cons_zero, List.set_cons_succ, true_or, or_true, and_self, Bool.false_eq_true, Nat.le_refl, Option.bind_some, Option.map_some, Option.getD_some, Option.isSome_some, List.map_cons, List.map_nil, List.cons_append, List.nil_append, List.append_nil, List.getElem?_cons_zero, List.getElem?_cons_succ, eq_self, Int.reduceLT, Int.reduceLE, Int.reduceNeg, Int.reduceEq, b_neb, bne_self_eq_false, beq_self_eq_true, g4, g5, g7, g8, e7, e8, e9, e10, e11, e12, e13, e14, e16, e17, e18, e19, e22, e23, e24, e25]
    refine binC_ne_ss (a := S.safe) (b := S.pending) Tryd.underlying24 (by decide) (by decide) rfl rfl Tryd.underlying9 Tryd.underlying9 (by kernel_rfl) (by kernel_rfl) ?_
    rw [same]
    simp (disch := omega) only [VW, VY, VZ, VA, VB, VC, VE, TY, ↓reduceIte, Nat.reduceEqDiff, Nat.reduceAdd, Nat.reduceMul, Nat.reduceSub, Nat.reduceLeDiff, List.length_cons, List.length_nil, List.length_append, List.append_assoc, List.take_succ_cons, List.take_zero, List.drop_succ_cons, List.drop_zero, List.set_cons_zero, List.set_cons_succ, true_or, or_true, and_self, Bool.false_eq_true, Nat.le_refl, Option.bind_some, Option.map_some, Option.getD_some, Option.isSome_some, List.map_cons, List.map_nil, List.cons_append, List.nil_append, List.append_nil, List.getElem?_cons_zero, List.getElem?_cons_succ, eq_self, Int.reduceLT, Int.reduceLE, Int.reduceNeg, Int.reduceEq, b_neb, bne_self_eq_false, beq_self_eq_true, g4, g5, g7, g8, e7, e8, e9, e10, e11, e12, e13, e14, e16, e17, e18, e19, e22, e23, e24, e25]
    refine binC_ne_ss (a := R.safe) (b := R.pending) Tryd.underlying24 (by decide) (by decide) rfl rfl Tryd.underlying9 Tryd.underlying9 (by kernel_rfl) (by kernel_rfl) ?_
    rw [same]
    cases hk1 : ok with
    | false =>
      rw [hk1] at e8 e10
      simp (disch := omega) only [VW, VY, VZ, VA, VB, VC, VE, TY, ↓reduceIte, Nat.reduceEqDiff, Nat.reduceAdd, Nat.reduceMul, Nat.reduceSub, Nat.reduceLeDiff, List.length_cons, List.length_nil, List.length_append, List.append_assoc, List.take_succ_cons, List.take_zero, List.drop_succ_cons, List.drop_zero, List.set_cons_zero, List.set_cons_succ, true_or, or_true, and_self, Bool.false_eq_true, Nat.le_refl, Option.bind_some, Option.map_some, Option.getD_some, Option.isSome_some, List.map_cons, List.map_nil, List.cons_append, List.nil_append, List.append_nil, List.getElem?_cons_zero, List.getElem?_cons_succ, eq_self, Int.reduceLT, Int.reduceLE, Int.reduceNeg, Int.reduceEq, b_neb, bne_self_eq_false, beq_self_eq_true, e8, e12, e14, e17, e19, e22, e23, e24, e25]
      subst hk1
      exact key _ _ ⟨e5, e6, e7, e8, e9, e10, e11, e12, e13, e14, e15, e16, e17, e18, e19, e20, e21, e22, e23, e24, e25, sL⟩
    | true =>
      have ho1 := hok hk1
      rw [hk1] at e8 e10
      rw [ho1] at e12 e14
      simp (disch := omega) only [VW, VY, VZ, VA, VB, VC, VE, TY, ↓reduceIte, Nat.reduceEqDiff, Nat.reduceAdd, Nat.reduceMul, Nat.reduceSub, Nat.reduceLeDiff, List.length_cons, List.length_nil, List.length_append, List.append_assoc, List.take_succ_cons, List.take_zero, List.drop_succ_cons, List.drop_zero, List.set_cons_zero, List.set_cons_succ, true_or, or_true, and_self, Bool.false_eq_true, Nat.le_refl, Option.bind_some, Option.map_some, Option.getD_some, Option.isSome_some, List.map_cons, List.map_nil, List.cons_append, List.nil_append, List.append_nil, List.getElem?_cons_zero, List.getElem?_cons_succ, eq_self, Int.reduceLT, Int.reduceLE, Int.reduceNeg, Int.reduceEq, b_neb, bne_self_eq_false, beq_self_eq_true, e8, e12, e14, e17, e19, e22, e23, e24, e25]
      subst hk1
      subst ho1
      exact key _ _ ⟨e5, e6, e7, e8, e9, e10, e11, e12, e13, e14, e15, e16, e17, e18, e19, e20, e21, e22, e23, e24, e25, sL⟩
  clear e5 e6 e7 e8 e9 e10 e11 e12 e13 e14 e15 e16 e17 e18 e19 e20 e21 e22 e23 e24 e25 sL
  rintro e h' ⟨e5, e6, e7, e8, e9, e10, e11, e12, e13, e14, e15, e16, e17, e18, e19, e20, e21, e22, e23, e24, e25, sL⟩
  refine seq_cut (CrI h v0 v1 j S R C t ln m k n ok one three five p1 p4 p5 p7 p8 p9) (fun K key => ?_) ?_
  · have g7 := (sL.pull 2 rfl).rdAll (n := 2) rfl
    have g8 := (sL.pull 1 rfl).rd
    simp (disch := omega) only [VW, VY, VZ, VA, VB, VC, VE, TY, ↓reduceIte, Nat.reduceEqDiff, Nat.reduceAdd, Nat.reduceMul, Nat.reduceSub, Nat.reduceLeDiff, List.length_cons, List.length_nil, List.length_append, List.append_assoc, List.take_succ_cons, List.take_zero, List.drop_succ_cons, List.drop_zero, List.set_cons_zero, List.set_cons_succ, true_or, or_true, and_self, Bool.false_eq_true, Nat.le_refl, Option.bind_some, Option.map_some, Option.getD_some, Option.isSome_some, List.map_cons, List.map_nil, List.cons_append, List.nil_append, List.append_nil, List.getElem?_cons_zero, List.getElem?_cons_succ, eq_self, Int.reduceLT, Int.reduceLE, Int.reduceNeg, Int.reduceEq]
    refine draw_ord [0, 1, 2, 3, 4, 5, 6, 7, 8, 9, 10, 11, 12, 13, 14, 15, 16, 17, 18, 19, 20, 21, 22, 23, 24, 25, 26, 27, 28] (by kernel_rfl) (by simp only [List.filterMap_cons, List.filterMap_nil, List.getElem?_cons_zero, List.getElem?_cons_succ]; rfl) ?_
    cases three with
    | false =>
      simp (disch := omega) only [VW, VY, VZ, VA, VB, VC, VE, TY, ↓reduceIte, Nat.reduceEqDiff, Nat.reduceAdd, Nat.reduceMul, Nat.reduceSub, Nat.reduceLeDiff, List.length_cons, List.length_nil, List.length_append, List.append_assoc, List.take_succ_cons, List.take_zero, List.drop_succ_cons, List.drop_zero, List.set_cons_zero, List.set_cons_succ, true_or, or_true, and_self, Bool.false_eq_true, Nat.le_refl, Option.bind_some, Option.map_some, Option.getD_some, Option.isSome_some, List.map_cons, List.map_nil, List.cons_append, List.nil_append, List.append_nil, List.getElem?_cons_zero, List.getElem?_cons_succ, eq_self, Int.reduceLT, Int.reduceLE, Int.reduceNeg, Int.reduceEq, e17]
      exact key _ _ ⟨e5, e6, e7, e8, e9, e10, e11, e12, e13, e14, e15, e16, e17, e18, e19, e20, e21, e22, e23, e24, e25, sL⟩
    | true =>
      have hR : R = ⟨t.extract 0 (readM 0 t.data.toList).2, ⟨#[]⟩⟩ := by
        unfold recoverM at hre
        split at hre
        · exact (congrArg Prod.fst hre).symm
        · cases congrArg Prod.snd hre
      have hN := readM_le 0 t.data.toList
      rw [str_len] at hN
      obtain ⟨sR1, sR2⟩ := sR
      generalize (readM 0 t.data.toList).2 = N at *
      subst hR
      have q1 : ¬ (t.size : Int) < ((t.extract 0 N).size : Int) := by omega
      have q2 : (0 : Int) ≤ ((t.extract 0 N).size : Int) := by omega
      have q3 : ((t.extract 0 N).size : Int) ≤ (t.size : Int) := by omega
      have z0 : (⟨#[]⟩ : ByteArray).size = 0 := rfl
      have q4 : (!decide (t.extract 0 N = t.extract 0 (t.extract 0 N).size)) = false := by rw [sR2]; simp
      simp (disch := omega) only [VW, VY, VZ, VA, VB, VC, VE, TY, ↓reduceIte, Nat.reduceEqDiff, Nat.reduceAdd, Nat.reduceMul, Nat.reduceSub, Nat.reduceLeDiff, List.length_cons, List.length_nil, List.length_append, List.append_assoc, List.take_succ_cons, List.take_zero, List.drop_succ_cons, List.drop_zero, List.set_cons_zero, List.set_cons_succ, true_or, or_true, and_self, Bool.false_eq_true, Nat.le_refl, Option.bind_some, Option.map_some, Option.getD_some, Option.isSome_some, List.map_cons, List.map_nil, List.cons_append, List.nil_append, List.append_nil, List.getElem?_cons_zero, List.getElem?_cons_succ, eq_self, Int.reduceLT, Int.reduceLE, Int.reduceNeg, Int.reduceEq, e17, e18, e15, e16, g7, g8, q1, q2, q3, q4]
      refine .inl ⟨by kernel_rfl, ?_⟩; refine IsJournal_i (jn_ok (j := ⟨t.extract 0 N, ⟨#[]⟩⟩) (by simp only []; omega) _) (siz_le_Jn (by simp only []; omega)) fun h12 E12 => ?_
      have sL := sL.mono E12
      have g7 := (sL.pull 2 rfl).rdAll (n := 2) rfl
      have g8 := (sL.pull 1 rfl).rd
      rw [sR1]
      simp (disch := omega) only [VW, VY, VZ, VA, VB, VC, VE, TY, ↓reduceIte, Nat.reduceEqDiff, Nat.reduceAdd, Nat.reduceMul, Nat.reduceSub, Nat.reduceLeDiff, List.length_cons, List.length_nil, List.length_append, List.append_assoc, List.take_succ_cons, List.take_zero, List.drop_succ_cons, List.drop_zero, List.set_cons_zero, List.set_cons_succ, true_or, or_true, and_self, Bool.false_eq_true, Nat.le_refl, Option.bind_some, Option.map_some, Option.getD_some, Option.isSome_some, List.map_cons, List.map_nil, List.cons_append, List.nil_append, List.append_nil, List.getElem?_cons_zero, List.getElem?_cons_succ, eq_self, Int.reduceLT, Int.reduceLE, Int.reduceNeg, Int.reduceEq, e17, e18, e15, e16, g7, g8, q1, q2, q3, q4, Option.isSome_some]
      exact key _ _ ⟨e5, e6, e7, e8, e9, e10, e11, e12, e13, e14, e15, e16, e17, e18, e19, e20, e21, e22, e23, e24, e25, sL⟩
  clear e5 e6 e7 e8 e9 e10 e11 e12 e13 e14 e15 e16 e17 e18 e19 e20 e21 e22 e23 e24 e25 sL
  rintro e h' ⟨e5, e6, e7, e8, e9, e10, e11, e12, e13, e14, e15, e16, e17, e18, e19, e20, e21, e22, e23, e24, e25, sL⟩
  refine seq_cut (CrI h v0 v1 j S R C t ln m k n ok one three five p1 p4 p5 p7 p8 p9) (fun K key => ?_) ?_
  · cases five with
    | false =>
      simp (disch := omega) only [VW, VY, VZ, VA, VB, VC, VE, TY, ↓reduceIte, Nat.reduceEqDiff, Nat.reduceAdd, Nat.reduceMul, Nat.reduceSub, Nat.reduceLeDiff, List.length_cons, List.length_nil, List.length_append, List.append_assoc, List.take_succ_cons, List.take_zero, List.drop_succ_cons, List.drop_zero, List.set_cons_zero, List.set_cons_succ, true_or, or_true, and_self, Bool.false_eq_true, Nat.le_refl, Option.bind_some, Option.map_some, Option.getD_some, Option.isSome_some, List.map_cons, List.map_nil, List.cons_append, List.nil_append, List.append_nil, List.getElem?_cons_zero, List.getElem?_cons_succ, eq_self, Int.reduceLT, Int.reduceLE, Int.reduceNeg, Int.reduceEq, e23]
      exact key _ _ ⟨e5, e6, e7, e8, e9, e10, e11, e12, e13, e14, e15, e16, e17, e18, e19, e20, e21, e22, e23, e24, e25, sL⟩
    | true =>
      obtain ⟨l1, l2, l3⟩ := line_ok hli
      simp (disch := omega) only [VW, VY, VZ, VA, VB, VC, VE, TY, ↓reduceIte, Nat.reduceEqDiff, Nat.reduceAdd, Nat.reduceMul, Nat.reduceSub, Nat.reduceLeDiff, List.length_cons, List.length_nil, List.length_append, List.append_assoc, List.take_succ_cons, List.take_zero, List.drop_succ_cons, List.drop_zero, List.set_cons_zero, List.set_cons_succ, true_or, or_true, and_self, Bool.false_eq_true, Nat.le_refl, Option.bind_some, Option.map_some, Option.getD_some, Option.isSome_some, List.map_cons, List.map_nil, List.cons_append, List.nil_append, List.append_nil, List.getElem?_cons_zero, List.getElem?_cons_succ, eq_self, Int.reduceLT, Int.reduceLE, Int.reduceNeg, Int.reduceEq, e23, e22]
      refine .inl ⟨by kernel_rfl, ?_⟩; refine RecoverJournal_i (s := ln) (by omega) fun ds h12 s12 => ?_
      have sL := sL.add s12
      obtain ⟨rfl, _, _⟩ := here_Jn sL.here
      have sL := sL.tail.newBlk (jnC (recoverM ln).1) 24 true
      have g := sL.rd
      have sL := sL.tail
      simp only [List.append_eq, List.nil_append] at sL
      have hbn : (!(decide (n = 0) == decide (n = 0))) = false := by simp
      simp (disch := omega) only [VW, VY, VZ, VA, VB, VC, VE, TY, ↓reduceIte, Nat.reduceEqDiff, Nat.reduceAdd, Nat.reduceMul, Nat.reduceSub, Nat.reduceLeDiff, List.length_cons, List.length_nil, List.length_append, List.append_assoc, List.take_succ_cons, List.take_zero, List.drop_succ_cons, List.drop_zero, List.set_cons_zero, List.set_cons_succ, true_or, or_true, and_self, Bool.false_eq_true, Nat.le_refl, Option.bind_some, Option.map_some, Option.getD_some, Option.isSome_some, List.map_cons, List.map_nil, List.cons_append, List.nil_append, List.append_nil, List.getElem?_cons_zero, List.getElem?_cons_succ, eq_self, Int.reduceLT, Int.reduceLE, Int.reduceNeg, Int.reduceEq, g, e24, e20, l2, l3, b_neb, bne_self_eq_false, hbn]
      exact key _ _ ⟨e5, e6, e7, e8, e9, e10, e11, e12, e13, e14, e15, e16, e17, e18, e19, e20, e21, e22, e23, e24, e25, sL⟩
  clear e5 e6 e7 e8 e9 e10 e11 e12 e13 e14 e15 e16 e17 e18 e19 e20 e21 e22 e23 e24 e25 sL
  rintro e h' ⟨e5, e6, e7, e8, e9, e10, e11, e12, e13, e14, e15, e16, e17, e18, e19, e20, e21, e22, e23, e24, e25, sL⟩
  refine seq_cut (CrI h v0 v1 j S R C t ln m k n ok one three five p1 p4 p5 p7 p8 p9) (fun K key => ?_) ?_
  · cases one with
    | false =>
      simp (disch := omega) only [VW, VY, VZ, VA, VB, VC, VE, TY, ↓reduceIte, Nat.reduceEqDiff, Nat.reduceAdd, Nat.reduceMul, Nat.reduceSub, Nat.reduceLeDiff, List.length_cons, List.length_nil, List.length_append, List.append_assoc, List.take_succ_cons, List.take_zero, List.drop_succ_cons, List.drop_zero, List.set_cons_zero, List.set_cons_succ, true_or, or_true, and_self, Bool.false_eq_true, Nat.le_refl, Option.bind_some, Option.map_some, Option.getD_some, Option.isSome_some, List.map_cons, List.map_nil, List.cons_append, List.nil_append, List.append_nil, List.getElem?_cons_zero, List.getElem?_cons_succ, eq_self, Int.reduceLT, Int.reduceLE, Int.reduceNeg, Int.reduceEq, e12]
      exact key _ _ ⟨e5, e6, e7, e8, e9, e10, e11, e12, e13, e14, e15, e16, e17, e18, e19, e20, e21, e22, e23, e24, e25, sL⟩
    | true =>
      obtain ⟨l, hl, hS⟩ := sync_ok hsy
      obtain ⟨hl2, hz⟩ := sync_marks hl
      rw [← hS] at hl2
      have hSz : S.safe.size + S.pending.size ≤ 300000 := by
        rw [hS]
        have z0 : (⟨#[]⟩ : ByteArray).size = 0 := rfl
        simp only []
        omega
      have hSp : S.pending = ⟨#[]⟩ := by rw [hS]
      have ga := (sL.pull 4 rfl).rdAll (n := 2) rfl
      simp (disch := omega) only [VW, VY, VZ, VA, VB, VC, VE, TY, ↓reduceIte, Nat.reduceEqDiff, Nat.reduceAdd, Nat.reduceMul, Nat.reduceSub, Nat.reduceLeDiff, List.length_cons, List.length_nil, List.length_append, List.append_assoc, List.take_succ_cons, List.take_zero, List.drop_succ_cons, List.drop_zero, List.set_cons_zero, List.set_cons_succ, true_or, or_true, and_self, Bool.false_eq_true, Nat.le_refl, Option.bind_some, Option.map_some, Option.getD_some, Option.isSome_some, List.map_cons, List.map_nil, List.cons_append, List.nil_append, List.append_nil, List.getElem?_cons_zero, List.getElem?_cons_succ, eq_self, Int.reduceLT, Int.reduceLE, Int.reduceNeg, Int.reduceEq, e12, e11, ga]
      refine .inl ⟨by kernel_rfl, ?_⟩; refine MarksOf_i (jn_ok hSz _) (siz_le_Jn (by omega)) fun w1 h12 s12 => ?_
      rw [hl2] at s12 ⊢
      have s12 : Sep _ _ [repA l [w1]] := s12
      have sL := sL.add s12
      have ga := (sL.pull 6 rfl).rdAll (n := 2) rfl
      simp (disch := omega) only [VW, VY, VZ, VA, VB, VC, VE, TY, ↓reduceIte, Nat.reduceEqDiff, Nat.reduceAdd, Nat.reduceMul, Nat.reduceSub, Nat.reduceLeDiff, List.length_cons, List.length_nil, List.length_append, List.append_assoc, List.take_succ_cons, List.take_zero, List.drop_succ_cons, List.drop_zero, List.set_cons_zero, List.set_cons_succ, true_or, or_true, and_self, Bool.false_eq_true, Nat.le_refl, Option.bind_some, Option.map_some, Option.getD_some, Option.isSome_some, List.map_cons, List.map_nil, List.cons_append, List.nil_append, List.append_nil, List.getElem?_cons_zero, List.getElem?_cons_succ, eq_self, Int.reduceLT, Int.reduceLE, Int.reduceNeg, Int.reduceEq, e5, ga, Option.isSome_some]
      refine .inl ⟨by kernel_rfl, ?_⟩; refine MarksOf_s (jn_ok hj _) (siz_le_Jn (by omega)) fun w2 h13 s13 => ?_
      rw [hl] at s13 ⊢
      have s13 : Sep _ _ [repA l [w2]] := s13
      have sL := sL.add s13
      have hd : decide (l = l) = true := decide_eq_true rfl
      simp (disch := omega) only [VW, VY, VZ, VA, VB, VC, VE, TY, ↓reduceIte, Nat.reduceEqDiff, Nat.reduceAdd, Nat.reduceMul, Nat.reduceSub, Nat.reduceLeDiff, List.length_cons, List.length_nil, List.length_append, List.append_assoc, List.take_succ_cons, List.take_zero, List.drop_succ_cons, List.drop_zero, List.set_cons_zero, List.set_cons_succ, true_or, or_true, and_self, Bool.false_eq_true, Nat.le_refl, Option.bind_some, Option.map_some, Option.getD_some, Option.isSome_some, List.map_cons, List.map_nil, List.cons_append, List.nil_append, List.append_nil, List.getElem?_cons_zero, List.getElem?_cons_succ, eq_self, Int.reduceLT, Int.reduceLE, Int.reduceNeg, Int.reduceEq, Option.isSome_some]
      refine .inl ⟨by kernel_rfl, ?_⟩; refine qMarks_c (sL.pull 1 rfl).rowR sL.rowR fun h14 E14 => ?_
      have sL := sL.mono E14
      have g : getC h14 p5 1 = some (.string ⟨#[]⟩) := by
        have g := (sL.pull 5 rfl).rd 1
        rw [g, ← hSp]
        rfl
      simp (disch := omega) only [VW, VY, VZ, VA, VB, VC, VE, TY, ↓reduceIte, Nat.reduceEqDiff, Nat.reduceAdd, Nat.reduceMul, Nat.reduceSub, Nat.reduceLeDiff, List.length_cons, List.length_nil, List.length_append, List.append_assoc, List.take_succ_cons, List.take_zero, List.drop_succ_cons, List.drop_zero, List.set_cons_zero, List.set_cons_succ, true_or, or_true, and_self, Bool.false_eq_true, Nat.le_refl, Option.bind_some, Option.map_some, Option.getD_some, Option.isSome_some, List.map_cons, List.map_nil, List.cons_append, List.nil_append, List.append_nil, List.getElem?_cons_zero, List.getElem?_cons_succ, eq_self, Int.reduceLT, Int.reduceLE, Int.reduceNeg, Int.reduceEq, e13, g, hd]
      have sL := sL.tail.tail
      exact key _ _ ⟨e5, e6, e7, e8, e9, e10, e11, e12, e13, e14, e15, e16, e17, e18, e19, e20, e21, e22, e23, e24, e25, sL⟩
  clear e5 e6 e7 e8 e9 e10 e11 e12 e13 e14 e15 e16 e17 e18 e19 e20 e21 e22 e23 e24 e25 sL
  rintro e h' ⟨e5, e6, e7, e8, e9, e10, e11, e12, e13, e14, e15, e16, e17, e18, e19, e20, e21, e22, e23, e24, e25, sL⟩
  cases ok with
  | false =>
    simp (disch := omega) only [VW, VY, VZ, VA, VB, VC, VE, TY, ↓reduceIte, Nat.reduceEqDiff, Nat.reduceAdd, Nat.reduceMul, Nat.reduceSub, Nat.reduceLeDiff, List.length_cons, List.length_nil, List.length_append, List.append_assoc, List.take_succ_cons, List.take_zero, List.drop_succ_cons, List.drop_zero, List.set_cons_zero, List.set_cons_succ, true_or, or_true, and_self, Bool.false_eq_true, Nat.le_refl, Option.bind_some, Option.map_some, Option.getD_some, Option.isSome_some, List.map_cons, List.map_nil, List.cons_append, List.nil_append, List.append_nil, List.getElem?_cons_zero, List.getElem?_cons_succ, eq_self, Int.reduceLT, Int.reduceLE, Int.reduceNeg, Int.reduceEq, e8]
  | true =>
    obtain ⟨l, hl, k0, k1, hC⟩ := crash_ok hcr
    obtain ⟨K, rfl⟩ : ∃ K : Nat, k = K := ⟨k.toNat, by omega⟩
    rw [Int.toNat_natCast] at hC
    have hKp : K ≤ j.pending.size := by omega
    obtain ⟨c1, c2, c3, c4⟩ := crash_marks hl hKp
    rw [← hC] at c1 c2 c3 c4
    have hrC : recoverM C = (⟨C.extract 0 (readM 0 C.data.toList).2, ⟨#[]⟩⟩, true) := by unfold recoverM; rw [if_pos (by omega)]
    obtain ⟨sR1, sR2⟩ := recover_marks C
    have hNle := readM_le 0 C.data.toList
    rw [str_len] at hNle
    generalize (readM 0 C.data.toList).2 = N at *
    generalize (readM 0 C.data.toList).1 = F at *
    have same2 : (!(decide (C.extract 0 N = C.extract 0 N) && decide ((⟨#[]⟩ : ByteArray) = ⟨#[]⟩))) = false := by simp
    have z0 : (⟨#[]⟩ : ByteArray).size = 0 := rfl
    simp (disch := omega) only [VW, VY, VZ, VA, VB, VC, VE, TY, ↓reduceIte, Nat.reduceEqDiff, Nat.reduceAdd, Nat.reduceMul, Nat.reduceSub, Nat.reduceLeDiff, List.length_cons, List.length_nil, List.length_append, List.append_assoc, List.take_succ_cons, List.take_zero, List.drop_succ_cons, List.drop_zero, List.set_cons_zero, List.set_cons_succ, true_or, or_true, and_self, Bool.false_eq_true, Nat.le_refl, Option.bind_some, Option.map_some, Option.getD_some, Option.isSome_some, List.map_cons, List.map_nil, List.cons_append, List.nil_append, List.append_nil, List.getElem?_cons_zero, List.getElem?_cons_succ, eq_self, Int.reduceLT, Int.reduceLE, Int.reduceNeg, Int.reduceEq, e8, e7]
    refine .inl ⟨by kernel_rfl, ?_⟩; refine RecoverJournal_i (s := C) (by omega) fun ds h12 s12 => ?_
    rw [hrC] at s12 ⊢
    have sL := sL.add s12
    obtain ⟨rfl, _, _⟩ := here_Jn sL.here
    have sL := sL.tail.newBlk (jnC ⟨C.extract 0 N, ⟨#[]⟩⟩) 24 true
    simp (disch := omega) only [VW, VY, VZ, VA, VB, VC, VE, TY, ↓reduceIte, Nat.reduceEqDiff, Nat.reduceAdd, Nat.reduceMul, Nat.reduceSub, Nat.reduceLeDiff, List.length_cons, List.length_nil, List.length_append, List.append_assoc, List.take_succ_cons, List.take_zero, List.drop_succ_cons, List.drop_zero, List.set_cons_zero, List.set_cons_succ, true_or, or_true, and_self, Bool.false_eq_true, Nat.le_refl, Option.bind_some, Option.map_some, Option.getD_some, Option.isSome_some, List.map_cons, List.map_nil, List.cons_append, List.nil_append, List.append_nil, List.getElem?_cons_zero, List.getElem?_cons_succ, eq_self, Int.reduceLT, Int.reduceLE, Int.reduceNeg, Int.reduceEq, e9]
    refine .inl ⟨by kernel_rfl, ?_⟩; refine RecoverJournal_s (s := C) (by omega) fun ds h13 s13 => ?_
    rw [hrC] at s13 ⊢
    have sL := sL.add s13
    obtain ⟨rfl, _, _⟩ := here_Jn sL.here
    have sL := sL.tail.newBlk (jnC ⟨C.extract 0 N, ⟨#[]⟩⟩) 24 true
    simp only [List.append_eq, List.nil_append] at sL
    have g1 := sL.rdAll (n := 2) rfl
    have g2 := (sL.pull 1 rfl).rdAll (n := 2) rfl
    simp (disch := omega) only [VW, VY, VZ, VA, VB, VC, VE, TY, ↓reduceIte, Nat.reduceEqDiff, Nat.reduceAdd, Nat.reduceMul, Nat.reduceSub, Nat.reduceLeDiff, List.length_cons, List.length_nil, List.length_append, List.append_assoc, List.take_succ_cons, List.take_zero, List.drop_succ_cons, List.drop_zero, List.set_cons_zero, List.set_cons_succ, true_or, or_true, and_self, Bool.false_eq_true, Nat.le_refl, Option.bind_some, Option.map_some, Option.getD_some, Option.isSome_some, List.map_cons, List.map_nil, List.cons_append, List.nil_append, List.append_nil, List.getElem?_cons_zero, List.getElem?_cons_succ, eq_self, Int.reduceLT, Int.reduceLE, Int.reduceNeg, Int.reduceEq, b_neb, bne_self_eq_false, beq_self_eq_true, g1, g2]
    refine binC_ne_ss (a := C.extract 0 N) (b := ⟨#[]⟩) Tryd.underlying24 (by decide) (by decide) rfl rfl Tryd.underlying9 Tryd.underlying9 (by kernel_rfl) (by kernel_rfl) ?_
    rw [same2]
    have gj := (sL.pull 7 rfl).rdAll (n := 2) rfl
    simp (disch := omega) only [VW, VY, VZ, VA, VB, VC, VE, TY, ↓reduceIte, Nat.reduceEqDiff, Nat.reduceAdd, Nat.reduceMul, Nat.reduceSub, Nat.reduceLeDiff, List.length_cons, List.length_nil, List.length_append, List.append_assoc, List.take_succ_cons, List.take_zero, List.drop_succ_cons, List.drop_zero, List.set_cons_zero, List.set_cons_succ, true_or, or_true, and_self, Bool.false_eq_true, Nat.le_refl, Option.bind_some, Option.map_some, Option.getD_some, Option.isSome_some, List.map_cons, List.map_nil, List.cons_append, List.nil_append, List.append_nil, List.getElem?_cons_zero, List.getElem?_cons_succ, eq_self, Int.reduceLT, Int.reduceLE, Int.reduceNeg, Int.reduceEq, e5, gj]
    refine .inl ⟨by kernel_rfl, ?_⟩; refine MarksOf_s (jn_ok hj _) (siz_le_Jn (by omega)) fun w1 h14 s14 => ?_
    rw [hl] at s14 ⊢
    have s14 : Sep _ _ [repA l [w1]] := s14
    have sL := sL.add s14
    have g1 := (sL.pull 1 rfl).rdAll (n := 2) rfl
    simp (disch := omega) only [VW, VY, VZ, VA, VB, VC, VE, TY, ↓reduceIte, Nat.reduceEqDiff, Nat.reduceAdd, Nat.reduceMul, Nat.reduceSub, Nat.reduceLeDiff, List.length_cons, List.length_nil, List.length_append, List.append_assoc, List.take_succ_cons, List.take_zero, List.drop_succ_cons, List.drop_zero, List.set_cons_zero, List.set_cons_succ, true_or, or_true, and_self, Bool.false_eq_true, Nat.le_refl, Option.bind_some, Option.map_some, Option.getD_some, Option.isSome_some, List.map_cons, List.map_nil, List.cons_append, List.nil_append, List.append_nil, List.getElem?_cons_zero, List.getElem?_cons_succ, eq_self, Int.reduceLT, Int.reduceLE, Int.reduceNeg, Int.reduceEq, g1, Option.isSome_some]
    refine .inl ⟨by kernel_rfl, ?_⟩; refine MarksOf_s (jn_ok (j := ⟨C.extract 0 N, ⟨#[]⟩⟩) (by simp only []; omega) _) (siz_le_Jn (by simp only []; omega)) fun w2 h15 s15 => ?_
    rw [sR1] at s15 ⊢
    have s15 : Sep _ _ [repA F [w2]] := s15
    have sL := sL.add s15
    have gk := (sL.pull 2 rfl).rd
    have gj := (sL.pull 9 rfl).rd
    have r1 := (sL.pull 1 rfl).rowR
    have r2 := sL.rowR
    have hlen : F.length ≤ l.length := c2.length_le
    have hl40 := (marksJ_len hl).1
    have q1 : ¬ ((C.extract 0 N).size : Int) < (j.safe.size : Int) := by omega
    have q2 : ¬ (l.length : Int) < (F.length : Int) := by omega
    simp (disch := omega) only [VW, VY, VZ, VA, VB, VC, VE, TY, ↓reduceIte, Nat.reduceEqDiff, Nat.reduceAdd, Nat.reduceMul, Nat.reduceSub, Nat.reduceLeDiff, List.length_cons, List.length_nil, List.length_append, List.append_assoc, List.take_succ_cons, List.take_zero, List.drop_succ_cons, List.drop_zero, List.set_cons_zero, List.set_cons_succ, true_or, or_true, and_self, Bool.false_eq_true, Nat.le_refl, Option.bind_some, Option.map_some, Option.getD_some, Option.isSome_some, List.map_cons, List.map_nil, List.cons_append, List.nil_append, List.append_nil, List.getElem?_cons_zero, List.getElem?_cons_succ, eq_self, Int.reduceLT, Int.reduceLE, Int.reduceNeg, Int.reduceEq, Option.isSome_some, gk, gj, e5, r1.isRow.len, r2.isRow.len, q1, q2]
    have sE := ((sL.pull 1 rfl).pull 1 rfl).pull 9 rfl
    have sE := Sep.keep (L := [_, _, _]) sE
    refine loop_rule (fun n e h' => ∃ (i : Nat), e 5 = .pointer (some ⟨p1, 0, none⟩) ∧ e 6 = .int .i64 (K : Nat) ∧ e 36 = w1 ∧ e 38 = w2 ∧ e 277 = w2 ∧ e 278 = .int .i64 F.length ∧ e 279 = .int .i64 i ∧ i ≤ F.length ∧ n = F.length - i ∧ Sep h h' [blkA p1 (jnC j) 24, repA F [w2], repA l [w1]]) ?_ F.length _ _
      ⟨0, e5, e6, rfl, rfl, rfl, rfl, rfl, Nat.zero_le _, rfl, sE⟩
    clear sE r1 r2 gk gj g1 g2 e5 e6 e7 e8 e9 e10 e11 e12 e13 e14 e15 e16 e17 e18 e19 e20 e21 e22 e23 e24 e25 sL
    rintro n e h' ⟨i, e5, e6, e36, e38, e277, e278, e279, hi, rfl, sE⟩
    have r2 := (sE.pull 1 rfl).rowR
    have r1 := (sE.pull 2 rfl).rowR
    simp (disch := omega) only [VW, VY, VZ, VA, VB, VC, VE, TY, ↓reduceIte, Nat.reduceEqDiff, Nat.reduceAdd, Nat.reduceMul, Nat.reduceSub, Nat.reduceLeDiff, List.length_cons, List.length_nil, List.length_append, List.append_assoc, List.take_succ_cons, List.take_zero, List.drop_succ_cons, List.drop_zero, List.set_cons_zero, List.set_cons_succ, true_or, or_true, and_self, Bool.false_eq_true, Nat.le_refl, Option.bind_some, Option.map_some, Option.getD_some, Option.isSome_some, List.map_cons, List.map_nil, List.cons_append, List.nil_append, List.append_nil, List.getElem?_cons_zero, List.getElem?_cons_succ, eq_self, Int.reduceLT, Int.reduceLE, Int.reduceNeg, Int.reduceEq, e278, e279]
    by_cases hlt : i < F.length
    · obtain ⟨x, hx⟩ := get_some hlt
      have c1' : (i : Int) < (F.length : Int) := by omega
      have hx2 : l[i]? = some x := by
        obtain ⟨tl, htl⟩ := c2
        rw [← htl, List.getElem?_append_left hlt]
        exact hx
      obtain ⟨cs, x3, x4⟩ := Row.at r2 hx
      obtain ⟨rfl, f1, f2⟩ := here_Mk x4
      rw [Mk.sz] at x3
      have sE := sE.newBlk [.string x.path, .int .i64 x.kind] 34 true
      have r1 := (sE.pull 3 rfl).rowR
      obtain ⟨ds, y3, y4⟩ := Row.at r1 hx2
      obtain ⟨rfl, _, _⟩ := here_Mk y4
      rw [Mk.sz] at y3
      have gx := sE.rdAll (n := 2) rfl
      have il : (i : Int) < (l.length : Int) := by omega
      simp (disch := omega) only [VW, VY, VZ, VA, VB, VC, VE, TY, ↓reduceIte, Nat.reduceEqDiff, Nat.reduceAdd, Nat.reduceMul, Nat.reduceSub, Nat.reduceLeDiff, List.length_cons, List.length_nil, List.length_append, List.append_assoc, List.take_succ_cons, List.take_zero, List.drop_succ_cons, List.drop_zero, List.set_cons_zero, List.set_cons_succ, true_or, or_true, and_self, Bool.false_eq_true, Nat.le_refl, Option.bind_some, Option.map_some, Option.getD_some, Option.isSome_some, List.map_cons, List.map_nil, List.cons_append, List.nil_append, List.append_nil, List.getElem?_cons_zero, List.getElem?_cons_succ, eq_self, Int.reduceLT, Int.reduceLE, Int.reduceNeg, Int.reduceEq, c1', e277, e279, r2.isRow.ix, x3]
      refine draw_ord [0, 1, 2, 3, 4, 5] (by kernel_rfl) (by simp only [List.filterMap_cons, List.filterMap_nil, List.getElem?_cons_zero, List.getElem?_cons_succ]; rfl) ?_
      simp (disch := omega) only [VW, VY, VZ, VA, VB, VC, VE, TY, ↓reduceIte, Nat.reduceEqDiff, Nat.reduceAdd, Nat.reduceMul, Nat.reduceSub, Nat.reduceLeDiff, List.length_cons, List.length_nil, List.length_append, List.append_assoc, List.take_succ_cons, List.take_zero, List.drop_succ_cons, List.drop_zero, List.set_cons_zero, List.set_cons_succ, true_or, or_true, and_self, Bool.false_eq_true, Nat.le_refl, Option.bind_some, Option.map_some, Option.getD_some, Option.isSome_some, List.map_cons, List.map_nil, List.cons_append, List.nil_append, List.append_nil, List.getElem?_cons_zero, List.getElem?_cons_succ, eq_self, Int.reduceLT, Int.reduceLE, Int.reduceNeg, Int.reduceEq, e36, e279, r1.isRow.ix, y3, gx, il]
      refine binC_ne_si (a := x.path) (b := x.kind) Tryd.underlying34 (by decide) (by decide) rfl rfl Tryd.underlying9 Tryd.underlying3 (by kernel_rfl) (by kernel_rfl) ?_
      rw [mk_ext, decide_eq_true rfl]
      simp (disch := omega) only [VW, VY, VZ, VA, VB, VC, VE, TY, ↓reduceIte, Nat.reduceEqDiff, Nat.reduceAdd, Nat.reduceMul, Nat.reduceSub, Nat.reduceLeDiff, List.length_cons, List.length_nil, List.length_append, List.append_assoc, List.take_succ_cons, List.take_zero, List.drop_succ_cons, List.drop_zero, List.set_cons_zero, List.set_cons_succ, true_or, or_true, and_self, Bool.false_eq_true, Nat.le_refl, Option.bind_some, Option.map_some, Option.getD_some, Option.isSome_some, List.map_cons, List.map_nil, List.cons_append, List.nil_append, List.append_nil, List.getElem?_cons_zero, List.getElem?_cons_succ, eq_self, Int.reduceLT, Int.reduceLE, Int.reduceNeg, Int.reduceEq, y3, gx, e5, e6, e36, e38, e277, e278, e279, wrap_in]
      exact ⟨_, by omega, i + 1, by simp, by omega, rfl, sE.tail⟩
    · obtain rfl : i = F.length := by omega
      have c1' : ¬ (F.length : Int) < (F.length : Int) := by omega
      have gj := sE.rd
      by_cases kk : K < j.pending.size
      · have k2 : (K : Int) < (j.pending.size : Int) := by omega
        simp (disch := omega) only [VW, VY, VZ, VA, VB, VC, VE, TY, ↓reduceIte, Nat.reduceEqDiff, Nat.reduceAdd, Nat.reduceMul, Nat.reduceSub, Nat.reduceLeDiff, List.length_cons, List.length_nil, List.length_append, List.append_assoc, List.take_succ_cons, List.take_zero, List.drop_succ_cons, List.drop_zero, List.set_cons_zero, List.set_cons_succ, true_or, or_true, and_self, Bool.false_eq_true, Nat.le_refl, Option.bind_some, Option.map_some, Option.getD_some, Option.isSome_some, List.map_cons, List.map_nil, List.cons_append, List.nil_append, List.append_nil, List.getElem?_cons_zero, List.getElem?_cons_succ, eq_self, Int.reduceLT, Int.reduceLE, Int.reduceNeg, Int.reduceEq, c1', e5, e6, gj, k2]
      · have k2 : ¬ (K : Int) < (j.pending.size : Int) := by omega
        have hF := c3 (by omega)
        subst hF
        simp (disch := omega) only [VW, VY, VZ, VA, VB, VC, VE, TY, ↓reduceIte, Nat.reduceEqDiff, Nat.reduceAdd, Nat.reduceMul, Nat.reduceSub, Nat.reduceLeDiff, List.length_cons, List.length_nil, List.length_append, List.append_assoc, List.take_succ_cons, List.take_zero, List.drop_succ_cons, List.drop_zero, List.set_cons_zero, List.set_cons_succ, true_or, or_true, and_self, Bool.false_eq_true, Nat.le_refl, Option.bind_some, Option.map_some, Option.getD_some, Option.isSome_some, List.map_cons, List.map_nil, List.cons_append, List.nil_append, List.append_nil, List.getElem?_cons_zero, List.getElem?_cons_succ, eq_self, Int.reduceLT, Int.reduceLE, Int.reduceNeg, Int.reduceEq, c1', e5, e6, gj, k2, e36, e38, r1.isRow.len, r2.isRow.len]
end Go.Proofs
