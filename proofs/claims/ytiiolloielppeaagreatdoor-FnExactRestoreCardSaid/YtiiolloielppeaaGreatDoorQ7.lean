/- Contracts of functions, facts of types, or the plain law behind one statement (own work): Q7. Conditions: those told in each theorem. -/
import Derived.Test.YtiiolloielppeaaGreatDoorQ6
set_option linter.all false
set_option linter.unusedSimpArgs false
set_option linter.unusedVariables false
set_option maxRecDepth 4000
set_option linter.unusedSectionVars false
namespace Go.Proofs
open Go Go.V
theorem cut_len (s sep : List UInt8) : (cutB s sep).1.length ≤ s.length ∧ (cutB s sep).2.length ≤ s.length := by
  unfold cutB Lib.cut
  split
  · simp only [List.length_take, List.length_drop]; omega
  · simp
theorem cutColon_c {s : ByteArray} {h : Heap} {Q : Value → Heap → Prop} (hs : s.size ≤ 1000000)
    (hQ : ∀ b, Q (.tuple #[.string (bL (cutB s.data.toList [58, 32]).1), .string (bL (cutB s.data.toList [58, 32]).2), .bool b]) h) :
    CallsV Tryz.prog 35 [.string s, .string ⟨#[58, 32]⟩] h Q := cut_c hs hQ
theorem cutBlank_c {s : ByteArray} {h : Heap} {Q : Value → Heap → Prop} (hs : s.size ≤ 1000000)
    (hQ : ∀ b, Q (.tuple #[.string (bL (cutB s.data.toList [32]).1), .string (bL (cutB s.data.toList [32]).2), .bool b]) h) :
    CallsV Tryz.prog 35 [.string s, .string ⟨#[32]⟩] h Q := cut_c hs hQ
theorem atoiL_c {l : List UInt8} {h : Heap} {Q : Value → Heap → Prop} (hs : l.length ≤ 1000000)
    (hQ : Q (.tuple #[.int .i64 (atoiN l), errV (atoiO l)]) h) :
    CallsV Tryz.prog 36 [.string (bL l)] h Q := atoi_c (by rw [bL_size]; exact hs) hQ
theorem okW_none {w : List UInt8} (h : atoiO w = none) : okW w = false := by unfold okW; rw [h]; rfl
theorem okW_some {w : List UInt8} {n : Int} (h : atoiO w = some n) : okW w = true := by unfold okW; rw [h]; rfl
theorem nil_ne {xo : Operand} {K : Value → Heap → Prop} {h : Heap} (hK : K (.bool false) h) : binK Tryz.prog (binV .neq 7 .nilIface .nilIface) .neq 58 xo (.const .nilIface) .nilIface .nilIface K h := by
  show BinC Tryz.prog .neq 58 xo (.const .nilIface) .nilIface .nilIface fun v => K v h
  refine ⟨rfl, rfl, .bool false, rfl, fun w => ?_, hK⟩
  have hg : (eqGuard .neq 58 xo (.const .nilIface) .nilIface .nilIface : Sem Unit).run Tryz.prog w = .ok () w := by
    simp [eqGuard]
  have hu : ∃ d, Tryz.prog.underlying 58 = some (.interface d) := ⟨_, Tryz.underlying58⟩
  obtain ⟨d, hd⟩ := hu
  have he0 : ∀ n, (Op.equalIn (n + 1) 58 .nilIface .nilIface : Sem Bool).run Tryz.prog w = .ok true w := fun n => by
    simp [Op.equalIn, run_underlying hd]
  have he : (Op.equal 58 .nilIface .nilIface : Sem Bool).run Tryz.prog w = .ok true w := he0 9999
  rw [Sem.run_bind, hg, Result.andThen_ok]
  have hb : (binOp .neq 58 .nilIface .nilIface : Sem Value) = (do pure (.bool (!(← Op.equal 58 .nilIface .nilIface)))) := rfl
  rw [hb, Sem.run_bind, he, Result.andThen_ok]
  rfl
theorem splitL_max (c : UInt8) (l : List UInt8) : (splitL c l).length ≤ l.length + 1 := by
  rw [splitL_count]; have := count_le c l; omega
theorem errV_none : errV none = .iface 0 (.tuple #[]) := rfl
theorem errV_some (n : Int) : errV (some n) = .nilIface := rfl
theorem parseBox_c {s : ByteArray} {h : Heap} {Q : Value → Heap → Prop} (hs : s.size ≤ 1000000)
    (hQ : ∀ cs h', Sep h h' [repA ((boxI s.data.toList).getD bxZ) cs] → Q (.tuple #[.agg cs.toArray, .bool (boxI s.data.toList).isSome]) h') :
    CallsV Tryz.prog 39 [.string s] h Q := by
  refine CallsV.start Tryz.func39 rfl (by rw [Tryz.results39]) (by kernel_rfl) (by rw [Tryz.ntmps39]; simp) ?_
  have hl := str_len s
  have u := Sep.blk1 h [.int .i64 0, .slice none 0 0, .slice none 0 0] 38 true
  have hcl := cut_len s.data.toList [58, 32]
  simp (disch := omega) only [VW, VY, VZ, VA, VB, VC, VE, TY, ↓reduceIte, Nat.reduceEqDiff, Nat.reduceAdd, Nat.reduceMul, Nat.reduceSub, Nat.reduceLeDiff, List.length_cons, List.length_nil, List.length_append, List.append_assoc, List.take_succ_cons, List.take_zero, List.drop_succ_cons, List.drop_zero, List.set_cons_zero, List.set_cons_succ, true_or, or_true, and_self, Bool.false_eq_true, Nat.le_refl, Option.bind_some, Option.map_some, Option.getD_some, Option.isSome_some, List.map_cons, List.map_nil, List.cons_append, List.nil_append, List.append_nil, List.getElem?_cons_zero, List.getElem?_cons_succ, eq_self, Int.reduceLT, Int.reduceLE, Int.reduceNeg, Int.reduceEq]
  refine .inl ⟨by kernel_rfl, ?_⟩; refine cutColon_c hs fun b0 => ?_
  have bad : ¬ ((wordsI s.data.toList).all okW = true ∧ okW (cutB s.data.toList [58, 32]).1 = true ∧ boxM (boxIb s.data.toList) = true ∧ boxL (boxIb s.data.toList) = s.data.toList) → boxI s.data.toList = none := fun k => if_neg k
  have good : ((wordsI s.data.toList).all okW = true ∧ okW (cutB s.data.toList [58, 32]).1 = true ∧ boxM (boxIb s.data.toList) = true ∧ boxL (boxIb s.data.toList) = s.data.toList) → boxI s.data.toList = some (boxIb s.data.toList) := fun k => if_pos k
  have hW : wordsI s.data.toList = splitL 32 (cutB s.data.toList [58, 32]).2 := rfl
  have hB : boxIb s.data.toList = ⟨atoiN (cutB s.data.toList [58, 32]).1, (accP ((wordsI s.data.toList).map atoiN)).1, (accP ((wordsI s.data.toList).map atoiN)).2⟩ := rfl
  generalize (cutB s.data.toList [58, 32]).1 = H0 at *
  generalize hR : (cutB s.data.toList [58, 32]).2 = R at *
  simp (disch := omega) only [VW, VY, VZ, VA, VB, VC, VE, TY, ↓reduceIte, Nat.reduceEqDiff, Nat.reduceAdd, Nat.reduceMul, Nat.reduceSub, Nat.reduceLeDiff, List.length_cons, List.length_nil, List.length_append, List.append_assoc, List.take_succ_cons, List.take_zero, List.drop_succ_cons, List.drop_zero, List.set_cons_zero, List.set_cons_succ, true_or, or_true, and_self, Bool.false_eq_true, Nat.le_refl, Option.bind_some, Option.map_some, Option.getD_some, Option.isSome_some, List.map_cons, List.map_nil, List.cons_append, List.nil_append, List.append_nil, List.getElem?_cons_zero, List.getElem?_cons_succ, eq_self, Int.reduceLT, Int.reduceLE, Int.reduceNeg, Int.reduceEq]
  refine .inl ⟨by kernel_rfl, ?_⟩; refine atoiL_c (l := H0) (by omega) ?_
  have u := u.newBlk [.int .i64 (atoiN H0), .slice none 0 0, .slice none 0 0] 38 true
  have e1 : (h ++ [some (⟨[.int .i64 0, .slice none 0 0, .slice none 0 0], 38, false, true⟩ : Blk)]) ++ [some ⟨[.int .i64 (atoiN H0), .slice none 0 0, .slice none 0 0], 38, false, true⟩] = h ++ [some ⟨[.int .i64 0, .slice none 0 0, .slice none 0 0], 38, false, true⟩, some ⟨[.int .i64 (atoiN H0), .slice none 0 0, .slice none 0 0], 38, false, true⟩] := by simp
  have e2 : (h ++ [some (⟨[.int .i64 0, .slice none 0 0, .slice none 0 0], 38, false, true⟩ : Blk)]).length = h.length + 1 := by simp
  rw [e1, e2] at u
  simp (disch := omega) only [VW, VY, VZ, VA, VB, VC, VE, TY, ↓reduceIte, Nat.reduceEqDiff, Nat.reduceAdd, Nat.reduceMul, Nat.reduceSub, Nat.reduceLeDiff, List.length_cons, List.length_nil, List.length_append, List.append_assoc, List.take_succ_cons, List.take_zero, List.drop_succ_cons, List.drop_zero, List.set_cons_zero, List.set_cons_succ, true_or, or_true, and_self, Bool.false_eq_true, Nat.le_refl, Option.bind_some, Option.map_some, Option.getD_some, Option.isSome_some, List.map_cons, List.map_nil, List.cons_append, List.nil_append, List.append_nil, List.getElem?_cons_zero, List.getElem?_cons_succ, eq_self, Int.reduceLT, Int.reduceLE, Int.reduceNeg, Int.reduceEq]
  refine .inl ⟨by kernel_rfl, ?_⟩; refine split_o (s := bL R) (c := 32) (by rw [bL_size]; omega) fun v h1 s1 => ?_
  have u : Sep h h1 [ownA (α := ByteArray) 9 ((splitL 32 R).map bL) v, _, _] := u.add s1
  rw [← hW] at u
  have hWl : ∀ w ∈ wordsI s.data.toList, w.length ≤ 1000000 := fun w hw => by
    have := splitL_len 32 R w (by rw [← hW]; exact hw); omega
  have hWn : (wordsI s.data.toList).length ≤ 1000001 := by
    have := splitL_max 32 R; rw [hW]; omega
  generalize wordsI s.data.toList = W at *
  have hN : (W.map bL).length = W.length := by simp
  have len := (u.row).isRow.len Tryz.prog
  rw [hN] at len
  have hle := (u.row).le
  rw [hN] at hle
  simp (disch := omega) only [VW, VY, VZ, VA, VB, VC, VE, TY, ↓reduceIte, Nat.reduceEqDiff, Nat.reduceAdd, Nat.reduceMul, Nat.reduceSub, Nat.reduceLeDiff, List.length_cons, List.length_nil, List.length_append, List.append_assoc, List.take_succ_cons, List.take_zero, List.drop_succ_cons, List.drop_zero, List.set_cons_zero, List.set_cons_succ, true_or, or_true, and_self, Bool.false_eq_true, Nat.le_refl, Option.bind_some, Option.map_some, Option.getD_some, Option.isSome_some, List.map_cons, List.map_nil, List.cons_append, List.nil_append, List.append_nil, List.getElem?_cons_zero, List.getElem?_cons_succ, eq_self, Int.reduceLT, Int.reduceLE, Int.reduceNeg, Int.reduceEq, len]
  refine loop_rule (fun n e h' => ∃ (i : Nat) (vl vh : Value), e 0 = .string s ∧ e 2 = .pointer (some ⟨h.length, 0, none⟩) ∧ e 8 = errV (atoiO H0) ∧ e 9 = .pointer (some ⟨h.length + 1, 0, none⟩) ∧ e 28 = v ∧ e 29 = .int .i64 W.length ∧ e 30 = .int .i64 (i : Int) ∧ i ≤ W.length ∧ n = W.length - i ∧ (W.take i).all okW = true ∧
    Sep h h' [blkA (h.length + 1) [.int .i64 (atoiN H0), vl, vh] 38, ownA 3 (accP ((W.take i).map atoiN)).1 vl, ownA 3 (accP ((W.take i).map atoiN)).2 vh, ownA (α := ByteArray) 9 (W.map bL) v, blkA h.length [.int .i64 0, .slice none 0 0, .slice none 0 0] 38]) ?_ W.length _ _
    ⟨0, .slice none 0 0, .slice none 0 0, rfl, rfl, rfl, rfl, rfl, rfl, rfl, by omega, rfl, rfl, ((u.nilA 3).nilA 3).pull 3 rfl⟩
  rintro n e h' ⟨i, vl, vh, e0, e2, e8, e9, e28, e29, e30, hi, rfl, hall, u⟩
  simp (disch := omega) only [VW, VY, VZ, VA, VB, VC, VE, TY, ↓reduceIte, Nat.reduceEqDiff, Nat.reduceAdd, Nat.reduceMul, Nat.reduceSub, Nat.reduceLeDiff, List.length_cons, List.length_nil, List.length_append, List.append_assoc, List.take_succ_cons, List.take_zero, List.drop_succ_cons, List.drop_zero, List.set_cons_zero, List.set_cons_succ, true_or, or_true, and_self, Bool.false_eq_true, Nat.le_refl, Option.bind_some, Option.map_some, Option.getD_some, Option.isSome_some, List.map_cons, List.map_nil, List.cons_append, List.nil_append, List.append_nil, List.getElem?_cons_zero, List.getElem?_cons_succ, eq_self, Int.reduceLT, Int.reduceLE, Int.reduceNeg, Int.reduceEq, e29, e30]
  have rw1 := (u.pull 3 rfl).row
  have rix := rw1.isRow.ix Tryz.prog
  rw [hN] at rix
  by_cases hlt : i < W.length
  · have q1 : (i : Int) < (W.length : Int) := by omega
    obtain ⟨x, hx⟩ := get_some hlt
    have hxl := hWl x (List.mem_of_getElem? hx)
    have g1 := (row_str rw1 (show (W.map bL)[i]? = some (bL x) by simp [hx])).1
    have hlen := accP_len ((W.take i).map atoiN)
    rw [List.length_map, List.length_take] at hlen
    have hstep : accP ((W.take (i + 1)).map atoiN) = accF (accP ((W.take i).map atoiN)) (atoiN x) := by
      rw [List.take_add_one, hx]
      simp only [Option.toList_some, List.map_append, List.map_cons, List.map_nil]
      exact accP_snoc _ _
    simp (disch := omega) only [VW, VY, VZ, VA, VB, VC, VE, TY, ↓reduceIte, Nat.reduceEqDiff, Nat.reduceAdd, Nat.reduceMul, Nat.reduceSub, Nat.reduceLeDiff, List.length_cons, List.length_nil, List.length_append, List.append_assoc, List.take_succ_cons, List.take_zero, List.drop_succ_cons, List.drop_zero, List.set_cons_zero, List.set_cons_succ, true_or, or_true, and_self, Bool.false_eq_true, Nat.le_refl, Option.bind_some, Option.map_some, Option.getD_some, Option.isSome_some, List.map_cons, List.map_nil, List.cons_append, List.nil_append, List.append_nil, List.getElem?_cons_zero, List.getElem?_cons_succ, eq_self, Int.reduceLT, Int.reduceLE, Int.reduceNeg, Int.reduceEq, e28, e30, q1, rix, g1]
    refine .inl ⟨by kernel_rfl, ?_⟩; refine atoiL_c hxl ?_
    cases ho : atoiO x with
    | none =>
      rw [bad (fun c => by have := c.1; rw [all_false hx (okW_none ho)] at this; cases this)] at hQ
      rw [errV_none]
      simp (disch := omega) only [VW, VY, VZ, VA, VB, VC, VE, TY, ↓reduceIte, Nat.reduceEqDiff, Nat.reduceAdd, Nat.reduceMul, Nat.reduceSub, Nat.reduceLeDiff, List.length_cons, List.length_nil, List.length_append, List.append_assoc, List.take_succ_cons, List.take_zero, List.drop_succ_cons, List.drop_zero, List.set_cons_zero, List.set_cons_succ, true_or, or_true, and_self, Bool.false_eq_true, Nat.le_refl, Option.bind_some, Option.map_some, Option.getD_some, Option.isSome_some, List.map_cons, List.map_nil, List.cons_append, List.nil_append, List.append_nil, List.getElem?_cons_zero, List.getElem?_cons_succ, eq_self, Int.reduceLT, Int.reduceLE, Int.reduceNeg, Int.reduceEq, e2]
      refine sep_store (u.pull 4 rfl) (by simp) fun h5 u => ?_
      have u := u.as (ds := [.int .i64 0, .slice none 0 0, .slice none 0 0]) (by simp [t_put])
      have gz := u.rdAll (n := 3) rfl
      simp (disch := omega) only [VW, VY, VZ, VA, VB, VC, VE, TY, ↓reduceIte, Nat.reduceEqDiff, Nat.reduceAdd, Nat.reduceMul, Nat.reduceSub, Nat.reduceLeDiff, List.length_cons, List.length_nil, List.length_append, List.append_assoc, List.take_succ_cons, List.take_zero, List.drop_succ_cons, List.drop_zero, List.set_cons_zero, List.set_cons_succ, true_or, or_true, and_self, Bool.false_eq_true, Nat.le_refl, Option.bind_some, Option.map_some, Option.getD_some, Option.isSome_some, List.map_cons, List.map_nil, List.cons_append, List.nil_append, List.append_nil, List.getElem?_cons_zero, List.getElem?_cons_succ, eq_self, Int.reduceLT, Int.reduceLE, Int.reduceNeg, Int.reduceEq, gz, e2]
      exact hQ _ _ (bx_zero u).head
    | some m =>
      rw [errV_some]
      have hall' : (W.take (i + 1)).all okW = true := by rw [all_take _ hx, hall, okW_some ho]; rfl
      have tm : Int.tmod (i : Int) 2 = ((i % 2 : Nat) : Int) := tmod_nat _ _
      have z2 : ¬ (2 : Int) = 0 := by decide
      have gb := u.rd
      simp (disch := omega) only [VW, VY, VZ, VA, VB, VC, VE, TY, ↓reduceIte, Nat.reduceEqDiff, Nat.reduceAdd, Nat.reduceMul, Nat.reduceSub, Nat.reduceLeDiff, List.length_cons, List.length_nil, List.length_append, List.append_assoc, List.take_succ_cons, List.take_zero, List.drop_succ_cons, List.drop_zero, List.set_cons_zero, List.set_cons_succ, true_or, or_true, and_self, Bool.false_eq_true, Nat.le_refl, Option.bind_some, Option.map_some, Option.getD_some, Option.isSome_some, List.map_cons, List.map_nil, List.cons_append, List.nil_append, List.append_nil, List.getElem?_cons_zero, List.getElem?_cons_succ, eq_self, Int.reduceLT, Int.reduceLE, Int.reduceNeg, Int.reduceEq]
      refine nil_ne ?_
      by_cases hpar : ((i % 2 : Nat) : Int) = 0
      · have hAB : (accP ((W.take i).map atoiN)).1.length = (accP ((W.take i).map atoiN)).2.length := by omega
        unfold accF at hstep
        rw [if_pos hAB] at hstep
        generalize (accP ((W.take i).map atoiN)).1 = A at *
        generalize (accP ((W.take i).map atoiN)).2 = B at *
        simp (disch := omega) only [VW, VY, VZ, VA, VB, VC, VE, TY, ↓reduceIte, Nat.reduceEqDiff, Nat.reduceAdd, Nat.reduceMul, Nat.reduceSub, Nat.reduceLeDiff, List.length_cons, List.length_nil, List.length_append, List.append_assoc, List.take_succ_cons, List.take_zero, List.drop_succ_cons, List.drop_zero, List.set_cons_zero, List.set_cons_succ, true_or, or_true, and_self, Bool.false_eq_true, Nat.le_refl, Option.bind_some, Option.map_some, Option.getD_some, Option.isSome_some, List.map_cons, List.map_nil, List.cons_append, List.nil_append, List.append_nil, List.getElem?_cons_zero, List.getElem?_cons_succ, eq_self, Int.reduceLT, Int.reduceLE, Int.reduceNeg, Int.reduceEq, z2, tm, hpar, e9, gb]
        have sq := (Sep.rep0 (x := atoiN x) (u.pull 1 rfl) (rep_int (atoiN_in x))).swap
        refine sep_append (y := atoiN x) sq rfl rfl te36 tk3 rfl (by decide) (by simp only []; omega) fun vl' h5 u => ?_
        have gb := (u.pull 1 rfl).rd
        have hc := u.row.isRow.cells
        simp (disch := omega) only [VW, VY, VZ, VA, VB, VC, VE, TY, ↓reduceIte, Nat.reduceEqDiff, Nat.reduceAdd, Nat.reduceMul, Nat.reduceSub, Nat.reduceLeDiff, List.length_cons, List.length_nil, List.length_append, List.append_assoc, List.take_succ_cons, List.take_zero, List.drop_succ_cons, List.drop_zero, List.set_cons_zero, List.set_cons_succ, true_or, or_true, and_self, Bool.false_eq_true, Nat.le_refl, Option.bind_some, Option.map_some, Option.getD_some, Option.isSome_some, List.map_cons, List.map_nil, List.cons_append, List.nil_append, List.append_nil, List.getElem?_cons_zero, List.getElem?_cons_succ, eq_self, Int.reduceLT, Int.reduceLE, Int.reduceNeg, Int.reduceEq, gb, e9, hc]
        refine sep_store (u.pull 1 rfl) (by simp) fun h6 u => ?_
        have u := u.as (ds := [.int .i64 (atoiN H0), vl', vh]) (by simp [t_put])
        simp (disch := omega) only [VW, VY, VZ, VA, VB, VC, VE, TY, ↓reduceIte, Nat.reduceEqDiff, Nat.reduceAdd, Nat.reduceMul, Nat.reduceSub, Nat.reduceLeDiff, List.length_cons, List.length_nil, List.length_append, List.append_assoc, List.take_succ_cons, List.take_zero, List.drop_succ_cons, List.drop_zero, List.set_cons_zero, List.set_cons_succ, true_or, or_true, and_self, Bool.false_eq_true, Nat.le_refl, Option.bind_some, Option.map_some, Option.getD_some, Option.isSome_some, List.map_cons, List.map_nil, List.cons_append, List.nil_append, List.append_nil, List.getElem?_cons_zero, List.getElem?_cons_succ, eq_self, Int.reduceLT, Int.reduceLE, Int.reduceNeg, Int.reduceEq, e0, e2, e8, e9, e28, e29, e30, wrap_in]
        refine ⟨_, by omega, i + 1, vl', vh, by simp, by omega, rfl, hall', ?_⟩
        rw [hstep]
        exact u
      · have hAB : ¬ (accP ((W.take i).map atoiN)).1.length = (accP ((W.take i).map atoiN)).2.length := by omega
        unfold accF at hstep
        rw [if_neg hAB] at hstep
        generalize (accP ((W.take i).map atoiN)).1 = A at *
        generalize (accP ((W.take i).map atoiN)).2 = B at *
        simp (disch := omega) only [VW, VY, VZ, VA, VB, VC, VE, TY, ↓reduceIte, Nat.reduceEqDiff, Nat.reduceAdd, Nat.reduceMul, Nat.reduceSub, Nat.reduceLeDiff, List.length_cons, List.length_nil, List.length_append, List.append_assoc, List.take_succ_cons, List.take_zero, List.drop_succ_cons, List.drop_zero, List.set_cons_zero, List.set_cons_succ, true_or, or_true, and_self, Bool.false_eq_true, Nat.le_refl, Option.bind_some, Option.map_some, Option.getD_some, Option.isSome_some, List.map_cons, List.map_nil, List.cons_append, List.nil_append, List.append_nil, List.getElem?_cons_zero, List.getElem?_cons_succ, eq_self, Int.reduceLT, Int.reduceLE, Int.reduceNeg, Int.reduceEq, z2, tm, hpar, e9, gb]
        have sq := (Sep.rep0 (x := atoiN x) (u.pull 2 rfl) (rep_int (atoiN_in x))).swap
        refine sep_append (y := atoiN x) sq rfl rfl te36 tk3 rfl (by decide) (by simp only []; omega) fun vh' h5 u => ?_
        have gb := (u.pull 1 rfl).rd
        have hc := u.row.isRow.cells
        simp (disch := omega) only [VW, VY, VZ, VA, VB, VC, VE, TY, ↓reduceIte, Nat.reduceEqDiff, Nat.reduceAdd, Nat.reduceMul, Nat.reduceSub, Nat.reduceLeDiff, List.length_cons, List.length_nil, List.length_append, List.append_assoc, List.take_succ_cons, List.take_zero, List.drop_succ_cons, List.drop_zero, List.set_cons_zero, List.set_cons_succ, true_or, or_true, and_self, Bool.false_eq_true, Nat.le_refl, Option.bind_some, Option.map_some, Option.getD_some, Option.isSome_some, List.map_cons, List.map_nil, List.cons_append, List.nil_append, List.append_nil, List.getElem?_cons_zero, List.getElem?_cons_succ, eq_self, Int.reduceLT, Int.reduceLE, Int.reduceNeg, Int.reduceEq, gb, e9, hc]
        refine sep_store (u.pull 1 rfl) (by simp) fun h6 u => ?_
        have u := u.as (ds := [.int .i64 (atoiN H0), vl, vh']) (by simp [t_put])
        simp (disch := omega) only [VW, VY, VZ, VA, VB, VC, VE, TY, ↓reduceIte, Nat.reduceEqDiff, Nat.reduceAdd, Nat.reduceMul, Nat.reduceSub, Nat.reduceLeDiff, List.length_cons, List.length_nil, List.length_append, List.append_assoc, List.take_succ_cons, List.take_zero, List.drop_succ_cons, List.drop_zero, List.set_cons_zero, List.set_cons_succ, true_or, or_true, and_self, Bool.false_eq_true, Nat.le_refl, Option.bind_some, Option.map_some, Option.getD_some, Option.isSome_some, List.map_cons, List.map_nil, List.cons_append, List.nil_append, List.append_nil, List.getElem?_cons_zero, List.getElem?_cons_succ, eq_self, Int.reduceLT, Int.reduceLE, Int.reduceNeg, Int.reduceEq, e0, e2, e8, e9, e28, e29, e30, wrap_in]
        refine ⟨_, by omega, i + 1, vl, vh', by simp, by omega, rfl, hall', ?_⟩
        rw [hstep]
        exact (u.pull 2 rfl).swap
  · obtain rfl : i = W.length := by omega
    have q1 : ¬ (W.length : Int) < (W.length : Int) := by omega
    rw [List.take_length] at u hall
    have hfail : boxI s.data.toList = none → (∀ h2, Sep h h2 [blkA (h.length + 1) [.int .i64 (atoiN H0), vl, vh] 38, ownA 3 (accP (W.map atoiN)).1 vl, ownA 3 (accP (W.map atoiN)).2 vh, ownA (α := ByteArray) 9 (W.map bL) v, blkA h.length [.int .i64 0, .slice none 0 0, .slice none 0 0] 38] → True) := fun _ _ _ => trivial
    have pb : At h' (h.length + 1) 0 (boxIb s.data.toList) := by
      rw [hB]
      exact ⟨_, u.rdAll (n := 3) rfl, mk_Bx (x := ⟨atoiN H0, _, _⟩) (atoiN_in _) (u.pull 1 rfl).row (u.pull 2 rfl).row⟩
    have pl1 := (u.pull 1 rfl).row.isRow.plain
    have pl2 := (u.pull 2 rfl).row.isRow.plain
    cases ho : atoiO H0 with
    | none =>
      rw [bad (fun c => by have := c.2.1; rw [okW_none ho] at this; cases this)] at hQ
      rw [ho, errV_none] at e8
      simp (disch := omega) only [VW, VY, VZ, VA, VB, VC, VE, TY, ↓reduceIte, Nat.reduceEqDiff, Nat.reduceAdd, Nat.reduceMul, Nat.reduceSub, Nat.reduceLeDiff, List.length_cons, List.length_nil, List.length_append, List.append_assoc, List.take_succ_cons, List.take_zero, List.drop_succ_cons, List.drop_zero, List.set_cons_zero, List.set_cons_succ, true_or, or_true, and_self, Bool.false_eq_true, Nat.le_refl, Option.bind_some, Option.map_some, Option.getD_some, Option.isSome_some, List.map_cons, List.map_nil, List.cons_append, List.nil_append, List.append_nil, List.getElem?_cons_zero, List.getElem?_cons_succ, eq_self, Int.reduceLT, Int.reduceLE, Int.reduceNeg, Int.reduceEq, q1, e8, e2]
      refine sep_store (u.pull 4 rfl) (by simp) fun h5 u => ?_
      have u := u.as (ds := [.int .i64 0, .slice none 0 0, .slice none 0 0]) (by simp [t_put])
      have gz := u.rdAll (n := 3) rfl
      simp (disch := omega) only [VW, VY, VZ, VA, VB, VC, VE, TY, ↓reduceIte, Nat.reduceEqDiff, Nat.reduceAdd, Nat.reduceMul, Nat.reduceSub, Nat.reduceLeDiff, List.length_cons, List.length_nil, List.length_append, List.append_assoc, List.take_succ_cons, List.take_zero, List.drop_succ_cons, List.drop_zero, List.set_cons_zero, List.set_cons_succ, true_or, or_true, and_self, Bool.false_eq_true, Nat.le_refl, Option.bind_some, Option.map_some, Option.getD_some, Option.isSome_some, List.map_cons, List.map_nil, List.cons_append, List.nil_append, List.append_nil, List.getElem?_cons_zero, List.getElem?_cons_succ, eq_self, Int.reduceLT, Int.reduceLE, Int.reduceNeg, Int.reduceEq, gz, e2]
      exact hQ _ _ (bx_zero u).head
    | some m =>
      rw [ho, errV_some] at e8
      simp (disch := omega) only [VW, VY, VZ, VA, VB, VC, VE, TY, ↓reduceIte, Nat.reduceEqDiff, Nat.reduceAdd, Nat.reduceMul, Nat.reduceSub, Nat.reduceLeDiff, List.length_cons, List.length_nil, List.length_append, List.append_assoc, List.take_succ_cons, List.take_zero, List.drop_succ_cons, List.drop_zero, List.set_cons_zero, List.set_cons_succ, true_or, or_true, and_self, Bool.false_eq_true, Nat.le_refl, Option.bind_some, Option.map_some, Option.getD_some, Option.isSome_some, List.map_cons, List.map_nil, List.cons_append, List.nil_append, List.append_nil, List.getElem?_cons_zero, List.getElem?_cons_succ, eq_self, Int.reduceLT, Int.reduceLE, Int.reduceNeg, Int.reduceEq, q1, e8, e9]
      refine nil_ne ?_
      simp (disch := omega) only [VW, VY, VZ, VA, VB, VC, VE, TY, ↓reduceIte, Nat.reduceEqDiff, Nat.reduceAdd, Nat.reduceMul, Nat.reduceSub, Nat.reduceLeDiff, List.length_cons, List.length_nil, List.length_append, List.append_assoc, List.take_succ_cons, List.take_zero, List.drop_succ_cons, List.drop_zero, List.set_cons_zero, List.set_cons_succ, true_or, or_true, and_self, Bool.false_eq_true, Nat.le_refl, Option.bind_some, Option.map_some, Option.getD_some, Option.isSome_some, List.map_cons, List.map_nil, List.cons_append, List.nil_append, List.append_nil, List.getElem?_cons_zero, List.getElem?_cons_succ, eq_self, Int.reduceLT, Int.reduceLE, Int.reduceNeg, Int.reduceEq, q1, e8, e9]
      refine .inl ⟨by kernel_rfl, ?_⟩; refine isBox_c pb ?_
      cases hm : boxM (boxIb s.data.toList) with
      | false =>
        rw [bad (fun c => by have := c.2.2.1; rw [hm] at this; cases this)] at hQ
        simp (disch := omega) only [VW, VY, VZ, VA, VB, VC, VE, TY, ↓reduceIte, Nat.reduceEqDiff, Nat.reduceAdd, Nat.reduceMul, Nat.reduceSub, Nat.reduceLeDiff, List.length_cons, List.length_nil, List.length_append, List.append_assoc, List.take_succ_cons, List.take_zero, List.drop_succ_cons, List.drop_zero, List.set_cons_zero, List.set_cons_succ, true_or, or_true, and_self, Bool.false_eq_true, Nat.le_refl, Option.bind_some, Option.map_some, Option.getD_some, Option.isSome_some, List.map_cons, List.map_nil, List.cons_append, List.nil_append, List.append_nil, List.getElem?_cons_zero, List.getElem?_cons_succ, eq_self, Int.reduceLT, Int.reduceLE, Int.reduceNeg, Int.reduceEq, e2]
        refine sep_store (u.pull 4 rfl) (by simp) fun h5 u => ?_
        have u := u.as (ds := [.int .i64 0, .slice none 0 0, .slice none 0 0]) (by simp [t_put])
        have gz := u.rdAll (n := 3) rfl
        simp (disch := omega) only [VW, VY, VZ, VA, VB, VC, VE, TY, ↓reduceIte, Nat.reduceEqDiff, Nat.reduceAdd, Nat.reduceMul, Nat.reduceSub, Nat.reduceLeDiff, List.length_cons, List.length_nil, List.length_append, List.append_assoc, List.take_succ_cons, List.take_zero, List.drop_succ_cons, List.drop_zero, List.set_cons_zero, List.set_cons_succ, true_or, or_true, and_self, Bool.false_eq_true, Nat.le_refl, Option.bind_some, Option.map_some, Option.getD_some, Option.isSome_some, List.map_cons, List.map_nil, List.cons_append, List.nil_append, List.append_nil, List.getElem?_cons_zero, List.getElem?_cons_succ, eq_self, Int.reduceLT, Int.reduceLE, Int.reduceNeg, Int.reduceEq, gz, e2]
        exact hQ _ _ (bx_zero u).head
      | true =>
        simp (disch := omega) only [VW, VY, VZ, VA, VB, VC, VE, TY, ↓reduceIte, Nat.reduceEqDiff, Nat.reduceAdd, Nat.reduceMul, Nat.reduceSub, Nat.reduceLeDiff, List.length_cons, List.length_nil, List.length_append, List.append_assoc, List.take_succ_cons, List.take_zero, List.drop_succ_cons, List.drop_zero, List.set_cons_zero, List.set_cons_succ, true_or, or_true, and_self, Bool.false_eq_true, Nat.le_refl, Option.bind_some, Option.map_some, Option.getD_some, Option.isSome_some, List.map_cons, List.map_nil, List.cons_append, List.nil_append, List.append_nil, List.getElem?_cons_zero, List.getElem?_cons_succ, eq_self, Int.reduceLT, Int.reduceLE, Int.reduceNeg, Int.reduceEq, e9]
        refine .inl ⟨by kernel_rfl, ?_⟩; refine boxText_c pb hm ?_
        by_cases k : bL (boxL (boxIb s.data.toList)) = s
        · rw [good ⟨hall, okW_some ho, hm, bL_eq.1 k⟩] at hQ
          have ga := u.rdAll (n := 3) rfl
          simp (disch := omega) only [VW, VY, VZ, VA, VB, VC, VE, TY, ↓reduceIte, Nat.reduceEqDiff, Nat.reduceAdd, Nat.reduceMul, Nat.reduceSub, Nat.reduceLeDiff, List.length_cons, List.length_nil, List.length_append, List.append_assoc, List.take_succ_cons, List.take_zero, List.drop_succ_cons, List.drop_zero, List.set_cons_zero, List.set_cons_succ, true_or, or_true, and_self, Bool.false_eq_true, Nat.le_refl, Option.bind_some, Option.map_some, Option.getD_some, Option.isSome_some, List.map_cons, List.map_nil, List.cons_append, List.nil_append, List.append_nil, List.getElem?_cons_zero, List.getElem?_cons_succ, eq_self, Int.reduceLT, Int.reduceLE, Int.reduceNeg, Int.reduceEq, e0, k, e2, e9, ga]
          refine sep_store (u.pull 4 rfl) (by simp) fun h5 u => ?_
          have u := u.as (ds := [.int .i64 (atoiN H0), vl, vh]) (by simp [t_put])
          have gz := u.rdAll (n := 3) rfl
          simp (disch := omega) only [VW, VY, VZ, VA, VB, VC, VE, TY, ↓reduceIte, Nat.reduceEqDiff, Nat.reduceAdd, Nat.reduceMul, Nat.reduceSub, Nat.reduceLeDiff, List.length_cons, List.length_nil, List.length_append, List.append_assoc, List.take_succ_cons, List.take_zero, List.drop_succ_cons, List.drop_zero, List.set_cons_zero, List.set_cons_succ, true_or, or_true, and_self, Bool.false_eq_true, Nat.le_refl, Option.bind_some, Option.map_some, Option.getD_some, Option.isSome_some, List.map_cons, List.map_nil, List.cons_append, List.nil_append, List.append_nil, List.getElem?_cons_zero, List.getElem?_cons_succ, eq_self, Int.reduceLT, Int.reduceLE, Int.reduceNeg, Int.reduceEq, gz, e2]
          refine hQ _ _ ?_
          have u := bx_make (u.tail.tail) (atoiN_in H0)
          rw [Option.getD_some, hB]
          exact u.head
        · rw [bad (fun c => k (bL_eq.2 c.2.2.2))] at hQ
          simp (disch := omega) only [VW, VY, VZ, VA, VB, VC, VE, TY, ↓reduceIte, Nat.reduceEqDiff, Nat.reduceAdd, Nat.reduceMul, Nat.reduceSub, Nat.reduceLeDiff, List.length_cons, List.length_nil, List.length_append, List.append_assoc, List.take_succ_cons, List.take_zero, List.drop_succ_cons, List.drop_zero, List.set_cons_zero, List.set_cons_succ, true_or, or_true, and_self, Bool.false_eq_true, Nat.le_refl, Option.bind_some, Option.map_some, Option.getD_some, Option.isSome_some, List.map_cons, List.map_nil, List.cons_append, List.nil_append, List.append_nil, List.getElem?_cons_zero, List.getElem?_cons_succ, eq_self, Int.reduceLT, Int.reduceLE, Int.reduceNeg, Int.reduceEq, e0, k, e2]
          refine sep_store (u.pull 4 rfl) (by simp) fun h5 u => ?_
          have u := u.as (ds := [.int .i64 0, .slice none 0 0, .slice none 0 0]) (by simp [t_put])
          have gz := u.rdAll (n := 3) rfl
          simp (disch := omega) only [VW, VY, VZ, VA, VB, VC, VE, TY, ↓reduceIte, Nat.reduceEqDiff, Nat.reduceAdd, Nat.reduceMul, Nat.reduceSub, Nat.reduceLeDiff, List.length_cons, List.length_nil, List.length_append, List.append_assoc, List.take_succ_cons, List.take_zero, List.drop_succ_cons, List.drop_zero, List.set_cons_zero, List.set_cons_succ, true_or, or_true, and_self, Bool.false_eq_true, Nat.le_refl, Option.bind_some, Option.map_some, Option.getD_some, Option.isSome_some, List.map_cons, List.map_nil, List.cons_append, List.nil_append, List.append_nil, List.getElem?_cons_zero, List.getElem?_cons_succ, eq_self, Int.reduceLT, Int.reduceLE, Int.reduceNeg, Int.reduceEq, gz, e2]
          exact hQ _ _ (bx_zero u).head
end Go.Proofs
