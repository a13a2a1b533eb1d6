/- Contracts of functions, facts of types, or the plain law behind one statement (own work): Q6. Conditions: those told in each theorem. -/
import Derived.Test.YtiiolloielppeaaGreatDoorQ5
set_option linter.all false
set_option linter.unusedSimpArgs false
set_option linter.unusedVariables false
set_option maxRecDepth 4000
set_option linter.unusedSectionVars false
namespace Go.Proofs
open Go Go.V
def bxZ : Bx := ⟨0, [], []⟩
theorem bx_make {a h : Heap} {L : List Asr} {k : Int} {lo hi : List Int} {v1 v2 : Value} (s : Sep a h (ownA 3 lo v1 :: ownA 3 hi v2 :: L)) (hk : inI64 k) : Sep a h (repA (⟨k, lo, hi⟩ : Bx) [.int .i64 k, v1, v2] :: L) :=
  (Sep.rep0 (x := k) s.swap.toRep.swap.toRep.pair (rep_int hk)).pair
theorem bx_zero {a h : Heap} {L : List Asr} (s : Sep a h L) : Sep a h (repA bxZ [.int .i64 0, .slice none 0 0, .slice none 0 0] :: L) := bx_make ((s.nilA _).nilA _) ⟨by decide, by decide⟩
theorem splitL_len (c : UInt8) : ∀ (l : List UInt8), ∀ w ∈ splitL c l, w.length ≤ l.length
  | [], w, h => by simp [splitL] at h; simp [h]
  | x :: l, w, h => by
    have ih := splitL_len c l
    simp only [splitL] at h
    split at h
    · rcases List.mem_cons.1 h with rfl | h
      · simp
      · have := ih w h; simp; omega
    · cases hs : splitL c l with
      | nil => exact absurd hs (splitL_ne _ _)
      | cons p r =>
        rw [hs] at h ih
        simp only [] at h
        rcases List.mem_cons.1 h with rfl | h
        · have := ih p (by simp); simp; omega
        · have := ih w (by simp [h]); simp; omega
theorem readM_in (l : List UInt8) : inI64 (readM l) := by
  unfold readM
  split
  · rename_i c
    cases hd : digV 0 l with
    | none => exact ⟨by decide, by decide⟩
    | some n =>
      have := digV_lt _ _ _ hd
      have h2 := ten_le c.1.2
      simp only []
      exact ⟨by omega, by omega⟩
  · exact ⟨by decide, by decide⟩
theorem dyReadM_in (l : List UInt8) : inI64 (dyReadM l) := by
  have key : ∀ sg : Int, (sg = 1 ∨ sg = -1) → ∀ l, inI64 (magM sg l) := by
    intro sg hsg l
    unfold magM
    cases hd : digW 0 l with
    | none => simp only []; exact ⟨by decide, by decide⟩
    | some n =>
      have := digW_max _ _ _ (by decide) hd
      simp only []
      rcases hsg with rfl | rfl <;> exact ⟨by omega, by omega⟩
  unfold dyReadM
  split
  · exact key _ (.inr rfl) _
  · exact key _ (.inl rfl) _
theorem bL_eq {a : List UInt8} {s : ByteArray} : bL a = s ↔ a = s.data.toList := by
  constructor
  · rintro rfl; rfl
  · rintro rfl; rfl
theorem accP_two {l : List Int} {x y : Int} (h : l.length % 2 = 0) : accP (l ++ [x, y]) = ((accP l).1 ++ [x], (accP l).2 ++ [y]) := by
  have hl := accP_len l
  rw [show l ++ [x, y] = (l ++ [x]) ++ [y] by simp, accP_snoc, accP_snoc]
  have e : accF (accP l) x = ((accP l).1 ++ [x], (accP l).2) := by
    unfold accF; rw [if_pos (by omega)]
  rw [e]
  unfold accF
  rw [if_neg (by simp; omega)]
theorem bxParse_c {s : ByteArray} {h : Heap} {Q : Value → Heap → Prop} (hs : s.size ≤ 1000000)
    (hQ : ∀ cs h', Sep h h' [repA ((boxI s.data.toList).getD bxZ) cs] → Q (.tuple #[.agg cs.toArray, .bool (boxI s.data.toList).isSome]) h') :
    CallsV Tryz.prog 26 [.string s] h Q := by
  rw [← boxS_eq] at hQ
  refine CallsV.start Tryz.func26 rfl (by rw [Tryz.results26]) (by kernel_rfl) (by rw [Tryz.ntmps26]; simp) ?_
  have hl := str_len s
  have u := Sep.blk1 h [.int .i64 0, .slice none 0 0, .slice none 0 0] 38 true
  have c32 : ((32 : UInt8).toNat : Int) = 32 := rfl
  simp (disch := omega) only [VW, VY, VZ, VA, VB, VC, VE, TY, ↓reduceIte, Nat.reduceEqDiff, Nat.reduceAdd, Nat.reduceMul, Nat.reduceSub, Nat.reduceLeDiff, List.length_cons, List.length_nil, List.length_append, List.append_assoc, List.take_succ_cons, List.take_zero, List.drop_succ_cons, List.drop_zero, List.set_cons_zero, List.set_cons_succ, true_or, or_true, and_self, Bool.false_eq_true, Nat.le_refl, Option.bind_some, Option.map_some, Option.getD_some, Option.isSome_some, List.map_cons, List.map_nil, List.cons_append, List.nil_append, List.append_nil, List.getElem?_cons_zero, List.getElem?_cons_succ, eq_self, Int.reduceLT, Int.reduceLE, Int.reduceNeg, Int.reduceEq]
  rw [← c32]
  refine .inl ⟨by kernel_rfl, ?_⟩; refine l1Split_c hs fun v h1 E1 rw0 => ?_
  have u := u.mono E1
  have hSl := splitL_len 32 s.data.toList
  cases hW : splitL 32 s.data.toList with
  | nil => exact absurd hW (splitL_ne _ _)
  | cons w0 ws =>
    rw [hW] at rw0 hSl
    have hsh : shapeS s.data.toList ↔ (s.data.toList.length ≤ 60 ∧ (ws.length + 1) % 2 = 1 ∧ ws.length + 1 ≤ 7 ∧ w0.length = 2) := by
      unfold shapeS; rw [hW]; simp
    have hB : boxSb s.data.toList = ⟨readM (w0.take 1), (accP (ws.map dyReadM)).1, (accP (ws.map dyReadM)).2⟩ := by
      unfold boxSb; rw [hW]; rfl
    have bad : ¬ (shapeS s.data.toList ∧ boxM (boxSb s.data.toList) = true ∧ boxL (boxSb s.data.toList) = s.data.toList) → boxS s.data.toList = none := fun k => if_neg k
    have bad1 : ¬ (s.data.toList.length ≤ 60 ∧ (ws.length + 1) % 2 = 1 ∧ ws.length + 1 ≤ 7 ∧ w0.length = 2) → boxS s.data.toList = none := fun k => bad fun k2 => k (hsh.1 k2.1)
    have hwl : ∀ w ∈ ws, w.length ≤ 1000000 := fun w hw => by have := hSl w (by simp [hw]); omega
    have hw0 := hSl w0 (by simp)
    have hle := rw0.le
    have hN : ((w0 :: ws).map bL).length = ws.length + 1 := by simp
    have ix0 := row_str rw0 (show ((w0 :: ws).map bL)[0]? = some (bL w0) by rfl)
    have g0 := ix0.1
    rw [Nat.add_zero] at g0
    have z0 : (bL w0).size = w0.length := bL_size w0
    have q0 : (0 : Int) < ((((w0 :: ws).map bL).length : Nat) : Int) := by omega
    have len := rw0.isRow.len Tryz.prog
    have rix := rw0.isRow.ix Tryz.prog
    rw [hN] at len rix
    have q0' : (0 : Int) < ((ws.length + 1 : Nat) : Int) := by omega
    by_cases c1 : (60 : Int) < (s.size : Int)
    · rw [bad1 (by omega)] at hQ
      simp (disch := omega) only [VW, VY, VZ, VA, VB, VC, VE, TY, ↓reduceIte, Nat.reduceEqDiff, Nat.reduceAdd, Nat.reduceMul, Nat.reduceSub, Nat.reduceLeDiff, List.length_cons, List.length_nil, List.length_append, List.append_assoc, List.take_succ_cons, List.take_zero, List.drop_succ_cons, List.drop_zero, List.set_cons_zero, List.set_cons_succ, true_or, or_true, and_self, Bool.false_eq_true, Nat.le_refl, Option.bind_some, Option.map_some, Option.getD_some, Option.isSome_some, List.map_cons, List.map_nil, List.cons_append, List.nil_append, List.append_nil, List.getElem?_cons_zero, List.getElem?_cons_succ, eq_self, Int.reduceLT, Int.reduceLE, Int.reduceNeg, Int.reduceEq, c1]
      refine sep_store u (by simp) fun h5 u => ?_
      have u := u.as (ds := [.int .i64 0, .slice none 0 0, .slice none 0 0]) (by simp [t_put])
      have gz := u.rdAll (n := 3) rfl
      simp (disch := omega) only [VW, VY, VZ, VA, VB, VC, VE, TY, ↓reduceIte, Nat.reduceEqDiff, Nat.reduceAdd, Nat.reduceMul, Nat.reduceSub, Nat.reduceLeDiff, List.length_cons, List.length_nil, List.length_append, List.append_assoc, List.take_succ_cons, List.take_zero, List.drop_succ_cons, List.drop_zero, List.set_cons_zero, List.set_cons_succ, true_or, or_true, and_self, Bool.false_eq_true, Nat.le_refl, Option.bind_some, Option.map_some, Option.getD_some, Option.isSome_some, List.map_cons, List.map_nil, List.cons_append, List.nil_append, List.append_nil, List.getElem?_cons_zero, List.getElem?_cons_succ, eq_self, Int.reduceLT, Int.reduceLE, Int.reduceNeg, Int.reduceEq, gz]
      exact hQ _ _ (bx_zero u).head
    have z2 : ¬ (2 : Int) = 0 := by decide
    have tm : Int.tmod ((ws.length + 1 : Nat) : Int) 2 = (((ws.length + 1) % 2 : Nat) : Int) := tmod_nat _ _
    by_cases c2 : (((ws.length + 1) % 2 : Nat) : Int) = 0
    · rw [bad1 (by omega)] at hQ
      simp (disch := omega) only [VW, VY, VZ, VA, VB, VC, VE, TY, ↓reduceIte, Nat.reduceEqDiff, Nat.reduceAdd, Nat.reduceMul, Nat.reduceSub, Nat.reduceLeDiff, List.length_cons, List.length_nil, List.length_append, List.append_assoc, List.take_succ_cons, List.take_zero, List.drop_succ_cons, List.drop_zero, List.set_cons_zero, List.set_cons_succ, true_or, or_true, and_self, Bool.false_eq_true, Nat.le_refl, Option.bind_some, Option.map_some, Option.getD_some, Option.isSome_some, List.map_cons, List.map_nil, List.cons_append, List.nil_append, List.append_nil, List.getElem?_cons_zero, List.getElem?_cons_succ, eq_self, Int.reduceLT, Int.reduceLE, Int.reduceNeg, Int.reduceEq, c1, len, z2, tm, c2]
      refine sep_store u (by simp) fun h5 u => ?_
      have u := u.as (ds := [.int .i64 0, .slice none 0 0, .slice none 0 0]) (by simp [t_put])
      have gz := u.rdAll (n := 3) rfl
      simp (disch := omega) only [VW, VY, VZ, VA, VB, VC, VE, TY, ↓reduceIte, Nat.reduceEqDiff, Nat.reduceAdd, Nat.reduceMul, Nat.reduceSub, Nat.reduceLeDiff, List.length_cons, List.length_nil, List.length_append, List.append_assoc, List.take_succ_cons, List.take_zero, List.drop_succ_cons, List.drop_zero, List.set_cons_zero, List.set_cons_succ, true_or, or_true, and_self, Bool.false_eq_true, Nat.le_refl, Option.bind_some, Option.map_some, Option.getD_some, Option.isSome_some, List.map_cons, List.map_nil, List.cons_append, List.nil_append, List.append_nil, List.getElem?_cons_zero, List.getElem?_cons_succ, eq_self, Int.reduceLT, Int.reduceLE, Int.reduceNeg, Int.reduceEq, gz]
      exact hQ _ _ (bx_zero u).head
    by_cases c3 : (7 : Int) < ((ws.length + 1 : Nat) : Int)
    · rw [bad1 (by omega)] at hQ
      simp (disch := omega) only [VW, VY, VZ, VA, VB, VC, VE, TY, ↓reduceIte, Nat.reduceEqDiff, Nat.reduceAdd, Nat.reduceMul, Nat.reduceSub, Nat.reduceLeDiff, List.length_cons, List.length_nil, List.length_append, List.append_assoc, List.take_succ_cons, List.take_zero, List.drop_succ_cons, List.drop_zero, List.set_cons_zero, List.set_cons_succ, true_or, or_true, and_self, Bool.false_eq_true, Nat.le_refl, Option.bind_some, Option.map_some, Option.getD_some, Option.isSome_some, List.map_cons, List.map_nil, List.cons_append, List.nil_append, List.append_nil, List.getElem?_cons_zero, List.getElem?_cons_succ, eq_self, Int.reduceLT, Int.reduceLE, Int.reduceNeg, Int.reduceEq, c1, len, z2, tm, c2, c3]
      refine sep_store u (by simp) fun h5 u => ?_
      have u := u.as (ds := [.int .i64 0, .slice none 0 0, .slice none 0 0]) (by simp [t_put])
      have gz := u.rdAll (n := 3) rfl
      simp (disch := omega) only [VW, VY, VZ, VA, VB, VC, VE, TY, ↓reduceIte, Nat.reduceEqDiff, Nat.reduceAdd, Nat.reduceMul, Nat.reduceSub, Nat.reduceLeDiff, List.length_cons, List.length_nil, List.length_append, List.append_assoc, List.take_succ_cons, List.take_zero, List.drop_succ_cons, List.drop_zero, List.set_cons_zero, List.set_cons_succ, true_or, or_true, and_self, Bool.false_eq_true, Nat.le_refl, Option.bind_some, Option.map_some, Option.getD_some, Option.isSome_some, List.map_cons, List.map_nil, List.cons_append, List.nil_append, List.append_nil, List.getElem?_cons_zero, List.getElem?_cons_succ, eq_self, Int.reduceLT, Int.reduceLE, Int.reduceNeg, Int.reduceEq, gz]
      exact hQ _ _ (bx_zero u).head
    by_cases c4 : ¬ (w0.length : Int) = 2
    · rw [bad1 (by omega)] at hQ
      simp (disch := omega) only [VW, VY, VZ, VA, VB, VC, VE, TY, ↓reduceIte, Nat.reduceEqDiff, Nat.reduceAdd, Nat.reduceMul, Nat.reduceSub, Nat.reduceLeDiff, List.length_cons, List.length_nil, List.length_append, List.append_assoc, List.take_succ_cons, List.take_zero, List.drop_succ_cons, List.drop_zero, List.set_cons_zero, List.set_cons_succ, true_or, or_true, and_self, Bool.false_eq_true, Nat.le_refl, Option.bind_some, Option.map_some, Option.getD_some, Option.isSome_some, List.map_cons, List.map_nil, List.cons_append, List.nil_append, List.append_nil, List.getElem?_cons_zero, List.getElem?_cons_succ, eq_self, Int.reduceLT, Int.reduceLE, Int.reduceNeg, Int.reduceEq, c1, len, z2, tm, c2, c3, rix, q0', g0, z0, c4]
      refine sep_store u (by simp) fun h5 u => ?_
      have u := u.as (ds := [.int .i64 0, .slice none 0 0, .slice none 0 0]) (by simp [t_put])
      have gz := u.rdAll (n := 3) rfl
      simp (disch := omega) only [VW, VY, VZ, VA, VB, VC, VE, TY, ↓reduceIte, Nat.reduceEqDiff, Nat.reduceAdd, Nat.reduceMul, Nat.reduceSub, Nat.reduceLeDiff, List.length_cons, List.length_nil, List.length_append, List.append_assoc, List.take_succ_cons, List.take_zero, List.drop_succ_cons, List.drop_zero, List.set_cons_zero, List.set_cons_succ, true_or, or_true, and_self, Bool.false_eq_true, Nat.le_refl, Option.bind_some, Option.map_some, Option.getD_some, Option.isSome_some, List.map_cons, List.map_nil, List.cons_append, List.nil_append, List.append_nil, List.getElem?_cons_zero, List.getElem?_cons_succ, eq_self, Int.reduceLT, Int.reduceLE, Int.reduceNeg, Int.reduceEq, gz]
      exact hQ _ _ (bx_zero u).head
    have c4 := Decidable.not_not.1 c4
    have k1 : (0 : Int) ≤ 1 := by decide
    have k2 : (1 : Int) ≤ ((bL w0).size : Int) := by omega
    have k3 : (1 : Int).toNat = 1 := rfl
    simp (disch := omega) only [VW, VY, VZ, VA, VB, VC, VE, TY, ↓reduceIte, Nat.reduceEqDiff, Nat.reduceAdd, Nat.reduceMul, Nat.reduceSub, Nat.reduceLeDiff, List.length_cons, List.length_nil, List.length_append, List.append_assoc, List.take_succ_cons, List.take_zero, List.drop_succ_cons, List.drop_zero, List.set_cons_zero, List.set_cons_succ, true_or, or_true, and_self, Bool.false_eq_true, Nat.le_refl, Option.bind_some, Option.map_some, Option.getD_some, Option.isSome_some, List.map_cons, List.map_nil, List.cons_append, List.nil_append, List.append_nil, List.getElem?_cons_zero, List.getElem?_cons_succ, eq_self, Int.reduceLT, Int.reduceLE, Int.reduceNeg, Int.reduceEq, c1, len, z2, tm, c2, c3, rix, q0', g0, z0, c4, k1, k2, k3]
    have hxr : ((bL w0).extract 0 1).data.toList = w0.take 1 := by rw [extract_list]; simp [bL]
    have hzr : ((bL w0).extract 0 1).size ≤ 1000000 := by rw [ByteArray.size_extract]; omega
    refine .inl ⟨by kernel_rfl, ?_⟩; refine l1Read_c hzr ?_
    rw [hxr]
    obtain ⟨p, hp⟩ : ∃ p, ws.length = 2 * p := ⟨ws.length / 2, by omega⟩
    have hp3 : p ≤ 3 := by omega
    have t0 := (Sep.nil (.refl h1)).newBlk [.int .i64 (readM (w0.take 1)), .slice none 0 0, .slice none 0 0] 38 true
    simp (disch := omega) only [VW, VY, VZ, VA, VB, VC, VE, TY, ↓reduceIte, Nat.reduceEqDiff, Nat.reduceAdd, Nat.reduceMul, Nat.reduceSub, Nat.reduceLeDiff, List.length_cons, List.length_nil, List.length_append, List.append_assoc, List.take_succ_cons, List.take_zero, List.drop_succ_cons, List.drop_zero, List.set_cons_zero, List.set_cons_succ, true_or, or_true, and_self, Bool.false_eq_true, Nat.le_refl, Option.bind_some, Option.map_some, Option.getD_some, Option.isSome_some, List.map_cons, List.map_nil, List.cons_append, List.nil_append, List.append_nil, List.getElem?_cons_zero, List.getElem?_cons_succ, eq_self, Int.reduceLT, Int.reduceLE, Int.reduceNeg, Int.reduceEq]
    refine loop_rule (fun n e h' => ∃ (j : Nat) (vl vh : Value), e 0 = .string s ∧ e 2 = .pointer (some ⟨h.length, 0, none⟩) ∧ e 4 = v ∧ e 5 = .pointer (some ⟨h1.length, 0, none⟩) ∧ e 6 = .int .i64 (2 * (j : Int) + 1) ∧ j ≤ p ∧ n = p - j ∧
      Sep h1 h' [blkA h1.length [.int .i64 (readM (w0.take 1)), vl, vh] 38, ownA 3 (accP ((ws.take (2 * j)).map dyReadM)).1 vl, ownA 3 (accP ((ws.take (2 * j)).map dyReadM)).2 vh]) ?_ p _ _
      ⟨0, .slice none 0 0, .slice none 0 0, rfl, rfl, rfl, rfl, rfl, by omega, rfl, ((t0.nilA _).nilA _).pull 2 rfl⟩
    rintro n e h' ⟨j, vl, vh, e0, e2, e4, e5, e6, hj, rfl, t⟩
    simp (disch := omega) only [VW, VY, VZ, VA, VB, VC, VE, TY, ↓reduceIte, Nat.reduceEqDiff, Nat.reduceAdd, Nat.reduceMul, Nat.reduceSub, Nat.reduceLeDiff, List.length_cons, List.length_nil, List.length_append, List.append_assoc, List.take_succ_cons, List.take_zero, List.drop_succ_cons, List.drop_zero, List.set_cons_zero, List.set_cons_succ, true_or, or_true, and_self, Bool.false_eq_true, Nat.le_refl, Option.bind_some, Option.map_some, Option.getD_some, Option.isSome_some, List.map_cons, List.map_nil, List.cons_append, List.nil_append, List.append_nil, List.getElem?_cons_zero, List.getElem?_cons_succ, eq_self, Int.reduceLT, Int.reduceLE, Int.reduceNeg, Int.reduceEq, e4, e6, len]
    by_cases hlt : j < p
    · have q1 : 2 * (j : Int) + 1 < ((ws.length + 1 : Nat) : Int) := by omega
      have q2 : 2 * (j : Int) + 1 + 1 < ((ws.length + 1 : Nat) : Int) := by omega
      obtain ⟨x, hx⟩ := get_some (show 2 * j < ws.length by omega)
      obtain ⟨y, hy⟩ := get_some (show 2 * j + 1 < ws.length by omega)
      have hxl := hwl x (List.mem_of_getElem? hx)
      have hyl := hwl y (List.mem_of_getElem? hy)
      have hbx : (bL x).size ≤ 1000000 := by rw [bL_size]; exact hxl
      have hby : (bL y).size ≤ 1000000 := by rw [bL_size]; exact hyl
      have hlen := (accP_len ((ws.take (2 * j)).map dyReadM)).1
      rw [List.length_map, List.length_take] at hlen
      have hstep : accP ((ws.take (2 * (j + 1))).map dyReadM) = ((accP ((ws.take (2 * j)).map dyReadM)).1 ++ [dyReadM x], (accP ((ws.take (2 * j)).map dyReadM)).2 ++ [dyReadM y]) := by
        rw [show 2 * (j + 1) = 2 * j + 1 + 1 by omega, List.take_add_one, hy, List.take_add_one, hx]
        simp only [Option.toList_some, List.append_assoc, List.map_append, List.map_cons, List.map_nil]
        exact accP_two (by rw [List.length_map, List.length_take]; omega)
      generalize hA : (accP ((ws.take (2 * j)).map dyReadM)).1 = A at *
      generalize hB2 : (accP ((ws.take (2 * j)).map dyReadM)).2 = B at *
      have ix1 : ∀ H, Ext h1 H → getC H (rowB v) (rowO v + (2 * (j : Int) + 1).toNat) = some (.string (bL x)) := fun H E => by
        have := (row_str (rw0.mono E) (show ((w0 :: ws).map bL)[2 * j + 1]? = some (bL x) by simp [hx])).1
        rw [← this]; congr 1
      have ix2 : ∀ H, Ext h1 H → getC H (rowB v) (rowO v + (2 * (j : Int) + 1 + 1).toNat) = some (.string (bL y)) := fun H E => by
        have := (row_str (rw0.mono E) (show ((w0 :: ws).map bL)[2 * j + 2]? = some (bL y) by simp [hy])).1
        rw [← this]; congr 1
      have f1 := ix1 _ t.ext
      have f2 := ix2 _ t.ext
      have gb := t.rd
      simp (disch := omega) only [VW, VY, VZ, VA, VB, VC, VE, TY, ↓reduceIte, Nat.reduceEqDiff, Nat.reduceAdd, Nat.reduceMul, Nat.reduceSub, Nat.reduceLeDiff, List.length_cons, List.length_nil, List.length_append, List.append_assoc, List.take_succ_cons, List.take_zero, List.drop_succ_cons, List.drop_zero, List.set_cons_zero, List.set_cons_succ, true_or, or_true, and_self, Bool.false_eq_true, Nat.le_refl, Option.bind_some, Option.map_some, Option.getD_some, Option.isSome_some, List.map_cons, List.map_nil, List.cons_append, List.nil_append, List.append_nil, List.getElem?_cons_zero, List.getElem?_cons_succ, eq_self, Int.reduceLT, Int.reduceLE, Int.reduceNeg, Int.reduceEq, q1]
      refine draw_tail [0, 1, 2, 3, 4, 5] [6, 7, 8, 9, 10] (by kernel_rfl) (by simp only [List.filterMap_cons, List.filterMap_nil, List.getElem?_cons_zero, List.getElem?_cons_succ]; rfl) ?_
      simp (disch := omega) only [VW, VY, VZ, VA, VB, VC, VE, TY, ↓reduceIte, Nat.reduceEqDiff, Nat.reduceAdd, Nat.reduceMul, Nat.reduceSub, Nat.reduceLeDiff, List.length_cons, List.length_nil, List.length_append, List.append_assoc, List.take_succ_cons, List.take_zero, List.drop_succ_cons, List.drop_zero, List.set_cons_zero, List.set_cons_succ, true_or, or_true, and_self, Bool.false_eq_true, Nat.le_refl, Option.bind_some, Option.map_some, Option.getD_some, Option.isSome_some, List.map_cons, List.map_nil, List.cons_append, List.nil_append, List.append_nil, List.getElem?_cons_zero, List.getElem?_cons_succ, eq_self, Int.reduceLT, Int.reduceLE, Int.reduceNeg, Int.reduceEq, e4, e5, e6, rix, q1, f1, gb]
      refine tail_step [(6, [], [7, 8, 9, 10], false)] (by kernel_rfl) (by kernel_rfl) (a_cons (by simp only [List.filterMap_cons, List.filterMap_nil, List.getElem?_cons_zero, List.getElem?_cons_succ]; rfl) (by kernel_rfl) ?_ trivial)
      simp (disch := omega) only [VW, VY, VZ, VA, VB, VC, VE, TY, ↓reduceIte, Nat.reduceEqDiff, Nat.reduceAdd, Nat.reduceMul, Nat.reduceSub, Nat.reduceLeDiff, List.length_cons, List.length_nil, List.length_append, List.append_assoc, List.take_succ_cons, List.take_zero, List.drop_succ_cons, List.drop_zero, List.set_cons_zero, List.set_cons_succ, true_or, or_true, and_self, Bool.false_eq_true, Nat.le_refl, Option.bind_some, Option.map_some, Option.getD_some, Option.isSome_some, List.map_cons, List.map_nil, List.cons_append, List.nil_append, List.append_nil, List.getElem?_cons_zero, List.getElem?_cons_succ, eq_self, Int.reduceLT, Int.reduceLE, Int.reduceNeg, Int.reduceEq, e4, e5, e6, rix, q1, f1, gb]
      refine .inl ⟨by kernel_rfl, ?_⟩; refine dyRead_c hbx ?_
      simp (disch := omega) only [VW, VY, VZ, VA, VB, VC, VE, TY, ↓reduceIte, Nat.reduceEqDiff, Nat.reduceAdd, Nat.reduceMul, Nat.reduceSub, Nat.reduceLeDiff, List.length_cons, List.length_nil, List.length_append, List.append_assoc, List.take_succ_cons, List.take_zero, List.drop_succ_cons, List.drop_zero, List.set_cons_zero, List.set_cons_succ, true_or, or_true, and_self, Bool.false_eq_true, Nat.le_refl, Option.bind_some, Option.map_some, Option.getD_some, Option.isSome_some, List.map_cons, List.map_nil, List.cons_append, List.nil_append, List.append_nil, List.getElem?_cons_zero, List.getElem?_cons_succ, eq_self, Int.reduceLT, Int.reduceLE, Int.reduceNeg, Int.reduceEq, e4, e5, e6, rix, q1, f1, gb]
      refine tail_step [(7, [], [8, 9, 10], false)] (by kernel_rfl) (by kernel_rfl) (a_cons (by simp only [List.filterMap_cons, List.filterMap_nil, List.getElem?_cons_zero, List.getElem?_cons_succ]; rfl) (by kernel_rfl) ?_ trivial)
      have tz := t.mono (Ext.one h' (some ⟨[.int .i64 (dyReadM (bL x).data.toList)], 3, false, true⟩))
      have gz := tz.rd
      have fz := ix1 _ tz.ext
      simp (disch := omega) only [VW, VY, VZ, VA, VB, VC, VE, TY, ↓reduceIte, Nat.reduceEqDiff, Nat.reduceAdd, Nat.reduceMul, Nat.reduceSub, Nat.reduceLeDiff, List.length_cons, List.length_nil, List.length_append, List.append_assoc, List.take_succ_cons, List.take_zero, List.drop_succ_cons, List.drop_zero, List.set_cons_zero, List.set_cons_succ, true_or, or_true, and_self, Bool.false_eq_true, Nat.le_refl, Option.bind_some, Option.map_some, Option.getD_some, Option.isSome_some, List.map_cons, List.map_nil, List.cons_append, List.nil_append, List.append_nil, List.getElem?_cons_zero, List.getElem?_cons_succ, eq_self, Int.reduceLT, Int.reduceLE, Int.reduceNeg, Int.reduceEq, f1, gb, gz, fz]
      refine tail_step [(8, [9], [10], true)] (by kernel_rfl) (by kernel_rfl) (a_cut (by simp only [List.filterMap_cons, List.filterMap_nil, List.getElem?_cons_zero, List.getElem?_cons_succ]; rfl) (by kernel_rfl) ?_ trivial)
      simp (disch := omega) only [VW, VY, VZ, VA, VB, VC, VE, TY, ↓reduceIte, Nat.reduceEqDiff, Nat.reduceAdd, Nat.reduceMul, Nat.reduceSub, Nat.reduceLeDiff, List.length_cons, List.length_nil, List.length_append, List.append_assoc, List.take_succ_cons, List.take_zero, List.drop_succ_cons, List.drop_zero, List.set_cons_zero, List.set_cons_succ, true_or, or_true, and_self, Bool.false_eq_true, Nat.le_refl, Option.bind_some, Option.map_some, Option.getD_some, Option.isSome_some, List.map_cons, List.map_nil, List.cons_append, List.nil_append, List.append_nil, List.getElem?_cons_zero, List.getElem?_cons_succ, eq_self, Int.reduceLT, Int.reduceLE, Int.reduceNeg, Int.reduceEq, f1, gb, gz, fz]
      have sq := (Sep.rep0 (x := dyReadM x) (t.pull 1 rfl) (rep_int (dyReadM_in x))).swap
      refine sep_append (y := dyReadM x) sq rfl rfl te36 tk3 rfl (by decide) (by simp only []; omega) fun vl' h5 t => ?_
      have gb := (t.pull 1 rfl).rd
      have f1 := ix1 _ t.ext
      have hc := t.row.isRow.cells
      simp (disch := omega) only [VW, VY, VZ, VA, VB, VC, VE, TY, ↓reduceIte, Nat.reduceEqDiff, Nat.reduceAdd, Nat.reduceMul, Nat.reduceSub, Nat.reduceLeDiff, List.length_cons, List.length_nil, List.length_append, List.append_assoc, List.take_succ_cons, List.take_zero, List.drop_succ_cons, List.drop_zero, List.set_cons_zero, List.set_cons_succ, true_or, or_true, and_self, Bool.false_eq_true, Nat.le_refl, Option.bind_some, Option.map_some, Option.getD_some, Option.isSome_some, List.map_cons, List.map_nil, List.cons_append, List.nil_append, List.append_nil, List.getElem?_cons_zero, List.getElem?_cons_succ, eq_self, Int.reduceLT, Int.reduceLE, Int.reduceNeg, Int.reduceEq, f1, gb, e5, hc]
      refine tail_step [(10, [], [], true)] (by kernel_rfl) (by kernel_rfl) (a_cut (by simp only [List.filterMap_cons, List.filterMap_nil, List.getElem?_cons_zero, List.getElem?_cons_succ]; rfl) (by kernel_rfl) ?_ trivial)
      simp (disch := omega) only [VW, VY, VZ, VA, VB, VC, VE, TY, ↓reduceIte, Nat.reduceEqDiff, Nat.reduceAdd, Nat.reduceMul, Nat.reduceSub, Nat.reduceLeDiff, List.length_cons, List.length_nil, List.length_append, List.append_assoc, List.take_succ_cons, List.take_zero, List.drop_succ_cons, List.drop_zero, List.set_cons_zero, List.set_cons_succ, true_or, or_true, and_self, Bool.false_eq_true, Nat.le_refl, Option.bind_some, Option.map_some, Option.getD_some, Option.isSome_some, List.map_cons, List.map_nil, List.cons_append, List.nil_append, List.append_nil, List.getElem?_cons_zero, List.getElem?_cons_succ, eq_self, Int.reduceLT, Int.reduceLE, Int.reduceNeg, Int.reduceEq, f1, gb, e5, hc]
      refine sep_store (t.pull 1 rfl) (by simp) fun h6 t => ?_
      have t := t.as (ds := [.int .i64 (readM (w0.take 1)), vl', vh]) (by simp [t_put])
      have gb := t.rd
      have f1 := ix1 _ t.ext
      have f2 := ix2 _ t.ext
      simp (disch := omega) only [VW, VY, VZ, VA, VB, VC, VE, TY, ↓reduceIte, Nat.reduceEqDiff, Nat.reduceAdd, Nat.reduceMul, Nat.reduceSub, Nat.reduceLeDiff, List.length_cons, List.length_nil, List.length_append, List.append_assoc, List.take_succ_cons, List.take_zero, List.drop_succ_cons, List.drop_zero, List.set_cons_zero, List.set_cons_succ, true_or, or_true, and_self, Bool.false_eq_true, Nat.le_refl, Option.bind_some, Option.map_some, Option.getD_some, Option.isSome_some, List.map_cons, List.map_nil, List.cons_append, List.nil_append, List.append_nil, List.getElem?_cons_zero, List.getElem?_cons_succ, eq_self, Int.reduceLT, Int.reduceLE, Int.reduceNeg, Int.reduceEq, e4, e5, e6, rix, q2, f1, f2, gb]
      refine draw_tail [0, 1, 2, 3, 4, 5, 6] [7, 8, 9, 10, 11] (by kernel_rfl) (by simp only [List.filterMap_cons, List.filterMap_nil, List.getElem?_cons_zero, List.getElem?_cons_succ]; rfl) ?_
      simp (disch := omega) only [VW, VY, VZ, VA, VB, VC, VE, TY, ↓reduceIte, Nat.reduceEqDiff, Nat.reduceAdd, Nat.reduceMul, Nat.reduceSub, Nat.reduceLeDiff, List.length_cons, List.length_nil, List.length_append, List.append_assoc, List.take_succ_cons, List.take_zero, List.drop_succ_cons, List.drop_zero, List.set_cons_zero, List.set_cons_succ, true_or, or_true, and_self, Bool.false_eq_true, Nat.le_refl, Option.bind_some, Option.map_some, Option.getD_some, Option.isSome_some, List.map_cons, List.map_nil, List.cons_append, List.nil_append, List.append_nil, List.getElem?_cons_zero, List.getElem?_cons_succ, eq_self, Int.reduceLT, Int.reduceLE, Int.reduceNeg, Int.reduceEq, e4, e5, e6, rix, q2, f2, gb, wrap_in]
      refine tail_step [(7, [], [8, 9, 10, 11], false)] (by kernel_rfl) (by kernel_rfl) (a_cons (by simp only [List.filterMap_cons, List.filterMap_nil, List.getElem?_cons_zero, List.getElem?_cons_succ]; rfl) (by kernel_rfl) ?_ trivial)
      simp (disch := omega) only [VW, VY, VZ, VA, VB, VC, VE, TY, ↓reduceIte, Nat.reduceEqDiff, Nat.reduceAdd, Nat.reduceMul, Nat.reduceSub, Nat.reduceLeDiff, List.length_cons, List.length_nil, List.length_append, List.append_assoc, List.take_succ_cons, List.take_zero, List.drop_succ_cons, List.drop_zero, List.set_cons_zero, List.set_cons_succ, true_or, or_true, and_self, Bool.false_eq_true, Nat.le_refl, Option.bind_some, Option.map_some, Option.getD_some, Option.isSome_some, List.map_cons, List.map_nil, List.cons_append, List.nil_append, List.append_nil, List.getElem?_cons_zero, List.getElem?_cons_succ, eq_self, Int.reduceLT, Int.reduceLE, Int.reduceNeg, Int.reduceEq, e4, e5, e6, rix, q2, f2, gb, wrap_in]
      refine .inl ⟨by kernel_rfl, ?_⟩; refine dyRead_c hby ?_
      simp (disch := omega) only [VW, VY, VZ, VA, VB, VC, VE, TY, ↓reduceIte, Nat.reduceEqDiff, Nat.reduceAdd, Nat.reduceMul, Nat.reduceSub, Nat.reduceLeDiff, List.length_cons, List.length_nil, List.length_append, List.append_assoc, List.take_succ_cons, List.take_zero, List.drop_succ_cons, List.drop_zero, List.set_cons_zero, List.set_cons_succ, true_or, or_true, and_self, Bool.false_eq_true, Nat.le_refl, Option.bind_some, Option.map_some, Option.getD_some, Option.isSome_some, List.map_cons, List.map_nil, List.cons_append, List.nil_append, List.append_nil, List.getElem?_cons_zero, List.getElem?_cons_succ, eq_self, Int.reduceLT, Int.reduceLE, Int.reduceNeg, Int.reduceEq, e4, e5, e6, rix, q2, f2, gb, wrap_in]
      refine tail_step [(8, [], [9, 10, 11], false)] (by kernel_rfl) (by kernel_rfl) (a_cons (by simp only [List.filterMap_cons, List.filterMap_nil, List.getElem?_cons_zero, List.getElem?_cons_succ]; rfl) (by kernel_rfl) ?_ trivial)
      have tz := t.mono (Ext.one h6 (some ⟨[.int .i64 (dyReadM (bL y).data.toList)], 3, false, true⟩))
      have gz := tz.rd
      have fz := ix2 _ tz.ext
      simp (disch := omega) only [VW, VY, VZ, VA, VB, VC, VE, TY, ↓reduceIte, Nat.reduceEqDiff, Nat.reduceAdd, Nat.reduceMul, Nat.reduceSub, Nat.reduceLeDiff, List.length_cons, List.length_nil, List.length_append, List.append_assoc, List.take_succ_cons, List.take_zero, List.drop_succ_cons, List.drop_zero, List.set_cons_zero, List.set_cons_succ, true_or, or_true, and_self, Bool.false_eq_true, Nat.le_refl, Option.bind_some, Option.map_some, Option.getD_some, Option.isSome_some, List.map_cons, List.map_nil, List.cons_append, List.nil_append, List.append_nil, List.getElem?_cons_zero, List.getElem?_cons_succ, eq_self, Int.reduceLT, Int.reduceLE, Int.reduceNeg, Int.reduceEq, f2, gb, gz, fz, wrap_in]
      refine tail_step [(9, [10], [11], true)] (by kernel_rfl) (by kernel_rfl) (a_cut (by simp only [List.filterMap_cons, List.filterMap_nil, List.getElem?_cons_zero, List.getElem?_cons_succ]; rfl) (by kernel_rfl) ?_ trivial)
      simp (disch := omega) only [VW, VY, VZ, VA, VB, VC, VE, TY, ↓reduceIte, Nat.reduceEqDiff, Nat.reduceAdd, Nat.reduceMul, Nat.reduceSub, Nat.reduceLeDiff, List.length_cons, List.length_nil, List.length_append, List.append_assoc, List.take_succ_cons, List.take_zero, List.drop_succ_cons, List.drop_zero, List.set_cons_zero, List.set_cons_succ, true_or, or_true, and_self, Bool.false_eq_true, Nat.le_refl, Option.bind_some, Option.map_some, Option.getD_some, Option.isSome_some, List.map_cons, List.map_nil, List.cons_append, List.nil_append, List.append_nil, List.getElem?_cons_zero, List.getElem?_cons_succ, eq_self, Int.reduceLT, Int.reduceLE, Int.reduceNeg, Int.reduceEq, f2, gb, gz, fz, wrap_in]
      have sq := (Sep.rep0 (x := dyReadM y) (t.pull 2 rfl) (rep_int (dyReadM_in y))).swap
      refine sep_append (y := dyReadM y) sq rfl rfl te36 tk3 rfl (by decide) (by simp only []; omega) fun vh' h7 t => ?_
      have gb := (t.pull 1 rfl).rd
      have f2 := ix2 _ t.ext
      have hc := t.row.isRow.cells
      simp (disch := omega) only [VW, VY, VZ, VA, VB, VC, VE, TY, ↓reduceIte, Nat.reduceEqDiff, Nat.reduceAdd, Nat.reduceMul, Nat.reduceSub, Nat.reduceLeDiff, List.length_cons, List.length_nil, List.length_append, List.append_assoc, List.take_succ_cons, List.take_zero, List.drop_succ_cons, List.drop_zero, List.set_cons_zero, List.set_cons_succ, true_or, or_true, and_self, Bool.false_eq_true, Nat.le_refl, Option.bind_some, Option.map_some, Option.getD_some, Option.isSome_some, List.map_cons, List.map_nil, List.cons_append, List.nil_append, List.append_nil, List.getElem?_cons_zero, List.getElem?_cons_succ, eq_self, Int.reduceLT, Int.reduceLE, Int.reduceNeg, Int.reduceEq, f2, gb, e5, hc, wrap_in]
      refine tail_step [(11, [], [], true)] (by kernel_rfl) (by kernel_rfl) (a_cut (by simp only [List.filterMap_cons, List.filterMap_nil, List.getElem?_cons_zero, List.getElem?_cons_succ]; rfl) (by kernel_rfl) ?_ trivial)
      simp (disch := omega) only [VW, VY, VZ, VA, VB, VC, VE, TY, ↓reduceIte, Nat.reduceEqDiff, Nat.reduceAdd, Nat.reduceMul, Nat.reduceSub, Nat.reduceLeDiff, List.length_cons, List.length_nil, List.length_append, List.append_assoc, List.take_succ_cons, List.take_zero, List.drop_succ_cons, List.drop_zero, List.set_cons_zero, List.set_cons_succ, true_or, or_true, and_self, Bool.false_eq_true, Nat.le_refl, Option.bind_some, Option.map_some, Option.getD_some, Option.isSome_some, List.map_cons, List.map_nil, List.cons_append, List.nil_append, List.append_nil, List.getElem?_cons_zero, List.getElem?_cons_succ, eq_self, Int.reduceLT, Int.reduceLE, Int.reduceNeg, Int.reduceEq, f2, gb, e5, hc, wrap_in]
      refine sep_store (t.pull 1 rfl) (by simp) fun h8 t => ?_
      have t := t.as (ds := [.int .i64 (readM (w0.take 1)), vl', vh']) (by simp [t_put])
      simp (disch := omega) only [VW, VY, VZ, VA, VB, VC, VE, TY, ↓reduceIte, Nat.reduceEqDiff, Nat.reduceAdd, Nat.reduceMul, Nat.reduceSub, Nat.reduceLeDiff, List.length_cons, List.length_nil, List.length_append, List.append_assoc, List.take_succ_cons, List.take_zero, List.drop_succ_cons, List.drop_zero, List.set_cons_zero, List.set_cons_succ, true_or, or_true, and_self, Bool.false_eq_true, Nat.le_refl, Option.bind_some, Option.map_some, Option.getD_some, Option.isSome_some, List.map_cons, List.map_nil, List.cons_append, List.nil_append, List.append_nil, List.getElem?_cons_zero, List.getElem?_cons_succ, eq_self, Int.reduceLT, Int.reduceLE, Int.reduceNeg, Int.reduceEq, e0, e2, e4, e5, e6, wrap_in]
      refine ⟨_, by omega, j + 1, vl', vh', by congr 1 <;> omega, by omega, rfl, ?_⟩
      rw [hstep]
      exact t.pull 2 rfl |>.swap
    · obtain rfl : j = p := by omega
      have q1 : ¬ 2 * (j : Int) + 1 < ((ws.length + 1 : Nat) : Int) := by omega
      rw [show ws.take (2 * j) = ws from List.take_of_length_le (by omega)] at t
      have hx : ∀ H, Ext h' H → Here H (boxSb s.data.toList) [.int .i64 (readM (w0.take 1)), vl, vh] := fun H E => by
        rw [hB]
        exact mk_Bx (x := ⟨readM (w0.take 1), _, _⟩) (readM_in _) ((t.pull 1 rfl).row.mono E) ((t.pull 2 rfl).row.mono E)
      have ga := t.rdAll (n := 3) rfl
      simp (disch := omega) only [VW, VY, VZ, VA, VB, VC, VE, TY, ↓reduceIte, Nat.reduceEqDiff, Nat.reduceAdd, Nat.reduceMul, Nat.reduceSub, Nat.reduceLeDiff, List.length_cons, List.length_nil, List.length_append, List.append_assoc, List.take_succ_cons, List.take_zero, List.drop_succ_cons, List.drop_zero, List.set_cons_zero, List.set_cons_succ, true_or, or_true, and_self, Bool.false_eq_true, Nat.le_refl, Option.bind_some, Option.map_some, Option.getD_some, Option.isSome_some, List.map_cons, List.map_nil, List.cons_append, List.nil_append, List.append_nil, List.getElem?_cons_zero, List.getElem?_cons_succ, eq_self, Int.reduceLT, Int.reduceLE, Int.reduceNeg, Int.reduceEq, q1, e5, ga]
      refine .inl ⟨by kernel_rfl, ?_⟩; refine bxGood_c (hx _ (.refl _)) fun h2 E2 => ?_
      have t2 := t.mono E2
      have ga := t2.rdAll (n := 3) rfl
      have pl1 := (t.pull 1 rfl).row.isRow.plain
      have pl2 := (t.pull 2 rfl).row.isRow.plain
      cases hm : boxM (boxSb s.data.toList) with
      | false =>
        rw [bad (by rw [hm]; simp)] at hQ
        have u := u.add t2
        simp (disch := omega) only [VW, VY, VZ, VA, VB, VC, VE, TY, ↓reduceIte, Nat.reduceEqDiff, Nat.reduceAdd, Nat.reduceMul, Nat.reduceSub, Nat.reduceLeDiff, List.length_cons, List.length_nil, List.length_append, List.append_assoc, List.take_succ_cons, List.take_zero, List.drop_succ_cons, List.drop_zero, List.set_cons_zero, List.set_cons_succ, true_or, or_true, and_self, Bool.false_eq_true, Nat.le_refl, Option.bind_some, Option.map_some, Option.getD_some, Option.isSome_some, List.map_cons, List.map_nil, List.cons_append, List.nil_append, List.append_nil, List.getElem?_cons_zero, List.getElem?_cons_succ, eq_self, Int.reduceLT, Int.reduceLE, Int.reduceNeg, Int.reduceEq, e2]
        refine sep_store (u.pull 3 rfl) (by simp) fun h5 u => ?_
        have u := u.as (ds := [.int .i64 0, .slice none 0 0, .slice none 0 0]) (by simp [t_put])
        have gz := u.rdAll (n := 3) rfl
        simp (disch := omega) only [VW, VY, VZ, VA, VB, VC, VE, TY, ↓reduceIte, Nat.reduceEqDiff, Nat.reduceAdd, Nat.reduceMul, Nat.reduceSub, Nat.reduceLeDiff, List.length_cons, List.length_nil, List.length_append, List.append_assoc, List.take_succ_cons, List.take_zero, List.drop_succ_cons, List.drop_zero, List.set_cons_zero, List.set_cons_succ, true_or, or_true, and_self, Bool.false_eq_true, Nat.le_refl, Option.bind_some, Option.map_some, Option.getD_some, Option.isSome_some, List.map_cons, List.map_nil, List.cons_append, List.nil_append, List.append_nil, List.getElem?_cons_zero, List.getElem?_cons_succ, eq_self, Int.reduceLT, Int.reduceLE, Int.reduceNeg, Int.reduceEq, gz, e2]
        exact hQ _ _ (bx_zero u).head
      | true =>
        simp (disch := omega) only [VW, VY, VZ, VA, VB, VC, VE, TY, ↓reduceIte, Nat.reduceEqDiff, Nat.reduceAdd, Nat.reduceMul, Nat.reduceSub, Nat.reduceLeDiff, List.length_cons, List.length_nil, List.length_append, List.append_assoc, List.take_succ_cons, List.take_zero, List.drop_succ_cons, List.drop_zero, List.set_cons_zero, List.set_cons_succ, true_or, or_true, and_self, Bool.false_eq_true, Nat.le_refl, Option.bind_some, Option.map_some, Option.getD_some, Option.isSome_some, List.map_cons, List.map_nil, List.cons_append, List.nil_append, List.append_nil, List.getElem?_cons_zero, List.getElem?_cons_succ, eq_self, Int.reduceLT, Int.reduceLE, Int.reduceNeg, Int.reduceEq, ga, e5]
        refine .inl ⟨by kernel_rfl, ?_⟩; refine bxText_c (hx _ E2) hm fun h3 E3 => ?_
        have t3 := t2.mono E3
        have ga := t3.rdAll (n := 3) rfl
        by_cases k : bL (boxL (boxSb s.data.toList)) = s
        · have hok : boxS s.data.toList = some (boxSb s.data.toList) := if_pos ⟨hsh.2 (by omega), hm, bL_eq.1 k⟩
          rw [hok] at hQ
          have u := u.add t3
          have ga := u.rdAll (n := 3) rfl
          simp (disch := omega) only [VW, VY, VZ, VA, VB, VC, VE, TY, ↓reduceIte, Nat.reduceEqDiff, Nat.reduceAdd, Nat.reduceMul, Nat.reduceSub, Nat.reduceLeDiff, List.length_cons, List.length_nil, List.length_append, List.append_assoc, List.take_succ_cons, List.take_zero, List.drop_succ_cons, List.drop_zero, List.set_cons_zero, List.set_cons_succ, true_or, or_true, and_self, Bool.false_eq_true, Nat.le_refl, Option.bind_some, Option.map_some, Option.getD_some, Option.isSome_some, List.map_cons, List.map_nil, List.cons_append, List.nil_append, List.append_nil, List.getElem?_cons_zero, List.getElem?_cons_succ, eq_self, Int.reduceLT, Int.reduceLE, Int.reduceNeg, Int.reduceEq, e0, k, e2, e5, ga]
          refine sep_store (u.pull 3 rfl) (by simp) fun h5 u => ?_
          have u := u.as (ds := [.int .i64 (readM (w0.take 1)), vl, vh]) (by simp [t_put])
          have gz := u.rdAll (n := 3) rfl
          simp (disch := omega) only [VW, VY, VZ, VA, VB, VC, VE, TY, ↓reduceIte, Nat.reduceEqDiff, Nat.reduceAdd, Nat.reduceMul, Nat.reduceSub, Nat.reduceLeDiff, List.length_cons, List.length_nil, List.length_append, List.append_assoc, List.take_succ_cons, List.take_zero, List.drop_succ_cons, List.drop_zero, List.set_cons_zero, List.set_cons_succ, true_or, or_true, and_self, Bool.false_eq_true, Nat.le_refl, Option.bind_some, Option.map_some, Option.getD_some, Option.isSome_some, List.map_cons, List.map_nil, List.cons_append, List.nil_append, List.append_nil, List.getElem?_cons_zero, List.getElem?_cons_succ, eq_self, Int.reduceLT, Int.reduceLE, Int.reduceNeg, Int.reduceEq, gz, e2]
          refine hQ _ _ ?_
          have u := bx_make ((u.pull 2 rfl).pull 3 rfl |> fun _ => (u.tail.tail)) (readM_in (w0.take 1))
          rw [Option.getD_some, hB]
          exact u.head
        · rw [bad (fun c => k (bL_eq.2 c.2.2))] at hQ
          have u := u.add t3
          simp (disch := omega) only [VW, VY, VZ, VA, VB, VC, VE, TY, ↓reduceIte, Nat.reduceEqDiff, Nat.reduceAdd, Nat.reduceMul, Nat.reduceSub, Nat.reduceLeDiff, List.length_cons, List.length_nil, List.length_append, List.append_assoc, List.take_succ_cons, List.take_zero, List.drop_succ_cons, List.drop_zero, List.set_cons_zero, List.set_cons_succ, true_or, or_true, and_self, Bool.false_eq_true, Nat.le_refl, Option.bind_some, Option.map_some, Option.getD_some, Option.isSome_some, List.map_cons, List.map_nil, List.cons_append, List.nil_append, List.append_nil, List.getElem?_cons_zero, List.getElem?_cons_succ, eq_self, Int.reduceLT, Int.reduceLE, Int.reduceNeg, Int.reduceEq, e0, k, e2]
          refine sep_store (u.pull 3 rfl) (by simp) fun h5 u => ?_
          have u := u.as (ds := [.int .i64 0, .slice none 0 0, .slice none 0 0]) (by simp [t_put])
          have gz := u.rdAll (n := 3) rfl
          simp (disch := omega) only [VW, VY, VZ, VA, VB, VC, VE, TY, ↓reduceIte, Nat.reduceEqDiff, Nat.reduceAdd, Nat.reduceMul, Nat.reduceSub, Nat.reduceLeDiff, List.length_cons, List.length_nil, List.length_append, List.append_assoc, List.take_succ_cons, List.take_zero, List.drop_succ_cons, List.drop_zero, List.set_cons_zero, List.set_cons_succ, true_or, or_true, and_self, Bool.false_eq_true, Nat.le_refl, Option.bind_some, Option.map_some, Option.getD_some, Option.isSome_some, List.map_cons, List.map_nil, List.cons_append, List.nil_append, List.append_nil, List.getElem?_cons_zero, List.getElem?_cons_succ, eq_self, Int.reduceLT, Int.reduceLE, Int.reduceNeg, Int.reduceEq, gz, e2]
          exact hQ _ _ (bx_zero u).head
end Go.Proofs
