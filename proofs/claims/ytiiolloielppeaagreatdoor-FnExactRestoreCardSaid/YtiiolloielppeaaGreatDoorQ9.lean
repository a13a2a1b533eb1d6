/- Contracts of functions, facts of types, or the plain law behind one statement (own work): Q9. Conditions: those told in each theorem. -/
import Derived.Test.YtiiolloielppeaaGreatDoorQ8
set_option linter.all false
set_option linter.unusedSimpArgs false
set_option linter.unusedVariables false
set_option maxRecDepth 4000
set_option linter.unusedSectionVars false
namespace Go.Proofs
open Go Go.V
def foldIM (l0 : List UInt8) (r : List (List UInt8)) : Nat → Option Wk
  | 0 => some wkZ
  | i + 1 => (r.take i).foldl stepI (some ⟨[], [], [], [], atoiN (cutB l0 [32]).2⟩)
theorem foldIM_step {l0 : List UInt8} {r : List (List UInt8)} {i : Nat} {x : List UInt8} (h : r[i]? = some x) : foldIM l0 r (i + 2) = stepI (foldIM l0 r (i + 1)) x := by
  show (r.take (i + 1)).foldl stepI _ = stepI ((r.take i).foldl stepI _) x
  rw [List.take_add_one, h, List.foldl_append]; rfl
theorem foldIM_stop {l0 : List UInt8} {r : List (List UInt8)} {i : Nat} (h : foldIM l0 r (i + 1) = none) : foldIM l0 r (r.length + 1) = none := by
  show (r.take r.length).foldl stepI _ = none
  have h : (r.take i).foldl stepI _ = none := h
  rw [List.take_length]
  conv => lhs; rw [← List.take_append_drop i r]
  rw [List.foldl_append, h, foldI_none]
theorem workI_fold {s : List UInt8} {t : Int} {l0 : List UInt8} {r : List (List UInt8)} (h : linesI s = l0 :: r) : workI s t = finM s t (foldIM l0 r (r.length + 1)) := by
  unfold workI startI
  rw [h]
  show finM s t (r.foldl stepI _) = finM s t ((r.take r.length).foldl stepI _)
  rw [List.take_length]; rfl
theorem app_two {h : Heap} {a b : Option Blk} : h ++ [a, b] = (h ++ [a]) ++ [b] := by simp
def WB (w : Wk) (i : Nat) : Prop := w.opened.length ≤ i ∧ w.free.length ≤ i ∧ w.holds.length ≤ i ∧ w.kept.length ≤ i
theorem trim_len (l p : List UInt8) : (Lib.trimSuffix l p).length ≤ l.length := by
  unfold Lib.trimSuffix
  split
  · rw [List.length_take]; omega
  · exact Nat.le_refl _
theorem trimNl_c {s : ByteArray} {h : Heap} {Q : Value → Heap → Prop} (hs : s.size ≤ 1000000) (hQ : Q (.string (bL (Lib.trimSuffix s.data.toList [10]))) h) :
    CallsV Tryz.prog 34 [.string s, .string ⟨#[10]⟩] h Q := trimSuffix_c hs hQ
theorem stepI_none1 {w : Wk} {x : List UInt8} (h : idxN (cutB x [32]).1 = none) : stepI (some w) x = none := by unfold stepI; rw [h]
theorem stepI_none2 {w : Wk} {x : List UInt8} (h : boxI (cutB x [32]).2 = none) : stepI (some w) x = none := by
  unfold stepI; rw [h]
  cases idxN (cutB x [32]).1 <;> rfl
theorem stepI_some {w : Wk} {x : List UInt8} {k : Nat} {b : Bx} (h1 : idxN (cutB x [32]).1 = some k) (h2 : boxI (cutB x [32]).2 = some b) : stepI (some w) x = some (putW w k b) := by unfold stepI; rw [h1, h2]
theorem parseWork_c {s : ByteArray} {t : Int} {h : Heap} {Q : Value → Heap → Prop} (hs : s.size ≤ 1000000)
    (hQ : ∀ cs h', Sep h h' [repA ((workI s.data.toList t).getD wkZ) cs] → Q (.tuple #[.agg cs.toArray, .bool (workI s.data.toList t).isSome]) h') :
    CallsV Tryz.prog 18 [.string s, .int .i64 t] h Q := by
  refine CallsV.start Tryz.func18 rfl (by rw [Tryz.results18]) (by kernel_rfl) (by rw [Tryz.ntmps18]; simp) ?_
  have hl := str_len s
  have u := Sep.blk2 h [.slice none 0 0, .slice none 0 0, .slice none 0 0, .slice none 0 0, .int .i64 0] [.slice none 0 0, .slice none 0 0, .slice none 0 0, .slice none 0 0, .int .i64 0] 24 24 true true
  have u := u.newBlk [.pointer (some ⟨h.length + 1, 0, none⟩), .pointer (some ⟨h.length + 1, 1, none⟩), .pointer (some ⟨h.length + 1, 2, none⟩), .pointer (some ⟨h.length + 1, 3, none⟩)] 51 true
  simp only [List.append_assoc, List.cons_append, List.nil_append, List.length_append, List.length_cons, List.length_nil, Nat.reduceAdd] at u
  have htl := trim_len s.data.toList [10]
  simp (disch := omega) only [VW, VY, VZ, VA, VB, VC, VE, TY, ↓reduceIte, Nat.reduceEqDiff, Nat.reduceAdd, Nat.reduceMul, Nat.reduceSub, Nat.reduceLeDiff, List.length_cons, List.length_nil, List.length_append, List.append_assoc, List.take_succ_cons, List.take_zero, List.drop_succ_cons, List.drop_zero, List.set_cons_zero, List.set_cons_succ, true_or, or_true, and_self, Bool.false_eq_true, Nat.le_refl, Option.bind_some, Option.map_some, Option.getD_some, Option.isSome_some, List.map_cons, List.map_nil, List.cons_append, List.nil_append, List.append_nil, List.getElem?_cons_zero, List.getElem?_cons_succ, eq_self, Int.reduceLT, Int.reduceLE, Int.reduceNeg, Int.reduceEq]
  refine .inl ⟨by kernel_rfl, ?_⟩; refine trimNl_c hs ?_
  simp (disch := omega) only [VW, VY, VZ, VA, VB, VC, VE, TY, ↓reduceIte, Nat.reduceEqDiff, Nat.reduceAdd, Nat.reduceMul, Nat.reduceSub, Nat.reduceLeDiff, List.length_cons, List.length_nil, List.length_append, List.append_assoc, List.take_succ_cons, List.take_zero, List.drop_succ_cons, List.drop_zero, List.set_cons_zero, List.set_cons_succ, true_or, or_true, and_self, Bool.false_eq_true, Nat.le_refl, Option.bind_some, Option.map_some, Option.getD_some, Option.isSome_some, List.map_cons, List.map_nil, List.cons_append, List.nil_append, List.append_nil, List.getElem?_cons_zero, List.getElem?_cons_succ, eq_self, Int.reduceLT, Int.reduceLE, Int.reduceNeg, Int.reduceEq]
  refine .inl ⟨by kernel_rfl, ?_⟩; refine split_o (s := bL (Lib.trimSuffix s.data.toList [10])) (c := 10) (by rw [bL_size]; omega) fun v h1 s1 => ?_
  have hls := splitL_len 10 (Lib.trimSuffix s.data.toList [10])
  have hmx := splitL_max 10 (Lib.trimSuffix s.data.toList [10])
  cases hL : splitL 10 (Lib.trimSuffix s.data.toList [10]) with
  | nil => exact absurd hL (splitL_ne _ _)
  | cons l0 r =>
  have hLI : linesI s.data.toList = l0 :: r := hL
  rw [workI_fold hLI] at hQ
  have s1 : Sep _ h1 [ownA (α := ByteArray) 9 ((splitL 10 (Lib.trimSuffix s.data.toList [10])).map bL) v] := s1
  rw [hL] at s1 hls hmx
  have u := u.add s1
  have u : Sep h h1 [ownA (α := ByteArray) 9 ((l0 :: r).map bL) v, _, _, _] := u
  have hxl : ∀ x ∈ l0 :: r, x.length ≤ 1000000 := fun x hx => by have := hls x hx; omega
  have hN : ((l0 :: r).map bL).length = r.length + 1 := by simp
  have hrl : r.length + 1 ≤ 1000001 := by have : (l0 :: r).length = r.length + 1 := rfl
                                          omega
  have len := (u.row).isRow.len Tryz.prog
  rw [hN] at len
  simp (disch := omega) only [VW, VY, VZ, VA, VB, VC, VE, TY, ↓reduceIte, Nat.reduceEqDiff, Nat.reduceAdd, Nat.reduceMul, Nat.reduceSub, Nat.reduceLeDiff, List.length_cons, List.length_nil, List.length_append, List.append_assoc, List.take_succ_cons, List.take_zero, List.drop_succ_cons, List.drop_zero, List.set_cons_zero, List.set_cons_succ, true_or, or_true, and_self, Bool.false_eq_true, Nat.le_refl, Option.bind_some, Option.map_some, Option.getD_some, Option.isSome_some, List.map_cons, List.map_nil, List.cons_append, List.nil_append, List.append_nil, List.getElem?_cons_zero, List.getElem?_cons_succ, eq_self, Int.reduceLT, Int.reduceLE, Int.reduceNeg, Int.reduceEq, len]
  have u := (((((u.nilA 38 (α := Bx)).nilA 38 (α := Bx)).nilA 38 (α := Bx)).nilA 38 (α := Bx)).pull 6 rfl)
  refine loop_rule (fun n e h' => ∃ (i : Nat) (v0 v1 v2 v3 : Value) (w : Wk), e 0 = .string s ∧ e 1 = .int .i64 t ∧ e 4 = .pointer (some ⟨h.length, 0, none⟩) ∧ e 6 = .pointer (some ⟨h.length + 1, 0, none⟩) ∧ e 7 = .slice (some ⟨h.length + 2, 0, none⟩) 4 4 ∧ e 24 = v ∧ e 25 = .int .i64 ((r.length + 1 : Nat) : Int) ∧ e 26 = .int .i64 (i : Int) ∧ i ≤ r.length + 1 ∧ n = r.length + 1 - i ∧ foldIM l0 r i = some w ∧ WB w i ∧ inI64 w.steps ∧
    Sep h h' [blkA (h.length + 1) [v0, v1, v2, v3, .int .i64 w.steps] 24, ownA 38 w.opened v0, ownA 38 w.free v1, ownA 38 w.holds v2, ownA 38 w.kept v3, ownA (α := ByteArray) 9 ((l0 :: r).map bL) v, blkA (h.length + 2) [.pointer (some ⟨h.length + 1, 0, none⟩), .pointer (some ⟨h.length + 1, 1, none⟩), .pointer (some ⟨h.length + 1, 2, none⟩), .pointer (some ⟨h.length + 1, 3, none⟩)] 51, blkA h.length [.slice none 0 0, .slice none 0 0, .slice none 0 0, .slice none 0 0, .int .i64 0] 24]) ?_ (r.length + 1) _ _
    ⟨0, _, _, _, _, wkZ, rfl, rfl, rfl, rfl, rfl, rfl, rfl, rfl, by omega, rfl, rfl, ⟨by decide, by decide, by decide, by decide⟩, ⟨by decide, by decide⟩, u⟩
  rintro n e h' ⟨i, v0, v1, v2, v3, w, e0, e1, e4, e6, e7, e24, e25, e26, hi, rfl, hw, ⟨b0, b1, b2, b3⟩, hst, u⟩
  have rw1 := (u.pull 5 rfl).row
  have rix := rw1.isRow.ix Tryz.prog
  rw [hN] at rix
  simp (disch := omega) only [VW, VY, VZ, VA, VB, VC, VE, TY, ↓reduceIte, Nat.reduceEqDiff, Nat.reduceAdd, Nat.reduceMul, Nat.reduceSub, Nat.reduceLeDiff, List.length_cons, List.length_nil, List.length_append, List.append_assoc, List.take_succ_cons, List.take_zero, List.drop_succ_cons, List.drop_zero, List.set_cons_zero, List.set_cons_succ, true_or, or_true, and_self, Bool.false_eq_true, Nat.le_refl, Option.bind_some, Option.map_some, Option.getD_some, Option.isSome_some, List.map_cons, List.map_nil, List.cons_append, List.nil_append, List.append_nil, List.getElem?_cons_zero, List.getElem?_cons_succ, eq_self, Int.reduceLT, Int.reduceLE, Int.reduceNeg, Int.reduceEq, e25, e26]
  by_cases hlt : i < r.length + 1
  · have q1 : (i : Int) < ((r.length + 1 : Nat) : Int) := by omega
    obtain ⟨x, hx⟩ := get_some (show i < (l0 :: r).length by simpa using hlt)
    have hxx := hxl x (List.mem_of_getElem? hx)
    have g := (row_str rw1 (show ((l0 :: r).map bL)[i]? = some (bL x) by rw [List.getElem?_map, hx]; rfl)).1
    have hcl := cut_len x [32]
    simp (disch := omega) only [VW, VY, VZ, VA, VB, VC, VE, TY, ↓reduceIte, Nat.reduceEqDiff, Nat.reduceAdd, Nat.reduceMul, Nat.reduceSub, Nat.reduceLeDiff, List.length_cons, List.length_nil, List.length_append, List.append_assoc, List.take_succ_cons, List.take_zero, List.drop_succ_cons, List.drop_zero, List.set_cons_zero, List.set_cons_succ, true_or, or_true, and_self, Bool.false_eq_true, Nat.le_refl, Option.bind_some, Option.map_some, Option.getD_some, Option.isSome_some, List.map_cons, List.map_nil, List.cons_append, List.nil_append, List.append_nil, List.getElem?_cons_zero, List.getElem?_cons_succ, eq_self, Int.reduceLT, Int.reduceLE, Int.reduceNeg, Int.reduceEq, e24, e26, q1, rix, g]
    refine .inl ⟨by kernel_rfl, ?_⟩; refine cutBlank_c (s := bL x) (by rw [bL_size]; omega) fun bf => ?_
    have hbx : (bL x).data.toList = x := rfl
    rw [hbx]
    by_cases hi0 : (i : Int) = 0
    · obtain rfl : i = 0 := by omega
      cases hw
      obtain rfl : l0 = x := by simpa using hx
      simp (disch := omega) only [VW, VY, VZ, VA, VB, VC, VE, TY, ↓reduceIte, Nat.reduceEqDiff, Nat.reduceAdd, Nat.reduceMul, Nat.reduceSub, Nat.reduceLeDiff, List.length_cons, List.length_nil, List.length_append, List.append_assoc, List.take_succ_cons, List.take_zero, List.drop_succ_cons, List.drop_zero, List.set_cons_zero, List.set_cons_succ, true_or, or_true, and_self, Bool.false_eq_true, Nat.le_refl, Option.bind_some, Option.map_some, Option.getD_some, Option.isSome_some, List.map_cons, List.map_nil, List.cons_append, List.nil_append, List.append_nil, List.getElem?_cons_zero, List.getElem?_cons_succ, eq_self, Int.reduceLT, Int.reduceLE, Int.reduceNeg, Int.reduceEq, hi0]
      refine .inl ⟨by kernel_rfl, ?_⟩; refine atoiL_c (l := (cutB l0 [32]).2) (by omega) ?_
      simp (disch := omega) only [VW, VY, VZ, VA, VB, VC, VE, TY, ↓reduceIte, Nat.reduceEqDiff, Nat.reduceAdd, Nat.reduceMul, Nat.reduceSub, Nat.reduceLeDiff, List.length_cons, List.length_nil, List.length_append, List.append_assoc, List.take_succ_cons, List.take_zero, List.drop_succ_cons, List.drop_zero, List.set_cons_zero, List.set_cons_succ, true_or, or_true, and_self, Bool.false_eq_true, Nat.le_refl, Option.bind_some, Option.map_some, Option.getD_some, Option.isSome_some, List.map_cons, List.map_nil, List.cons_append, List.nil_append, List.append_nil, List.getElem?_cons_zero, List.getElem?_cons_succ, eq_self, Int.reduceLT, Int.reduceLE, Int.reduceNeg, Int.reduceEq, e6]
      refine sep_store (u.pull 0 rfl) (by simp) fun h5 u => ?_
      have u := u.as (ds := [v0, v1, v2, v3, .int .i64 (atoiN (cutB l0 [32]).2)]) (by simp [t_put])
      simp (disch := omega) only [VW, VY, VZ, VA, VB, VC, VE, TY, ↓reduceIte, Nat.reduceEqDiff, Nat.reduceAdd, Nat.reduceMul, Nat.reduceSub, Nat.reduceLeDiff, List.length_cons, List.length_nil, List.length_append, List.append_assoc, List.take_succ_cons, List.take_zero, List.drop_succ_cons, List.drop_zero, List.set_cons_zero, List.set_cons_succ, true_or, or_true, and_self, Bool.false_eq_true, Nat.le_refl, Option.bind_some, Option.map_some, Option.getD_some, Option.isSome_some, List.map_cons, List.map_nil, List.cons_append, List.nil_append, List.append_nil, List.getElem?_cons_zero, List.getElem?_cons_succ, eq_self, Int.reduceLT, Int.reduceLE, Int.reduceNeg, Int.reduceEq, e0, e1, e4, e6, e7, e24, e25, e26, wrap_in]
      exact ⟨_, by omega, 1, v0, v1, v2, v3, ⟨[], [], [], [], atoiN (cutB l0 [32]).2⟩, by simp, by omega, rfl, rfl, ⟨by simp, by simp, by simp, by simp⟩, atoiN_in _, u⟩
    · obtain ⟨j, rfl⟩ : ∃ j, i = j + 1 := ⟨i - 1, by omega⟩
      have hx : r[j]? = some x := by simpa using hx
      have hstep := foldIM_step (l0 := l0) hx
      rw [hw] at hstep
      simp (disch := omega) only [VW, VY, VZ, VA, VB, VC, VE, TY, ↓reduceIte, Nat.reduceEqDiff, Nat.reduceAdd, Nat.reduceMul, Nat.reduceSub, Nat.reduceLeDiff, List.length_cons, List.length_nil, List.length_append, List.append_assoc, List.take_succ_cons, List.take_zero, List.drop_succ_cons, List.drop_zero, List.set_cons_zero, List.set_cons_succ, true_or, or_true, and_self, Bool.false_eq_true, Nat.le_refl, Option.bind_some, Option.map_some, Option.getD_some, Option.isSome_some, List.map_cons, List.map_nil, List.cons_append, List.nil_append, List.append_nil, List.getElem?_cons_zero, List.getElem?_cons_succ, eq_self, Int.reduceLT, Int.reduceLE, Int.reduceNeg, Int.reduceEq, hi0]
      refine .inl ⟨by kernel_rfl, ?_⟩; refine workNames_c fun vn h2 E2 rn => ?_
      have u := u.mono E2
      simp (disch := omega) only [VW, VY, VZ, VA, VB, VC, VE, TY, ↓reduceIte, Nat.reduceEqDiff, Nat.reduceAdd, Nat.reduceMul, Nat.reduceSub, Nat.reduceLeDiff, List.length_cons, List.length_nil, List.length_append, List.append_assoc, List.take_succ_cons, List.take_zero, List.drop_succ_cons, List.drop_zero, List.set_cons_zero, List.set_cons_succ, true_or, or_true, and_self, Bool.false_eq_true, Nat.le_refl, Option.bind_some, Option.map_some, Option.getD_some, Option.isSome_some, List.map_cons, List.map_nil, List.cons_append, List.nil_append, List.append_nil, List.getElem?_cons_zero, List.getElem?_cons_succ, eq_self, Int.reduceLT, Int.reduceLE, Int.reduceNeg, Int.reduceEq]
      refine .inl ⟨by kernel_rfl, ?_⟩; refine sIndex_c (x := bL (cutB x [32]).1) rn fun at_ hat => ?_
      obtain rfl := names_idx hat
      simp (disch := omega) only [VW, VY, VZ, VA, VB, VC, VE, TY, ↓reduceIte, Nat.reduceEqDiff, Nat.reduceAdd, Nat.reduceMul, Nat.reduceSub, Nat.reduceLeDiff, List.length_cons, List.length_nil, List.length_append, List.append_assoc, List.take_succ_cons, List.take_zero, List.drop_succ_cons, List.drop_zero, List.set_cons_zero, List.set_cons_succ, true_or, or_true, and_self, Bool.false_eq_true, Nat.le_refl, Option.bind_some, Option.map_some, Option.getD_some, Option.isSome_some, List.map_cons, List.map_nil, List.cons_append, List.nil_append, List.append_nil, List.getElem?_cons_zero, List.getElem?_cons_succ, eq_self, Int.reduceLT, Int.reduceLE, Int.reduceNeg, Int.reduceEq]
      refine .inl ⟨by kernel_rfl, ?_⟩; refine parseBox_c (s := bL (cutB x [32]).2) (by rw [bL_size]; omega) fun cs h3 s3 => ?_
      have hbr : (bL (cutB x [32]).2).data.toList = (cutB x [32]).2 := rfl
      rw [hbr] at s3 ⊢
      obtain ⟨w1, w2, rfl, f1, r1, r2⟩ := here_Bx s3.here
      have pw1 := r1.isRow.plain
      have pw2 := r2.isRow.plain
      have u := u.add s3
      have u := u.newBlk [.int .i64 ((boxI (cutB x [32]).2).getD bxZ).k, w1, w2] 38 true
      cases hk : idxN (cutB x [32]).1 with
      | none =>
        rw [stepI_none1 hk] at hstep
        rw [foldIM_stop hstep] at hQ
        have knv : idxV none = -1 := rfl
        rw [knv]
        have kneg : (-1 : Int) < 0 := by decide
        simp (disch := omega) only [VW, VY, VZ, VA, VB, VC, VE, TY, ↓reduceIte, Nat.reduceEqDiff, Nat.reduceAdd, Nat.reduceMul, Nat.reduceSub, Nat.reduceLeDiff, List.length_cons, List.length_nil, List.length_append, List.append_assoc, List.take_succ_cons, List.take_zero, List.drop_succ_cons, List.drop_zero, List.set_cons_zero, List.set_cons_succ, true_or, or_true, and_self, Bool.false_eq_true, Nat.le_refl, Option.bind_some, Option.map_some, Option.getD_some, Option.isSome_some, List.map_cons, List.map_nil, List.cons_append, List.nil_append, List.append_nil, List.getElem?_cons_zero, List.getElem?_cons_succ, eq_self, Int.reduceLT, Int.reduceLE, Int.reduceNeg, Int.reduceEq, kneg, e4]
        refine sep_store (u.pull 9 rfl) (by simp) fun h5 u => ?_
        have u := u.as (ds := [.slice none 0 0, .slice none 0 0, .slice none 0 0, .slice none 0 0, .int .i64 0]) (by simp [t_put])
        have gz := u.rdAll (n := 5) rfl
        simp (disch := omega) only [VW, VY, VZ, VA, VB, VC, VE, TY, ↓reduceIte, Nat.reduceEqDiff, Nat.reduceAdd, Nat.reduceMul, Nat.reduceSub, Nat.reduceLeDiff, List.length_cons, List.length_nil, List.length_append, List.append_assoc, List.take_succ_cons, List.take_zero, List.drop_succ_cons, List.drop_zero, List.set_cons_zero, List.set_cons_succ, true_or, or_true, and_self, Bool.false_eq_true, Nat.le_refl, Option.bind_some, Option.map_some, Option.getD_some, Option.isSome_some, List.map_cons, List.map_nil, List.cons_append, List.nil_append, List.append_nil, List.getElem?_cons_zero, List.getElem?_cons_succ, eq_self, Int.reduceLT, Int.reduceLE, Int.reduceNeg, Int.reduceEq, gz, e4]
        exact hQ _ _ (wk_zero u).head
      | some k =>
        have hk4 := idxN_lt hk
        have kn : ¬ (k : Int) < 0 := by omega
        have kv : idxV (some k) = (k : Int) := rfl
        rw [kv]
        cases hb : boxI (cutB x [32]).2 with
        | none =>
          rw [stepI_none2 hb] at hstep
          rw [foldIM_stop hstep] at hQ
          rw [hb] at u
          simp only [Option.getD_none, Option.isSome_none] at u ⊢
          simp (disch := omega) only [VW, VY, VZ, VA, VB, VC, VE, TY, ↓reduceIte, Nat.reduceEqDiff, Nat.reduceAdd, Nat.reduceMul, Nat.reduceSub, Nat.reduceLeDiff, List.length_cons, List.length_nil, List.length_append, List.append_assoc, List.take_succ_cons, List.take_zero, List.drop_succ_cons, List.drop_zero, List.set_cons_zero, List.set_cons_succ, true_or, or_true, and_self, Bool.false_eq_true, Nat.le_refl, Option.bind_some, Option.map_some, Option.getD_some, Option.isSome_some, List.map_cons, List.map_nil, List.cons_append, List.nil_append, List.append_nil, List.getElem?_cons_zero, List.getElem?_cons_succ, eq_self, Int.reduceLT, Int.reduceLE, Int.reduceNeg, Int.reduceEq, kn, e4]
          refine sep_store (u.pull 9 rfl) (by simp) fun h5 u => ?_
          have u := u.as (ds := [.slice none 0 0, .slice none 0 0, .slice none 0 0, .slice none 0 0, .int .i64 0]) (by simp [t_put])
          have gz := u.rdAll (n := 5) rfl
          simp (disch := omega) only [VW, VY, VZ, VA, VB, VC, VE, TY, ↓reduceIte, Nat.reduceEqDiff, Nat.reduceAdd, Nat.reduceMul, Nat.reduceSub, Nat.reduceLeDiff, List.length_cons, List.length_nil, List.length_append, List.append_assoc, List.take_succ_cons, List.take_zero, List.drop_succ_cons, List.drop_zero, List.set_cons_zero, List.set_cons_succ, true_or, or_true, and_self, Bool.false_eq_true, Nat.le_refl, Option.bind_some, Option.map_some, Option.getD_some, Option.isSome_some, List.map_cons, List.map_nil, List.cons_append, List.nil_append, List.append_nil, List.getElem?_cons_zero, List.getElem?_cons_succ, eq_self, Int.reduceLT, Int.reduceLE, Int.reduceNeg, Int.reduceEq, gz, e4]
          exact hQ _ _ (wk_zero u).head
        | some b =>
          rw [stepI_some hk hb] at hstep
          rw [hb] at u
          simp only [Option.getD_some, Option.isSome_some] at u ⊢
          have hrow4 : IsRow (.slice (some ⟨h.length + 2, 0, none⟩) 4 4) 4 := .inr ⟨_, _, _, rfl, Nat.le_refl _⟩
          have rix4 := hrow4.ix Tryz.prog
          have gp := (u.pull 8 rfl).rd
          have gw := (u.pull 2 rfl).rd
          have gb := u.rdAll (n := 3) rfl
          have uz := u.mono (Ext.one _ (some ⟨[.int .i64 b.k, w1, w2], 38, false, true⟩))
          simp only [List.append_assoc, List.cons_append, List.nil_append] at uz
          have zp := (uz.pull 8 rfl).rd
          have zw := (uz.pull 2 rfl).rd
          have zb := uz.rdAll (n := 3) rfl
          have rb4 : rowB (.slice (some ⟨h.length + 2, 0, none⟩) 4 4) = h.length + 2 := rfl
          have ro4 : rowO (.slice (some ⟨h.length + 2, 0, none⟩) 4 4) = 0 := rfl
          match k, hk4 with
          | 0, _ =>
            have qk : ((0 : Nat) : Int) < ((4 : Nat) : Int) := by decide
            have qk0 : (0 : Int) ≤ ((0 : Nat) : Int) := by decide
            have tk0 : ((0 : Nat) : Int).toNat = 0 := rfl
            have cc := (u.pull 3 rfl).row.isRow.cells
            simp (disch := omega) only [VW, VY, VZ, VA, VB, VC, VE, TY, ↓reduceIte, Nat.reduceEqDiff, Nat.reduceAdd, Nat.reduceMul, Nat.reduceSub, Nat.reduceLeDiff, List.length_cons, List.length_nil, List.length_append, List.append_assoc, List.take_succ_cons, List.take_zero, List.drop_succ_cons, List.drop_zero, List.set_cons_zero, List.set_cons_succ, true_or, or_true, and_self, Bool.false_eq_true, Nat.le_refl, Option.bind_some, Option.map_some, Option.getD_some, Option.isSome_some, List.map_cons, List.map_nil, List.cons_append, List.nil_append, List.append_nil, List.getElem?_cons_zero, List.getElem?_cons_succ, eq_self, Int.reduceLT, Int.reduceLE, Int.reduceNeg, Int.reduceEq, kn]
            refine draw_tail [0, 1, 2, 3, 4, 5, 6, 7, 8, 9, 10] [11, 12, 13, 14] (by kernel_rfl) (by simp only [List.filterMap_cons, List.filterMap_nil, List.getElem?_cons_zero, List.getElem?_cons_succ]; rfl) ?_
            simp (disch := omega) only [VW, VY, VZ, VA, VB, VC, VE, TY, ↓reduceIte, Nat.reduceEqDiff, Nat.reduceAdd, Nat.reduceMul, Nat.reduceSub, Nat.reduceLeDiff, List.length_cons, List.length_nil, List.length_append, List.append_assoc, List.take_succ_cons, List.take_zero, List.drop_succ_cons, List.drop_zero, List.set_cons_zero, List.set_cons_succ, true_or, or_true, and_self, Bool.false_eq_true, Nat.le_refl, Option.bind_some, Option.map_some, Option.getD_some, Option.isSome_some, List.map_cons, List.map_nil, List.cons_append, List.nil_append, List.append_nil, List.getElem?_cons_zero, List.getElem?_cons_succ, eq_self, Int.reduceLT, Int.reduceLE, Int.reduceNeg, Int.reduceEq, e7, rix4, rb4, ro4, qk, qk0, tk0, gp, gw, gb]
            refine tail_step [(11, [], [12, 13, 14], false)] (by kernel_rfl) (by kernel_rfl) (a_cons (by simp only [List.filterMap_cons, List.filterMap_nil, List.getElem?_cons_zero, List.getElem?_cons_succ]; rfl) (by kernel_rfl) ?_ trivial)
            simp (disch := omega) only [VW, VY, VZ, VA, VB, VC, VE, TY, ↓reduceIte, Nat.reduceEqDiff, Nat.reduceAdd, Nat.reduceMul, Nat.reduceSub, Nat.reduceLeDiff, List.length_cons, List.length_nil, List.length_append, List.append_assoc, List.take_succ_cons, List.take_zero, List.drop_succ_cons, List.drop_zero, List.set_cons_zero, List.set_cons_succ, true_or, or_true, and_self, Bool.false_eq_true, Nat.le_refl, Option.bind_some, Option.map_some, Option.getD_some, Option.isSome_some, List.map_cons, List.map_nil, List.cons_append, List.nil_append, List.append_nil, List.getElem?_cons_zero, List.getElem?_cons_succ, eq_self, Int.reduceLT, Int.reduceLE, Int.reduceNeg, Int.reduceEq, gp, gw, gb, zp, zw, zb, rb4, ro4]
            refine tail_step [(12, [13], [14], false)] (by kernel_rfl) (by kernel_rfl) (a_cons (by simp only [List.filterMap_cons, List.filterMap_nil, List.getElem?_cons_zero, List.getElem?_cons_succ]; rfl) (by kernel_rfl) ?_ trivial)
            simp (disch := omega) only [VW, VY, VZ, VA, VB, VC, VE, TY, ↓reduceIte, Nat.reduceEqDiff, Nat.reduceAdd, Nat.reduceMul, Nat.reduceSub, Nat.reduceLeDiff, List.length_cons, List.length_nil, List.length_append, List.append_assoc, List.take_succ_cons, List.take_zero, List.drop_succ_cons, List.drop_zero, List.set_cons_zero, List.set_cons_succ, true_or, or_true, and_self, Bool.false_eq_true, Nat.le_refl, Option.bind_some, Option.map_some, Option.getD_some, Option.isSome_some, List.map_cons, List.map_nil, List.cons_append, List.nil_append, List.append_nil, List.getElem?_cons_zero, List.getElem?_cons_succ, eq_self, Int.reduceLT, Int.reduceLE, Int.reduceNeg, Int.reduceEq, gp, gw, gb, zp, zw, zb, rb4, ro4]
            have sq := ((u.pull 3 rfl).pull 2 rfl).swap
            refine sep_append (y := b) sq app_two (by simp) te22 tk38 rfl (by decide) (by simp only []; omega) fun vn' h5 u => ?_
            have gp := (u.pull 7 rfl).rd
            have gw := (u.pull 2 rfl).rd
            have gb := (u.pull 1 rfl).rdAll (n := 3) rfl
            have hc := u.row.isRow.cells
            simp (disch := omega) only [VW, VY, VZ, VA, VB, VC, VE, TY, ↓reduceIte, Nat.reduceEqDiff, Nat.reduceAdd, Nat.reduceMul, Nat.reduceSub, Nat.reduceLeDiff, List.length_cons, List.length_nil, List.length_append, List.append_assoc, List.take_succ_cons, List.take_zero, List.drop_succ_cons, List.drop_zero, List.set_cons_zero, List.set_cons_succ, true_or, or_true, and_self, Bool.false_eq_true, Nat.le_refl, Option.bind_some, Option.map_some, Option.getD_some, Option.isSome_some, List.map_cons, List.map_nil, List.cons_append, List.nil_append, List.append_nil, List.getElem?_cons_zero, List.getElem?_cons_succ, eq_self, Int.reduceLT, Int.reduceLE, Int.reduceNeg, Int.reduceEq, gp, gw, gb, hc, rb4, ro4]
            refine tail_step [(14, [], [], true)] (by kernel_rfl) (by kernel_rfl) (a_cut (by simp only [List.filterMap_cons, List.filterMap_nil, List.getElem?_cons_zero, List.getElem?_cons_succ]; rfl) (by kernel_rfl) ?_ trivial)
            simp (disch := omega) only [VW, VY, VZ, VA, VB, VC, VE, TY, ↓reduceIte, Nat.reduceEqDiff, Nat.reduceAdd, Nat.reduceMul, Nat.reduceSub, Nat.reduceLeDiff, List.length_cons, List.length_nil, List.length_append, List.append_assoc, List.take_succ_cons, List.take_zero, List.drop_succ_cons, List.drop_zero, List.set_cons_zero, List.set_cons_succ, true_or, or_true, and_self, Bool.false_eq_true, Nat.le_refl, Option.bind_some, Option.map_some, Option.getD_some, Option.isSome_some, List.map_cons, List.map_nil, List.cons_append, List.nil_append, List.append_nil, List.getElem?_cons_zero, List.getElem?_cons_succ, eq_self, Int.reduceLT, Int.reduceLE, Int.reduceNeg, Int.reduceEq, gp, gw, gb, hc, rb4, ro4]
            refine sep_store (u.pull 2 rfl) (by simp) fun h6 u => ?_
            have u := u.as (ds := [vn', v1, v2, v3, .int .i64 w.steps]) (by simp [t_put])
            simp (disch := omega) only [VW, VY, VZ, VA, VB, VC, VE, TY, ↓reduceIte, Nat.reduceEqDiff, Nat.reduceAdd, Nat.reduceMul, Nat.reduceSub, Nat.reduceLeDiff, List.length_cons, List.length_nil, List.length_append, List.append_assoc, List.take_succ_cons, List.take_zero, List.drop_succ_cons, List.drop_zero, List.set_cons_zero, List.set_cons_succ, true_or, or_true, and_self, Bool.false_eq_true, Nat.le_refl, Option.bind_some, Option.map_some, Option.getD_some, Option.isSome_some, List.map_cons, List.map_nil, List.cons_append, List.nil_append, List.append_nil, List.getElem?_cons_zero, List.getElem?_cons_succ, eq_self, Int.reduceLT, Int.reduceLE, Int.reduceNeg, Int.reduceEq, e0, e1, e4, e6, e7, e24, e25, e26, wrap_in]
            have u := (u.pull 2 rfl).tail
            exact ⟨_, by omega, j + 2, vn', v1, v2, v3, putW w 0 b, by simp; omega, by omega, rfl, hstep, ⟨by simp [putW]; omega, by simp [putW]; omega, by simp [putW]; omega, by simp [putW]; omega⟩, hst, u⟩
          | 1, _ =>
            have qk : ((1 : Nat) : Int) < ((4 : Nat) : Int) := by decide
            have qk0 : (0 : Int) ≤ ((1 : Nat) : Int) := by decide
            have tk0 : ((1 : Nat) : Int).toNat = 1 := rfl
            have cc := (u.pull 4 rfl).row.isRow.cells
            simp (disch := omega) only [VW, VY, VZ, VA, VB, VC, VE, TY, ↓reduceIte, Nat.reduceEqDiff, Nat.reduceAdd, Nat.reduceMul, Nat.reduceSub, Nat.reduceLeDiff, List.length_cons, List.length_nil, List.length_append, List.append_assoc, List.take_succ_cons, List.take_zero, List.drop_succ_cons, List.drop_zero, List.set_cons_zero, List.set_cons_succ, true_or, or_true, and_self, Bool.false_eq_true, Nat.le_refl, Option.bind_some, Option.map_some, Option.getD_some, Option.isSome_some, List.map_cons, List.map_nil, List.cons_append, List.nil_append, List.append_nil, List.getElem?_cons_zero, List.getElem?_cons_succ, eq_self, Int.reduceLT, Int.reduceLE, Int.reduceNeg, Int.reduceEq, kn]
            refine draw_tail [0, 1, 2, 3, 4, 5, 6, 7, 8, 9, 10] [11, 12, 13, 14] (by kernel_rfl) (by simp only [List.filterMap_cons, List.filterMap_nil, List.getElem?_cons_zero, List.getElem?_cons_succ]; rfl) ?_
            simp (disch := omega) only [VW, VY, VZ, VA, VB, VC, VE, TY, ↓reduceIte, Nat.reduceEqDiff, Nat.reduceAdd, Nat.reduceMul, Nat.reduceSub, Nat.reduceLeDiff, List.length_cons, List.length_nil, List.length_append, List.append_assoc, List.take_succ_cons, List.take_zero, List.drop_succ_cons, List.drop_zero, List.set_cons_zero, List.set_cons_succ, true_or, or_true, and_self, Bool.false_eq_true, Nat.le_refl, Option.bind_some, Option.map_some, Option.getD_some, Option.isSome_some, List.map_cons, List.map_nil, List.cons_append, List.nil_append, List.append_nil, List.getElem?_cons_zero, List.getElem?_cons_succ, eq_self, Int.reduceLT, Int.reduceLE, Int.reduceNeg, Int.reduceEq, e7, rix4, rb4, ro4, qk, qk0, tk0, gp, gw, gb]
            refine tail_step [(11, [], [12, 13, 14], false)] (by kernel_rfl) (by kernel_rfl) (a_cons (by simp only [List.filterMap_cons, List.filterMap_nil, List.getElem?_cons_zero, List.getElem?_cons_succ]; rfl) (by kernel_rfl) ?_ trivial)
            simp (disch := omega) only [VW, VY, VZ, VA, VB, VC, VE, TY, ↓reduceIte, Nat.reduceEqDiff, Nat.reduceAdd, Nat.reduceMul, Nat.reduceSub, Nat.reduceLeDiff, List.length_cons, List.length_nil, List.length_append, List.append_assoc, List.take_succ_cons, List.take_zero, List.drop_succ_cons, List.drop_zero, List.set_cons_zero, List.set_cons_succ, true_or, or_true, and_self, Bool.false_eq_true, Nat.le_refl, Option.bind_some, Option.map_some, Option.getD_some, Option.isSome_some, List.map_cons, List.map_nil, List.cons_append, List.nil_append, List.append_nil, List.getElem?_cons_zero, List.getElem?_cons_succ, eq_self, Int.reduceLT, Int.reduceLE, Int.reduceNeg, Int.reduceEq, gp, gw, gb, zp, zw, zb, rb4, ro4]
            refine tail_step [(12, [13], [14], false)] (by kernel_rfl) (by kernel_rfl) (a_cons (by simp only [List.filterMap_cons, List.filterMap_nil, List.getElem?_cons_zero, List.getElem?_cons_succ]; rfl) (by kernel_rfl) ?_ trivial)
            simp (disch := omega) only [VW, VY, VZ, VA, VB, VC, VE, TY, ↓reduceIte, Nat.reduceEqDiff, Nat.reduceAdd, Nat.reduceMul, Nat.reduceSub, Nat.reduceLeDiff, List.length_cons, List.length_nil, List.length_append, List.append_assoc, List.take_succ_cons, List.take_zero, List.drop_succ_cons, List.drop_zero, List.set_cons_zero, List.set_cons_succ, true_or, or_true, and_self, Bool.false_eq_true, Nat.le_refl, Option.bind_some, Option.map_some, Option.getD_some, Option.isSome_some, List.map_cons, List.map_nil, List.cons_append, List.nil_append, List.append_nil, List.getElem?_cons_zero, List.getElem?_cons_succ, eq_self, Int.reduceLT, Int.reduceLE, Int.reduceNeg, Int.reduceEq, gp, gw, gb, zp, zw, zb, rb4, ro4]
            have sq := ((u.pull 4 rfl).pull 2 rfl).swap
            refine sep_append (y := b) sq app_two (by simp) te22 tk38 rfl (by decide) (by simp only []; omega) fun vn' h5 u => ?_
            have gp := (u.pull 7 rfl).rd
            have gw := (u.pull 2 rfl).rd
            have gb := (u.pull 1 rfl).rdAll (n := 3) rfl
            have hc := u.row.isRow.cells
            simp (disch := omega) only [VW, VY, VZ, VA, VB, VC, VE, TY, ↓reduceIte, Nat.reduceEqDiff, Nat.reduceAdd, Nat.reduceMul, Nat.reduceSub, Nat.reduceLeDiff, List.length_cons, List.length_nil, List.length_append, List.append_assoc, List.take_succ_cons, List.take_zero, List.drop_succ_cons, List.drop_zero, List.set_cons_zero, List.set_cons_succ, true_or, or_true, and_self, Bool.false_eq_true, Nat.le_refl, Option.bind_some, Option.map_some, Option.getD_some, Option.isSome_some, List.map_cons, List.map_nil, List.cons_append, List.nil_append, List.append_nil, List.getElem?_cons_zero, List.getElem?_cons_succ, eq_self, Int.reduceLT, Int.reduceLE, Int.reduceNeg, Int.reduceEq, gp, gw, gb, hc, rb4, ro4]
            refine tail_step [(14, [], [], true)] (by kernel_rfl) (by kernel_rfl) (a_cut (by simp only [List.filterMap_cons, List.filterMap_nil, List.getElem?_cons_zero, List.getElem?_cons_succ]; rfl) (by kernel_rfl) ?_ trivial)
            simp (disch := omega) only [VW, VY, VZ, VA, VB, VC, VE, TY, ↓reduceIte, Nat.reduceEqDiff, Nat.reduceAdd, Nat.reduceMul, Nat.reduceSub, Nat.reduceLeDiff, List.length_cons, List.length_nil, List.length_append, List.append_assoc, List.take_succ_cons, List.take_zero, List.drop_succ_cons, List.drop_zero, List.set_cons_zero, List.set_cons_succ, true_or, or_true, and_self, Bool.false_eq_true, Nat.le_refl, Option.bind_some, Option.map_some, Option.getD_some, Option.isSome_some, List.map_cons, List.map_nil, List.cons_append, List.nil_append, List.append_nil, List.getElem?_cons_zero, List.getElem?_cons_succ, eq_self, Int.reduceLT, Int.reduceLE, Int.reduceNeg, Int.reduceEq, gp, gw, gb, hc, rb4, ro4]
            refine sep_store (u.pull 2 rfl) (by simp) fun h6 u => ?_
            have u := u.as (ds := [v0, vn', v2, v3, .int .i64 w.steps]) (by simp [t_put])
            simp (disch := omega) only [VW, VY, VZ, VA, VB, VC, VE, TY, ↓reduceIte, Nat.reduceEqDiff, Nat.reduceAdd, Nat.reduceMul, Nat.reduceSub, Nat.reduceLeDiff, List.length_cons, List.length_nil, List.length_append, List.append_assoc, List.take_succ_cons, List.take_zero, List.drop_succ_cons, List.drop_zero, List.set_cons_zero, List.set_cons_succ, true_or, or_true, and_self, Bool.false_eq_true, Nat.le_refl, Option.bind_some, Option.map_some, Option.getD_some, Option.isSome_some, List.map_cons, List.map_nil, List.cons_append, List.nil_append, List.append_nil, List.getElem?_cons_zero, List.getElem?_cons_succ, eq_self, Int.reduceLT, Int.reduceLE, Int.reduceNeg, Int.reduceEq, e0, e1, e4, e6, e7, e24, e25, e26, wrap_in]
            have u := (u.pull 2 rfl).tail
            exact ⟨_, by omega, j + 2, v0, vn', v2, v3, putW w 1 b, by simp; omega, by omega, rfl, hstep, ⟨by simp [putW]; omega, by simp [putW]; omega, by simp [putW]; omega, by simp [putW]; omega⟩, hst, ((u.pull 2 rfl).pull 1 rfl)⟩
          | 2, _ =>
            have qk : ((2 : Nat) : Int) < ((4 : Nat) : Int) := by decide
            have qk0 : (0 : Int) ≤ ((2 : Nat) : Int) := by decide
            have tk0 : ((2 : Nat) : Int).toNat = 2 := rfl
            have cc := (u.pull 5 rfl).row.isRow.cells
            simp (disch := omega) only [VW, VY, VZ, VA, VB, VC, VE, TY, ↓reduceIte, Nat.reduceEqDiff, Nat.reduceAdd, Nat.reduceMul, Nat.reduceSub, Nat.reduceLeDiff, List.length_cons, List.length_nil, List.length_append, List.append_assoc, List.take_succ_cons, List.take_zero, List.drop_succ_cons, List.drop_zero, List.set_cons_zero, List.set_cons_succ, true_or, or_true, and_self, Bool.false_eq_true, Nat.le_refl, Option.bind_some, Option.map_some, Option.getD_some, Option.isSome_some, List.map_cons, List.map_nil, List.cons_append, List.nil_append, List.append_nil, List.getElem?_cons_zero, List.getElem?_cons_succ, eq_self, Int.reduceLT, Int.reduceLE, Int.reduceNeg, Int.reduceEq, kn]
            refine draw_tail [0, 1, 2, 3, 4, 5, 6, 7, 8, 9, 10] [11, 12, 13, 14] (by kernel_rfl) (by simp only [List.filterMap_cons, List.filterMap_nil, List.getElem?_cons_zero, List.getElem?_cons_succ]; rfl) ?_
            simp (disch := omega) only [VW, VY, VZ, VA, VB, VC, VE, TY, ↓reduceIte, Nat.reduceEqDiff, Nat.reduceAdd, Nat.reduceMul, Nat.reduceSub, Nat.reduceLeDiff, List.length_cons, List.length_nil, List.length_append, List.append_assoc, List.take_succ_cons, List.take_zero, List.drop_succ_cons, List.drop_zero, List.set_cons_zero, List.set_cons_succ, true_or, or_true, and_self, Bool.false_eq_true, Nat.le_refl, Option.bind_some, Option.map_some, Option.getD_some, Option.isSome_some, List.map_cons, List.map_nil, List.cons_append, List.nil_append, List.append_nil, List.getElem?_cons_zero, List.getElem?_cons_succ, eq_self, Int.reduceLT, Int.reduceLE, Int.reduceNeg, Int.reduceEq, e7, rix4, rb4, ro4, qk, qk0, tk0, gp, gw, gb]
            refine tail_step [(11, [], [12, 13, 14], false)] (by kernel_rfl) (by kernel_rfl) (a_cons (by simp only [List.filterMap_cons, List.filterMap_nil, List.getElem?_cons_zero, List.getElem?_cons_succ]; rfl) (by kernel_rfl) ?_ trivial)
            simp (disch := omega) only [VW, VY, VZ, VA, VB, VC, VE, TY, ↓reduceIte, Nat.reduceEqDiff, Nat.reduceAdd, Nat.reduceMul, Nat.reduceSub, Nat.reduceLeDiff, List.length_cons, List.length_nil, List.length_append, List.append_assoc, List.take_succ_cons, List.take_zero, List.drop_succ_cons, List.drop_zero, List.set_cons_zero, List.set_cons_succ, true_or, or_true, and_self, Bool.false_eq_true, Nat.le_refl, Option.bind_some, Option.map_some, Option.getD_some, Option.isSome_some, List.map_cons, List.map_nil, List.cons_append, List.nil_append, List.append_nil, List.getElem?_cons_zero, List.getElem?_cons_succ, eq_self, Int.reduceLT, Int.reduceLE, Int.reduceNeg, Int.reduceEq, gp, gw, gb, zp, zw, zb, rb4, ro4]
            refine tail_step [(12, [13], [14], false)] (by kernel_rfl) (by kernel_rfl) (a_cons (by simp only [List.filterMap_cons, List.filterMap_nil, List.getElem?_cons_zero, List.getElem?_cons_succ]; rfl) (by kernel_rfl) ?_ trivial)
            simp (disch := omega) only [VW, VY, VZ, VA, VB, VC, VE, TY, ↓reduceIte, Nat.reduceEqDiff, Nat.reduceAdd, Nat.reduceMul, Nat.reduceSub, Nat.reduceLeDiff, List.length_cons, List.length_nil, List.length_append, List.append_assoc, List.take_succ_cons, List.take_zero, List.drop_succ_cons, List.drop_zero, List.set_cons_zero, List.set_cons_succ, true_or, or_true, and_self, Bool.false_eq_true, Nat.le_refl, Option.bind_some, Option.map_some, Option.getD_some, Option.isSome_some, List.map_cons, List.map_nil, List.cons_append, List.nil_append, List.append_nil, List.getElem?_cons_zero, List.getElem?_cons_succ, eq_self, Int.reduceLT, Int.reduceLE, Int.reduceNeg, Int.reduceEq, gp, gw, gb, zp, zw, zb, rb4, ro4]
            have sq := ((u.pull 5 rfl).pull 2 rfl).swap
            refine sep_append (y := b) sq app_two (by simp) te22 tk38 rfl (by decide) (by simp only []; omega) fun vn' h5 u => ?_
            have gp := (u.pull 7 rfl).rd
            have gw := (u.pull 2 rfl).rd
            have gb := (u.pull 1 rfl).rdAll (n := 3) rfl
            have hc := u.row.isRow.cells
            simp (disch := omega) only [VW, VY, VZ, VA, VB, VC, VE, TY, ↓reduceIte, Nat.reduceEqDiff, Nat.reduceAdd, Nat.reduceMul, Nat.reduceSub, Nat.reduceLeDiff, List.length_cons, List.length_nil, List.length_append, List.append_assoc, List.take_succ_cons, List.take_zero, List.drop_succ_cons, List.drop_zero, List.set_cons_zero, List.set_cons_succ, true_or, or_true, and_self, Bool.false_eq_true, Nat.le_refl, Option.bind_some, Option.map_some, Option.getD_some, Option.isSome_some, List.map_cons, List.map_nil, List.cons_append, List.nil_append, List.append_nil, List.getElem?_cons_zero, List.getElem?_cons_succ, eq_self, Int.reduceLT, Int.reduceLE, Int.reduceNeg, Int.reduceEq, gp, gw, gb, hc, rb4, ro4]
            refine tail_step [(14, [], [], true)] (by kernel_rfl) (by kernel_rfl) (a_cut (by simp only [List.filterMap_cons, List.filterMap_nil, List.getElem?_cons_zero, List.getElem?_cons_succ]; rfl) (by kernel_rfl) ?_ trivial)
            simp (disch := omega) only [VW, VY, VZ, VA, VB, VC, VE, TY, ↓reduceIte, Nat.reduceEqDiff, Nat.reduceAdd, Nat.reduceMul, Nat.reduceSub, Nat.reduceLeDiff, List.length_cons, List.length_nil, List.length_append, List.append_assoc, List.take_succ_cons, List.take_zero, List.drop_succ_cons, List.drop_zero, List.set_cons_zero, List.set_cons_succ, true_or, or_true, and_self, Bool.false_eq_true, Nat.le_refl, Option.bind_some, Option.map_some, Option.getD_some, Option.isSome_some, List.map_cons, List.map_nil, List.cons_append, List.nil_append, List.append_nil, List.getElem?_cons_zero, List.getElem?_cons_succ, eq_self, Int.reduceLT, Int.reduceLE, Int.reduceNeg, Int.reduceEq, gp, gw, gb, hc, rb4, ro4]
            refine sep_store (u.pull 2 rfl) (by simp) fun h6 u => ?_
            have u := u.as (ds := [v0, v1, vn', v3, .int .i64 w.steps]) (by simp [t_put])
            simp (disch := omega) only [VW, VY, VZ, VA, VB, VC, VE, TY, ↓reduceIte, Nat.reduceEqDiff, Nat.reduceAdd, Nat.reduceMul, Nat.reduceSub, Nat.reduceLeDiff, List.length_cons, List.length_nil, List.length_append, List.append_assoc, List.take_succ_cons, List.take_zero, List.drop_succ_cons, List.drop_zero, List.set_cons_zero, List.set_cons_succ, true_or, or_true, and_self, Bool.false_eq_true, Nat.le_refl, Option.bind_some, Option.map_some, Option.getD_some, Option.isSome_some, List.map_cons, List.map_nil, List.cons_append, List.nil_append, List.append_nil, List.getElem?_cons_zero, List.getElem?_cons_succ, eq_self, Int.reduceLT, Int.reduceLE, Int.reduceNeg, Int.reduceEq, e0, e1, e4, e6, e7, e24, e25, e26, wrap_in]
            have u := (u.pull 2 rfl).tail
            exact ⟨_, by omega, j + 2, v0, v1, vn', v3, putW w 2 b, by simp; omega, by omega, rfl, hstep, ⟨by simp [putW]; omega, by simp [putW]; omega, by simp [putW]; omega, by simp [putW]; omega⟩, hst, (((u.pull 3 rfl).pull 3 rfl).pull 2 rfl)⟩
          | 3, _ =>
            have qk : ((3 : Nat) : Int) < ((4 : Nat) : Int) := by decide
            have qk0 : (0 : Int) ≤ ((3 : Nat) : Int) := by decide
            have tk0 : ((3 : Nat) : Int).toNat = 3 := rfl
            have cc := (u.pull 6 rfl).row.isRow.cells
            simp (disch := omega) only [VW, VY, VZ, VA, VB, VC, VE, TY, ↓reduceIte, Nat.reduceEqDiff, Nat.reduceAdd, Nat.reduceMul, Nat.reduceSub, Nat.reduceLeDiff, List.length_cons, List.length_nil, List.length_append, List.append_assoc, List.take_succ_cons, List.take_zero, List.drop_succ_cons, List.drop_zero, List.set_cons_zero, List.set_cons_succ, true_or, or_true, and_self, Bool.false_eq_true, Nat.le_refl, Option.bind_some, Option.map_some, Option.getD_some, Option.isSome_some, List.map_cons, List.map_nil, List.cons_append, List.nil_append, List.append_nil, List.getElem?_cons_zero, List.getElem?_cons_succ, eq_self, Int.reduceLT, Int.reduceLE, Int.reduceNeg, Int.reduceEq, kn]
            refine draw_tail [0, 1, 2, 3, 4, 5, 6, 7, 8, 9, 10] [11, 12, 13, 14] (by kernel_rfl) (by simp only [List.filterMap_cons, List.filterMap_nil, List.getElem?_cons_zero, List.getElem?_cons_succ]; rfl) ?_
            simp (disch := omega) only [VW, VY, VZ, VA, VB, VC, VE, TY, ↓reduceIte, Nat.reduceEqDiff, Nat.reduceAdd, Nat.reduceMul, Nat.reduceSub, Nat.reduceLeDiff, List.length_cons, List.length_nil, List.length_append, List.append_assoc, List.take_succ_cons, List.take_zero, List.drop_succ_cons, List.drop_zero, List.set_cons_zero, List.set_cons_succ, true_or, or_true, and_self, Bool.false_eq_true, Nat.le_refl, Option.bind_some, Option.map_some, Option.getD_some, Option.isSome_some, List.map_cons, List.map_nil, List.cons_append, List.nil_append, List.append_nil, List.getElem?_cons_zero, List.getElem?_cons_succ, eq_self, Int.reduceLT, Int.reduceLE, Int.reduceNeg, Int.reduceEq, e7, rix4, rb4, ro4, qk, qk0, tk0, gp, gw, gb]
            refine tail_step [(11, [], [12, 13, 14], false)] (by kernel_rfl) (by kernel_rfl) (a_cons (by simp only [List.filterMap_cons, List.filterMap_nil, List.getElem?_cons_zero, List.getElem?_cons_succ]; rfl) (by kernel_rfl) ?_ trivial)
            simp (disch := omega) only [VW, VY, VZ, VA, VB, VC, VE, TY, ↓reduceIte, Nat.reduceEqDiff, Nat.reduceAdd, Nat.reduceMul, Nat.reduceSub, Nat.reduceLeDiff, List.length_cons, List.length_nil, List.length_append, List.append_assoc, List.take_succ_cons, List.take_zero, List.drop_succ_cons, List.drop_zero, List.set_cons_zero, List.set_cons_succ, true_or, or_true, and_self, Bool.false_eq_true, Nat.le_refl, Option.bind_some, Option.map_some, Option.getD_some, Option.isSome_some, List.map_cons, List.map_nil, List.cons_append, List.nil_append, List.append_nil, List.getElem?_cons_zero, List.getElem?_cons_succ, eq_self, Int.reduceLT, Int.reduceLE, Int.reduceNeg, Int.reduceEq, gp, gw, gb, zp, zw, zb, rb4, ro4]
            refine tail_step [(12, [13], [14], false)] (by kernel_rfl) (by kernel_rfl) (a_cons (by simp only [List.filterMap_cons, List.filterMap_nil, List.getElem?_cons_zero, List.getElem?_cons_succ]; rfl) (by kernel_rfl) ?_ trivial)
            simp (disch := omega) only [VW, VY, VZ, VA, VB, VC, VE, TY, ↓reduceIte, Nat.reduceEqDiff, Nat.reduceAdd, Nat.reduceMul, Nat.reduceSub, Nat.reduceLeDiff, List.length_cons, List.length_nil, List.length_append, List.append_assoc, List.take_succ_cons, List.take_zero, List.drop_succ_cons, List.drop_zero, List.set_cons_zero, List.set_cons_succ, true_or, or_true, and_self, Bool.false_eq_true, Nat.le_refl, Option.bind_some, Option.map_some, Option.getD_some, Option.isSome_some, List.map_cons, List.map_nil, List.cons_append, List.nil_append, List.append_nil, List.getElem?_cons_zero, List.getElem?_cons_succ, eq_self, Int.reduceLT, Int.reduceLE, Int.reduceNeg, Int.reduceEq, gp, gw, gb, zp, zw, zb, rb4, ro4]
            have sq := ((u.pull 6 rfl).pull 2 rfl).swap
            refine sep_append (y := b) sq app_two (by simp) te22 tk38 rfl (by decide) (by simp only []; omega) fun vn' h5 u => ?_
            have gp := (u.pull 7 rfl).rd
            have gw := (u.pull 2 rfl).rd
            have gb := (u.pull 1 rfl).rdAll (n := 3) rfl
            have hc := u.row.isRow.cells
            simp (disch := omega) only [VW, VY, VZ, VA, VB, VC, VE, TY, ↓reduceIte, Nat.reduceEqDiff, Nat.reduceAdd, Nat.reduceMul, Nat.reduceSub, Nat.reduceLeDiff, List.length_cons, List.length_nil, List.length_append, List.append_assoc, List.take_succ_cons, List.take_zero, List.drop_succ_cons, List.drop_zero, List.set_cons_zero, List.set_cons_succ, true_or, or_true, and_self, Bool.false_eq_true, Nat.le_refl, Option.bind_some, Option.map_some, Option.getD_some, Option.isSome_some, List.map_cons, List.map_nil, List.cons_append, List.nil_append, List.append_nil, List.getElem?_cons_zero, List.getElem?_cons_succ, eq_self, Int.reduceLT, Int.reduceLE, Int.reduceNeg, Int.reduceEq, gp, gw, gb, hc, rb4, ro4]
            refine tail_step [(14, [], [], true)] (by kernel_rfl) (by kernel_rfl) (a_cut (by simp only [List.filterMap_cons, List.filterMap_nil, List.getElem?_cons_zero, List.getElem?_cons_succ]; rfl) (by kernel_rfl) ?_ trivial)
            simp (disch := omega) only [VW, VY, VZ, VA, VB, VC, VE, TY, ↓reduceIte, Nat.reduceEqDiff, Nat.reduceAdd, Nat.reduceMul, Nat.reduceSub, Nat.reduceLeDiff, List.length_cons, List.length_nil, List.length_append, List.append_assoc, List.take_succ_cons, List.take_zero, List.drop_succ_cons, List.drop_zero, List.set_cons_zero, List.set_cons_succ, true_or, or_true, and_self, Bool.false_eq_true, Nat.le_refl, Option.bind_some, Option.map_some, Option.getD_some, Option.isSome_some, List.map_cons, List.map_nil, List.cons_append, List.nil_append, List.append_nil, List.getElem?_cons_zero, List.getElem?_cons_succ, eq_self, Int.reduceLT, Int.reduceLE, Int.reduceNeg, Int.reduceEq, gp, gw, gb, hc, rb4, ro4]
            refine sep_store (u.pull 2 rfl) (by simp) fun h6 u => ?_
            have u := u.as (ds := [v0, v1, v2, vn', .int .i64 w.steps]) (by simp [t_put])
            simp (disch := omega) only [VW, VY, VZ, VA, VB, VC, VE, TY, ↓reduceIte, Nat.reduceEqDiff, Nat.reduceAdd, Nat.reduceMul, Nat.reduceSub, Nat.reduceLeDiff, List.length_cons, List.length_nil, List.length_append, List.append_assoc, List.take_succ_cons, List.take_zero, List.drop_succ_cons, List.drop_zero, List.set_cons_zero, List.set_cons_succ, true_or, or_true, and_self, Bool.false_eq_true, Nat.le_refl, Option.bind_some, Option.map_some, Option.getD_some, Option.isSome_some, List.map_cons, List.map_nil, List.cons_append, List.nil_append, List.append_nil, List.getElem?_cons_zero, List.getElem?_cons_succ, eq_self, Int.reduceLT, Int.reduceLE, Int.reduceNeg, Int.reduceEq, e0, e1, e4, e6, e7, e24, e25, e26, wrap_in]
            have u := (u.pull 2 rfl).tail
            exact ⟨_, by omega, j + 2, v0, v1, v2, vn', putW w 3 b, by simp; omega, by omega, rfl, hstep, ⟨by simp [putW]; omega, by simp [putW]; omega, by simp [putW]; omega, by simp [putW]; omega⟩, hst, ((((u.pull 4 rfl).pull 4 rfl).pull 4 rfl).pull 3 rfl)⟩
  · obtain rfl : i = r.length + 1 := by omega
    have q1 : ¬ ((r.length + 1 : Nat) : Int) < ((r.length + 1 : Nat) : Int) := by omega
    rw [hw] at hQ
    have pw : At h' (h.length + 1) 0 w := ⟨_, u.rdAll (n := 5) rfl, mk_Wk (u.pull 1 rfl).row (u.pull 2 rfl).row (u.pull 3 rfl).row (u.pull 4 rfl).row hst⟩
    have pl0 := (u.pull 1 rfl).row.isRow.plain
    have pl1 := (u.pull 2 rfl).row.isRow.plain
    have pl2 := (u.pull 3 rfl).row.isRow.plain
    have pl3 := (u.pull 4 rfl).row.isRow.plain
    simp (disch := omega) only [VW, VY, VZ, VA, VB, VC, VE, TY, ↓reduceIte, Nat.reduceEqDiff, Nat.reduceAdd, Nat.reduceMul, Nat.reduceSub, Nat.reduceLeDiff, List.length_cons, List.length_nil, List.length_append, List.append_assoc, List.take_succ_cons, List.take_zero, List.drop_succ_cons, List.drop_zero, List.set_cons_zero, List.set_cons_succ, true_or, or_true, and_self, Bool.false_eq_true, Nat.le_refl, Option.bind_some, Option.map_some, Option.getD_some, Option.isSome_some, List.map_cons, List.map_nil, List.cons_append, List.nil_append, List.append_nil, List.getElem?_cons_zero, List.getElem?_cons_succ, eq_self, Int.reduceLT, Int.reduceLE, Int.reduceNeg, Int.reduceEq, q1, e1, e6]
    refine .inl ⟨by kernel_rfl, ?_⟩; refine isWork_c pw fun h2 E2 => ?_
    have u := u.mono E2
    cases hm : workM w t with
    | false =>
      have hf : finM s.data.toList t (some w) = none := by unfold finM; simp [hm]
      rw [hf] at hQ
      simp (disch := omega) only [VW, VY, VZ, VA, VB, VC, VE, TY, ↓reduceIte, Nat.reduceEqDiff, Nat.reduceAdd, Nat.reduceMul, Nat.reduceSub, Nat.reduceLeDiff, List.length_cons, List.length_nil, List.length_append, List.append_assoc, List.take_succ_cons, List.take_zero, List.drop_succ_cons, List.drop_zero, List.set_cons_zero, List.set_cons_succ, true_or, or_true, and_self, Bool.false_eq_true, Nat.le_refl, Option.bind_some, Option.map_some, Option.getD_some, Option.isSome_some, List.map_cons, List.map_nil, List.cons_append, List.nil_append, List.append_nil, List.getElem?_cons_zero, List.getElem?_cons_succ, eq_self, Int.reduceLT, Int.reduceLE, Int.reduceNeg, Int.reduceEq, e4]
      refine sep_store (u.pull 7 rfl) (by simp) fun h5 u => ?_
      have u := u.as (ds := [.slice none 0 0, .slice none 0 0, .slice none 0 0, .slice none 0 0, .int .i64 0]) (by simp [t_put])
      have gz := u.rdAll (n := 5) rfl
      simp (disch := omega) only [VW, VY, VZ, VA, VB, VC, VE, TY, ↓reduceIte, Nat.reduceEqDiff, Nat.reduceAdd, Nat.reduceMul, Nat.reduceSub, Nat.reduceLeDiff, List.length_cons, List.length_nil, List.length_append, List.append_assoc, List.take_succ_cons, List.take_zero, List.drop_succ_cons, List.drop_zero, List.set_cons_zero, List.set_cons_succ, true_or, or_true, and_self, Bool.false_eq_true, Nat.le_refl, Option.bind_some, Option.map_some, Option.getD_some, Option.isSome_some, List.map_cons, List.map_nil, List.cons_append, List.nil_append, List.append_nil, List.getElem?_cons_zero, List.getElem?_cons_succ, eq_self, Int.reduceLT, Int.reduceLE, Int.reduceNeg, Int.reduceEq, gz, e4]
      exact hQ _ _ (wk_zero u).head
    | true =>
      simp (disch := omega) only [VW, VY, VZ, VA, VB, VC, VE, TY, ↓reduceIte, Nat.reduceEqDiff, Nat.reduceAdd, Nat.reduceMul, Nat.reduceSub, Nat.reduceLeDiff, List.length_cons, List.length_nil, List.length_append, List.append_assoc, List.take_succ_cons, List.take_zero, List.drop_succ_cons, List.drop_zero, List.set_cons_zero, List.set_cons_succ, true_or, or_true, and_self, Bool.false_eq_true, Nat.le_refl, Option.bind_some, Option.map_some, Option.getD_some, Option.isSome_some, List.map_cons, List.map_nil, List.cons_append, List.nil_append, List.append_nil, List.getElem?_cons_zero, List.getElem?_cons_succ, eq_self, Int.reduceLT, Int.reduceLE, Int.reduceNeg, Int.reduceEq, e6]
      refine .inl ⟨by kernel_rfl, ?_⟩; refine workText_c (pw.ext E2) hm fun h3 E3 => ?_
      have u := u.mono E3
      by_cases k : bL (workL w) = s
      · have hf : finM s.data.toList t (some w) = some w := by unfold finM; simp [hm, bL_eq.1 k]
        rw [hf] at hQ
        have ga := u.rdAll (n := 5) rfl
        simp (disch := omega) only [VW, VY, VZ, VA, VB, VC, VE, TY, ↓reduceIte, Nat.reduceEqDiff, Nat.reduceAdd, Nat.reduceMul, Nat.reduceSub, Nat.reduceLeDiff, List.length_cons, List.length_nil, List.length_append, List.append_assoc, List.take_succ_cons, List.take_zero, List.drop_succ_cons, List.drop_zero, List.set_cons_zero, List.set_cons_succ, true_or, or_true, and_self, Bool.false_eq_true, Nat.le_refl, Option.bind_some, Option.map_some, Option.getD_some, Option.isSome_some, List.map_cons, List.map_nil, List.cons_append, List.nil_append, List.append_nil, List.getElem?_cons_zero, List.getElem?_cons_succ, eq_self, Int.reduceLT, Int.reduceLE, Int.reduceNeg, Int.reduceEq, e0, k, e4, e6, ga]
        refine sep_store (u.pull 7 rfl) (by simp) fun h5 u => ?_
        have u := u.as (ds := [v0, v1, v2, v3, .int .i64 w.steps]) (by simp [t_put])
        have gz := u.rdAll (n := 5) rfl
        simp (disch := omega) only [VW, VY, VZ, VA, VB, VC, VE, TY, ↓reduceIte, Nat.reduceEqDiff, Nat.reduceAdd, Nat.reduceMul, Nat.reduceSub, Nat.reduceLeDiff, List.length_cons, List.length_nil, List.length_append, List.append_assoc, List.take_succ_cons, List.take_zero, List.drop_succ_cons, List.drop_zero, List.set_cons_zero, List.set_cons_succ, true_or, or_true, and_self, Bool.false_eq_true, Nat.le_refl, Option.bind_some, Option.map_some, Option.getD_some, Option.isSome_some, List.map_cons, List.map_nil, List.cons_append, List.nil_append, List.append_nil, List.getElem?_cons_zero, List.getElem?_cons_succ, eq_self, Int.reduceLT, Int.reduceLE, Int.reduceNeg, Int.reduceEq, gz, e4]
        exact hQ _ _ (wk_join hst u.tail.tail).head
      · have hf : finM s.data.toList t (some w) = none := if_neg fun c => k (bL_eq.2 c.2)
        rw [hf] at hQ
        simp (disch := omega) only [VW, VY, VZ, VA, VB, VC, VE, TY, ↓reduceIte, Nat.reduceEqDiff, Nat.reduceAdd, Nat.reduceMul, Nat.reduceSub, Nat.reduceLeDiff, List.length_cons, List.length_nil, List.length_append, List.append_assoc, List.take_succ_cons, List.take_zero, List.drop_succ_cons, List.drop_zero, List.set_cons_zero, List.set_cons_succ, true_or, or_true, and_self, Bool.false_eq_true, Nat.le_refl, Option.bind_some, Option.map_some, Option.getD_some, Option.isSome_some, List.map_cons, List.map_nil, List.cons_append, List.nil_append, List.append_nil, List.getElem?_cons_zero, List.getElem?_cons_succ, eq_self, Int.reduceLT, Int.reduceLE, Int.reduceNeg, Int.reduceEq, e0, k, e4]
        refine sep_store (u.pull 7 rfl) (by simp) fun h5 u => ?_
        have u := u.as (ds := [.slice none 0 0, .slice none 0 0, .slice none 0 0, .slice none 0 0, .int .i64 0]) (by simp [t_put])
        have gz := u.rdAll (n := 5) rfl
        simp (disch := omega) only [VW, VY, VZ, VA, VB, VC, VE, TY, ↓reduceIte, Nat.reduceEqDiff, Nat.reduceAdd, Nat.reduceMul, Nat.reduceSub, Nat.reduceLeDiff, List.length_cons, List.length_nil, List.length_append, List.append_assoc, List.take_succ_cons, List.take_zero, List.drop_succ_cons, List.drop_zero, List.set_cons_zero, List.set_cons_succ, true_or, or_true, and_self, Bool.false_eq_true, Nat.le_refl, Option.bind_some, Option.map_some, Option.getD_some, Option.isSome_some, List.map_cons, List.map_nil, List.cons_append, List.nil_append, List.append_nil, List.getElem?_cons_zero, List.getElem?_cons_succ, eq_self, Int.reduceLT, Int.reduceLE, Int.reduceNeg, Int.reduceEq, gz, e4]
        exact hQ _ _ (wk_zero u).head
end Go.Proofs
