/- Contracts of functions, facts of types, or the plain law behind one statement (own work): H3. Conditions: those told in each theorem. -/
import Derived.Test.YtlnephhhcofilaaGreatH2
set_option linter.all false
set_option linter.unusedSimpArgs false
set_option linter.unusedVariables false
set_option maxRecDepth 4000
namespace Go.Proofs
open Go Go.V
open Nat (reduceEqDiff reduceAdd reduceMul reduceSub reduceLeDiff)
open Int (reduceLT reduceLE reduceNeg reduceEq)
theorem szBoxS_c {l : List Bx} {left : Int} {v : Value} {h : Heap} {Q : Value → Heap → Prop} (hl : Row h l v) (h0 : 0 ≤ left) (h1 : left ≤ 1000000)
    (hQ : ∀ h', Ext h h' → Q (.int .i64 (szR left (Siz.siz l))) h') : CallsV Tryz.prog 15 [v, .int .i64 left] h Q := by
  refine CallsV.start Tryz.func15 rfl (by rw [Tryz.results15]) (by kernel_rfl) (by rw [Tryz.ntmps15]; simp) ?_
  have hle := hl.le
  have hs := siz_list l
  simp (disch := omega) only [WA, ↓reduceIte, reduceEqDiff, reduceAdd, reduceMul, reduceSub, reduceLeDiff, reduceLT, reduceLE, reduceNeg, reduceEq, hl.isRow.len, wrap_in]
  by_cases c : left < (l.length : Int)
  · have c' : left - (l.length : Int) < 0 := by omega
    simp (disch := omega) only [WA, ↓reduceIte, reduceEqDiff, reduceAdd, reduceMul, reduceSub, reduceLeDiff, reduceLT, reduceLE, reduceNeg, reduceEq, c']
    rw [szR_lt (by omega)] at hQ
    exact hQ _ (.refl _)
  · have c' : ¬ left - (l.length : Int) < 0 := by omega
    simp (disch := omega) only [WA, ↓reduceIte, reduceEqDiff, reduceAdd, reduceMul, reduceSub, reduceLeDiff, reduceLT, reduceLE, reduceNeg, reduceEq, c']
    refine loop_rule (fun n e h' => ∃ (i : Nat), e 0 = v ∧ e 5 = .int .i64 i ∧ e 1 = .int .i64 (left - (l.length : Int) - (((l.take i).map Siz.siz).sum : Nat)) ∧ (((l.take i).map Siz.siz).sum : Nat) ≤ left - (l.length : Int) ∧ i ≤ l.length ∧ n = l.length - i ∧ Ext h h') ?_ l.length _ _ ⟨0, rfl, rfl, by simp [upd], by simp; omega, Nat.zero_le _, rfl, .refl _⟩
    rintro n e h1 ⟨i, e0, ei, el, hle2, hi, rfl, E1⟩
    simp (disch := omega) only [WA, ↓reduceIte, reduceEqDiff, reduceAdd, reduceMul, reduceSub, reduceLeDiff, reduceLT, reduceLE, reduceNeg, reduceEq, e0, ei, hl.isRow.len]
    by_cases hlt : i < l.length
    · obtain ⟨x, hx⟩ := get_some hlt
      have c1 : (i : Int) < (l.length : Int) := by omega
      have st := siz_take hx
      have sl := siz_take_le l (i + 1)
      obtain ⟨_, x3, x4⟩ := Row.at (hl.mono E1) hx
      rw [Bx.sz] at x3
      simp (disch := omega) only [WA, ↓reduceIte, reduceEqDiff, reduceAdd, reduceMul, reduceSub, reduceLeDiff, reduceLT, reduceLE, reduceNeg, reduceEq, e0, ei, el, c1, hl.isRow.ix, x3]
      refine .inl ⟨by kernel_rfl, ?_⟩; refine szBox_c x4 (by omega) (by omega) fun h2 E2 => ?_
      by_cases c2 : left - (l.length : Int) - (((l.take i).map Siz.siz).sum : Nat) < (Siz.siz x : Int)
      · rw [szR_lt c2]
        simp (disch := omega) only [WA, ↓reduceIte, reduceEqDiff, reduceAdd, reduceMul, reduceSub, reduceLeDiff, reduceLT, reduceLE, reduceNeg, reduceEq]
        rw [szR_lt (by omega)] at hQ
        exact hQ _ (E1.trans E2)
      · rw [szR_ge c2]
        have c3 : ¬ left - (l.length : Int) - (((l.take i).map Siz.siz).sum : Nat) - (Siz.siz x : Int) < 0 := by omega
        simp (disch := omega) only [WA, ↓reduceIte, reduceEqDiff, reduceAdd, reduceMul, reduceSub, reduceLeDiff, reduceLT, reduceLE, reduceNeg, reduceEq, c3, e0, ei, wrap_in]
        exact ⟨_, by omega, i + 1, by simp, by congr 1; omega, by omega, by omega, rfl, E1.trans E2⟩
    · obtain rfl : i = l.length := by omega
      have c1 : ¬ (l.length : Int) < (l.length : Int) := by omega
      rw [List.take_length] at hle2 el
      simp (disch := omega) only [WA, ↓reduceIte, reduceEqDiff, reduceAdd, reduceMul, reduceSub, reduceLeDiff, reduceLT, reduceLE, reduceNeg, reduceEq, e0, ei, el, c1]
      rw [szR_ge (by omega)] at hQ
      have e2 : left - (Siz.siz l : Int) = left - (l.length : Int) - ((l.map Siz.siz).sum : Nat) := by omega
      rw [e2] at hQ
      exact hQ _ E1
theorem toBoxS_c {l : List Bx} {b : Bool} {a : Value} {h : Heap} {Q : Value → Heap → Prop} (hl : Row h l a) (hn : Siz.siz l ≤ 1000000)
    (hQ : ∀ v h', Sep h h' [givA b l [v]] → Q v h') : CallsV Tryz.prog 17 [a, .bool b] h Q := by
  refine CallsV.start Tryz.func17 rfl (by rw [Tryz.results17]) (by kernel_rfl) (by rw [Tryz.ntmps17]; simp) ?_
  have hs := siz_list l
  have hm : ∀ {i : Nat} {x : Bx}, l[i]? = some x → Siz.siz x ≤ 1000000 := fun hx => by have := siz_mem hx; omega
  have hroom := roomM_le l.length
  by_cases hb : b = true ∧ l = []
  · obtain ⟨rfl, rfl⟩ := hb
    simp (disch := omega) only [WA, ↓reduceIte, reduceEqDiff, reduceAdd, reduceMul, reduceSub, reduceLeDiff, reduceLT, reduceLE, reduceNeg, reduceEq, hl.isRow.len]
    exact hQ _ _ (Sep.givNil (.refl _))
  have hne : b = true → ¬ (l.length : Int) = 0 := fun hb1 => by have : l ≠ [] := fun e => hb ⟨hb1, e⟩; have := List.length_pos_iff.2 this; omega
  cases b
  case' false => simp (disch := omega) only [WA, ↓reduceIte, reduceEqDiff, reduceAdd, reduceMul, reduceSub, reduceLeDiff, reduceLT, reduceLE, reduceNeg, reduceEq, hl.isRow.len]
  case' true => simp (disch := omega) only [WA, ↓reduceIte, reduceEqDiff, reduceAdd, reduceMul, reduceSub, reduceLeDiff, reduceLT, reduceLE, reduceNeg, reduceEq, hl.isRow.len, hne rfl]
  case false =>
    refine .inl ⟨by kernel_rfl, roomBehind_c (by omega) ?_⟩
    simp (disch := omega) only [WA, ↓reduceIte, reduceEqDiff, reduceAdd, reduceMul, reduceSub, reduceLeDiff, reduceLT, reduceLE, reduceNeg, reduceEq, wrap_in]
    rw [← Int.natCast_add]
    refine sep_make (α := (Gd false Bx)) ⟨false, ⟨0, [], []⟩⟩ (Sep.nil (.refl h)) te40 tk32 (fun h => zero_Bx h) (by decide) (by simp only []; omega) fun vf h0 s hcap hnv => ?_
    simp (disch := omega) only [WA, ↓reduceIte, reduceEqDiff, reduceAdd, reduceMul, reduceSub, reduceLeDiff, reduceLT, reduceLE, reduceNeg, reduceEq]
    refine loop_rule (fun n e h' => ∃ (i : Nat), e 0 = a ∧ e 1 = .bool false ∧ e 5 = vf ∧ e 6 = .int .i64 i ∧ i ≤ l.length ∧ n = l.length - i ∧ Sep h h' [ownA (α := (Gd false Bx)) 32 ((l.take i).map (fun x => (⟨true, x⟩ : (Gd false Bx))) ++ List.replicate (l.length + roomM l.length - i) (⟨false, ⟨0, [], []⟩⟩ : (Gd false Bx))) vf]) ?_ l.length _ _ ⟨0, rfl, rfl, rfl, rfl, Nat.zero_le _, rfl, by simpa using s⟩
    rintro n e h1 ⟨i, e0, e1, eo, ei, hi, rfl, s⟩
    have E1 := s.ext
    have hlen : ((l.take i).map (fun x => (⟨true, x⟩ : (Gd false Bx))) ++ List.replicate (l.length + roomM l.length - i) (⟨false, ⟨0, [], []⟩⟩ : (Gd false Bx))).length = l.length + roomM l.length := by simp; omega
    simp (disch := omega) only [WA, ↓reduceIte, reduceEqDiff, reduceAdd, reduceMul, reduceSub, reduceLeDiff, reduceLT, reduceLE, reduceNeg, reduceEq, e0, eo, ei, hl.isRow.len]
    by_cases hlt : i < l.length
    · obtain ⟨x, hx⟩ := get_some hlt
      have c1 : (i : Int) < (l.length : Int) := by omega
      obtain ⟨_, x3, x4⟩ := Row.at (hl.mono E1) hx
      rw [Bx.sz] at x3
      simp (disch := omega) only [WA, ↓reduceIte, reduceEqDiff, reduceAdd, reduceMul, reduceSub, reduceLeDiff, reduceLT, reduceLE, reduceNeg, reduceEq, e0, e1, eo, ei, c1, hl.isRow.ix, x3]
      refine .inl ⟨by kernel_rfl, ?_⟩; refine toBox_c (b := false) x4 (hm hx) fun cs2 h2 s2 => ?_
      have hk := s2.gpull
      rw [Bx.sz] at hk
      have s := s.add s2
      have ix := s.tail.row.isRow.ix Tryz.prog
      rw [hlen] at ix
      simp (disch := omega) only [WA, ↓reduceIte, reduceEqDiff, reduceAdd, reduceMul, reduceSub, reduceLeDiff, reduceLT, reduceLE, reduceNeg, reduceEq, e0, e1, eo, ei, ix, hk]
      refine sep_set (α := (Gd false Bx)) (i := i) (y := ⟨true, x⟩) (Sep.swap (Sep.gGd s)) (by omega) fun h3 s => ?_
      simp (disch := omega) only [WA, ↓reduceIte, reduceEqDiff, reduceAdd, reduceMul, reduceSub, reduceLeDiff, reduceLT, reduceLE, reduceNeg, reduceEq, e0, e1, eo, ei, wrap_in]
      rw [show l.length + roomM l.length - i = (l.length + roomM l.length - (i + 1)) + 1 by omega, gd_one hx] at s
      exact ⟨_, by omega, i + 1, by simp, by omega, rfl, s⟩
    · obtain rfl : i = l.length := by omega
      have c1 : ¬ (l.length : Int) < (l.length : Int) := by omega
      simp (disch := omega) only [WA, ↓reduceIte, reduceEqDiff, reduceAdd, reduceMul, reduceSub, reduceLeDiff, reduceLT, reduceLE, reduceNeg, reduceEq, e0, eo, ei, c1, hl.isRow.len]
      refine loop_rule (fun n e h' => ∃ (j : Nat), e 0 = a ∧ e 5 = vf ∧ e 7 = .int .i64 (l.length + j : Nat) ∧ j ≤ roomM l.length ∧ n = roomM l.length - j ∧ Sep h h' [ownA (α := (Gd false Bx)) 32 (l.map (fun x => (⟨true, x⟩ : (Gd false Bx))) ++ List.replicate j (⟨false, Giv.fill⟩ : (Gd false Bx)) ++ List.replicate (roomM l.length - j) (⟨false, ⟨0, [], []⟩⟩ : (Gd false Bx))) vf]) ?_ (roomM l.length) _ _ ⟨0, e0, eo, rfl, Nat.zero_le _, rfl, by simpa using s⟩
      rintro n e h1 ⟨j, e0, eo, ej, hj, rfl, s⟩
      have hlen : (l.map (fun x => (⟨true, x⟩ : (Gd false Bx))) ++ List.replicate j (⟨false, Giv.fill⟩ : (Gd false Bx)) ++ List.replicate (roomM l.length - j) (⟨false, ⟨0, [], []⟩⟩ : (Gd false Bx))).length = l.length + roomM l.length := by simp; omega
      have len := s.row.isRow.len Tryz.prog
      rw [hlen] at len
      simp (disch := omega) only [WA, ↓reduceIte, reduceEqDiff, reduceAdd, reduceMul, reduceSub, reduceLeDiff, reduceLT, reduceLE, reduceNeg, reduceEq, e0, eo, ej, len]
      by_cases hlt : j < roomM l.length
      · have c1 : ((l.length + j : Nat) : Int) < ((l.length + roomM l.length : Nat) : Int) := by omega
        simp (disch := omega) only [WA, ↓reduceIte, reduceEqDiff, reduceAdd, reduceMul, reduceSub, reduceLeDiff, reduceLT, reduceLE, reduceNeg, reduceEq, e0, eo, ej, c1]
        refine .inl ⟨by kernel_rfl, ?_⟩; refine fillerBox_c fun cs2 h2 s2 => ?_
        have hk := s2.rlen
        rw [Bx.sz] at hk
        have s := s.add s2
        have ix := s.tail.row.isRow.ix Tryz.prog
        rw [hlen] at ix
        simp (disch := omega) only [WA, ↓reduceIte, reduceEqDiff, reduceAdd, reduceMul, reduceSub, reduceLeDiff, reduceLT, reduceLE, reduceNeg, reduceEq, e0, eo, ej, ix, hk]
        refine sep_set (α := (Gd false Bx)) (i := l.length + j) (y := ⟨false, Giv.fill⟩) (Sep.swap (Sep.rGd s)) (by omega) fun h3 s => ?_
        simp (disch := omega) only [WA, ↓reduceIte, reduceEqDiff, reduceAdd, reduceMul, reduceSub, reduceLeDiff, reduceLT, reduceLE, reduceNeg, reduceEq, e0, eo, ej, wrap_in]
        rw [show roomM l.length - j = (roomM l.length - (j + 1)) + 1 by omega, gd_two] at s
        exact ⟨_, by omega, j + 1, by simp; omega, by omega, rfl, by simpa only [List.append_assoc] using s⟩
      · obtain rfl : j = roomM l.length := by omega
        have c1 : ¬ ((l.length + roomM l.length : Nat) : Int) < ((l.length + roomM l.length : Nat) : Int) := by omega
        have hcap' : l.length ≤ rowC vf := by rw [hcap]; omega
        simp (disch := omega) only [WA, ↓reduceIte, reduceEqDiff, reduceAdd, reduceMul, reduceSub, reduceLeDiff, reduceLT, reduceLE, reduceNeg, reduceEq, e0, eo, ej, c1, hl.isRow.len, s.row.isRow.sl]
        rw [Nat.sub_self, List.replicate_zero, List.append_nil] at s
        exact hQ _ _ (Sep.givL (l := l) s hcap)
  case true =>
    refine .inl ⟨by kernel_rfl, roomBehind_c (by omega) ?_⟩
    simp (disch := omega) only [WA, ↓reduceIte, reduceEqDiff, reduceAdd, reduceMul, reduceSub, reduceLeDiff, reduceLT, reduceLE, reduceNeg, reduceEq, wrap_in]
    rw [← Int.natCast_add]
    refine sep_make (α := (Gd true Bx)) ⟨false, ⟨0, [], []⟩⟩ (Sep.nil (.refl h)) te40 tk32 (fun h => zero_Bx h) (by decide) (by simp only []; omega) fun vf h0 s hcap hnv => ?_
    simp (disch := omega) only [WA, ↓reduceIte, reduceEqDiff, reduceAdd, reduceMul, reduceSub, reduceLeDiff, reduceLT, reduceLE, reduceNeg, reduceEq]
    refine loop_rule (fun n e h' => ∃ (i : Nat), e 0 = a ∧ e 1 = .bool true ∧ e 5 = vf ∧ e 6 = .int .i64 i ∧ i ≤ l.length ∧ n = l.length - i ∧ Sep h h' [ownA (α := (Gd true Bx)) 32 ((l.take i).map (fun x => (⟨true, x⟩ : (Gd true Bx))) ++ List.replicate (l.length + roomM l.length - i) (⟨false, ⟨0, [], []⟩⟩ : (Gd true Bx))) vf]) ?_ l.length _ _ ⟨0, rfl, rfl, rfl, rfl, Nat.zero_le _, rfl, by simpa using s⟩
    rintro n e h1 ⟨i, e0, e1, eo, ei, hi, rfl, s⟩
    have E1 := s.ext
    have hlen : ((l.take i).map (fun x => (⟨true, x⟩ : (Gd true Bx))) ++ List.replicate (l.length + roomM l.length - i) (⟨false, ⟨0, [], []⟩⟩ : (Gd true Bx))).length = l.length + roomM l.length := by simp; omega
    simp (disch := omega) only [WA, ↓reduceIte, reduceEqDiff, reduceAdd, reduceMul, reduceSub, reduceLeDiff, reduceLT, reduceLE, reduceNeg, reduceEq, e0, eo, ei, hl.isRow.len]
    by_cases hlt : i < l.length
    · obtain ⟨x, hx⟩ := get_some hlt
      have c1 : (i : Int) < (l.length : Int) := by omega
      obtain ⟨_, x3, x4⟩ := Row.at (hl.mono E1) hx
      rw [Bx.sz] at x3
      simp (disch := omega) only [WA, ↓reduceIte, reduceEqDiff, reduceAdd, reduceMul, reduceSub, reduceLeDiff, reduceLT, reduceLE, reduceNeg, reduceEq, e0, e1, eo, ei, c1, hl.isRow.ix, x3]
      refine .inl ⟨by kernel_rfl, ?_⟩; refine toBox_c (b := true) x4 (hm hx) fun cs2 h2 s2 => ?_
      have hk := s2.gpull
      rw [Bx.sz] at hk
      have s := s.add s2
      have ix := s.tail.row.isRow.ix Tryz.prog
      rw [hlen] at ix
      simp (disch := omega) only [WA, ↓reduceIte, reduceEqDiff, reduceAdd, reduceMul, reduceSub, reduceLeDiff, reduceLT, reduceLE, reduceNeg, reduceEq, e0, e1, eo, ei, ix, hk]
      refine sep_set (α := (Gd true Bx)) (i := i) (y := ⟨true, x⟩) (Sep.swap (Sep.gGd s)) (by omega) fun h3 s => ?_
      simp (disch := omega) only [WA, ↓reduceIte, reduceEqDiff, reduceAdd, reduceMul, reduceSub, reduceLeDiff, reduceLT, reduceLE, reduceNeg, reduceEq, e0, e1, eo, ei, wrap_in]
      rw [show l.length + roomM l.length - i = (l.length + roomM l.length - (i + 1)) + 1 by omega, gd_one hx] at s
      exact ⟨_, by omega, i + 1, by simp, by omega, rfl, s⟩
    · obtain rfl : i = l.length := by omega
      have c1 : ¬ (l.length : Int) < (l.length : Int) := by omega
      simp (disch := omega) only [WA, ↓reduceIte, reduceEqDiff, reduceAdd, reduceMul, reduceSub, reduceLeDiff, reduceLT, reduceLE, reduceNeg, reduceEq, e0, eo, ei, c1, hl.isRow.len]
      refine loop_rule (fun n e h' => ∃ (j : Nat), e 0 = a ∧ e 5 = vf ∧ e 7 = .int .i64 (l.length + j : Nat) ∧ j ≤ roomM l.length ∧ n = roomM l.length - j ∧ Sep h h' [ownA (α := (Gd true Bx)) 32 (l.map (fun x => (⟨true, x⟩ : (Gd true Bx))) ++ List.replicate j (⟨false, Giv.fill⟩ : (Gd true Bx)) ++ List.replicate (roomM l.length - j) (⟨false, ⟨0, [], []⟩⟩ : (Gd true Bx))) vf]) ?_ (roomM l.length) _ _ ⟨0, e0, eo, rfl, Nat.zero_le _, rfl, by simpa using s⟩
      rintro n e h1 ⟨j, e0, eo, ej, hj, rfl, s⟩
      have hlen : (l.map (fun x => (⟨true, x⟩ : (Gd true Bx))) ++ List.replicate j (⟨false, Giv.fill⟩ : (Gd true Bx)) ++ List.replicate (roomM l.length - j) (⟨false, ⟨0, [], []⟩⟩ : (Gd true Bx))).length = l.length + roomM l.length := by simp; omega
      have len := s.row.isRow.len Tryz.prog
      rw [hlen] at len
      simp (disch := omega) only [WA, ↓reduceIte, reduceEqDiff, reduceAdd, reduceMul, reduceSub, reduceLeDiff, reduceLT, reduceLE, reduceNeg, reduceEq, e0, eo, ej, len]
      by_cases hlt : j < roomM l.length
      · have c1 : ((l.length + j : Nat) : Int) < ((l.length + roomM l.length : Nat) : Int) := by omega
        simp (disch := omega) only [WA, ↓reduceIte, reduceEqDiff, reduceAdd, reduceMul, reduceSub, reduceLeDiff, reduceLT, reduceLE, reduceNeg, reduceEq, e0, eo, ej, c1]
        refine .inl ⟨by kernel_rfl, ?_⟩; refine fillerBox_c fun cs2 h2 s2 => ?_
        have hk := s2.rlen
        rw [Bx.sz] at hk
        have s := s.add s2
        have ix := s.tail.row.isRow.ix Tryz.prog
        rw [hlen] at ix
        simp (disch := omega) only [WA, ↓reduceIte, reduceEqDiff, reduceAdd, reduceMul, reduceSub, reduceLeDiff, reduceLT, reduceLE, reduceNeg, reduceEq, e0, eo, ej, ix, hk]
        refine sep_set (α := (Gd true Bx)) (i := l.length + j) (y := ⟨false, Giv.fill⟩) (Sep.swap (Sep.rGd s)) (by omega) fun h3 s => ?_
        simp (disch := omega) only [WA, ↓reduceIte, reduceEqDiff, reduceAdd, reduceMul, reduceSub, reduceLeDiff, reduceLT, reduceLE, reduceNeg, reduceEq, e0, eo, ej, wrap_in]
        rw [show roomM l.length - j = (roomM l.length - (j + 1)) + 1 by omega, gd_two] at s
        exact ⟨_, by omega, j + 1, by simp; omega, by omega, rfl, by simpa only [List.append_assoc] using s⟩
      · obtain rfl : j = roomM l.length := by omega
        have c1 : ¬ ((l.length + roomM l.length : Nat) : Int) < ((l.length + roomM l.length : Nat) : Int) := by omega
        have hcap' : l.length ≤ rowC vf := by rw [hcap]; omega
        simp (disch := omega) only [WA, ↓reduceIte, reduceEqDiff, reduceAdd, reduceMul, reduceSub, reduceLeDiff, reduceLT, reduceLE, reduceNeg, reduceEq, e0, eo, ej, c1, hl.isRow.len, s.row.isRow.sl]
        rw [Nat.sub_self, List.replicate_zero, List.append_nil] at s
        exact hQ _ _ (Sep.givL (l := l) s hcap)
theorem eqBoxS_c {l m : List Bx} {v w : Value} {h : Heap} {Q : Value → Heap → Prop} (hl : Row h l v) (hm : Row h m w)
    (hQ : ∀ h', Ext h h' → Q (.bool (decide (l = m))) h') : CallsV Tryz.prog 45 [v, w] h Q := by
  refine CallsV.start Tryz.func45 rfl (by rw [Tryz.results45]) (by kernel_rfl) (by rw [Tryz.ntmps45]; simp) ?_
  have hll := hl.le
  have hml := hm.le
  simp (disch := omega) only [WA, ↓reduceIte, reduceEqDiff, reduceAdd, reduceMul, reduceSub, reduceLeDiff, reduceLT, reduceLE, reduceNeg, reduceEq, hl.isRow.len, hm.isRow.len]
  by_cases hne : l.length = m.length
  · have c0 : (l.length : Int) = (m.length : Int) := by omega
    simp (disch := omega) only [WA, ↓reduceIte, reduceEqDiff, reduceAdd, reduceMul, reduceSub, reduceLeDiff, reduceLT, reduceLE, reduceNeg, reduceEq, c0]
    refine loop_rule (fun n e h' => ∃ (i : Nat), e 0 = v ∧ e 1 = w ∧ e 5 = .int .i64 i ∧ i ≤ l.length ∧ n = l.length - i ∧ Ext h h' ∧ l.take i = m.take i) ?_ l.length _ _ ⟨0, rfl, rfl, rfl, Nat.zero_le _, rfl, .refl _, by simp⟩
    rintro n e h1 ⟨i, e0, e1, ei, hi, rfl, E1, ht⟩
    simp (disch := omega) only [WA, ↓reduceIte, reduceEqDiff, reduceAdd, reduceMul, reduceSub, reduceLeDiff, reduceLT, reduceLE, reduceNeg, reduceEq, e0, e1, ei, hl.isRow.len]
    by_cases hlt : i < l.length
    · obtain ⟨x, hx⟩ := get_some hlt
      obtain ⟨y, hy⟩ := get_some (show i < m.length by omega)
      have c1 : (i : Int) < (l.length : Int) := by omega
      obtain ⟨_, x3, x4⟩ := Row.at (hl.mono E1) hx
      rw [Bx.sz] at x3
      obtain ⟨_, y3, y4⟩ := Row.at (hm.mono E1) hy
      rw [Bx.sz] at y3
      simp (disch := omega) only [WA, ↓reduceIte, reduceEqDiff, reduceAdd, reduceMul, reduceSub, reduceLeDiff, reduceLT, reduceLE, reduceNeg, reduceEq, e0, e1, ei, c1]
      refine draw_id (by kernel_rfl) ?_
      simp (disch := omega) only [WA, ↓reduceIte, reduceEqDiff, reduceAdd, reduceMul, reduceSub, reduceLeDiff, reduceLT, reduceLE, reduceNeg, reduceEq, e0, e1, ei, hl.isRow.ix, hm.isRow.ix, x3, y3]
      refine .inl ⟨by kernel_rfl, ?_⟩; refine eqBox_c x4 y4 fun h2 E2 => ?_
      have x3' := x3
      have y3' := y3
      rw [← E2.cellsAt (row_live hl E1 hx)] at x3'
      rw [← E2.cellsAt (row_live hm E1 hy)] at y3'
      simp (disch := omega) only [WA, ↓reduceIte, reduceEqDiff, reduceAdd, reduceMul, reduceSub, reduceLeDiff, reduceLT, reduceLE, reduceNeg, reduceEq, x3', y3']
      by_cases hxy : x = y
      · subst hxy
        simp (disch := omega) only [WA, ↓reduceIte, reduceEqDiff, reduceAdd, reduceMul, reduceSub, reduceLeDiff, reduceLT, reduceLE, reduceNeg, reduceEq, e0, e1, ei, wrap_in]
        exact ⟨_, by omega, i + 1, by simp, by omega, rfl, E1.trans E2, take_succ_eq ht hx hy⟩
      · simp (disch := omega) only [WA, ↓reduceIte, reduceEqDiff, reduceAdd, reduceMul, reduceSub, reduceLeDiff, reduceLT, reduceLE, reduceNeg, reduceEq, hxy]
        have : l ≠ m := fun e => hxy (by rw [e, hy] at hx; simpa using hx.symm)
        simpa [this] using hQ _ (E1.trans E2)
    · obtain rfl : i = l.length := by omega
      have c1 : ¬ (l.length : Int) < (l.length : Int) := by omega
      simp (disch := omega) only [WA, ↓reduceIte, reduceEqDiff, reduceAdd, reduceMul, reduceSub, reduceLeDiff, reduceLT, reduceLE, reduceNeg, reduceEq, e0, e1, ei, c1]
      have : l = m := by rw [List.take_of_length_le (Nat.le_refl _), List.take_of_length_le (by omega)] at ht; exact ht
      simpa [this] using hQ _ E1
  · have c0 : ¬ (l.length : Int) = (m.length : Int) := by omega
    simp (disch := omega) only [WA, ↓reduceIte, reduceEqDiff, reduceAdd, reduceMul, reduceSub, reduceLeDiff, reduceLT, reduceLE, reduceNeg, reduceEq, c0]
    have : l ≠ m := fun e => hne (by rw [e])
    simpa [this] using hQ _ (.refl _)
theorem intactBoxS_c {l : List Bx} {v w : Value} {h : Heap} {Q : Value → Heap → Prop} (hl : GivH h l [v]) (hm : GivH h l [w]) (hn : Siz.siz l ≤ 1000000)
    (hQ : ∀ h', Ext h h' → Q (.bool true) h') : CallsV Tryz.prog 19 [v, w] h Q := by
  refine CallsV.start Tryz.func19 rfl (by rw [Tryz.results19]) (by kernel_rfl) (by rw [Tryz.ntmps19]; simp) ?_
  have hs := siz_list l
  have hroom := roomM_le l.length
  have rl := hl.row
  have rm := hm.row
  obtain ⟨cl, al⟩ := hl.all
  obtain ⟨cm, am⟩ := hm.all
  have hc1 : l.length + roomM l.length ≤ rowC v := by omega
  have hc2 : l.length + roomM l.length ≤ rowC w := by omega
  simp (disch := omega) only [WA, ↓reduceIte, reduceEqDiff, reduceAdd, reduceMul, reduceSub, reduceLeDiff, reduceLT, reduceLE, reduceNeg, reduceEq, rm.isRow.len]
  refine .inl ⟨by kernel_rfl, ?_⟩; refine roomBehind_c (by omega) ?_
  simp (disch := omega) only [WA, ↓reduceIte, reduceEqDiff, reduceAdd, reduceMul, reduceSub, reduceLeDiff, reduceLT, reduceLE, reduceNeg, reduceEq, wrap_in, rl.isRow.len, rm.isRow.len]
  rw [← Int.natCast_add]
  refine loop_rule (fun n e h' => ∃ (i : Nat), e 0 = v ∧ e 1 = w ∧ e 5 = .int .i64 (l.length + roomM l.length : Nat) ∧ e 6 = .int .i64 i ∧ i ≤ l.length ∧ n = l.length - i ∧ Ext h h') ?_ l.length _ _ ⟨0, rfl, rfl, rfl, rfl, Nat.zero_le _, rfl, .refl _⟩
  rintro n e h1 ⟨i, e0, e1, en, ei, hi, rfl, E1⟩
  simp (disch := omega) only [WA, ↓reduceIte, reduceEqDiff, reduceAdd, reduceMul, reduceSub, reduceLeDiff, reduceLT, reduceLE, reduceNeg, reduceEq, e0, e1, ei, rm.isRow.len]
  by_cases hlt : i < l.length
  · obtain ⟨x, hx⟩ := get_some hlt
    have c1 : (i : Int) < (l.length : Int) := by omega
    have hsx := siz_mem hx
    obtain ⟨xs, x3, x4⟩ := (hl.mono E1).at hx
    obtain ⟨ys, y3, y4⟩ := (hm.mono E1).at hx
    rw [Bx.sz] at x3 y3
    simp (disch := omega) only [WA, ↓reduceIte, reduceEqDiff, reduceAdd, reduceMul, reduceSub, reduceLeDiff, reduceLT, reduceLE, reduceNeg, reduceEq, e0, e1, ei, c1]
    refine draw_id (by kernel_rfl) ?_
    simp (disch := omega) only [WA, ↓reduceIte, reduceEqDiff, reduceAdd, reduceMul, reduceSub, reduceLeDiff, reduceLT, reduceLE, reduceNeg, reduceEq, e0, e1, ei, rl.isRow.ix, rm.isRow.ix, x3, y3]
    refine .inl ⟨by kernel_rfl, ?_⟩; refine intactBox_c x4 y4 (by omega) fun h2 E2 => ?_
    have x3' := x3
    have y3' := y3
    rw [← E2.cellsAt (row_live rl E1 hx)] at x3'
    rw [← E2.cellsAt (row_live rm E1 hx)] at y3'
    simp (disch := omega) only [WA, ↓reduceIte, reduceEqDiff, reduceAdd, reduceMul, reduceSub, reduceLeDiff, reduceLT, reduceLE, reduceNeg, reduceEq, x3', y3', e0, e1, ei, wrap_in, en]
    exact ⟨_, by omega, i + 1, by simp, by omega, rfl, E1.trans E2⟩
  · obtain rfl : i = l.length := by omega
    have c1 : ¬ (l.length : Int) < (l.length : Int) := by omega
    simp (disch := omega) only [WA, ↓reduceIte, reduceEqDiff, reduceAdd, reduceMul, reduceSub, reduceLeDiff, reduceLT, reduceLE, reduceNeg, reduceEq, e0, e1, ei, en, c1]
    refine draw_id (by kernel_rfl) ?_
    have al2 := (Gd.row al).tail (a := l.length) E1 (by simp [gdAll_length]) (by omega)
    have am2 := (Gd.row am).tail (a := l.length) E1 (by simp [gdAll_length]) (by omega)
    simp (disch := omega) only [WA, ↓reduceIte, reduceEqDiff, reduceAdd, reduceMul, reduceSub, reduceLeDiff, reduceLT, reduceLE, reduceNeg, reduceEq, e0, e1, ei, en, rm.isRow.len, rl.isRow.sl, rm.isRow.sl]
    refine .inl ⟨by kernel_rfl, ?_⟩; refine eqBoxS_c al2 am2 fun h2 E2 => ?_
    simp (disch := omega) only [WA, ↓reduceIte, reduceEqDiff, reduceAdd, reduceMul, reduceSub, reduceLeDiff, reduceLT, reduceLE, reduceNeg, reduceEq]
    exact hQ _ (E1.trans E2)
end Go.Proofs
