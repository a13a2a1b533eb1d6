/- Contracts of functions, facts of types, or the plain law behind one statement (own work): H1. Conditions: those told in each theorem. -/
import Derived.Test.YtlnephhhcofilaaGreatC0
set_option linter.all false
set_option linter.unusedSimpArgs false
set_option linter.unusedVariables false
set_option maxRecDepth 4000
namespace Go.Proofs
open Go Go.V
open Nat renaming reduceEqDiff → jA, reduceAdd → jB, reduceMul → jD, reduceSub → jE, reduceLeDiff → jF
open Int renaming reduceLT → jG, reduceLE → jH, reduceNeg → jI, reduceEq → jJ
theorem szIntS_c {l : List Int} {left : Int} {v : Value} {h : Heap} {Q : Value → Heap → Prop} (hl : Row h l v) (h0 : 0 ≤ left) (h1 : left ≤ 1000000)
    (hQ : ∀ h', Ext h h' → Q (.int .i64 (szR left (Siz.siz l))) h') : CallsV Tryz.prog 30 [v, .int .i64 left] h Q := by
  refine CallsV.start Tryz.func30 rfl (by rw [Tryz.results30]) (by kernel_rfl) (by rw [Tryz.ntmps30]; simp) ?_
  have hle := hl.le
  have hs := siz_list l
  simp (disch := omega) only [WA, ↓reduceIte, jA, jB, jD, jE, jF, jG, jH, jI, jJ, hl.isRow.len, wrap_in]
  by_cases c : left < (l.length : Int)
  · have c' : left - (l.length : Int) < 0 := by omega
    simp (disch := omega) only [WA, ↓reduceIte, jA, jB, jD, jE, jF, jG, jH, jI, jJ, c']
    rw [szR_lt (by omega)] at hQ
    exact hQ _ (.refl _)
  · have c' : ¬ left - (l.length : Int) < 0 := by omega
    simp (disch := omega) only [WA, ↓reduceIte, jA, jB, jD, jE, jF, jG, jH, jI, jJ, c']
    rw [siz_zero (fun _ => rfl), szR_ge c] at hQ
    exact hQ _ (.refl _)
theorem toIntS_c {l : List Int} {b : Bool} {a : Value} {h : Heap} {Q : Value → Heap → Prop} (hl : Row h l a) (hn : Siz.siz l ≤ 1000000)
    (hQ : ∀ v h', Sep h h' [givA b l [v]] → Q v h') : CallsV Tryz.prog 35 [a, .bool b] h Q := by
  refine CallsV.start Tryz.func35 rfl (by rw [Tryz.results35]) (by kernel_rfl) (by rw [Tryz.ntmps35]; simp) ?_
  have hs := siz_list l
  have hm : ∀ {i : Nat} {x : Int}, l[i]? = some x → Siz.siz x ≤ 1000000 := fun hx => by have := siz_mem hx; omega
  have hroom := roomM_le l.length
  by_cases hb : b = true ∧ l = []
  · obtain ⟨rfl, rfl⟩ := hb
    simp (disch := omega) only [WA, ↓reduceIte, jA, jB, jD, jE, jF, jG, jH, jI, jJ, hl.isRow.len]
    exact hQ _ _ (Sep.givNil (.refl _))
  have hne : b = true → ¬ (l.length : Int) = 0 := fun hb1 => by have : l ≠ [] := fun e => hb ⟨hb1, e⟩; have := List.length_pos_iff.2 this; omega
  cases b
  case' false => simp (disch := omega) only [WA, ↓reduceIte, jA, jB, jD, jE, jF, jG, jH, jI, jJ, hl.isRow.len]
  case' true => simp (disch := omega) only [WA, ↓reduceIte, jA, jB, jD, jE, jF, jG, jH, jI, jJ, hl.isRow.len, hne rfl]
  case false =>
    refine .inl ⟨by kernel_rfl, roomBehind_c (by omega) ?_⟩
    simp (disch := omega) only [WA, ↓reduceIte, jA, jB, jD, jE, jF, jG, jH, jI, jJ, wrap_in]
    rw [← Int.natCast_add]
    refine sep_make (α := (Gd false Int)) ⟨false, 0⟩ (Sep.nil (.refl h)) te23 tk3 (fun h => (rep_int (h := h) ⟨by decide, by decide⟩)) (by decide) (by simp only []; omega) fun vf h0 s hcap hnv => ?_
    simp (disch := omega) only [WA, ↓reduceIte, jA, jB, jD, jE, jF, jG, jH, jI, jJ]
    refine loop_rule (fun n e h' => ∃ (i : Nat), e 0 = a ∧ e 1 = .bool false ∧ e 5 = vf ∧ e 6 = .int .i64 i ∧ i ≤ l.length ∧ n = l.length - i ∧ Sep h h' [ownA (α := (Gd false Int)) 3 ((l.take i).map (fun x => (⟨true, x⟩ : (Gd false Int))) ++ List.replicate (l.length + roomM l.length - i) (⟨false, 0⟩ : (Gd false Int))) vf]) ?_ l.length _ _ ⟨0, rfl, rfl, rfl, rfl, Nat.zero_le _, rfl, by simpa using s⟩
    rintro n e h1 ⟨i, e0, e1, eo, ei, hi, rfl, s⟩
    have E1 := s.ext
    have hlen : ((l.take i).map (fun x => (⟨true, x⟩ : (Gd false Int))) ++ List.replicate (l.length + roomM l.length - i) (⟨false, 0⟩ : (Gd false Int))).length = l.length + roomM l.length := by simp; omega
    simp (disch := omega) only [WA, ↓reduceIte, jA, jB, jD, jE, jF, jG, jH, jI, jJ, e0, eo, ei, hl.isRow.len]
    by_cases hlt : i < l.length
    · obtain ⟨x, hx⟩ := get_some hlt
      have c1 : (i : Int) < (l.length : Int) := by omega
      obtain ⟨x3, x4⟩ := row_int (hl.mono E1) hx
      have s := s.rep0 (rep_int x4)
      have ix := s.tail.row.isRow.ix Tryz.prog
      rw [hlen] at ix
      simp (disch := omega) only [WA, ↓reduceIte, jA, jB, jD, jE, jF, jG, jH, jI, jJ, e0, e1, eo, ei, c1, hl.isRow.ix, x3, ix]
      refine sep_set1 (α := (Gd false Int)) (i := i) (y := ⟨true, x⟩) (Sep.swap (Sep.gGd s)) rfl (by omega) fun h3 s => ?_
      simp (disch := omega) only [WA, ↓reduceIte, jA, jB, jD, jE, jF, jG, jH, jI, jJ, e0, e1, eo, ei, wrap_in]
      rw [show l.length + roomM l.length - i = (l.length + roomM l.length - (i + 1)) + 1 by omega, gd_one hx] at s
      exact ⟨_, by omega, i + 1, by simp, by omega, rfl, s⟩
    · obtain rfl : i = l.length := by omega
      have c1 : ¬ (l.length : Int) < (l.length : Int) := by omega
      simp (disch := omega) only [WA, ↓reduceIte, jA, jB, jD, jE, jF, jG, jH, jI, jJ, e0, eo, ei, c1, hl.isRow.len]
      refine loop_rule (fun n e h' => ∃ (j : Nat), e 0 = a ∧ e 5 = vf ∧ e 7 = .int .i64 (l.length + j : Nat) ∧ j ≤ roomM l.length ∧ n = roomM l.length - j ∧ Sep h h' [ownA (α := (Gd false Int)) 3 (l.map (fun x => (⟨true, x⟩ : (Gd false Int))) ++ List.replicate j (⟨false, Giv.fill⟩ : (Gd false Int)) ++ List.replicate (roomM l.length - j) (⟨false, 0⟩ : (Gd false Int))) vf]) ?_ (roomM l.length) _ _ ⟨0, e0, eo, rfl, Nat.zero_le _, rfl, by simpa using s⟩
      rintro n e h1 ⟨j, e0, eo, ej, hj, rfl, s⟩
      have hlen : (l.map (fun x => (⟨true, x⟩ : (Gd false Int))) ++ List.replicate j (⟨false, Giv.fill⟩ : (Gd false Int)) ++ List.replicate (roomM l.length - j) (⟨false, 0⟩ : (Gd false Int))).length = l.length + roomM l.length := by simp; omega
      have len := s.row.isRow.len Tryz.prog
      rw [hlen] at len
      simp (disch := omega) only [WA, ↓reduceIte, jA, jB, jD, jE, jF, jG, jH, jI, jJ, e0, eo, ej, len]
      by_cases hlt : j < roomM l.length
      · have c1 : ((l.length + j : Nat) : Int) < ((l.length + roomM l.length : Nat) : Int) := by omega
        have s := s.rep0 (x := (Giv.fill : Int)) (rep_int ⟨by decide, by decide⟩)
        have ix := s.tail.row.isRow.ix Tryz.prog
        rw [hlen] at ix
        simp (disch := omega) only [WA, ↓reduceIte, jA, jB, jD, jE, jF, jG, jH, jI, jJ, e0, eo, ej, c1, ix]
        refine sep_set1 (α := (Gd false Int)) (i := l.length + j) (y := ⟨false, Giv.fill⟩) (Sep.swap (Sep.rGd s)) rfl (by omega) fun h3 s => ?_
        simp (disch := omega) only [WA, ↓reduceIte, jA, jB, jD, jE, jF, jG, jH, jI, jJ, e0, eo, ej, wrap_in]
        rw [show roomM l.length - j = (roomM l.length - (j + 1)) + 1 by omega, gd_two] at s
        exact ⟨_, by omega, j + 1, by simp; omega, by omega, rfl, by simpa only [List.append_assoc] using s⟩
      · obtain rfl : j = roomM l.length := by omega
        have c1 : ¬ ((l.length + roomM l.length : Nat) : Int) < ((l.length + roomM l.length : Nat) : Int) := by omega
        have hcap' : l.length ≤ rowC vf := by rw [hcap]; omega
        simp (disch := omega) only [WA, ↓reduceIte, jA, jB, jD, jE, jF, jG, jH, jI, jJ, e0, eo, ej, c1, hl.isRow.len, s.row.isRow.sl]
        rw [Nat.sub_self, List.replicate_zero, List.append_nil] at s
        exact hQ _ _ (Sep.givL (l := l) s hcap)
  case true =>
    refine .inl ⟨by kernel_rfl, roomBehind_c (by omega) ?_⟩
    simp (disch := omega) only [WA, ↓reduceIte, jA, jB, jD, jE, jF, jG, jH, jI, jJ, wrap_in]
    rw [← Int.natCast_add]
    refine sep_make (α := (Gd true Int)) ⟨false, 0⟩ (Sep.nil (.refl h)) te23 tk3 (fun h => (rep_int (h := h) ⟨by decide, by decide⟩)) (by decide) (by simp only []; omega) fun vf h0 s hcap hnv => ?_
    simp (disch := omega) only [WA, ↓reduceIte, jA, jB, jD, jE, jF, jG, jH, jI, jJ]
    refine loop_rule (fun n e h' => ∃ (i : Nat), e 0 = a ∧ e 1 = .bool true ∧ e 5 = vf ∧ e 6 = .int .i64 i ∧ i ≤ l.length ∧ n = l.length - i ∧ Sep h h' [ownA (α := (Gd true Int)) 3 ((l.take i).map (fun x => (⟨true, x⟩ : (Gd true Int))) ++ List.replicate (l.length + roomM l.length - i) (⟨false, 0⟩ : (Gd true Int))) vf]) ?_ l.length _ _ ⟨0, rfl, rfl, rfl, rfl, Nat.zero_le _, rfl, by simpa using s⟩
    rintro n e h1 ⟨i, e0, e1, eo, ei, hi, rfl, s⟩
    have E1 := s.ext
    have hlen : ((l.take i).map (fun x => (⟨true, x⟩ : (Gd true Int))) ++ List.replicate (l.length + roomM l.length - i) (⟨false, 0⟩ : (Gd true Int))).length = l.length + roomM l.length := by simp; omega
    simp (disch := omega) only [WA, ↓reduceIte, jA, jB, jD, jE, jF, jG, jH, jI, jJ, e0, eo, ei, hl.isRow.len]
    by_cases hlt : i < l.length
    · obtain ⟨x, hx⟩ := get_some hlt
      have c1 : (i : Int) < (l.length : Int) := by omega
      obtain ⟨x3, x4⟩ := row_int (hl.mono E1) hx
      have s := s.rep0 (rep_int x4)
      have ix := s.tail.row.isRow.ix Tryz.prog
      rw [hlen] at ix
      simp (disch := omega) only [WA, ↓reduceIte, jA, jB, jD, jE, jF, jG, jH, jI, jJ, e0, e1, eo, ei, c1, hl.isRow.ix, x3, ix]
      refine sep_set1 (α := (Gd true Int)) (i := i) (y := ⟨true, x⟩) (Sep.swap (Sep.gGd s)) rfl (by omega) fun h3 s => ?_
      simp (disch := omega) only [WA, ↓reduceIte, jA, jB, jD, jE, jF, jG, jH, jI, jJ, e0, e1, eo, ei, wrap_in]
      rw [show l.length + roomM l.length - i = (l.length + roomM l.length - (i + 1)) + 1 by omega, gd_one hx] at s
      exact ⟨_, by omega, i + 1, by simp, by omega, rfl, s⟩
    · obtain rfl : i = l.length := by omega
      have c1 : ¬ (l.length : Int) < (l.length : Int) := by omega
      simp (disch := omega) only [WA, ↓reduceIte, jA, jB, jD, jE, jF, jG, jH, jI, jJ, e0, eo, ei, c1, hl.isRow.len]
      refine loop_rule (fun n e h' => ∃ (j : Nat), e 0 = a ∧ e 5 = vf ∧ e 7 = .int .i64 (l.length + j : Nat) ∧ j ≤ roomM l.length ∧ n = roomM l.length - j ∧ Sep h h' [ownA (α := (Gd true Int)) 3 (l.map (fun x => (⟨true, x⟩ : (Gd true Int))) ++ List.replicate j (⟨false, Giv.fill⟩ : (Gd true Int)) ++ List.replicate (roomM l.length - j) (⟨false, 0⟩ : (Gd true Int))) vf]) ?_ (roomM l.length) _ _ ⟨0, e0, eo, rfl, Nat.zero_le _, rfl, by simpa using s⟩
      rintro n e h1 ⟨j, e0, eo, ej, hj, rfl, s⟩
      have hlen : (l.map (fun x => (⟨true, x⟩ : (Gd true Int))) ++ List.replicate j (⟨false, Giv.fill⟩ : (Gd true Int)) ++ List.replicate (roomM l.length - j) (⟨false, 0⟩ : (Gd true Int))).length = l.length + roomM l.length := by simp; omega
      have len := s.row.isRow.len Tryz.prog
      rw [hlen] at len
      simp (disch := omega) only [WA, ↓reduceIte, jA, jB, jD, jE, jF, jG, jH, jI, jJ, e0, eo, ej, len]
      by_cases hlt : j < roomM l.length
      · have c1 : ((l.length + j : Nat) : Int) < ((l.length + roomM l.length : Nat) : Int) := by omega
        have s := s.rep0 (x := (Giv.fill : Int)) (rep_int ⟨by decide, by decide⟩)
        have ix := s.tail.row.isRow.ix Tryz.prog
        rw [hlen] at ix
        simp (disch := omega) only [WA, ↓reduceIte, jA, jB, jD, jE, jF, jG, jH, jI, jJ, e0, eo, ej, c1, ix]
        refine sep_set1 (α := (Gd true Int)) (i := l.length + j) (y := ⟨false, Giv.fill⟩) (Sep.swap (Sep.rGd s)) rfl (by omega) fun h3 s => ?_
        simp (disch := omega) only [WA, ↓reduceIte, jA, jB, jD, jE, jF, jG, jH, jI, jJ, e0, eo, ej, wrap_in]
        rw [show roomM l.length - j = (roomM l.length - (j + 1)) + 1 by omega, gd_two] at s
        exact ⟨_, by omega, j + 1, by simp; omega, by omega, rfl, by simpa only [List.append_assoc] using s⟩
      · obtain rfl : j = roomM l.length := by omega
        have c1 : ¬ ((l.length + roomM l.length : Nat) : Int) < ((l.length + roomM l.length : Nat) : Int) := by omega
        have hcap' : l.length ≤ rowC vf := by rw [hcap]; omega
        simp (disch := omega) only [WA, ↓reduceIte, jA, jB, jD, jE, jF, jG, jH, jI, jJ, e0, eo, ej, c1, hl.isRow.len, s.row.isRow.sl]
        rw [Nat.sub_self, List.replicate_zero, List.append_nil] at s
        exact hQ _ _ (Sep.givL (l := l) s hcap)
theorem eqIntS_c {l m : List Int} {v w : Value} {h : Heap} {Q : Value → Heap → Prop} (hl : Row h l v) (hm : Row h m w)
    (hQ : ∀ h', Ext h h' → Q (.bool (decide (l = m))) h') : CallsV Tryz.prog 24 [v, w] h Q := by
  refine CallsV.start Tryz.func24 rfl (by rw [Tryz.results24]) (by kernel_rfl) (by rw [Tryz.ntmps24]; simp) ?_
  have hll := hl.le
  have hml := hm.le
  simp (disch := omega) only [WA, ↓reduceIte, jA, jB, jD, jE, jF, jG, jH, jI, jJ, hl.isRow.len, hm.isRow.len]
  by_cases hne : l.length = m.length
  · have c0 : (l.length : Int) = (m.length : Int) := by omega
    simp (disch := omega) only [WA, ↓reduceIte, jA, jB, jD, jE, jF, jG, jH, jI, jJ, c0]
    refine loop_rule (fun n e h' => ∃ (i : Nat), e 0 = v ∧ e 1 = w ∧ e 5 = .int .i64 i ∧ i ≤ l.length ∧ n = l.length - i ∧ Ext h h' ∧ l.take i = m.take i) ?_ l.length _ _ ⟨0, rfl, rfl, rfl, Nat.zero_le _, rfl, .refl _, by simp⟩
    rintro n e h1 ⟨i, e0, e1, ei, hi, rfl, E1, ht⟩
    simp (disch := omega) only [WA, ↓reduceIte, jA, jB, jD, jE, jF, jG, jH, jI, jJ, e0, e1, ei, hl.isRow.len]
    by_cases hlt : i < l.length
    · obtain ⟨x, hx⟩ := get_some hlt
      obtain ⟨y, hy⟩ := get_some (show i < m.length by omega)
      have c1 : (i : Int) < (l.length : Int) := by omega
      obtain ⟨x3, x4⟩ := row_int (hl.mono E1) hx
      obtain ⟨y3, y4⟩ := row_int (hm.mono E1) hy
      simp (disch := omega) only [WA, ↓reduceIte, jA, jB, jD, jE, jF, jG, jH, jI, jJ, e0, e1, ei, c1]
      refine draw_id (by kernel_rfl) ?_
      simp (disch := omega) only [WA, ↓reduceIte, jA, jB, jD, jE, jF, jG, jH, jI, jJ, e0, e1, ei, hl.isRow.ix, hm.isRow.ix, x3, y3]
      by_cases hxy : x = y
      · subst hxy
        simp (disch := omega) only [WA, ↓reduceIte, jA, jB, jD, jE, jF, jG, jH, jI, jJ, e0, e1, ei, wrap_in]
        exact ⟨_, by omega, i + 1, by simp, by omega, rfl, E1, take_succ_eq ht hx hy⟩
      · simp (disch := omega) only [WA, ↓reduceIte, jA, jB, jD, jE, jF, jG, jH, jI, jJ, hxy]
        have : l ≠ m := fun e => hxy (by rw [e, hy] at hx; simpa using hx.symm)
        simpa [this] using hQ _ E1
    · obtain rfl : i = l.length := by omega
      have c1 : ¬ (l.length : Int) < (l.length : Int) := by omega
      simp (disch := omega) only [WA, ↓reduceIte, jA, jB, jD, jE, jF, jG, jH, jI, jJ, e0, e1, ei, c1]
      have : l = m := by rw [List.take_of_length_le (Nat.le_refl _), List.take_of_length_le (by omega)] at ht; exact ht
      simpa [this] using hQ _ E1
  · have c0 : ¬ (l.length : Int) = (m.length : Int) := by omega
    simp (disch := omega) only [WA, ↓reduceIte, jA, jB, jD, jE, jF, jG, jH, jI, jJ, c0]
    have : l ≠ m := fun e => hne (by rw [e])
    simpa [this] using hQ _ (.refl _)
theorem intactIntS_c {l : List Int} {v w : Value} {h : Heap} {Q : Value → Heap → Prop} (hl : GivH h l [v]) (hm : GivH h l [w]) (hn : Siz.siz l ≤ 1000000)
    (hQ : ∀ h', Ext h h' → Q (.bool true) h') : CallsV Tryz.prog 40 [v, w] h Q := by
  refine CallsV.start Tryz.func40 rfl (by rw [Tryz.results40]) (by kernel_rfl) (by rw [Tryz.ntmps40]; simp) ?_
  have hs := siz_list l
  have hroom := roomM_le l.length
  have rl := hl.row
  have rm := hm.row
  obtain ⟨cl, al⟩ := hl.all
  obtain ⟨cm, am⟩ := hm.all
  have hc1 : l.length + roomM l.length ≤ rowC v := by omega
  have hc2 : l.length + roomM l.length ≤ rowC w := by omega
  simp (disch := omega) only [WA, ↓reduceIte, jA, jB, jD, jE, jF, jG, jH, jI, jJ, rm.isRow.len]
  refine .inl ⟨by kernel_rfl, ?_⟩; refine roomBehind_c (by omega) ?_
  simp (disch := omega) only [WA, ↓reduceIte, jA, jB, jD, jE, jF, jG, jH, jI, jJ, wrap_in]
  rw [← Int.natCast_add]
  refine draw_id (by kernel_rfl) ?_
  simp (disch := omega) only [WA, ↓reduceIte, jA, jB, jD, jE, jF, jG, jH, jI, jJ, rl.isRow.len, rm.isRow.len, rl.isRow.sl, rm.isRow.sl]
  refine .inl ⟨by kernel_rfl, ?_⟩; refine eqIntS_c (Gd.row al) (Gd.row am) fun h2 E2 => ?_
  simp (disch := omega) only [WA, ↓reduceIte, jA, jB, jD, jE, jF, jG, jH, jI, jJ]
  exact hQ _ E2
end Go.Proofs
