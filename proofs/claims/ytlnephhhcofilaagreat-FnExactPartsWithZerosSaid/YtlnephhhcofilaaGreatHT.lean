/- Contracts of functions, facts of types, or the plain law behind one statement (own work): HT. Conditions: those told in each theorem. -/
import Derived.Test.YtlnephhhcofilaaGreatH1
set_option linter.all false
set_option linter.unusedSimpArgs false
set_option linter.unusedVariables false
set_option maxRecDepth 4000
namespace Go.Proofs
open Go Go.V
open Nat renaming reduceEqDiff → jA, reduceAdd → jB, reduceMul → jD, reduceSub → jE, reduceLeDiff → jF
open Int renaming reduceLT → jG, reduceLE → jH, reduceNeg → jI, reduceEq → jJ
structure Tm where
  c : Int
  x : Int
  y : Int
  z : Int
  deriving DecidableEq, Inhabited
instance : Rep Tm := Rep.iso (α := Int × Int × Int × Int) fun x => (x.c, x.x, x.y, x.z)
theorem Tm.sz : Rep.sz Tm = 4 := rfl
instance : Giv Tm := Giv.iso (α := Int × Int × Int × Int) (fun (x : Tm) => (x.c, x.x, x.y, x.z)) (⟨(-7000000000000000101), (-7000000000000000101), (-7000000000000000101), (-7000000000000000101)⟩ : Tm)
instance : Siz Tm := ⟨fun x => Siz.siz x.c + Siz.siz x.x + Siz.siz x.y + Siz.siz x.z⟩
theorem here_Tm {h : Heap} {x : Tm} {cs : List Value} (hr : Here h x cs) : cs = [.int .i64 x.c, .int .i64 x.x, .int .i64 x.y, .int .i64 x.z] ∧ inI64 x.c ∧ inI64 x.x ∧ inI64 x.y ∧ inI64 x.z := by
  have hrp : Here (α := Int × Int × Int × Int) h (x.c, x.x, x.y, x.z) _ := hr
  obtain ⟨c1, d1, rfl, q1, r1⟩ := here_pair hrp
  obtain ⟨rfl, f2⟩ := here_int q1
  obtain ⟨c3, d3, rfl, q3, r3⟩ := here_pair r1
  obtain ⟨rfl, f4⟩ := here_int q3
  obtain ⟨c5, d5, rfl, q5, r5⟩ := here_pair r3
  obtain ⟨rfl, f6⟩ := here_int q5
  obtain ⟨rfl, f7⟩ := here_int r5
  exact ⟨rfl, f2, f4, f6, f7⟩
theorem mk_Tm {h : Heap} {x : Tm} (h1 : inI64 x.c) (h2 : inI64 x.x) (h3 : inI64 x.y) (h4 : inI64 x.z) : Here h x [.int .i64 x.c, .int .i64 x.x, .int .i64 x.y, .int .i64 x.z] := (mk_pair (p := (x.c, (x.x, (x.y, x.z)))) (mk_int h1) (mk_pair (p := (x.x, (x.y, x.z))) (mk_int h2) (mk_pair (p := (x.y, x.z)) (mk_int h3) (mk_int h4))))
theorem rep_Tm {h : Heap} {x : Tm} (h1 : inI64 x.c) (h2 : inI64 x.x) (h3 : inI64 x.y) (h4 : inI64 x.z) : Rep.rep h x [.int .i64 x.c, .int .i64 x.x, .int .i64 x.y, .int .i64 x.z] [] := by
  obtain ⟨fp, hr⟩ := mk_Tm (h := []) h1 h2 h3 h4
  obtain rfl : fp = [] := List.eq_nil_iff_forall_not_mem.2 fun b hb => by simpa using Rep.live hr b hb
  exact Rep.frame hr (by simp)
theorem zero_Tm (h : Heap) : Rep.rep h (⟨0, 0, 0, 0⟩ : Tm) [.int .i64 0, .int .i64 0, .int .i64 0, .int .i64 0] [] := (rep_pair0 (p := ((0, (0, (0, 0))) : (Int × (Int × (Int × Int))))) (rep_int (h := h) ⟨by decide, by decide⟩) (rep_pair0 (p := ((0, (0, 0)) : (Int × (Int × Int)))) (rep_int (h := h) ⟨by decide, by decide⟩) (rep_pair0 (p := ((0, 0) : (Int × Int))) (rep_int (h := h) ⟨by decide, by decide⟩) (rep_int (h := h) ⟨by decide, by decide⟩))))
def fill_Tm : Tm := ⟨(-7000000000000000101), (-7000000000000000101), (-7000000000000000101), (-7000000000000000101)⟩
theorem fillerTerm_c {h : Heap} {Q : Value → Heap → Prop} (hQ : ∀ cs' h', Sep h h' [repA fill_Tm cs'] → Q (.agg cs'.toArray) h') : CallsV Tryz.prog 34 [] h Q := by
  refine CallsV.start Tryz.func34 rfl (by rw [Tryz.results34]) (by kernel_rfl) (by rw [Tryz.ntmps34]; simp) ?_
  simp (disch := omega) only [WA, ↓reduceIte, jA, jB, jD, jE, jF, jG, jH, jI, jJ]
  exact hQ _ _ ((Sep.nil (.app _ _)).flat (x := repA fill_Tm _) (rep_pair0 (p := (((-7000000000000000101), ((-7000000000000000101), ((-7000000000000000101), (-7000000000000000101)))) : (Int × (Int × (Int × Int))))) (rep_int ⟨by decide, by decide⟩) (rep_pair0 (p := (((-7000000000000000101), ((-7000000000000000101), (-7000000000000000101))) : (Int × (Int × Int)))) (rep_int ⟨by decide, by decide⟩) (rep_pair0 (p := (((-7000000000000000101), (-7000000000000000101)) : (Int × Int))) (rep_int ⟨by decide, by decide⟩) (rep_int ⟨by decide, by decide⟩)))))
theorem toTerm_c {x : Tm} {b : Bool} {cs : List Value} {h : Heap} {Q : Value → Heap → Prop} (hx : Here h x cs) (hn : Siz.siz x ≤ 1000000)
    (hQ : ∀ cs' h', Sep h h' [givA b x cs'] → Q (.agg cs'.toArray) h') : CallsV Tryz.prog 55 [.agg cs.toArray] h Q := by
  have hs : Siz.siz x = Siz.siz x.c + Siz.siz x.x + Siz.siz x.y + Siz.siz x.z := rfl
  obtain ⟨rfl, vf1, vf2, vf3, vf4⟩ := here_Tm hx
  refine CallsV.start Tryz.func55 rfl (by rw [Tryz.results55]) (by kernel_rfl) (by rw [Tryz.ntmps55]; simp) ?_
  simp (disch := omega) only [WA, ↓reduceIte, jA, jB, jD, jE, jF, jG, jH, jI, jJ]
  exact hQ [.int .i64 x.c, .int .i64 x.x, .int .i64 x.y, .int .i64 x.z] _ ((Sep.nil (.app _ _)).flat (rep_Tm vf1 vf2 vf3 vf4))
theorem eqTerm_c {x y : Tm} {cs ds : List Value} {h : Heap} {Q : Value → Heap → Prop} (hx : Here h x cs) (hy : Here h y ds)
    (hQ : ∀ h', Ext h h' → Q (.bool (decide (x = y))) h') : CallsV Tryz.prog 80 [.agg cs.toArray, .agg ds.toArray] h Q := by
  obtain ⟨rfl, vf1, vf2, vf3, vf4⟩ := here_Tm hx
  obtain ⟨rfl, uf1, uf2, uf3, uf4⟩ := here_Tm hy
  refine CallsV.start Tryz.func80 rfl (by rw [Tryz.results80]) (by kernel_rfl) (by rw [Tryz.ntmps80]; simp) ?_
  have s := Sep.blk2 h [.int .i64 x.c, .int .i64 x.x, .int .i64 x.y, .int .i64 x.z] [.int .i64 y.c, .int .i64 y.x, .int .i64 y.y, .int .i64 y.z] 59 59 true true
  have he : (x = y) ↔ (x.c = y.c ∧ x.x = y.x ∧ x.y = y.y ∧ x.z = y.z) := by cases x; cases y; simp
  simp (disch := omega) only [WA, ↓reduceIte, jA, jB, jD, jE, jF, jG, jH, jI, jJ]
  by_cases c1 : ¬ x.c = y.c
  · simp (disch := omega) only [WA, ↓reduceIte, jA, jB, jD, jE, jF, jG, jH, jI, jJ, c1]
    simpa [he, c1] using hQ _ s.ext
  have c1 := Decidable.not_not.1 c1
  have d1 := decide_eq_true c1
  simp (disch := omega) only [WA, ↓reduceIte, jA, jB, jD, jE, jF, jG, jH, jI, jJ, d1]
  by_cases c2 : ¬ x.x = y.x
  · simp (disch := omega) only [WA, ↓reduceIte, jA, jB, jD, jE, jF, jG, jH, jI, jJ, c2]
    simpa [he, c1, c2] using hQ _ s.ext
  have c2 := Decidable.not_not.1 c2
  have d2 := decide_eq_true c2
  simp (disch := omega) only [WA, ↓reduceIte, jA, jB, jD, jE, jF, jG, jH, jI, jJ, d2]
  by_cases c3 : ¬ x.y = y.y
  · simp (disch := omega) only [WA, ↓reduceIte, jA, jB, jD, jE, jF, jG, jH, jI, jJ, c3]
    simpa [he, c1, c2, c3] using hQ _ s.ext
  have c3 := Decidable.not_not.1 c3
  have d3 := decide_eq_true c3
  simp (disch := omega) only [WA, ↓reduceIte, jA, jB, jD, jE, jF, jG, jH, jI, jJ, d3]
  by_cases c4 : ¬ x.z = y.z
  · simp (disch := omega) only [WA, ↓reduceIte, jA, jB, jD, jE, jF, jG, jH, jI, jJ, c4]
    simpa [he, c1, c2, c3, c4] using hQ _ s.ext
  have c4 := Decidable.not_not.1 c4
  have d4 := decide_eq_true c4
  simp (disch := omega) only [WA, ↓reduceIte, jA, jB, jD, jE, jF, jG, jH, jI, jJ, d4]
  simpa [he, c1, c2, c3, c4] using hQ _ s.ext
theorem szTermS_c {l : List Tm} {left : Int} {v : Value} {h : Heap} {Q : Value → Heap → Prop} (hl : Row h l v) (h0 : 0 ≤ left) (h1 : left ≤ 1000000)
    (hQ : ∀ h', Ext h h' → Q (.int .i64 (szR left (Siz.siz l))) h') : CallsV Tryz.prog 29 [v, .int .i64 left] h Q := by
  refine CallsV.start Tryz.func29 rfl (by rw [Tryz.results29]) (by kernel_rfl) (by rw [Tryz.ntmps29]; simp) ?_
  have hle := hl.le
  have hs := siz_list l
  simp (disch := omega) only [WA, ↓reduceIte, jA, jB, jD, jE, jF, jG, jH, jI, jJ, hl.isRow.len, wrap_in]
  by_cases c : left < (l.length : Int)
  · have c' : left - (l.length : Int) < 0 := by omega
    simp (disch := omega) only [WA, ↓reduceIte, jA, jB, jD, jE, jF, jG, jH, jI, jJ, c']
    rw [szR_lt (by omega)] at hQ
    exact hQ _ (.refl _)
  · have c' : ¬ left - (l.length : Int) < 0 := by omega
    simp (disch := omega) only [WA, ↓reduceIte, jA, jB, jD, jE, jF, jG, jH, jI, jJ, c']
    rw [siz_zero (fun _ => rfl), szR_ge c] at hQ
    exact hQ _ (.refl _)
theorem toTermS_c {l : List Tm} {b : Bool} {a : Value} {h : Heap} {Q : Value → Heap → Prop} (hl : Row h l a) (hn : Siz.siz l ≤ 1000000)
    (hQ : ∀ v h', Sep h h' [givA b l [v]] → Q v h') : CallsV Tryz.prog 33 [a, .bool b] h Q := by
  refine CallsV.start Tryz.func33 rfl (by rw [Tryz.results33]) (by kernel_rfl) (by rw [Tryz.ntmps33]; simp) ?_
  have hs := siz_list l
  have hm : ∀ {i : Nat} {x : Tm}, l[i]? = some x → Siz.siz x ≤ 1000000 := fun hx => by have := siz_mem hx; omega
  have hroom := roomM_le l.length
  by_cases hb : b = true ∧ l = []
  · obtain ⟨rfl, rfl⟩ := hb
    simp (disch := omega) only [WA, ↓reduceIte, jA, jB, jD, jE, jF, jG, jH, jI, jJ, hl.isRow.len]
    exact hQ _ _ (Sep.givNil (.refl _))
  have hne : b = true → ¬ (l.length : Int) = 0 := fun hb1 => by have : l ≠ [] := fun e => hb ⟨hb1, e⟩; have := List.length_pos_iff.2 this; omega
  cases b
  case' false => simp (disch := omega) only [WA, ↓reduceIte, jA, jB, jD, jE, jF, jG, jH, jI, jJ, hl.isRow.len]
  case' true => simp (disch := omega) only [WA, ↓reduceIte, jA, jB, jD, jE, jF, jG, jH, jI, jJ, hl.isRow.len, hne rfl]
  case false =>
    refine .inl ⟨by kernel_rfl, roomBehind_c (by omega) ?_⟩
    simp (disch := omega) only [WA, ↓reduceIte, jA, jB, jD, jE, jF, jG, jH, jI, jJ, wrap_in]
    rw [← Int.natCast_add]
    refine sep_make (α := (Gd false Tm)) ⟨false, ⟨0, 0, 0, 0⟩⟩ (Sep.nil (.refl h)) te56 tk59 (fun h => zero_Tm h) (by decide) (by simp only []; omega) fun vf h0 s hcap hnv => ?_
    simp (disch := omega) only [WA, ↓reduceIte, jA, jB, jD, jE, jF, jG, jH, jI, jJ]
    refine loop_rule (fun n e h' => ∃ (i : Nat), e 0 = a ∧ e 1 = .bool false ∧ e 5 = vf ∧ e 6 = .int .i64 i ∧ i ≤ l.length ∧ n = l.length - i ∧ Sep h h' [ownA (α := (Gd false Tm)) 59 ((l.take i).map (fun x => (⟨true, x⟩ : (Gd false Tm))) ++ List.replicate (l.length + roomM l.length - i) (⟨false, ⟨0, 0, 0, 0⟩⟩ : (Gd false Tm))) vf]) ?_ l.length _ _ ⟨0, rfl, rfl, rfl, rfl, Nat.zero_le _, rfl, by simpa using s⟩
    rintro n e h1 ⟨i, e0, e1, eo, ei, hi, rfl, s⟩
    have E1 := s.ext
    have hlen : ((l.take i).map (fun x => (⟨true, x⟩ : (Gd false Tm))) ++ List.replicate (l.length + roomM l.length - i) (⟨false, ⟨0, 0, 0, 0⟩⟩ : (Gd false Tm))).length = l.length + roomM l.length := by simp; omega
    simp (disch := omega) only [WA, ↓reduceIte, jA, jB, jD, jE, jF, jG, jH, jI, jJ, e0, eo, ei, hl.isRow.len]
    by_cases hlt : i < l.length
    · obtain ⟨x, hx⟩ := get_some hlt
      have c1 : (i : Int) < (l.length : Int) := by omega
      obtain ⟨_, x3, x4⟩ := Row.at (hl.mono E1) hx
      rw [Tm.sz] at x3
      simp (disch := omega) only [WA, ↓reduceIte, jA, jB, jD, jE, jF, jG, jH, jI, jJ, e0, e1, eo, ei, c1, hl.isRow.ix, x3]
      refine .inl ⟨by kernel_rfl, ?_⟩; refine toTerm_c (b := false) x4 (hm hx) fun cs2 h2 s2 => ?_
      have hk := s2.gpull
      rw [Tm.sz] at hk
      have s := s.add s2
      have ix := s.tail.row.isRow.ix Tryz.prog
      rw [hlen] at ix
      simp (disch := omega) only [WA, ↓reduceIte, jA, jB, jD, jE, jF, jG, jH, jI, jJ, e0, e1, eo, ei, ix, hk]
      refine sep_set (α := (Gd false Tm)) (i := i) (y := ⟨true, x⟩) (Sep.swap (Sep.gGd s)) (by omega) fun h3 s => ?_
      simp (disch := omega) only [WA, ↓reduceIte, jA, jB, jD, jE, jF, jG, jH, jI, jJ, e0, e1, eo, ei, wrap_in]
      rw [show l.length + roomM l.length - i = (l.length + roomM l.length - (i + 1)) + 1 by omega, gd_one hx] at s
      exact ⟨_, by omega, i + 1, by simp, by omega, rfl, s⟩
    · obtain rfl : i = l.length := by omega
      have c1 : ¬ (l.length : Int) < (l.length : Int) := by omega
      simp (disch := omega) only [WA, ↓reduceIte, jA, jB, jD, jE, jF, jG, jH, jI, jJ, e0, eo, ei, c1, hl.isRow.len]
      refine loop_rule (fun n e h' => ∃ (j : Nat), e 0 = a ∧ e 5 = vf ∧ e 7 = .int .i64 (l.length + j : Nat) ∧ j ≤ roomM l.length ∧ n = roomM l.length - j ∧ Sep h h' [ownA (α := (Gd false Tm)) 59 (l.map (fun x => (⟨true, x⟩ : (Gd false Tm))) ++ List.replicate j (⟨false, Giv.fill⟩ : (Gd false Tm)) ++ List.replicate (roomM l.length - j) (⟨false, ⟨0, 0, 0, 0⟩⟩ : (Gd false Tm))) vf]) ?_ (roomM l.length) _ _ ⟨0, e0, eo, rfl, Nat.zero_le _, rfl, by simpa using s⟩
      rintro n e h1 ⟨j, e0, eo, ej, hj, rfl, s⟩
      have hlen : (l.map (fun x => (⟨true, x⟩ : (Gd false Tm))) ++ List.replicate j (⟨false, Giv.fill⟩ : (Gd false Tm)) ++ List.replicate (roomM l.length - j) (⟨false, ⟨0, 0, 0, 0⟩⟩ : (Gd false Tm))).length = l.length + roomM l.length := by simp; omega
      have len := s.row.isRow.len Tryz.prog
      rw [hlen] at len
      simp (disch := omega) only [WA, ↓reduceIte, jA, jB, jD, jE, jF, jG, jH, jI, jJ, e0, eo, ej, len]
      by_cases hlt : j < roomM l.length
      · have c1 : ((l.length + j : Nat) : Int) < ((l.length + roomM l.length : Nat) : Int) := by omega
        simp (disch := omega) only [WA, ↓reduceIte, jA, jB, jD, jE, jF, jG, jH, jI, jJ, e0, eo, ej, c1]
        refine .inl ⟨by kernel_rfl, ?_⟩; refine fillerTerm_c fun cs2 h2 s2 => ?_
        have hk := s2.rlen
        rw [Tm.sz] at hk
        have s := s.add s2
        have ix := s.tail.row.isRow.ix Tryz.prog
        rw [hlen] at ix
        simp (disch := omega) only [WA, ↓reduceIte, jA, jB, jD, jE, jF, jG, jH, jI, jJ, e0, eo, ej, ix, hk]
        refine sep_set (α := (Gd false Tm)) (i := l.length + j) (y := ⟨false, Giv.fill⟩) (Sep.swap (Sep.rGd s)) (by omega) fun h3 s => ?_
        simp (disch := omega) only [WA, ↓reduceIte, jA, jB, jD, jE, jF, jG, jH, jI, jJ, e0, eo, ej, wrap_in]
        rw [show roomM l.length - j = (roomM l.length - (j + 1)) + 1 by omega, gd_two] at s
        exact ⟨_, by omega, j + 1, by simp; omega, by omega, rfl, by simpa only [List.append_assoc] using s⟩
      · obtain rfl : j = roomM l.length := by omega
        have c1 : ¬ ((l.length + roomM l.length : Nat) : Int) < ((l.length + roomM l.length : Nat) : Int) := by omega
        have hcap' : l.length ≤ rowC vf := by rw [hcap]; omega
        simp (disch := omega) only [WA, ↓reduceIte, jA, jB, jD, jE, jF, jG, jH, jI, jJ, e0, eo, ej, c1, hl.isRow.len, s.row.isRow.sl]
        rw [Nat.sub_self, List.replicate_zero, List.append_nil] at s
        exact hQ _ _ (Sep.givL (l := l) s hcap)
  case true =>
    refine .inl ⟨by kernel_rfl, roomBehind_c (by omega) ?_⟩
    simp (disch := omega) only [WA, ↓reduceIte, jA, jB, jD, jE, jF, jG, jH, jI, jJ, wrap_in]
    rw [← Int.natCast_add]
    refine sep_make (α := (Gd true Tm)) ⟨false, ⟨0, 0, 0, 0⟩⟩ (Sep.nil (.refl h)) te56 tk59 (fun h => zero_Tm h) (by decide) (by simp only []; omega) fun vf h0 s hcap hnv => ?_
    simp (disch := omega) only [WA, ↓reduceIte, jA, jB, jD, jE, jF, jG, jH, jI, jJ]
    refine loop_rule (fun n e h' => ∃ (i : Nat), e 0 = a ∧ e 1 = .bool true ∧ e 5 = vf ∧ e 6 = .int .i64 i ∧ i ≤ l.length ∧ n = l.length - i ∧ Sep h h' [ownA (α := (Gd true Tm)) 59 ((l.take i).map (fun x => (⟨true, x⟩ : (Gd true Tm))) ++ List.replicate (l.length + roomM l.length - i) (⟨false, ⟨0, 0, 0, 0⟩⟩ : (Gd true Tm))) vf]) ?_ l.length _ _ ⟨0, rfl, rfl, rfl, rfl, Nat.zero_le _, rfl, by simpa using s⟩
    rintro n e h1 ⟨i, e0, e1, eo, ei, hi, rfl, s⟩
    have E1 := s.ext
    have hlen : ((l.take i).map (fun x => (⟨true, x⟩ : (Gd true Tm))) ++ List.replicate (l.length + roomM l.length - i) (⟨false, ⟨0, 0, 0, 0⟩⟩ : (Gd true Tm))).length = l.length + roomM l.length := by simp; omega
    simp (disch := omega) only [WA, ↓reduceIte, jA, jB, jD, jE, jF, jG, jH, jI, jJ, e0, eo, ei, hl.isRow.len]
    by_cases hlt : i < l.length
    · obtain ⟨x, hx⟩ := get_some hlt
      have c1 : (i : Int) < (l.length : Int) := by omega
      obtain ⟨_, x3, x4⟩ := Row.at (hl.mono E1) hx
      rw [Tm.sz] at x3
      simp (disch := omega) only [WA, ↓reduceIte, jA, jB, jD, jE, jF, jG, jH, jI, jJ, e0, e1, eo, ei, c1, hl.isRow.ix, x3]
      refine .inl ⟨by kernel_rfl, ?_⟩; refine toTerm_c (b := true) x4 (hm hx) fun cs2 h2 s2 => ?_
      have hk := s2.gpull
      rw [Tm.sz] at hk
      have s := s.add s2
      have ix := s.tail.row.isRow.ix Tryz.prog
      rw [hlen] at ix
      simp (disch := omega) only [WA, ↓reduceIte, jA, jB, jD, jE, jF, jG, jH, jI, jJ, e0, e1, eo, ei, ix, hk]
      refine sep_set (α := (Gd true Tm)) (i := i) (y := ⟨true, x⟩) (Sep.swap (Sep.gGd s)) (by omega) fun h3 s => ?_
      simp (disch := omega) only [WA, ↓reduceIte, jA, jB, jD, jE, jF, jG, jH, jI, jJ, e0, e1, eo, ei, wrap_in]
      rw [show l.length + roomM l.length - i = (l.length + roomM l.length - (i + 1)) + 1 by omega, gd_one hx] at s
      exact ⟨_, by omega, i + 1, by simp, by omega, rfl, s⟩
    · obtain rfl : i = l.length := by omega
      have c1 : ¬ (l.length : Int) < (l.length : Int) := by omega
      simp (disch := omega) only [WA, ↓reduceIte, jA, jB, jD, jE, jF, jG, jH, jI, jJ, e0, eo, ei, c1, hl.isRow.len]
      refine loop_rule (fun n e h' => ∃ (j : Nat), e 0 = a ∧ e 5 = vf ∧ e 7 = .int .i64 (l.length + j : Nat) ∧ j ≤ roomM l.length ∧ n = roomM l.length - j ∧ Sep h h' [ownA (α := (Gd true Tm)) 59 (l.map (fun x => (⟨true, x⟩ : (Gd true Tm))) ++ List.replicate j (⟨false, Giv.fill⟩ : (Gd true Tm)) ++ List.replicate (roomM l.length - j) (⟨false, ⟨0, 0, 0, 0⟩⟩ : (Gd true Tm))) vf]) ?_ (roomM l.length) _ _ ⟨0, e0, eo, rfl, Nat.zero_le _, rfl, by simpa using s⟩
      rintro n e h1 ⟨j, e0, eo, ej, hj, rfl, s⟩
      have hlen : (l.map (fun x => (⟨true, x⟩ : (Gd true Tm))) ++ List.replicate j (⟨false, Giv.fill⟩ : (Gd true Tm)) ++ List.replicate (roomM l.length - j) (⟨false, ⟨0, 0, 0, 0⟩⟩ : (Gd true Tm))).length = l.length + roomM l.length := by simp; omega
      have len := s.row.isRow.len Tryz.prog
      rw [hlen] at len
      simp (disch := omega) only [WA, ↓reduceIte, jA, jB, jD, jE, jF, jG, jH, jI, jJ, e0, eo, ej, len]
      by_cases hlt : j < roomM l.length
      · have c1 : ((l.length + j : Nat) : Int) < ((l.length + roomM l.length : Nat) : Int) := by omega
        simp (disch := omega) only [WA, ↓reduceIte, jA, jB, jD, jE, jF, jG, jH, jI, jJ, e0, eo, ej, c1]
        refine .inl ⟨by kernel_rfl, ?_⟩; refine fillerTerm_c fun cs2 h2 s2 => ?_
        have hk := s2.rlen
        rw [Tm.sz] at hk
        have s := s.add s2
        have ix := s.tail.row.isRow.ix Tryz.prog
        rw [hlen] at ix
        simp (disch := omega) only [WA, ↓reduceIte, jA, jB, jD, jE, jF, jG, jH, jI, jJ, e0, eo, ej, ix, hk]
        refine sep_set (α := (Gd true Tm)) (i := l.length + j) (y := ⟨false, Giv.fill⟩) (Sep.swap (Sep.rGd s)) (by omega) fun h3 s => ?_
        simp (disch := omega) only [WA, ↓reduceIte, jA, jB, jD, jE, jF, jG, jH, jI, jJ, e0, eo, ej, wrap_in]
        rw [show roomM l.length - j = (roomM l.length - (j + 1)) + 1 by omega, gd_two] at s
        exact ⟨_, by omega, j + 1, by simp; omega, by omega, rfl, by simpa only [List.append_assoc] using s⟩
      · obtain rfl : j = roomM l.length := by omega
        have c1 : ¬ ((l.length + roomM l.length : Nat) : Int) < ((l.length + roomM l.length : Nat) : Int) := by omega
        have hcap' : l.length ≤ rowC vf := by rw [hcap]; omega
        simp (disch := omega) only [WA, ↓reduceIte, jA, jB, jD, jE, jF, jG, jH, jI, jJ, e0, eo, ej, c1, hl.isRow.len, s.row.isRow.sl]
        rw [Nat.sub_self, List.replicate_zero, List.append_nil] at s
        exact hQ _ _ (Sep.givL (l := l) s hcap)
theorem eqTermS_c {l m : List Tm} {v w : Value} {h : Heap} {Q : Value → Heap → Prop} (hl : Row h l v) (hm : Row h m w)
    (hQ : ∀ h', Ext h h' → Q (.bool (decide (l = m))) h') : CallsV Tryz.prog 60 [v, w] h Q := by
  refine CallsV.start Tryz.func60 rfl (by rw [Tryz.results60]) (by kernel_rfl) (by rw [Tryz.ntmps60]; simp) ?_
  have hll := hl.le
  have hml := hm.le
  simp (disch := omega) only [WA, ↓reduceIte, jA, jB, jD, jE, jF, jG, jH, jI, jJ, hl.isRow.len, hm.isRow.len]
  by_cases hne : l.length = m.length
  · have c0 : (l.length : Int) = (m.length : Int) := by omega
    simp (disch := omega) only [WA, ↓reduceIte, jA, jB, jD, jE, jF, jG, jH, jI, jJ, c0]
    refine loop_rule (fun n e h' => ∃ (i : Nat), e 0 = v ∧ e 1 = w ∧ e 5 = .int .i64 i ∧ i ≤ l.length ∧ n = l.length - i ∧ Ext h h' ∧ l.take i = m.take i) ?_ l.length _ _ ⟨0, rfl, rfl, rfl, Nat.zero_le _, rfl, .refl _, by simp⟩
    rintro n e h1 ⟨i, e0, e1, ei, hi, rfl, E1, ht⟩
    simp (disch := omega) only [WA, ↓reduceIte, jA, jB, jD, jE, jF, jG, jH, jI, jJ, e0, e1, ei, hl.isRow.len]
    by_cases hlt : i < l.length
    · obtain ⟨x, hx⟩ := get_some hlt
      obtain ⟨y, hy⟩ := get_some (show i < m.length by omega)
      have c1 : (i : Int) < (l.length : Int) := by omega
      obtain ⟨_, x3, x4⟩ := Row.at (hl.mono E1) hx
      rw [Tm.sz] at x3
      obtain ⟨_, y3, y4⟩ := Row.at (hm.mono E1) hy
      rw [Tm.sz] at y3
      simp (disch := omega) only [WA, ↓reduceIte, jA, jB, jD, jE, jF, jG, jH, jI, jJ, e0, e1, ei, c1]
      refine draw_id (by kernel_rfl) ?_
      simp (disch := omega) only [WA, ↓reduceIte, jA, jB, jD, jE, jF, jG, jH, jI, jJ, e0, e1, ei, hl.isRow.ix, hm.isRow.ix, x3, y3]
      refine .inl ⟨by kernel_rfl, ?_⟩; refine eqTerm_c x4 y4 fun h2 E2 => ?_
      have x3' := x3
      have y3' := y3
      rw [← E2.cellsAt (row_live hl E1 hx)] at x3'
      rw [← E2.cellsAt (row_live hm E1 hy)] at y3'
      simp (disch := omega) only [WA, ↓reduceIte, jA, jB, jD, jE, jF, jG, jH, jI, jJ, x3', y3']
      by_cases hxy : x = y
      · subst hxy
        simp (disch := omega) only [WA, ↓reduceIte, jA, jB, jD, jE, jF, jG, jH, jI, jJ, e0, e1, ei, wrap_in]
        exact ⟨_, by omega, i + 1, by simp, by omega, rfl, E1.trans E2, take_succ_eq ht hx hy⟩
      · simp (disch := omega) only [WA, ↓reduceIte, jA, jB, jD, jE, jF, jG, jH, jI, jJ, hxy]
        have : l ≠ m := fun e => hxy (by rw [e, hy] at hx; simpa using hx.symm)
        simpa [this] using hQ _ (E1.trans E2)
    · obtain rfl : i = l.length := by omega
      have c1 : ¬ (l.length : Int) < (l.length : Int) := by omega
      simp (disch := omega) only [WA, ↓reduceIte, jA, jB, jD, jE, jF, jG, jH, jI, jJ, e0, e1, ei, c1]
      have : l = m := by rw [List.take_of_length_le (Nat.le_refl _), List.take_of_length_le (by omega)] at ht; exact ht
      simpa [this] using hQ _ E1
  · have c0 : ¬ (l.length : Int) = (m.length : Int) := by omega
    simp (disch := omega) only [WA, ↓reduceIte, jA, jB, jD, jE, jF, jG, jH, jI, jJ, c0]
    have : l ≠ m := fun e => hne (by rw [e])
    simpa [this] using hQ _ (.refl _)
theorem intactTermS_c {l : List Tm} {v w : Value} {h : Heap} {Q : Value → Heap → Prop} (hl : GivH h l [v]) (hm : GivH h l [w]) (hn : Siz.siz l ≤ 1000000)
    (hQ : ∀ h', Ext h h' → Q (.bool true) h') : CallsV Tryz.prog 38 [v, w] h Q := by
  refine CallsV.start Tryz.func38 rfl (by rw [Tryz.results38]) (by kernel_rfl) (by rw [Tryz.ntmps38]; simp) ?_
  have hs := siz_list l
  have hroom := roomM_le l.length
  have rl := hl.row
  have rm := hm.row
  obtain ⟨cl, al⟩ := hl.all
  obtain ⟨cm, am⟩ := hm.all
  have hc1 : l.length + roomM l.length ≤ rowC v := by omega
  have hc2 : l.length + roomM l.length ≤ rowC w := by omega
  simp (disch := omega) only [WA, ↓reduceIte, jA, jB, jD, jE, jF, jG, jH, jI, jJ, rm.isRow.len]
  refine .inl ⟨by kernel_rfl, ?_⟩; refine roomBehind_c (by omega) ?_
  simp (disch := omega) only [WA, ↓reduceIte, jA, jB, jD, jE, jF, jG, jH, jI, jJ, wrap_in]
  rw [← Int.natCast_add]
  refine draw_id (by kernel_rfl) ?_
  simp (disch := omega) only [WA, ↓reduceIte, jA, jB, jD, jE, jF, jG, jH, jI, jJ, rl.isRow.len, rm.isRow.len, rl.isRow.sl, rm.isRow.sl]
  refine .inl ⟨by kernel_rfl, ?_⟩; refine eqTermS_c (Gd.row al) (Gd.row am) fun h2 E2 => ?_
  simp (disch := omega) only [WA, ↓reduceIte, jA, jB, jD, jE, jF, jG, jH, jI, jJ]
  exact hQ _ E2
theorem szTermSS_c {l : List (List Tm)} {left : Int} {v : Value} {h : Heap} {Q : Value → Heap → Prop} (hl : Row h l v) (h0 : 0 ≤ left) (h1 : left ≤ 1000000)
    (hQ : ∀ h', Ext h h' → Q (.int .i64 (szR left (Siz.siz l))) h') : CallsV Tryz.prog 7 [v, .int .i64 left] h Q := by
  refine CallsV.start Tryz.func7 rfl (by rw [Tryz.results7]) (by kernel_rfl) (by rw [Tryz.ntmps7]; simp) ?_
  have hle := hl.le
  have hs := siz_list l
  simp (disch := omega) only [WA, ↓reduceIte, jA, jB, jD, jE, jF, jG, jH, jI, jJ, hl.isRow.len, wrap_in]
  by_cases c : left < (l.length : Int)
  · have c' : left - (l.length : Int) < 0 := by omega
    simp (disch := omega) only [WA, ↓reduceIte, jA, jB, jD, jE, jF, jG, jH, jI, jJ, c']
    rw [szR_lt (by omega)] at hQ
    exact hQ _ (.refl _)
  · have c' : ¬ left - (l.length : Int) < 0 := by omega
    simp (disch := omega) only [WA, ↓reduceIte, jA, jB, jD, jE, jF, jG, jH, jI, jJ, c']
    refine loop_rule (fun n e h' => ∃ (i : Nat), e 0 = v ∧ e 5 = .int .i64 i ∧ e 1 = .int .i64 (left - (l.length : Int) - (((l.take i).map Siz.siz).sum : Nat)) ∧ (((l.take i).map Siz.siz).sum : Nat) ≤ left - (l.length : Int) ∧ i ≤ l.length ∧ n = l.length - i ∧ Ext h h') ?_ l.length _ _ ⟨0, rfl, rfl, by simp [upd], by simp; omega, Nat.zero_le _, rfl, .refl _⟩
    rintro n e h1 ⟨i, e0, ei, el, hle2, hi, rfl, E1⟩
    simp (disch := omega) only [WA, ↓reduceIte, jA, jB, jD, jE, jF, jG, jH, jI, jJ, e0, ei, hl.isRow.len]
    by_cases hlt : i < l.length
    · obtain ⟨x, hx⟩ := get_some hlt
      have c1 : (i : Int) < (l.length : Int) := by omega
      have st := siz_take hx
      have sl := siz_take_le l (i + 1)
      obtain ⟨_, x3, x4⟩ := row_list (hl.mono E1) hx
      simp (disch := omega) only [WA, ↓reduceIte, jA, jB, jD, jE, jF, jG, jH, jI, jJ, e0, ei, el, c1, hl.isRow.ix, x3]
      refine .inl ⟨by kernel_rfl, ?_⟩; refine szTermS_c x4 (by omega) (by omega) fun h2 E2 => ?_
      by_cases c2 : left - (l.length : Int) - (((l.take i).map Siz.siz).sum : Nat) < (Siz.siz x : Int)
      · rw [szR_lt c2]
        simp (disch := omega) only [WA, ↓reduceIte, jA, jB, jD, jE, jF, jG, jH, jI, jJ]
        rw [szR_lt (by omega)] at hQ
        exact hQ _ (E1.trans E2)
      · rw [szR_ge c2]
        have c3 : ¬ left - (l.length : Int) - (((l.take i).map Siz.siz).sum : Nat) - (Siz.siz x : Int) < 0 := by omega
        simp (disch := omega) only [WA, ↓reduceIte, jA, jB, jD, jE, jF, jG, jH, jI, jJ, c3, e0, ei, wrap_in]
        exact ⟨_, by omega, i + 1, by simp, by congr 1; omega, by omega, by omega, rfl, E1.trans E2⟩
    · obtain rfl : i = l.length := by omega
      have c1 : ¬ (l.length : Int) < (l.length : Int) := by omega
      rw [List.take_length] at hle2 el
      simp (disch := omega) only [WA, ↓reduceIte, jA, jB, jD, jE, jF, jG, jH, jI, jJ, e0, ei, el, c1]
      rw [szR_ge (by omega)] at hQ
      have e2 : left - (Siz.siz l : Int) = left - (l.length : Int) - ((l.map Siz.siz).sum : Nat) := by omega
      rw [e2] at hQ
      exact hQ _ E1
theorem toTermSS_c {l : List (List Tm)} {b : Bool} {a : Value} {h : Heap} {Q : Value → Heap → Prop} (hl : Row h l a) (hn : Siz.siz l ≤ 1000000)
    (hQ : ∀ v h', Sep h h' [givA b l [v]] → Q v h') : CallsV Tryz.prog 10 [a, .bool b] h Q := by
  refine CallsV.start Tryz.func10 rfl (by rw [Tryz.results10]) (by kernel_rfl) (by rw [Tryz.ntmps10]; simp) ?_
  have hs := siz_list l
  have hm : ∀ {i : Nat} {x : (List Tm)}, l[i]? = some x → Siz.siz x ≤ 1000000 := fun hx => by have := siz_mem hx; omega
  have hroom := roomM_le l.length
  by_cases hb : b = true ∧ l = []
  · obtain ⟨rfl, rfl⟩ := hb
    simp (disch := omega) only [WA, ↓reduceIte, jA, jB, jD, jE, jF, jG, jH, jI, jJ, hl.isRow.len]
    exact hQ _ _ (Sep.givNil (.refl _))
  have hne : b = true → ¬ (l.length : Int) = 0 := fun hb1 => by have : l ≠ [] := fun e => hb ⟨hb1, e⟩; have := List.length_pos_iff.2 this; omega
  cases b
  case' false => simp (disch := omega) only [WA, ↓reduceIte, jA, jB, jD, jE, jF, jG, jH, jI, jJ, hl.isRow.len]
  case' true => simp (disch := omega) only [WA, ↓reduceIte, jA, jB, jD, jE, jF, jG, jH, jI, jJ, hl.isRow.len, hne rfl]
  case false =>
    refine .inl ⟨by kernel_rfl, roomBehind_c (by omega) ?_⟩
    simp (disch := omega) only [WA, ↓reduceIte, jA, jB, jD, jE, jF, jG, jH, jI, jJ, wrap_in]
    rw [← Int.natCast_add]
    refine sep_make (α := (Gd false (List Tm))) ⟨false, []⟩ (Sep.nil (.refl h)) te30 tk56 (fun h => (rep_nil (h := h))) (by decide) (by simp only []; omega) fun vf h0 s hcap hnv => ?_
    simp (disch := omega) only [WA, ↓reduceIte, jA, jB, jD, jE, jF, jG, jH, jI, jJ]
    refine loop_rule (fun n e h' => ∃ (i : Nat), e 0 = a ∧ e 1 = .bool false ∧ e 5 = vf ∧ e 6 = .int .i64 i ∧ i ≤ l.length ∧ n = l.length - i ∧ Sep h h' [ownA (α := (Gd false (List Tm))) 56 ((l.take i).map (fun x => (⟨true, x⟩ : (Gd false (List Tm)))) ++ List.replicate (l.length + roomM l.length - i) (⟨false, []⟩ : (Gd false (List Tm)))) vf]) ?_ l.length _ _ ⟨0, rfl, rfl, rfl, rfl, Nat.zero_le _, rfl, by simpa using s⟩
    rintro n e h1 ⟨i, e0, e1, eo, ei, hi, rfl, s⟩
    have E1 := s.ext
    have hlen : ((l.take i).map (fun x => (⟨true, x⟩ : (Gd false (List Tm)))) ++ List.replicate (l.length + roomM l.length - i) (⟨false, []⟩ : (Gd false (List Tm)))).length = l.length + roomM l.length := by simp; omega
    simp (disch := omega) only [WA, ↓reduceIte, jA, jB, jD, jE, jF, jG, jH, jI, jJ, e0, eo, ei, hl.isRow.len]
    by_cases hlt : i < l.length
    · obtain ⟨x, hx⟩ := get_some hlt
      have c1 : (i : Int) < (l.length : Int) := by omega
      obtain ⟨_, x3, x4⟩ := row_list (hl.mono E1) hx
      simp (disch := omega) only [WA, ↓reduceIte, jA, jB, jD, jE, jF, jG, jH, jI, jJ, e0, e1, eo, ei, c1, hl.isRow.ix, x3]
      refine .inl ⟨by kernel_rfl, ?_⟩; refine toTermS_c (b := false) x4 (hm hx) fun cs2 h2 s2 => ?_
      have hk := s2.gpull
      have s := s.add s2
      have ix := s.tail.row.isRow.ix Tryz.prog
      rw [hlen] at ix
      have hc := s2.gRep.rowR.isRow.cells
      simp (disch := omega) only [WA, ↓reduceIte, jA, jB, jD, jE, jF, jG, jH, jI, jJ, e0, e1, eo, ei, ix, hc]
      refine sep_set1 (α := (Gd false (List Tm))) (i := i) (y := ⟨true, x⟩) (Sep.swap (Sep.gGd s)) rfl (by omega) fun h3 s => ?_
      simp (disch := omega) only [WA, ↓reduceIte, jA, jB, jD, jE, jF, jG, jH, jI, jJ, e0, e1, eo, ei, wrap_in]
      rw [show l.length + roomM l.length - i = (l.length + roomM l.length - (i + 1)) + 1 by omega, gd_one hx] at s
      exact ⟨_, by omega, i + 1, by simp, by omega, rfl, s⟩
    · obtain rfl : i = l.length := by omega
      have c1 : ¬ (l.length : Int) < (l.length : Int) := by omega
      simp (disch := omega) only [WA, ↓reduceIte, jA, jB, jD, jE, jF, jG, jH, jI, jJ, e0, eo, ei, c1, hl.isRow.len]
      refine loop_rule (fun n e h' => ∃ (j : Nat), e 0 = a ∧ e 5 = vf ∧ e 7 = .int .i64 (l.length + j : Nat) ∧ j ≤ roomM l.length ∧ n = roomM l.length - j ∧ Sep h h' [ownA (α := (Gd false (List Tm))) 56 (l.map (fun x => (⟨true, x⟩ : (Gd false (List Tm)))) ++ List.replicate j (⟨false, Giv.fill⟩ : (Gd false (List Tm))) ++ List.replicate (roomM l.length - j) (⟨false, []⟩ : (Gd false (List Tm)))) vf]) ?_ (roomM l.length) _ _ ⟨0, e0, eo, rfl, Nat.zero_le _, rfl, by simpa using s⟩
      rintro n e h1 ⟨j, e0, eo, ej, hj, rfl, s⟩
      have hlen : (l.map (fun x => (⟨true, x⟩ : (Gd false (List Tm)))) ++ List.replicate j (⟨false, Giv.fill⟩ : (Gd false (List Tm))) ++ List.replicate (roomM l.length - j) (⟨false, []⟩ : (Gd false (List Tm)))).length = l.length + roomM l.length := by simp; omega
      have len := s.row.isRow.len Tryz.prog
      rw [hlen] at len
      simp (disch := omega) only [WA, ↓reduceIte, jA, jB, jD, jE, jF, jG, jH, jI, jJ, e0, eo, ej, len]
      by_cases hlt : j < roomM l.length
      · have c1 : ((l.length + j : Nat) : Int) < ((l.length + roomM l.length : Nat) : Int) := by omega
        simp (disch := omega) only [WA, ↓reduceIte, jA, jB, jD, jE, jF, jG, jH, jI, jJ, e0, eo, ej, c1]
        refine .inl ⟨by kernel_rfl, ?_⟩; refine fillerTerm_c fun cs2 h2 s2 => ?_
        have s := s.add s2
        have ix := s.tail.row.isRow.ix Tryz.prog
        rw [hlen] at ix
        obtain ⟨rfl, g0, g1, g2, g3⟩ := here_Tm s2.here
        have s := (s.newBlk [.int .i64 fill_Tm.c, .int .i64 fill_Tm.x, .int .i64 fill_Tm.y, .int .i64 fill_Tm.z] 59 true).blkRow (l := [fill_Tm]) (n := 1) ⟨[[]], ⟨_, [], [], [], rfl, rfl, rep_Tm g0 g1 g2 g3, rfl, rfl⟩, rfl⟩ rfl (by decide)
        have s := s.swap.tail
        simp (disch := omega) only [WA, ↓reduceIte, jA, jB, jD, jE, jF, jG, jH, jI, jJ, e0, eo, ej, ix]
        refine sep_set1 (α := (Gd false (List Tm))) (i := l.length + j) (y := ⟨false, Giv.fill⟩) (Sep.swap (Sep.rGd s)) rfl (by omega) fun h3 s => ?_
        simp (disch := omega) only [WA, ↓reduceIte, jA, jB, jD, jE, jF, jG, jH, jI, jJ, e0, eo, ej, wrap_in]
        rw [show roomM l.length - j = (roomM l.length - (j + 1)) + 1 by omega, gd_two] at s
        exact ⟨_, by omega, j + 1, by simp; omega, by omega, rfl, by simpa only [List.append_assoc] using s⟩
      · obtain rfl : j = roomM l.length := by omega
        have c1 : ¬ ((l.length + roomM l.length : Nat) : Int) < ((l.length + roomM l.length : Nat) : Int) := by omega
        have hcap' : l.length ≤ rowC vf := by rw [hcap]; omega
        simp (disch := omega) only [WA, ↓reduceIte, jA, jB, jD, jE, jF, jG, jH, jI, jJ, e0, eo, ej, c1, hl.isRow.len, s.row.isRow.sl]
        rw [Nat.sub_self, List.replicate_zero, List.append_nil] at s
        exact hQ _ _ (Sep.givL (l := l) s hcap)
  case true =>
    refine .inl ⟨by kernel_rfl, roomBehind_c (by omega) ?_⟩
    simp (disch := omega) only [WA, ↓reduceIte, jA, jB, jD, jE, jF, jG, jH, jI, jJ, wrap_in]
    rw [← Int.natCast_add]
    refine sep_make (α := (Gd true (List Tm))) ⟨false, []⟩ (Sep.nil (.refl h)) te30 tk56 (fun h => (rep_nil (h := h))) (by decide) (by simp only []; omega) fun vf h0 s hcap hnv => ?_
    simp (disch := omega) only [WA, ↓reduceIte, jA, jB, jD, jE, jF, jG, jH, jI, jJ]
    refine loop_rule (fun n e h' => ∃ (i : Nat), e 0 = a ∧ e 1 = .bool true ∧ e 5 = vf ∧ e 6 = .int .i64 i ∧ i ≤ l.length ∧ n = l.length - i ∧ Sep h h' [ownA (α := (Gd true (List Tm))) 56 ((l.take i).map (fun x => (⟨true, x⟩ : (Gd true (List Tm)))) ++ List.replicate (l.length + roomM l.length - i) (⟨false, []⟩ : (Gd true (List Tm)))) vf]) ?_ l.length _ _ ⟨0, rfl, rfl, rfl, rfl, Nat.zero_le _, rfl, by simpa using s⟩
    rintro n e h1 ⟨i, e0, e1, eo, ei, hi, rfl, s⟩
    have E1 := s.ext
    have hlen : ((l.take i).map (fun x => (⟨true, x⟩ : (Gd true (List Tm)))) ++ List.replicate (l.length + roomM l.length - i) (⟨false, []⟩ : (Gd true (List Tm)))).length = l.length + roomM l.length := by simp; omega
    simp (disch := omega) only [WA, ↓reduceIte, jA, jB, jD, jE, jF, jG, jH, jI, jJ, e0, eo, ei, hl.isRow.len]
    by_cases hlt : i < l.length
    · obtain ⟨x, hx⟩ := get_some hlt
      have c1 : (i : Int) < (l.length : Int) := by omega
      obtain ⟨_, x3, x4⟩ := row_list (hl.mono E1) hx
      simp (disch := omega) only [WA, ↓reduceIte, jA, jB, jD, jE, jF, jG, jH, jI, jJ, e0, e1, eo, ei, c1, hl.isRow.ix, x3]
      refine .inl ⟨by kernel_rfl, ?_⟩; refine toTermS_c (b := true) x4 (hm hx) fun cs2 h2 s2 => ?_
      have hk := s2.gpull
      have s := s.add s2
      have ix := s.tail.row.isRow.ix Tryz.prog
      rw [hlen] at ix
      have hc := s2.gRep.rowR.isRow.cells
      simp (disch := omega) only [WA, ↓reduceIte, jA, jB, jD, jE, jF, jG, jH, jI, jJ, e0, e1, eo, ei, ix, hc]
      refine sep_set1 (α := (Gd true (List Tm))) (i := i) (y := ⟨true, x⟩) (Sep.swap (Sep.gGd s)) rfl (by omega) fun h3 s => ?_
      simp (disch := omega) only [WA, ↓reduceIte, jA, jB, jD, jE, jF, jG, jH, jI, jJ, e0, e1, eo, ei, wrap_in]
      rw [show l.length + roomM l.length - i = (l.length + roomM l.length - (i + 1)) + 1 by omega, gd_one hx] at s
      exact ⟨_, by omega, i + 1, by simp, by omega, rfl, s⟩
    · obtain rfl : i = l.length := by omega
      have c1 : ¬ (l.length : Int) < (l.length : Int) := by omega
      simp (disch := omega) only [WA, ↓reduceIte, jA, jB, jD, jE, jF, jG, jH, jI, jJ, e0, eo, ei, c1, hl.isRow.len]
      refine loop_rule (fun n e h' => ∃ (j : Nat), e 0 = a ∧ e 5 = vf ∧ e 7 = .int .i64 (l.length + j : Nat) ∧ j ≤ roomM l.length ∧ n = roomM l.length - j ∧ Sep h h' [ownA (α := (Gd true (List Tm))) 56 (l.map (fun x => (⟨true, x⟩ : (Gd true (List Tm)))) ++ List.replicate j (⟨false, Giv.fill⟩ : (Gd true (List Tm))) ++ List.replicate (roomM l.length - j) (⟨false, []⟩ : (Gd true (List Tm)))) vf]) ?_ (roomM l.length) _ _ ⟨0, e0, eo, rfl, Nat.zero_le _, rfl, by simpa using s⟩
      rintro n e h1 ⟨j, e0, eo, ej, hj, rfl, s⟩
      have hlen : (l.map (fun x => (⟨true, x⟩ : (Gd true (List Tm)))) ++ List.replicate j (⟨false, Giv.fill⟩ : (Gd true (List Tm))) ++ List.replicate (roomM l.length - j) (⟨false, []⟩ : (Gd true (List Tm)))).length = l.length + roomM l.length := by simp; omega
      have len := s.row.isRow.len Tryz.prog
      rw [hlen] at len
      simp (disch := omega) only [WA, ↓reduceIte, jA, jB, jD, jE, jF, jG, jH, jI, jJ, e0, eo, ej, len]
      by_cases hlt : j < roomM l.length
      · have c1 : ((l.length + j : Nat) : Int) < ((l.length + roomM l.length : Nat) : Int) := by omega
        simp (disch := omega) only [WA, ↓reduceIte, jA, jB, jD, jE, jF, jG, jH, jI, jJ, e0, eo, ej, c1]
        refine .inl ⟨by kernel_rfl, ?_⟩; refine fillerTerm_c fun cs2 h2 s2 => ?_
        have s := s.add s2
        have ix := s.tail.row.isRow.ix Tryz.prog
        rw [hlen] at ix
        obtain ⟨rfl, g0, g1, g2, g3⟩ := here_Tm s2.here
        have s := (s.newBlk [.int .i64 fill_Tm.c, .int .i64 fill_Tm.x, .int .i64 fill_Tm.y, .int .i64 fill_Tm.z] 59 true).blkRow (l := [fill_Tm]) (n := 1) ⟨[[]], ⟨_, [], [], [], rfl, rfl, rep_Tm g0 g1 g2 g3, rfl, rfl⟩, rfl⟩ rfl (by decide)
        have s := s.swap.tail
        simp (disch := omega) only [WA, ↓reduceIte, jA, jB, jD, jE, jF, jG, jH, jI, jJ, e0, eo, ej, ix]
        refine sep_set1 (α := (Gd true (List Tm))) (i := l.length + j) (y := ⟨false, Giv.fill⟩) (Sep.swap (Sep.rGd s)) rfl (by omega) fun h3 s => ?_
        simp (disch := omega) only [WA, ↓reduceIte, jA, jB, jD, jE, jF, jG, jH, jI, jJ, e0, eo, ej, wrap_in]
        rw [show roomM l.length - j = (roomM l.length - (j + 1)) + 1 by omega, gd_two] at s
        exact ⟨_, by omega, j + 1, by simp; omega, by omega, rfl, by simpa only [List.append_assoc] using s⟩
      · obtain rfl : j = roomM l.length := by omega
        have c1 : ¬ ((l.length + roomM l.length : Nat) : Int) < ((l.length + roomM l.length : Nat) : Int) := by omega
        have hcap' : l.length ≤ rowC vf := by rw [hcap]; omega
        simp (disch := omega) only [WA, ↓reduceIte, jA, jB, jD, jE, jF, jG, jH, jI, jJ, e0, eo, ej, c1, hl.isRow.len, s.row.isRow.sl]
        rw [Nat.sub_self, List.replicate_zero, List.append_nil] at s
        exact hQ _ _ (Sep.givL (l := l) s hcap)
theorem eqTermSS_c {l m : List (List Tm)} {v w : Value} {h : Heap} {Q : Value → Heap → Prop} (hl : Row h l v) (hm : Row h m w)
    (hQ : ∀ h', Ext h h' → Q (.bool (decide (l = m))) h') : CallsV Tryz.prog 39 [v, w] h Q := by
  refine CallsV.start Tryz.func39 rfl (by rw [Tryz.results39]) (by kernel_rfl) (by rw [Tryz.ntmps39]; simp) ?_
  have hll := hl.le
  have hml := hm.le
  simp (disch := omega) only [WA, ↓reduceIte, jA, jB, jD, jE, jF, jG, jH, jI, jJ, hl.isRow.len, hm.isRow.len]
  by_cases hne : l.length = m.length
  · have c0 : (l.length : Int) = (m.length : Int) := by omega
    simp (disch := omega) only [WA, ↓reduceIte, jA, jB, jD, jE, jF, jG, jH, jI, jJ, c0]
    refine loop_rule (fun n e h' => ∃ (i : Nat), e 0 = v ∧ e 1 = w ∧ e 5 = .int .i64 i ∧ i ≤ l.length ∧ n = l.length - i ∧ Ext h h' ∧ l.take i = m.take i) ?_ l.length _ _ ⟨0, rfl, rfl, rfl, Nat.zero_le _, rfl, .refl _, by simp⟩
    rintro n e h1 ⟨i, e0, e1, ei, hi, rfl, E1, ht⟩
    simp (disch := omega) only [WA, ↓reduceIte, jA, jB, jD, jE, jF, jG, jH, jI, jJ, e0, e1, ei, hl.isRow.len]
    by_cases hlt : i < l.length
    · obtain ⟨x, hx⟩ := get_some hlt
      obtain ⟨y, hy⟩ := get_some (show i < m.length by omega)
      have c1 : (i : Int) < (l.length : Int) := by omega
      obtain ⟨_, x3, x4⟩ := row_list (hl.mono E1) hx
      obtain ⟨_, y3, y4⟩ := row_list (hm.mono E1) hy
      simp (disch := omega) only [WA, ↓reduceIte, jA, jB, jD, jE, jF, jG, jH, jI, jJ, e0, e1, ei, c1]
      refine draw_id (by kernel_rfl) ?_
      simp (disch := omega) only [WA, ↓reduceIte, jA, jB, jD, jE, jF, jG, jH, jI, jJ, e0, e1, ei, hl.isRow.ix, hm.isRow.ix, x3, y3]
      refine .inl ⟨by kernel_rfl, ?_⟩; refine eqTermS_c x4 y4 fun h2 E2 => ?_
      have x3' := x3
      have y3' := y3
      rw [← E2.getC (row_live hl E1 hx)] at x3'
      rw [← E2.getC (row_live hm E1 hy)] at y3'
      simp (disch := omega) only [WA, ↓reduceIte, jA, jB, jD, jE, jF, jG, jH, jI, jJ, x3', y3']
      by_cases hxy : x = y
      · subst hxy
        simp (disch := omega) only [WA, ↓reduceIte, jA, jB, jD, jE, jF, jG, jH, jI, jJ, e0, e1, ei, wrap_in]
        exact ⟨_, by omega, i + 1, by simp, by omega, rfl, E1.trans E2, take_succ_eq ht hx hy⟩
      · simp (disch := omega) only [WA, ↓reduceIte, jA, jB, jD, jE, jF, jG, jH, jI, jJ, hxy]
        have : l ≠ m := fun e => hxy (by rw [e, hy] at hx; simpa using hx.symm)
        simpa [this] using hQ _ (E1.trans E2)
    · obtain rfl : i = l.length := by omega
      have c1 : ¬ (l.length : Int) < (l.length : Int) := by omega
      simp (disch := omega) only [WA, ↓reduceIte, jA, jB, jD, jE, jF, jG, jH, jI, jJ, e0, e1, ei, c1]
      have : l = m := by rw [List.take_of_length_le (Nat.le_refl _), List.take_of_length_le (by omega)] at ht; exact ht
      simpa [this] using hQ _ E1
  · have c0 : ¬ (l.length : Int) = (m.length : Int) := by omega
    simp (disch := omega) only [WA, ↓reduceIte, jA, jB, jD, jE, jF, jG, jH, jI, jJ, c0]
    have : l ≠ m := fun e => hne (by rw [e])
    simpa [this] using hQ _ (.refl _)
theorem intactTermSS_c {l : List (List Tm)} {v w : Value} {h : Heap} {Q : Value → Heap → Prop} (hl : GivH h l [v]) (hm : GivH h l [w]) (hn : Siz.siz l ≤ 1000000)
    (hQ : ∀ h', Ext h h' → Q (.bool true) h') : CallsV Tryz.prog 13 [v, w] h Q := by
  refine CallsV.start Tryz.func13 rfl (by rw [Tryz.results13]) (by kernel_rfl) (by rw [Tryz.ntmps13]; simp) ?_
  have hs := siz_list l
  have hroom := roomM_le l.length
  have rl := hl.row
  have rm := hm.row
  obtain ⟨cl, al⟩ := hl.all
  obtain ⟨cm, am⟩ := hm.all
  have hc1 : l.length + roomM l.length ≤ rowC v := by omega
  have hc2 : l.length + roomM l.length ≤ rowC w := by omega
  simp (disch := omega) only [WA, ↓reduceIte, jA, jB, jD, jE, jF, jG, jH, jI, jJ, rm.isRow.len]
  refine .inl ⟨by kernel_rfl, ?_⟩; refine roomBehind_c (by omega) ?_
  simp (disch := omega) only [WA, ↓reduceIte, jA, jB, jD, jE, jF, jG, jH, jI, jJ, wrap_in, rl.isRow.len, rm.isRow.len]
  rw [← Int.natCast_add]
  refine loop_rule (fun n e h' => ∃ (i : Nat), e 0 = v ∧ e 1 = w ∧ e 5 = .int .i64 (l.length + roomM l.length : Nat) ∧ e 6 = .int .i64 i ∧ i ≤ l.length ∧ n = l.length - i ∧ Ext h h') ?_ l.length _ _ ⟨0, rfl, rfl, rfl, rfl, Nat.zero_le _, rfl, .refl _⟩
  rintro n e h1 ⟨i, e0, e1, en, ei, hi, rfl, E1⟩
  simp (disch := omega) only [WA, ↓reduceIte, jA, jB, jD, jE, jF, jG, jH, jI, jJ, e0, e1, ei, rm.isRow.len]
  by_cases hlt : i < l.length
  · obtain ⟨x, hx⟩ := get_some hlt
    have c1 : (i : Int) < (l.length : Int) := by omega
    have hsx := siz_mem hx
    obtain ⟨xs, x3, x4⟩ := (hl.mono E1).at hx
    obtain ⟨ys, y3, y4⟩ := (hm.mono E1).at hx
    obtain ⟨xs, rfl, x4⟩ := giv_list x4
    obtain ⟨ys, rfl, y4⟩ := giv_list y4
    have x3 := cells1 x3
    have y3 := cells1 y3
    have e1' : Rep.sz (List Tm) = 1 := rfl
    rw [e1', Nat.mul_one] at x3 y3
    simp (disch := omega) only [WA, ↓reduceIte, jA, jB, jD, jE, jF, jG, jH, jI, jJ, e0, e1, ei, c1]
    refine draw_id (by kernel_rfl) ?_
    simp (disch := omega) only [WA, ↓reduceIte, jA, jB, jD, jE, jF, jG, jH, jI, jJ, e0, e1, ei, rl.isRow.ix, rm.isRow.ix, x3, y3]
    refine .inl ⟨by kernel_rfl, ?_⟩; refine intactTermS_c x4 y4 (by omega) fun h2 E2 => ?_
    have x3' := x3
    have y3' := y3
    rw [← E2.getC (row_live rl E1 hx)] at x3'
    rw [← E2.getC (row_live rm E1 hx)] at y3'
    simp (disch := omega) only [WA, ↓reduceIte, jA, jB, jD, jE, jF, jG, jH, jI, jJ, x3', y3', e0, e1, ei, wrap_in, en]
    exact ⟨_, by omega, i + 1, by simp, by omega, rfl, E1.trans E2⟩
  · obtain rfl : i = l.length := by omega
    have c1 : ¬ (l.length : Int) < (l.length : Int) := by omega
    simp (disch := omega) only [WA, ↓reduceIte, jA, jB, jD, jE, jF, jG, jH, jI, jJ, e0, e1, ei, en, c1]
    refine draw_id (by kernel_rfl) ?_
    have al2 := (Gd.row al).tail (a := l.length) E1 (by simp [gdAll_length]) (by omega)
    have am2 := (Gd.row am).tail (a := l.length) E1 (by simp [gdAll_length]) (by omega)
    simp (disch := omega) only [WA, ↓reduceIte, jA, jB, jD, jE, jF, jG, jH, jI, jJ, e0, e1, ei, en, rm.isRow.len, rl.isRow.sl, rm.isRow.sl]
    refine .inl ⟨by kernel_rfl, ?_⟩; refine eqTermSS_c al2 am2 fun h2 E2 => ?_
    simp (disch := omega) only [WA, ↓reduceIte, jA, jB, jD, jE, jF, jG, jH, jI, jJ]
    exact hQ _ (E1.trans E2)
end Go.Proofs
