/- Contracts of functions, facts of types, or the plain law behind one statement (own work): IJ. Conditions: those told in each theorem. -/
import Derived.Test.YtlnephhhcofilaaGreatIH
import Derived.Test.YtlnephhhcofilaaGreatHT
set_option linter.all false
set_option linter.unusedSimpArgs false
set_option linter.unusedVariables false
set_option maxRecDepth 4000
namespace Go.Proofs
open Go Go.V
open Nat (reduceEqDiff reduceAdd reduceMul reduceSub reduceLeDiff)
open Int (reduceLT reduceLE reduceNeg reduceEq)
/- A polynomial's value over a box. -/
def exM (t : Tm) : Nat → Int
  | 0 => t.x
  | 1 => t.y
  | _ => t.z
def stepM (t : Tm) (i : Nat) (s : Iv) (o : Option Iv) : Option Iv := o.bind fun a => (powI s (exM t i).toNat).bind fun b => mulI a b
def partF (t : Tm) : Nat → List Iv → Option Iv → Option Iv
  | _, [], o => o
  | i, s :: l, o => partF t (i + 1) l (stepM t i s o)
def oneI (d : Dy) : Iv := ⟨d, d⟩
def partM (t : Tm) (sides : List Iv) : Option Iv := partF t 0 sides (some (oneI ⟨t.c, 0⟩))
def addO (s : Option Iv) (q : Option Iv) : Option Iv := s.bind fun a => q.bind fun b => addI a b
def valF (sides : List Iv) : List Tm → Option Iv → Option Iv
  | [], o => o
  | t :: l, o => valF sides l (addO o (partM t sides))
def zeroI : Iv := ⟨⟨0, 0⟩, ⟨0, 0⟩⟩
def valM (p : List Tm) (sides : List Iv) : Option Iv := valF sides p (some zeroI)
/-- What a term of a polynomial keeps to. -/
structure TmG (t : Tm) : Prop where
  c0 : -1099511627776 ≤ t.c
  c1 : t.c ≤ 1099511627776
  x0 : 0 ≤ t.x
  x1 : t.x ≤ 4
  y0 : 0 ≤ t.y
  y1 : t.y ≤ 4
  z0 : 0 ≤ t.z
  z1 : t.z ≤ 4
theorem exM_in {t : Tm} (h : TmG t) (i : Nat) : 0 ≤ exM t i ∧ exM t i ≤ 4 := by
  match i with
  | 0 => exact ⟨h.x0, h.x1⟩
  | 1 => exact ⟨h.y0, h.y1⟩
  | _ + 2 => exact ⟨h.z0, h.z1⟩
theorem here_iv {h : Heap} {x : Iv} {cs : List Value} (hr : Here h x cs) : cs = ivC x := (here_Iv hr).1
theorem exps_c {t : Tm} {h : Heap} {Q : Value → Heap → Prop} (hQ : ∀ h', Ext h h' → Q (.agg #[.int .i64 t.x, .int .i64 t.y, .int .i64 t.z]) h') :
    CallsV Tryz.prog 112 [.agg #[.int .i64 t.c, .int .i64 t.x, .int .i64 t.y, .int .i64 t.z]] h Q := by
  refine CallsV.start Tryz.func112 rfl (by rw [Tryz.results112]) (by kernel_rfl) (by rw [Tryz.ntmps112]; simp) ?_
  simp (disch := omega) only [WA, ↓reduceIte, reduceEqDiff, reduceAdd, reduceMul, reduceSub, reduceLeDiff, reduceLT, reduceLE, reduceNeg, reduceEq]
  exact hQ _ (.app _ _)
theorem partF_drop {t : Tm} {o : Option Iv} {sides : List Iv} {i : Nat} {s : Iv} (h : sides[i]? = some s) : partF t i (sides.drop i) o = partF t (i + 1) (sides.drop (i + 1)) (stepM t i s o) := by
  obtain ⟨hlt, he⟩ := List.getElem?_eq_some_iff.1 h
  rw [List.drop_eq_getElem_cons hlt, he]; rfl
theorem valF_drop {p : List Tm} {o : Option Iv} {sides : List Iv} {i : Nat} {t : Tm} (h : p[i]? = some t) : valF sides (p.drop i) o = valF sides (p.drop (i + 1)) (addO o (partM t sides)) := by
  obtain ⟨hlt, he⟩ := List.getElem?_eq_some_iff.1 h
  rw [List.drop_eq_getElem_cons hlt, he]; rfl
/-- A value that is right while nothing has failed. -/
structure Holds (o : Option Iv) (v : Iv) : Prop where
  d : IvD v
  eq : ∀ x, o = some x → v = x
theorem Holds.some {v : Iv} (h : IvD v) : Holds (some v) v := ⟨h, fun x hx => Option.some.inj hx⟩
theorem valueOver_c {p : List Tm} {sides : List Iv} {v w : Value} {h : Heap} {Q : Value → Heap → Prop} (rp : Row h p v) (rs : Row h sides w) (hp : ∀ t ∈ p, TmG t) (hs : ∀ s ∈ sides, IvD s) (h3 : sides.length ≤ 3)
    (hQ : ∀ h', Ext h h' → Q (.tuple #[.agg (ivC ((valM p sides).getD zeroI)).toArray, .bool (valM p sides).isSome]) h') :
    CallsV Tryz.prog 130 [v, w] h Q := by
  refine CallsV.start Tryz.func130 rfl (by rw [Tryz.results130]) (by kernel_rfl) (by rw [Tryz.ntmps130]; simp) ?_
  have hple := rp.le
  have s := ((((Sep.nil (.refl h)).newBlk [.int .i64 0, .int .i64 0, .int .i64 0, .int .i64 0] 122 true).newBlk [.bool true] 149 true).newBlk [.int .i64 0, .int .i64 0, .int .i64 0, .int .i64 0] 122 true)
  simp only [List.append_assoc, List.cons_append, List.nil_append, List.length_append, List.length_cons, List.length_nil, Nat.reduceAdd] at s
  simp (disch := omega) only [WA, ↓reduceIte, reduceEqDiff, reduceAdd, reduceMul, reduceSub, reduceLeDiff, reduceLT, reduceLE, reduceNeg, reduceEq, rp.isRow.len]
  generalize h ++ [some ⟨[.int .i64 0, .int .i64 0, .int .i64 0, .int .i64 0], 122, false, true⟩, some ⟨[.bool true], 149, false, true⟩, some ⟨[.int .i64 0, .int .i64 0, .int .i64 0, .int .i64 0], 122, false, true⟩] = H0 at s ⊢
  refine loop_rule (fun m e h' => ∃ (i : Nat) (S : Option Iv) (sv : Iv), e 0 = v ∧ e 1 = w ∧ e 4 = .pointer (some ⟨h.length, 0, none⟩) ∧ e 6 = .pointer (some ⟨h.length + 1, 0, none⟩) ∧ e 7 = .pointer (some ⟨h.length + 2, 0, none⟩) ∧ e 16 = v ∧ e 17 = .int .i64 p.length ∧ e 18 = .int .i64 i ∧
    i ≤ p.length ∧ m = p.length - i ∧ Holds S sv ∧ valM p sides = valF sides (p.drop i) S ∧
    Sep h h' [blkA (h.length + 2) (ivC sv) 122, blkA (h.length + 1) [.bool S.isSome] 149, blkA h.length [.int .i64 0, .int .i64 0, .int .i64 0, .int .i64 0] 122]) ?_ p.length _ _
    ⟨0, some zeroI, zeroI, rfl, rfl, rfl, rfl, rfl, rfl, rfl, rfl, by omega, by omega, .some ⟨good0, good0⟩, rfl, s⟩
  clear s
  rintro m e h1 ⟨i, S, sv, e0, e1, e4, e6, e7, e16, e17, e18, hi, rfl, hS, hv, s⟩
  simp (disch := omega) only [WA, ↓reduceIte, reduceEqDiff, reduceAdd, reduceMul, reduceSub, reduceLeDiff, reduceLT, reduceLE, reduceNeg, reduceEq, e17, e18]
  by_cases c : i < p.length
  · obtain ⟨t, ht⟩ := get_some c
    have c1 : (i : Int) < (p.length : Int) := by omega
    have gt := hp t (List.mem_of_getElem? ht)
    obtain ⟨xs, x3, x4⟩ := (rp.mono s.ext).at ht
    rw [Tm.sz] at x3
    obtain ⟨rfl, -⟩ := here_Tm x4
    rw [valF_drop ht] at hv
    simp (disch := omega) only [WA, ↓reduceIte, reduceEqDiff, reduceAdd, reduceMul, reduceSub, reduceLeDiff, reduceLT, reduceLE, reduceNeg, reduceEq, c1, e16, e18, rp.isRow.ix, x3]
    have s := s.newBlk [.int .i64 t.c, .int .i64 t.x, .int .i64 t.y, .int .i64 t.z] 59 true
    refine .inl ⟨by kernel_rfl, ?_⟩; refine integer_c fun h2 E2 => ?_
    refine .inl ⟨by kernel_rfl, ?_⟩; refine single_c fun h3' E3 => ?_
    have s := (s.mono E2).mono E3
    have s := s.newBlk (ivC ⟨⟨t.c, 0⟩, ⟨t.c, 0⟩⟩) 122 true
    simp (disch := omega) only [WA, ↓reduceIte, reduceEqDiff, reduceAdd, reduceMul, reduceSub, reduceLeDiff, reduceLT, reduceLE, reduceNeg, reduceEq, e1, rs.isRow.len]
    generalize hH : h3' ++ [some ⟨ivC ⟨⟨t.c, 0⟩, ⟨t.c, 0⟩⟩, 122, false, true⟩] = H1 at s ⊢
    refine loop_rule (fun m e h' => ∃ (j : Nat) (T : Option Iv) (pv : Iv), e 0 = v ∧ e 1 = w ∧ e 4 = .pointer (some ⟨h.length, 0, none⟩) ∧ e 6 = .pointer (some ⟨h.length + 1, 0, none⟩) ∧ e 7 = .pointer (some ⟨h.length + 2, 0, none⟩) ∧ e 16 = v ∧ e 17 = .int .i64 p.length ∧ e 18 = .int .i64 i ∧
      e 9 = .pointer (some ⟨h1.length, 0, none⟩) ∧ e 10 = .pointer (some ⟨h3'.length, 0, none⟩) ∧ e 26 = w ∧ e 27 = .int .i64 sides.length ∧ e 28 = .int .i64 j ∧
      j ≤ sides.length ∧ m = sides.length - j ∧ IvD pv ∧ (∀ x, S.isSome = true → T = some x → pv = x) ∧ partM t sides = partF t j (sides.drop j) T ∧
      Sep h h' [blkA h3'.length (ivC pv) 122, blkA h1.length [.int .i64 t.c, .int .i64 t.x, .int .i64 t.y, .int .i64 t.z] 59, blkA (h.length + 2) (ivC sv) 122, blkA (h.length + 1) [.bool (S.isSome && T.isSome)] 149, blkA h.length [.int .i64 0, .int .i64 0, .int .i64 0, .int .i64 0] 122]) ?_ sides.length _ _
      ⟨0, some (oneI ⟨t.c, 0⟩), oneI ⟨t.c, 0⟩, e0, e1, e4, e6, e7, e16, e17, e18, rfl, rfl, rfl, rfl, rfl, by omega, by omega, ⟨good_int ⟨gt.c0, gt.c1⟩, good_int ⟨gt.c0, gt.c1⟩⟩, fun x _ hx => Option.some.inj hx, rfl, by
        have e : (S.isSome && (some (oneI ⟨t.c, 0⟩)).isSome) = S.isSome := by simp
        rw [e]; exact s⟩
    clear s
    rintro m e h4 ⟨j, T, pv, e0, e1, e4, e6, e7, e16, e17, e18, e9, e10, e26, e27, e28, hj, rfl, hpv, hT, hpt, s⟩
    simp (disch := omega) only [WA, ↓reduceIte, reduceEqDiff, reduceAdd, reduceMul, reduceSub, reduceLeDiff, reduceLT, reduceLE, reduceNeg, reduceEq, e27, e28]
    by_cases cj : j < sides.length
    · obtain ⟨sd, hsd⟩ := get_some cj
      have c2 : (j : Int) < (sides.length : Int) := by omega
      obtain ⟨ys, y3, y4⟩ := (rs.mono s.ext).at hsd
      rw [Iv.sz] at y3
      obtain rfl := here_iv y4
      have gsd := hs sd (List.mem_of_getElem? hsd)
      have hex := exM_in gt j
      simp (disch := omega) only [WA, ↓reduceIte, reduceEqDiff, reduceAdd, reduceMul, reduceSub, reduceLeDiff, reduceLT, reduceLE, reduceNeg, reduceEq, c2, e26, e28, rs.isRow.ix, y3]
      have s := s.newBlk (ivC sd) 122 true
      have f1 := (s.pull 1 rfl).rdAll (n := 4) rfl
      have f2 := (s.pull 0 rfl).rdAll (n := 4) rfl
      have f3 := (s.pull 2 rfl).rdAll (n := 4) rfl
      refine draw_tail [0, 1, 2, 3, 4, 6] [5, 7, 8, 9, 10] (by kernel_rfl) (by simp only [List.filterMap_cons, List.filterMap_nil, List.getElem?_cons_zero, List.getElem?_cons_succ]; rfl) ?_
      simp (disch := omega) only [WA, ↓reduceIte, reduceEqDiff, reduceAdd, reduceMul, reduceSub, reduceLeDiff, reduceLT, reduceLE, reduceNeg, reduceEq, e6, e9, e10, f1, f2, f3]
      refine tail_step [(5, [7], [8, 9, 10], false)] (by kernel_rfl) (by kernel_rfl) (a_cons (by simp only [List.filterMap_cons, List.filterMap_nil, List.getElem?_cons_zero, List.getElem?_cons_succ]; rfl) (by kernel_rfl) ?_ trivial)
      simp (disch := omega) only [WA, ↓reduceIte, reduceEqDiff, reduceAdd, reduceMul, reduceSub, reduceLeDiff, reduceLT, reduceLE, reduceNeg, reduceEq, e6, e9, e10, f1, f2, f3]
      refine .inl ⟨by kernel_rfl, ?_⟩; refine exps_c fun h5 E5 => ?_
      have s := s.mono E5
      have f1 := (s.pull 1 rfl).rdAll (n := 4) rfl
      have f2 := (s.pull 0 rfl).rdAll (n := 4) rfl
      have f3 := (s.pull 2 rfl).rdAll (n := 4) rfl
      have ej : j = 0 ∨ j = 1 ∨ j = 2 := by omega
      have hidx : indexV Tryz.prog 126 (.agg #[.int .i64 t.x, .int .i64 t.y, .int .i64 t.z]) (.int .i64 j) = some (.int .i64 (exM t j)) := by
        rcases ej with rfl | rfl | rfl
        · rfl
        · rfl
        · rfl
      have ete : ((exM t j).toNat : Int) = exM t j := by omega
      simp (disch := omega) only [WA, ↓reduceIte, reduceEqDiff, reduceAdd, reduceMul, reduceSub, reduceLeDiff, reduceLT, reduceLE, reduceNeg, reduceEq, e28, f1, f2, f3, hidx]
      refine tail_step [(8, [], [9, 10], false)] (by kernel_rfl) (by kernel_rfl) (a_cons (by simp only [List.filterMap_cons, List.filterMap_nil, List.getElem?_cons_zero, List.getElem?_cons_succ]; rfl) (by kernel_rfl) ?_ trivial)
      simp (disch := omega) only [WA, ↓reduceIte, reduceEqDiff, reduceAdd, reduceMul, reduceSub, reduceLeDiff, reduceLT, reduceLE, reduceNeg, reduceEq, e6, f1, f2, f3]
      rw [← ete]
      refine .inl ⟨by kernel_rfl, ?_⟩; refine rpower_c (s.pull 4 rfl) gsd (by omega) fun h6 pw gpw hpw s => ?_
      have f1 := (s.pull 2 rfl).rdAll (n := 4) rfl
      have f2 := (s.pull 1 rfl).rdAll (n := 4) rfl
      have f3 := (s.pull 3 rfl).rdAll (n := 4) rfl
      simp (disch := omega) only [WA, ↓reduceIte, reduceEqDiff, reduceAdd, reduceMul, reduceSub, reduceLeDiff, reduceLT, reduceLE, reduceNeg, reduceEq, f1, f2, f3]
      refine tail_step [(9, [], [10], true)] (by kernel_rfl) (by kernel_rfl) (a_cut (by simp only [List.filterMap_cons, List.filterMap_nil, List.getElem?_cons_zero, List.getElem?_cons_succ]; rfl) (by kernel_rfl) ?_ trivial)
      simp (disch := omega) only [WA, ↓reduceIte, reduceEqDiff, reduceAdd, reduceMul, reduceSub, reduceLeDiff, reduceLT, reduceLE, reduceNeg, reduceEq, e6, f1, f2, f3]
      refine .inl ⟨by kernel_rfl, ?_⟩; refine rmultiply_c s hpv gpw fun h7 pm gpm hpm s => ?_
      have f1 := (s.pull 2 rfl).rdAll (n := 4) rfl
      have f2 := (s.pull 1 rfl).rdAll (n := 4) rfl
      have f3 := (s.pull 3 rfl).rdAll (n := 4) rfl
      simp (disch := omega) only [WA, ↓reduceIte, reduceEqDiff, reduceAdd, reduceMul, reduceSub, reduceLeDiff, reduceLT, reduceLE, reduceNeg, reduceEq, f1, f2, f3]
      refine tail_step [(10, [], [], true)] (by kernel_rfl) (by kernel_rfl) (a_cut (by simp only [List.filterMap_cons, List.filterMap_nil, List.getElem?_cons_zero, List.getElem?_cons_succ]; rfl) (by kernel_rfl) ?_ trivial)
      simp (disch := omega) only [WA, ↓reduceIte, reduceEqDiff, reduceAdd, reduceMul, reduceSub, reduceLeDiff, reduceLT, reduceLE, reduceNeg, reduceEq, e10]
      refine sep_store (s.pull 2 rfl) (by simp) fun h8 s => ?_
      have s := s.as (ds := ivC pm) (by simp [t_put])
      simp (disch := omega) only [WA, ↓reduceIte, reduceEqDiff, reduceAdd, reduceMul, reduceSub, reduceLeDiff, reduceLT, reduceLE, reduceNeg, reduceEq, e28, wrap_in]
      have es : ∀ a, S.isSome = true → T = some a → pv = a := hT
      have eok : (S.isSome && T.isSome && (powI sd (exM t j).toNat).isSome && (mulI pv pw).isSome) = (S.isSome && (stepM t j sd T).isSome) := by
        unfold stepM
        cases hS' : S.isSome with
        | false => simp
        | true =>
          cases hT' : T with
          | none => simp
          | some a =>
            have ea := hT a hS' hT'
            subst ea
            cases hP' : powI sd (exM t j).toNat with
            | none => simp
            | some b =>
              have eb := hpw b (by rw [hS', hT']; rfl) hP'
              subst eb
              simp
      rw [eok] at s
      refine ⟨_, by omega, j + 1, stepM t j sd T, pm, e0, e1, e4, e6, e7, e16, e17, e18, e9, e10, e26, e27, by simp, by omega, rfl, gpm, ?_, ?_, ((((s.pull 2 rfl).tail.pull 1 rfl).pull 3 rfl).pull 3 rfl).pull 3 rfl⟩
      · intro x hS' hx
        unfold stepM at hx
        obtain ⟨a, ha, hx⟩ := Option.bind_eq_some_iff.1 hx
        obtain ⟨b, hb, hx⟩ := Option.bind_eq_some_iff.1 hx
        have ea := hT a hS' ha
        have eb := hpw b (by rw [hS', ha]; rfl) hb
        subst ea
        subst eb
        exact hpm x (by rw [hS', ha, hb]; rfl) hx
      · rw [hpt, partF_drop hsd]
    · obtain rfl : j = sides.length := by omega
      have c2 : ¬ (sides.length : Int) < (sides.length : Int) := by omega
      rw [List.drop_length] at hpt
      have hpt : partM t sides = T := hpt
      have f1 := (s.pull 0 rfl).rdAll (n := 4) rfl
      have f2 := (s.pull 2 rfl).rdAll (n := 4) rfl
      simp (disch := omega) only [WA, ↓reduceIte, reduceEqDiff, reduceAdd, reduceMul, reduceSub, reduceLeDiff, reduceLT, reduceLE, reduceNeg, reduceEq, c2, e6, e7, e10, f1, f2]
      refine .inl ⟨by kernel_rfl, ?_⟩; refine radd_c (s.pull 3 rfl) hS.d hpv fun h5 sn gsn hsn s => ?_
      simp (disch := omega) only [WA, ↓reduceIte, reduceEqDiff, reduceAdd, reduceMul, reduceSub, reduceLeDiff, reduceLT, reduceLE, reduceNeg, reduceEq, e7]
      refine sep_store (s.pull 3 rfl) (by simp) fun h6 s => ?_
      have s := s.as (ds := ivC sn) (by simp [t_put])
      simp (disch := omega) only [WA, ↓reduceIte, reduceEqDiff, reduceAdd, reduceMul, reduceSub, reduceLeDiff, reduceLT, reduceLE, reduceNeg, reduceEq, e18, wrap_in]
      have eok : (S.isSome && T.isSome && (addI sv pv).isSome) = (addO S T).isSome := by
        unfold addO
        cases hS' : S with
        | none => rfl
        | some a =>
          cases hT' : T with
          | none => rfl
          | some b =>
            have ea := hS.eq a hS'
            have eb := hT b (by rw [hS']; rfl) hT'
            subst ea
            subst eb
            rfl
      rw [eok] at s
      rw [hpt] at hv
      refine ⟨_, by omega, i + 1, addO S T, sn, e0, e1, e4, e6, e7, e16, e17, by simp, by omega, rfl, ⟨gsn, ?_⟩, hv, (((s.pull 2 rfl).tail.pull 2 rfl).tail.pull 0 rfl)⟩
      intro x hx
      unfold addO at hx
      obtain ⟨a, ha, hx⟩ := Option.bind_eq_some_iff.1 hx
      obtain ⟨b, hb, hx⟩ := Option.bind_eq_some_iff.1 hx
      have ea := hS.eq a ha
      have eb := hT b (by rw [ha]; rfl) hb
      subst ea
      subst eb
      exact hsn x (by rw [ha, hb]; rfl) hx
  · obtain rfl : i = p.length := by omega
    have c1 : ¬ (p.length : Int) < (p.length : Int) := by omega
    rw [List.drop_length] at hv
    have hv : valM p sides = S := hv
    have f1 := (s.pull 0 rfl).rdAll (n := 4) rfl
    simp (disch := omega) only [WA, ↓reduceIte, reduceEqDiff, reduceAdd, reduceMul, reduceSub, reduceLeDiff, reduceLT, reduceLE, reduceNeg, reduceEq, c1, e6, e7, f1]
    refine .inl ⟨by kernel_rfl, ?_⟩; refine rresult_c (s.pull 1 rfl) fun h5 E5 => ?_
    have s := s.mono E5
    simp (disch := omega) only [WA, ↓reduceIte, reduceEqDiff, reduceAdd, reduceMul, reduceSub, reduceLeDiff, reduceLT, reduceLE, reduceNeg, reduceEq, e4]
    have ev : (if S.isSome = true then sv else (⟨⟨0, 0⟩, ⟨0, 0⟩⟩ : Iv)) = S.getD zeroI := by
      cases hS' : S with
      | none => rfl
      | some a => exact hS.eq a hS'
    rw [ev]
    refine sep_store (s.pull 2 rfl) (by simp) fun h6 s => ?_
    have s := s.as (ds := ivC (S.getD zeroI)) (by simp [t_put])
    have f1 := (s.pull 0 rfl).rdAll (n := 4) rfl
    have f2 := (s.pull 1 rfl).rdAll (n := 4) rfl
    rw [hv] at hQ
    simp (disch := omega) only [WA, ↓reduceIte, reduceEqDiff, reduceAdd, reduceMul, reduceSub, reduceLeDiff, reduceLT, reduceLE, reduceNeg, reduceEq, e4, f1, f2]
    exact hQ _ s.ext
end Go.Proofs
