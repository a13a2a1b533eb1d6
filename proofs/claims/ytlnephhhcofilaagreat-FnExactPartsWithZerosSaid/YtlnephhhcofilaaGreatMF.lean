/- The layer V and contracts of functions over it, or plain laws behind one statement (own work): MF=IM,IN. Conditions: those told in each theorem. -/
import Derived.Test.YtlnephhhcofilaaGreatIL
set_option linter.all false
section
set_option linter.unusedSimpArgs false
set_option linter.unusedVariables false
set_option maxRecDepth 4000
namespace Go.Proofs
open Go Go.V
open Nat renaming reduceEqDiff → jA, reduceAdd → jB, reduceMul → jD, reduceSub → jE, reduceLeDiff → jF
open Int renaming reduceLT → jG, reduceLE → jH, reduceNeg → jI, reduceEq → jJ
/- The reference's ends, rounding, sums, powers. -/
theorem ivUp_c {a : Dy} {h : Heap} {Q : Value → Heap → Prop} (ha : DyG a) (hQ : ∀ h', Ext h h' → Q (.agg (dyC (negM (rdM (negM a)))).toArray) h') :
    CallsV Tryz.prog 154 [.agg (dyC a).toArray, .int .i64 16] h Q := by
  refine CallsV.start Tryz.func154 rfl (by rw [Tryz.results154]) (by kernel_rfl) (by rw [Tryz.ntmps154]; simp) ?_
  have s := Sep.blk2 h (dyC a) [.int .i64 0, .int .i64 0] 97 97 true true
  have ga := (s.pull 1 rfl).rdAll (n := 2) rfl
  simp (disch := omega) only [WA, ↓reduceIte, jA, jB, jD, jE, jF, jG, jH, jI, jJ, ga]
  refine .inl ⟨by kernel_rfl, ?_⟩; refine dyMinus_c ha fun h1 E1 => ?_
  have s := s.mono E1
  simp (disch := omega) only [WA, ↓reduceIte, jA, jB, jD, jE, jF, jG, jH, jI, jJ]
  refine .inl ⟨by kernel_rfl, ?_⟩; refine dyRound_c (negM_good ha) fun h2 E2 => ?_
  have s := s.mono E2
  refine .inl ⟨by kernel_rfl, ?_⟩; refine dyMinus_c (rdM_good (negM_good ha)) fun h3 E3 => ?_
  have s := s.mono E3
  simp (disch := omega) only [WA, ↓reduceIte, jA, jB, jD, jE, jF, jG, jH, jI, jJ]
  refine sep_store (s.pull 0 rfl) (by simp) fun h7 s => ?_
  have s := s.as (ds := dyC (negM (rdM (negM a)))) (by simp [t_put])
  have gz := (s.pull 0 rfl).rdAll (n := 2) rfl
  simp (disch := omega) only [WA, ↓reduceIte, jA, jB, jD, jE, jF, jG, jH, jI, jJ, gz]
  exact hQ _ s.ext
theorem ivRound_c {i : Iv} {h : Heap} {Q : Value → Heap → Prop} (hi : IvD i) (hQ : ∀ h', Ext h h' → Q (.agg (ivC (rdI i)).toArray) h') :
    CallsV Tryz.prog 145 [.agg (ivC i).toArray, .int .i64 16] h Q := by
  refine CallsV.start Tryz.func145 rfl (by rw [Tryz.results145]) (by kernel_rfl) (by rw [Tryz.ntmps145]; simp) ?_
  have s := Sep.blk2 h (ivC i) [.int .i64 0, .int .i64 0, .int .i64 0, .int .i64 0] 122 122 true true
  have ga := ivRd (s.pull 1 rfl)
  simp (disch := omega) only [WA, ↓reduceIte, jA, jB, jD, jE, jF, jG, jH, jI, jJ, ga]
  refine draw_ord [0, 1, 2, 4, 5, 6, 3, 7, 8, 9] (by kernel_rfl) (by simp only [WLF]; rfl) ?_
  simp (disch := omega) only [WA, ↓reduceIte, jA, jB, jD, jE, jF, jG, jH, jI, jJ, ga]
  refine .inl ⟨by kernel_rfl, ?_⟩; refine dyRound_c hi.low fun h1 E1 => ?_
  have s := s.mono E1
  have ga := ivRd (s.pull 1 rfl)
  simp (disch := omega) only [WA, ↓reduceIte, jA, jB, jD, jE, jF, jG, jH, jI, jJ, ga]
  refine .inl ⟨by kernel_rfl, ?_⟩; refine ivUp_c hi.high fun h1 E1 => ?_
  have s := s.mono E1
  have ga := ivRd (s.pull 1 rfl)
  simp (disch := omega) only [WA, ↓reduceIte, jA, jB, jD, jE, jF, jG, jH, jI, jJ, ga]
  refine sep_store (s.pull 0 rfl) (by simp) fun h7 s => ?_
  have s := s.as (ds := ivC (rdI i)) (by simp [t_put, rdI])
  have gz := (s.pull 0 rfl).rdAll (n := 4) rfl
  have ga := ivRd (s.pull 1 rfl)
  simp (disch := omega) only [WA, ↓reduceIte, jA, jB, jD, jE, jF, jG, jH, jI, jJ, gz, ga]
  exact hQ _ s.ext
theorem foldl_endsF_good {l : List Dy} (hl : ∀ x ∈ l, DyG x) : ∀ {o : Iv}, IvD o → IvD (l.foldl endsF o) := by
  induction l with
  | nil => intro o ho; exact ho
  | cons a l ih =>
    intro o ho
    have g := endsF_good ho.low ho.high (hl a (by simp))
    exact ih (fun x hx => hl x (by simp [hx])) ⟨g.1, g.2⟩
theorem endsM_D {l : List Dy} (hl : ∀ x ∈ l, DyG x) : IvD (endsM l) := by
  unfold endsM
  refine foldl_endsF_good hl ?_
  cases l with
  | nil => exact ⟨good0, good0⟩
  | cons a l => exact ⟨hl a (by simp), hl a (by simp)⟩
theorem ivEnds_c {l : List Dy} {v : Value} {h : Heap} {Q : Value → Heap → Prop} (rl : Row h l v) (hl : ∀ x ∈ l, DyG x) (hne : l ≠ []) (hQ : ∀ h', Ext h h' → Q (.agg (ivC (endsM l)).toArray) h') :
    CallsV Tryz.prog 108 [v] h Q := by
  refine CallsV.start Tryz.func108 rfl (by rw [Tryz.results108]) (by kernel_rfl) (by rw [Tryz.ntmps108]; simp) ?_
  have hle := rl.le
  obtain ⟨d, hd⟩ := get_some (show 0 < l.length from List.length_pos_iff.2 hne)
  have hpos := List.length_pos_iff.2 hne
  have gd := hl d (List.mem_of_getElem? hd)
  have hh : l.headD ⟨0, 0⟩ = d := by cases l with
    | nil => simp at hd
    | cons a l => simpa using hd
  have yy : ∀ {hh : Heap}, Ext h hh → cellsAt hh (rowB v) (rowO v) 2 = some (dyC d) := by
    intro hh E
    obtain ⟨ys, y3, y4⟩ := (rl.mono E).at hd
    rw [Dy.sz, Nat.zero_mul, Nat.add_zero] at y3
    obtain ⟨rfl, -⟩ := here_Dy y4
    exact y3
  have c0 : (0 : Int) < (l.length : Int) := by omega
  have t0 : Int.toNat 0 = 0 := rfl
  have y1 := yy (.app h [some ⟨[.int .i64 0, .int .i64 0, .int .i64 0, .int .i64 0], 122, false, true⟩])
  have y2 := yy (.app h [some ⟨[.int .i64 0, .int .i64 0, .int .i64 0, .int .i64 0], 122, false, true⟩, some ⟨[.int .i64 0, .int .i64 0, .int .i64 0, .int .i64 0], 122, false, true⟩])
  have y3 := yy (.app h [some ⟨[.int .i64 0, .int .i64 0, .int .i64 0, .int .i64 0], 122, false, true⟩, some ⟨ivC ⟨d, d⟩, 122, false, true⟩])
  have zm : 0 * 2 = 0 := rfl
  have za : rowO v + 0 = rowO v := rfl
  simp (disch := omega) only [WA, ↓reduceIte, jA, jB, jD, jE, jF, jG, jH, jI, jJ]
  refine draw_ord [0, 1, 2, 3, 4, 5, 6, 7, 8] (by kernel_rfl) (by simp only [WLF]; rfl) ?_
  have ix := rl.isRow.ix Tryz.prog
  simp (disch := omega) only [WA, ↓reduceIte, jA, jB, jD, jE, jF, jG, jH, jI, jJ, ix, y1, y2, y3, rl.isRow.len, c0, t0, zm, za]
  have s := Sep.blk2 h [.int .i64 0, .int .i64 0, .int .i64 0, .int .i64 0] (ivC ⟨d, d⟩) 122 122 true true
  generalize h ++ [some ⟨[.int .i64 0, .int .i64 0, .int .i64 0, .int .i64 0], 122, false, true⟩, some ⟨ivC ⟨d, d⟩, 122, false, true⟩] = H0 at s ⊢
  refine loop_rule (fun m e h' => ∃ (i : Nat) (o : Iv), e 2 = .pointer (some ⟨h.length, 0, none⟩) ∧ e 3 = .pointer (some ⟨h.length + 1, 0, none⟩) ∧ e 13 = v ∧ e 14 = .int .i64 l.length ∧ e 15 = .int .i64 i ∧
    i ≤ l.length ∧ m = l.length - i ∧ IvD o ∧ (l.drop i).foldl endsF o = endsM l ∧
    Sep h h' [blkA (h.length + 1) (ivC o) 122, blkA h.length [.int .i64 0, .int .i64 0, .int .i64 0, .int .i64 0] 122]) ?_ l.length _ _
    ⟨0, ⟨d, d⟩, rfl, rfl, rfl, rfl, rfl, by omega, by omega, ⟨gd, gd⟩, by unfold endsM; rw [hh]; rfl, s⟩
  clear s y1 y2 y3
  rintro m e h1 ⟨i, o, e2, e3, e13, e14, e15, hi, rfl, ho, hf, s⟩
  simp (disch := omega) only [WA, ↓reduceIte, jA, jB, jD, jE, jF, jG, jH, jI, jJ, e14, e15]
  by_cases c : i < l.length
  · obtain ⟨x, hx⟩ := get_some c
    have c1 : (i : Int) < (l.length : Int) := by omega
    have gx := hl x (List.mem_of_getElem? hx)
    obtain ⟨xs, x3, x4⟩ := (rl.mono s.ext).at hx
    rw [Dy.sz] at x3
    obtain ⟨rfl, -⟩ := here_Dy x4
    have hfd : (l.drop i).foldl endsF o = (l.drop (i + 1)).foldl endsF (endsF o x) := by
      obtain ⟨hlt, he⟩ := List.getElem?_eq_some_iff.1 hx
      rw [List.drop_eq_getElem_cons hlt, he]; rfl
    rw [hfd] at hf
    have s := s.newBlk (dyC x) 97 true
    have gi := ivRd (s.pull 1 rfl)
    simp (disch := omega) only [WA, ↓reduceIte, jA, jB, jD, jE, jF, jG, jH, jI, jJ, c1, e3, e13, e15, rl.isRow.ix, x3, gi]
    refine .inl ⟨by kernel_rfl, ?_⟩; refine dyCmp_c gx ho.low fun h2 E2 => ?_
    have s := s.mono E2
    have gi := ivRd (s.pull 1 rfl)
    have gx1 := (s.pull 0 rfl).rdAll (n := 2) rfl
    have go := endsF_good ho.low ho.high gx
    by_cases k1 : cmpM x o.low < 0
    · simp (disch := omega) only [WA, ↓reduceIte, jA, jB, jD, jE, jF, jG, jH, jI, jJ, k1, gx1, e3]
      refine sep_store (s.pull 1 rfl) (by simp) fun h3 s => ?_
      have s := s.as (ds := ivC ⟨x, o.high⟩) (by simp [t_put])
      have gi := ivRd (s.pull 0 rfl)
      have gx1 := (s.pull 1 rfl).rdAll (n := 2) rfl
      simp (disch := omega) only [WA, ↓reduceIte, jA, jB, jD, jE, jF, jG, jH, jI, jJ, gi, gx1, e3]
      refine .inl ⟨by kernel_rfl, ?_⟩; refine dyCmp_c ho.high gx fun h4 E4 => ?_
      have s := s.mono E4
      have gx1 := (s.pull 1 rfl).rdAll (n := 2) rfl
      by_cases k2 : cmpM o.high x < 0
      · have ee : endsF o x = ⟨x, x⟩ := by unfold endsF; rw [if_pos k1, if_pos k2]
        simp (disch := omega) only [WA, ↓reduceIte, jA, jB, jD, jE, jF, jG, jH, jI, jJ, k2, gx1, e3]
        refine sep_store (s.pull 0 rfl) (by simp) fun h5 s => ?_
        have s := s.as (ds := ivC ⟨x, x⟩) (by simp [t_put])
        simp (disch := omega) only [WA, ↓reduceIte, jA, jB, jD, jE, jF, jG, jH, jI, jJ, e15, wrap_in]
        rw [ee] at hf
        exact ⟨_, by omega, i + 1, ⟨x, x⟩, e2, e3, e13, e14, by simp, by omega, rfl, ⟨gx, gx⟩, hf, s.swap.tail⟩
      · have ee : endsF o x = ⟨x, o.high⟩ := by unfold endsF; rw [if_pos k1, if_neg k2]
        simp (disch := omega) only [WA, ↓reduceIte, jA, jB, jD, jE, jF, jG, jH, jI, jJ, k2, e15, wrap_in]
        rw [ee] at hf
        exact ⟨_, by omega, i + 1, ⟨x, o.high⟩, e2, e3, e13, e14, by simp, by omega, rfl, ⟨gx, ho.high⟩, hf, s.swap.tail⟩
    · simp (disch := omega) only [WA, ↓reduceIte, jA, jB, jD, jE, jF, jG, jH, jI, jJ, k1, gi, gx1, e3]
      refine .inl ⟨by kernel_rfl, ?_⟩; refine dyCmp_c ho.high gx fun h4 E4 => ?_
      have s := s.mono E4
      have gx1 := (s.pull 0 rfl).rdAll (n := 2) rfl
      by_cases k2 : cmpM o.high x < 0
      · have ee : endsF o x = ⟨o.low, x⟩ := by unfold endsF; rw [if_neg k1, if_pos k2]
        simp (disch := omega) only [WA, ↓reduceIte, jA, jB, jD, jE, jF, jG, jH, jI, jJ, k2, gx1, e3]
        refine sep_store (s.pull 1 rfl) (by simp) fun h5 s => ?_
        have s := s.as (ds := ivC ⟨o.low, x⟩) (by simp [t_put])
        simp (disch := omega) only [WA, ↓reduceIte, jA, jB, jD, jE, jF, jG, jH, jI, jJ, e15, wrap_in]
        rw [ee] at hf
        exact ⟨_, by omega, i + 1, ⟨o.low, x⟩, e2, e3, e13, e14, by simp, by omega, rfl, ⟨ho.low, gx⟩, hf, s.swap.tail⟩
      · have ee : endsF o x = o := by unfold endsF; rw [if_neg k1, if_neg k2]
        simp (disch := omega) only [WA, ↓reduceIte, jA, jB, jD, jE, jF, jG, jH, jI, jJ, k2, e15, wrap_in]
        rw [ee] at hf
        exact ⟨_, by omega, i + 1, o, e2, e3, e13, e14, by simp, by omega, rfl, ho, hf, s.tail⟩
  · obtain rfl : i = l.length := by omega
    have c1 : ¬ (l.length : Int) < (l.length : Int) := by omega
    rw [List.drop_length] at hf
    have hf : o = endsM l := hf
    have gi := ivRd (s.pull 0 rfl)
    simp (disch := omega) only [WA, ↓reduceIte, jA, jB, jD, jE, jF, jG, jH, jI, jJ, c1, e2, e3, gi]
    refine sep_store (s.pull 1 rfl) (by simp) fun h5 s => ?_
    have s := s.as (ds := ivC o) (by simp [t_put])
    have gz := ivRd s
    rw [← hf] at hQ
    simp (disch := omega) only [WA, ↓reduceIte, jA, jB, jD, jE, jF, jG, jH, jI, jJ, e2, gz]
    exact hQ _ s.ext
end Go.Proofs
end

section
set_option linter.unusedSimpArgs false
set_option linter.unusedVariables false
set_option maxRecDepth 4000
namespace Go.Proofs
open Go Go.V
open Nat renaming reduceEqDiff → jA, reduceAdd → jB, reduceMul → jD, reduceSub → jE, reduceLeDiff → jF
open Int renaming reduceLT → jG, reduceLE → jH, reduceNeg → jI, reduceEq → jJ
def ivV (o : Option Iv) : Value := .tuple #[.agg (ivC (o.getD ⟨⟨0, 0⟩, ⟨0, 0⟩⟩)).toArray, .bool o.isSome]
theorem ivV_eq (o : Option Iv) : ivV o = .tuple #[.agg (ivC (o.getD ⟨⟨0, 0⟩, ⟨0, 0⟩⟩)).toArray, .bool o.isSome] := rfl
theorem ivAdd_c {i k : Iv} {h : Heap} {Q : Value → Heap → Prop} (hi : IvD i) (hk : IvD k) (hQ : ∀ h', Ext h h' → Q (ivV (addI i k)) h') :
    CallsV Tryz.prog 135 [.agg (ivC i).toArray, .agg (ivC k).toArray] h Q := by
  refine CallsV.start Tryz.func135 rfl (by rw [Tryz.results135]) (by kernel_rfl) (by rw [Tryz.ntmps135]; simp) ?_
  have s := Sep.blk3 h (ivC i) (ivC k) [.int .i64 0, .int .i64 0, .int .i64 0, .int .i64 0] 122 122 122 true true true
  have gi := ivRd (s.pull 2 rfl)
  have gk := ivRd (s.pull 1 rfl)
  simp (disch := omega) only [WA, ↓reduceIte, jA, jB, jD, jE, jF, jG, jH, jI, jJ, gi, gk]
  refine .inl ⟨by kernel_rfl, ?_⟩; refine dyAdd_c hi.low hk.low fun h1 E1 => ?_
  rw [optV_eq]
  have s := (s.mono E1).newBlk (dyC ((sumM' i.low k.low).getD ⟨0, 0⟩)) 97 true
  have gi := ivRd (s.pull 3 rfl)
  have gk := ivRd (s.pull 2 rfl)
  simp (disch := omega) only [WA, ↓reduceIte, jA, jB, jD, jE, jF, jG, jH, jI, jJ, gi, gk]
  refine .inl ⟨by kernel_rfl, ?_⟩; refine dyAdd_c hi.high hk.high fun h2 E2 => ?_
  rw [optV_eq]
  have s := (s.mono E2).newBlk (dyC ((sumM' i.high k.high).getD ⟨0, 0⟩)) 97 true
  have gx := (s.pull 1 rfl).rdAll (n := 2) rfl
  have gy := (s.pull 0 rfl).rdAll (n := 2) rfl
  simp (disch := omega) only [WA, ↓reduceIte, jA, jB, jD, jE, jF, jG, jH, jI, jJ, gx, gy]
  refine .inl ⟨by kernel_rfl, ?_⟩; refine ivBoth_c fun h3 E3 => ?_
  have s := s.mono E3
  have ev : (if (sumM' i.low k.low).isSome = true ∧ (sumM' i.high k.high).isSome = true then (⟨(sumM' i.low k.low).getD ⟨0, 0⟩, (sumM' i.high k.high).getD ⟨0, 0⟩⟩ : Iv) else ⟨⟨0, 0⟩, ⟨0, 0⟩⟩) = (addI i k).getD ⟨⟨0, 0⟩, ⟨0, 0⟩⟩ := by
    unfold addI
    cases sumM' i.low k.low with
    | none => rfl
    | some a => cases sumM' i.high k.high <;> rfl
  have eo : ((sumM' i.low k.low).isSome && (sumM' i.high k.high).isSome) = (addI i k).isSome := by
    unfold addI
    cases sumM' i.low k.low with
    | none => rfl
    | some a => cases sumM' i.high k.high <;> rfl
  rw [ev, eo]
  simp (disch := omega) only [WA, ↓reduceIte, jA, jB, jD, jE, jF, jG, jH, jI, jJ]
  refine sep_store (s.pull 2 rfl) (by simp) fun h7 s => ?_
  have s := s.as (ds := ivC ((addI i k).getD ⟨⟨0, 0⟩, ⟨0, 0⟩⟩)) (by simp [t_put])
  have gz := ivRd s
  simp (disch := omega) only [WA, ↓reduceIte, jA, jB, jD, jE, jF, jG, jH, jI, jJ, gz]
  rw [← ivV_eq]
  exact hQ _ s.ext
theorem powD_stop {a : Dy} {j : Nat} (h : powD a j = none) : ∀ m, powD a (j + m) = none
  | 0 => h
  | m + 1 => by
    show ((powD a (j + m)).bind fun x => mulM x a) = none
    rw [powD_stop h m]; rfl
theorem ivRaise_c {a : Dy} {n : Nat} {h : Heap} {Q : Value → Heap → Prop} (ha : DyG a) (hn : n ≤ 1000) (hQ : ∀ h', Ext h h' → Q (optV (powD a n)) h') :
    CallsV Tryz.prog 144 [.agg (dyC a).toArray, .int .i64 n] h Q := by
  refine CallsV.start Tryz.func144 rfl (by rw [Tryz.results144]) (by kernel_rfl) (by rw [Tryz.ntmps144]; simp) ?_
  have s := Sep.blk2 h (dyC a) [.int .i64 0, .int .i64 0] 97 97 true true
  simp (disch := omega) only [WA, ↓reduceIte, jA, jB, jD, jE, jF, jG, jH, jI, jJ]
  refine .inl ⟨by kernel_rfl, ?_⟩; refine dyInt_c fun h1 E1 => ?_
  have s := (s.mono E1).newBlk (dyC ⟨1, 0⟩) 97 true
  simp (disch := omega) only [WA, ↓reduceIte, jA, jB, jD, jE, jF, jG, jH, jI, jJ]
  generalize hH : h1 ++ [some ⟨dyC ⟨1, 0⟩, 97, false, true⟩] = H0 at s ⊢
  refine loop_rule (fun m e h' => ∃ (x : Dy), e 1 = .int .i64 m ∧ e 2 = .pointer (some ⟨h.length, 0, none⟩) ∧ e 4 = .pointer (some ⟨h.length + 1, 0, none⟩) ∧ e 6 = .pointer (some ⟨h1.length, 0, none⟩) ∧
    m ≤ n ∧ powD a (n - m) = some x ∧ DyG x ∧
    Sep h h' [blkA h1.length (dyC x) 97, blkA (h.length + 1) [.int .i64 0, .int .i64 0] 97, blkA h.length (dyC a) 97]) ?_ n _ _
    ⟨⟨1, 0⟩, rfl, rfl, rfl, rfl, by omega, by rw [Nat.sub_self]; rfl, good_int (by decide), s⟩
  clear s
  rintro m e h2 ⟨x, e1, e2, e4, e6, hm, hx, gx, s⟩
  simp (disch := omega) only [WA, ↓reduceIte, jA, jB, jD, jE, jF, jG, jH, jI, jJ, e1]
  by_cases c : 0 < (m : Int)
  · have ga := (s.pull 2 rfl).rdAll (n := 2) rfl
    have gy := (s.pull 0 rfl).rdAll (n := 2) rfl
    simp (disch := omega) only [WA, ↓reduceIte, jA, jB, jD, jE, jF, jG, jH, jI, jJ, c, e2, e6, ga, gy]
    refine .inl ⟨by kernel_rfl, ?_⟩; refine dyMul_c gx ha fun h3 E3 => ?_
    have s := s.mono E3
    have hp : powD a (n - (m - 1)) = mulM x a := by
      rw [show n - (m - 1) = (n - m) + 1 by omega]
      show ((powD a (n - m)).bind fun x => mulM x a) = _
      rw [hx]; rfl
    cases hy : mulM x a with
    | none =>
      rw [hy] at hp
      have hnn : powD a n = none := by
        have := powD_stop hp (m - 1)
        rwa [show n - (m - 1) + (m - 1) = n by omega] at this
      rw [hnn, optV_eq] at hQ
      rw [optV_eq]
      have s := s.newBlk [.int .i64 0, .int .i64 0] 97 true
      simp (disch := omega) only [WA, ↓reduceIte, jA, jB, jD, jE, jF, jG, jH, jI, jJ, e4, Option.getD_none, Option.isSome_none]
      refine sep_store (s.pull 2 rfl) (by simp) fun h4 s => ?_
      have s := s.as (ds := dyC ⟨0, 0⟩) (by simp [t_put])
      have gz := (s.pull 0 rfl).rdAll (n := 2) rfl
      simp (disch := omega) only [WA, ↓reduceIte, jA, jB, jD, jE, jF, jG, jH, jI, jJ, e4, gz]
      exact hQ _ s.ext
    | some y =>
      rw [hy] at hp
      rw [optV_eq]
      have s := s.newBlk (dyC y) 97 true
      have gz := (s.pull 0 rfl).rdAll (n := 2) rfl
      have m1 : (m : Int) - 1 = ((m - 1 : Nat) : Int) := by omega
      simp (disch := omega) only [WA, ↓reduceIte, jA, jB, jD, jE, jF, jG, jH, jI, jJ, gz, e6]
      refine sep_store (s.pull 1 rfl) (by simp) fun h4 s => ?_
      have s := s.as (ds := dyC y) (by simp [t_put])
      simp (disch := omega) only [WA, ↓reduceIte, jA, jB, jD, jE, jF, jG, jH, jI, jJ, e1, m1, wrap_in]
      exact ⟨m - 1, by omega, y, by simp, e2, e4, e6, by omega, hp, mulM_good hy, s.swap.tail⟩
  · obtain rfl : m = 0 := by omega
    rw [Nat.sub_zero] at hx
    have gy := (s.pull 0 rfl).rdAll (n := 2) rfl
    simp (disch := omega) only [WA, ↓reduceIte, jA, jB, jD, jE, jF, jG, jH, jI, jJ, c, e4, e6, gy]
    refine sep_store (s.pull 1 rfl) (by simp) fun h4 s => ?_
    have s := s.as (ds := dyC x) (by simp [t_put])
    have gz := (s.pull 0 rfl).rdAll (n := 2) rfl
    rw [hx, optV_eq] at hQ
    simp (disch := omega) only [WA, ↓reduceIte, jA, jB, jD, jE, jF, jG, jH, jI, jJ, e4, gz]
    exact hQ _ s.ext
end Go.Proofs
end
