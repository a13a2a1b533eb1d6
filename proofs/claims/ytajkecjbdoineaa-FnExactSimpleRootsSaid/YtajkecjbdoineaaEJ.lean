/- Contracts of functions, facts of types, or the plain law behind one statement (own work): EJ. Conditions: those told in each theorem. -/
import Derived.Test.YtajkecjbdoineaaEI
import Derived.Test.YtajkecjbdoineaaPE
set_option linter.all false
set_option linter.unusedSimpArgs false
set_option linter.unusedVariables false
set_option maxRecDepth 4000
namespace Go.Proofs
open Go Go.V
open Nat (reduceEqDiff reduceAdd reduceMul reduceSub reduceLeDiff)
open Int (reduceLT reduceLE reduceNeg reduceEq)
/- Squarefree parts; parts of the same multiplicity: the walks. -/
theorem InF.sm {P w : List Int} (hP : Top P) (h : InF P w) : Sm 40000000 w := ⟨h.len hP, h.bd hP⟩
theorem dv_sm9 {p : List Int} (h : Sm 40000000 p) : Sm 1000000000 (dvL p) := (dv_sm (by decide) h).mono (by decide)
theorem comL_dv {p : List Int} (hp : Ldd p) (p0 : p ≠ []) : comL (partL p) (dvL (partL p)) = comL p (dvL p) := (com_dv hp p0).symm
theorem squarefreePart_c {P p : List Int} {v : Value} {h : Heap} {Q : Value → Heap → Prop} (r : Row h p v) (hP : Top P) (hp : InF P p)
    (hQ : ∀ v h', Sep h h' [ownA 3 ((freeL p).getD []) v] → Q (.tuple #[v, .bool (freeL p).isSome]) h') : CallsV Try.prog 37 [v] h Q := by
  have sp := hp.sm hP
  have p0 := hp.ne hP
  have lp := hp.ldd
  have hpp := hp.part
  refine CallsV.start Try.func37 rfl (by rw [Try.results37]) (by kernel_rfl) (by rw [Try.ntmps37]; simp) ?_
  simp (disch := omega) only [WA, ↓reduceIte, reduceEqDiff, reduceAdd, reduceMul, reduceSub, reduceLeDiff, reduceLT, reduceLE, reduceNeg, reduceEq]
  refine .inl ⟨by kernel_rfl, ?_⟩; refine divided_c r (sp.nin (by decide)) (by have := sp.len; omega) fun v1 h1 s => ?_
  have r1 := s.row
  simp (disch := omega) only [WA, ↓reduceIte, reduceEqDiff, reduceAdd, reduceMul, reduceSub, reduceLeDiff, reduceLT, reduceLE, reduceNeg, reduceEq]
  refine .inl ⟨by kernel_rfl, ?_⟩; refine deriveSingle_c r1 (sp.part.mono (by decide)) hpp.ldd fun v2 h2 t2 => ?_
  have s := s.add t2
  simp (disch := omega) only [WA, ↓reduceIte, reduceEqDiff, reduceAdd, reduceMul, reduceSub, reduceLeDiff, reduceLT, reduceLE, reduceNeg, reduceEq]
  refine .inl ⟨by kernel_rfl, ?_⟩; refine commonDivisor_c (s.pull 1 rfl).row (s.pull 0 rfl).row (sp.part.mono (by decide)) (dv_sm9 sp.part) hpp.ldd (dv_ldd hpp.ldd) (.inl (hpp.ne hP)) fun v3 h3 t3 => ?_
  rw [comL_dv lp p0] at t3 ⊢
  have s := s.add t3
  cases hd : comL p (dvL p) with
  | none =>
    have hf : freeL p = none := by unfold freeL; rw [hd]; rfl
    rw [hf] at hQ
    simp (disch := omega) only [WA, ↓reduceIte, reduceEqDiff, reduceAdd, reduceMul, reduceSub, reduceLeDiff, reduceLT, reduceLE, reduceNeg, reduceEq, Option.isSome_none]
    exact hQ _ _ ((Sep.nil s.ext).nilA _)
  | some d =>
    obtain ⟨a1, a2, a3, a4, a5, a6, a7⟩ := free_fact hP hp hd
    have hf : freeL p = some (upS (quoL (upS p) d)) := by unfold freeL; rw [hd]; rfl
    rw [hf] at hQ
    rw [hd] at s
    simp (disch := omega) only [WA, ↓reduceIte, reduceEqDiff, reduceAdd, reduceMul, reduceSub, reduceLeDiff, reduceLT, reduceLE, reduceNeg, reduceEq, Option.isSome_some]
    refine .inl ⟨by kernel_rfl, ?_⟩; refine quotient_c (s.pull 2 rfl).row (s.pull 0 rfl).row ⟨hpp.ldd, a1.ldd, a5.ldd, hpp.ne hP, a1.ne hP, hpp.sm hP, a1.sm hP, a5.sm hP, a6⟩ fun v4 h4 t4 => ?_
    have s := s.add t4
    simp (disch := omega) only [WA, ↓reduceIte, reduceEqDiff, reduceAdd, reduceMul, reduceSub, reduceLeDiff, reduceLT, reduceLE, reduceNeg, reduceEq]
    refine .inl ⟨by kernel_rfl, ?_⟩; refine divided_c (s.pull 0 rfl).row ((a5.sm hP).nin (by decide)) (by have := (a5.sm hP).len; omega) fun v5 h5 t5 => ?_
    have t5 := t5.back s.ext
    simp (disch := omega) only [WA, ↓reduceIte, reduceEqDiff, reduceAdd, reduceMul, reduceSub, reduceLeDiff, reduceLT, reduceLE, reduceNeg, reduceEq]
    refine .inl ⟨by kernel_rfl, ?_⟩; refine withSign_c t5 ((a5.sm hP).part.nin (by decide)) (by have := (a5.sm hP).part.len; omega) fun v6 h6 s => ?_
    have hu : sgnL (partL (quoL (partL p) d)) = upS (quoL (upS p) d) := a7
    rw [hu] at s
    have pl := s.row.isRow.plain
    simp (disch := omega) only [WA, ↓reduceIte, reduceEqDiff, reduceAdd, reduceMul, reduceSub, reduceLeDiff, reduceLT, reduceLE, reduceNeg, reduceEq, pl]
    exact hQ _ _ s
theorem sgFree_c {P p : List Int} {v : Value} {h : Heap} {Q : Value → Heap → Prop} (r : Row h p v) (hP : Top P) (hp : InF P p)
    (hQ : ∀ v h', Sep h h' [ownA 3 ((freeL p).getD []) v] → Q (.tuple #[v, .bool (freeL p).isSome]) h') : CallsV Try.prog 31 [v] h Q := by
  have sp := hp.sm hP
  have p0 := hp.ne hP
  have lp := hp.ldd
  have hpu := hp.up
  refine CallsV.start Try.func31 rfl (by rw [Try.results31]) (by kernel_rfl) (by rw [Try.ntmps31]; simp) ?_
  simp (disch := omega) only [WA, ↓reduceIte, reduceEqDiff, reduceAdd, reduceMul, reduceSub, reduceLeDiff, reduceLT, reduceLE, reduceNeg, reduceEq]
  refine .inl ⟨by kernel_rfl, ?_⟩; refine sgDerive_c r (sp.mono (by decide)) fun v2 h2 s => ?_
  simp (disch := omega) only [WA, ↓reduceIte, reduceEqDiff, reduceAdd, reduceMul, reduceSub, reduceLeDiff, reduceLT, reduceLE, reduceNeg, reduceEq]
  refine .inl ⟨by kernel_rfl, ?_⟩; refine sgCommon_c (r.mono s.ext) (s.pull 0 rfl).row (sp.mono (by decide)) (dv_sm9 sp) lp (dv_ldd lp) (.inl p0) fun v3 h3 t3 => ?_
  have s := s.add t3
  cases hd : comL p (dvL p) with
  | none =>
    have hf : freeL p = none := by unfold freeL; rw [hd]; rfl
    rw [hf] at hQ
    simp (disch := omega) only [WA, ↓reduceIte, reduceEqDiff, reduceAdd, reduceMul, reduceSub, reduceLeDiff, reduceLT, reduceLE, reduceNeg, reduceEq, Option.isSome_none]
    exact hQ _ _ ((Sep.nil s.ext).nilA _)
  | some d =>
    obtain ⟨a1, a2, a3, a4, a5, a6, a7⟩ := free_fact hP hp hd
    have hf : freeL p = some (upS (quoL (upS p) d)) := by unfold freeL; rw [hd]; rfl
    rw [hf] at hQ
    rw [hd] at s
    simp (disch := omega) only [WA, ↓reduceIte, reduceEqDiff, reduceAdd, reduceMul, reduceSub, reduceLeDiff, reduceLT, reduceLE, reduceNeg, reduceEq, Option.isSome_some]
    refine .inl ⟨by kernel_rfl, ?_⟩; refine sgUp_c (r.mono s.ext) (sp.nin (by decide)) (by have := sp.len; omega) lp fun v4 h4 t4 => ?_
    have s := s.add t4
    simp (disch := omega) only [WA, ↓reduceIte, reduceEqDiff, reduceAdd, reduceMul, reduceSub, reduceLeDiff, reduceLT, reduceLE, reduceNeg, reduceEq]
    refine .inl ⟨by kernel_rfl, ?_⟩; refine sgDivide_c (s.pull 0 rfl).row (s.pull 1 rfl).row ⟨hpu.ldd, a1.ldd, a3.ldd, hpu.ne hP, a1.ne hP, hpu.sm hP, a1.sm hP, a3.sm hP, a4⟩ fun v5 h5 t5 => ?_
    have s := s.add t5
    simp (disch := omega) only [WA, ↓reduceIte, reduceEqDiff, reduceAdd, reduceMul, reduceSub, reduceLeDiff, reduceLT, reduceLE, reduceNeg, reduceEq]
    refine .inl ⟨by kernel_rfl, ?_⟩; refine sgUp_c (s.pull 0 rfl).row ((a3.sm hP).nin (by decide)) (by have := (a3.sm hP).len; omega) a3.ldd fun v6 h6 t6 => ?_
    have s := t6.back s.ext
    have pl := s.row.isRow.plain
    simp (disch := omega) only [WA, ↓reduceIte, reduceEqDiff, reduceAdd, reduceMul, reduceSub, reduceLeDiff, reduceLT, reduceLE, reduceNeg, reduceEq, pl]
    exact hQ _ _ s
/-- The start of the parts. -/
theorem parts_none1 {p : List Int} (h : comL p (dvL p) = none) : partsM p = none ∧ freeL p = none := by
  unfold partsM freeL; rw [h]; exact ⟨rfl, rfl⟩
theorem parts_some {p d : List Int} (h : comL p (dvL p) = some d) : freeL p = some (upS (quoL (upS p) d)) ∧ partsM p = partsA 40 (upS (quoL (upS p) d)) d := by
  unfold partsM freeL; rw [h]; exact ⟨rfl, rfl⟩
def Rest (R : Option (List (List Int))) (out : List (List Int)) (n : Nat) (w c : List Int) : Prop := (partsA n w c).map (out ++ ·) = R
theorem Rest.stop {R : Option (List (List Int))} {out : List (List Int)} {n : Nat} {w c : List Int} (h : Rest R out n w c) (hw : w.length ≤ 1) : R = some out := by
  unfold Rest at h
  cases n with
  | zero => simp only [partsA, Option.map_some, List.append_nil] at h; exact h.symm
  | succ n =>
    simp only [partsA] at h
    rw [if_pos hw] at h
    simp only [Option.map_some, List.append_nil] at h
    exact h.symm
theorem Rest.none {R : Option (List (List Int))} {out : List (List Int)} {n : Nat} {w c : List Int} (h : Rest R out (n + 1) w c) (hw : 1 < w.length) (hc : comL w c = none) : R = none := by
  unfold Rest at h
  simp only [partsA] at h
  rw [if_neg (by omega), hc] at h
  exact h.symm
theorem Rest.next {R : Option (List (List Int))} {out : List (List Int)} {n : Nat} {w c y : List Int} (h : Rest R out (n + 1) w c) (hw : 1 < w.length) (hc : comL w c = some y) : Rest R (out ++ [upS (quoL w y)]) n y (upS (quoL c y)) := by
  unfold Rest at *
  simp only [partsA] at h
  rw [if_neg (by omega), hc] at h
  have h : ((partsA n y (upS (quoL c y))).map (upS (quoL w y) :: ·)).map (out ++ ·) = R := h
  rw [← h]
  cases partsA n y (upS (quoL c y)) with
  | none => rfl
  | some l => simp
theorem multiplicityParts_c {p : List Int} {v : Value} {h : Heap} {Q : Value → Heap → Prop} (r : Row h p v) (hP : Top p)
    (hQ : ∀ v h', Sep h h' [ownA 22 ((partsM p).getD []) v] → Q (.tuple #[v, .bool (partsM p).isSome]) h') : CallsV Try.prog 22 [v] h Q := by
  have hp : InF p p := ⟨hP.ldd, Fac.refl p⟩
  have sp := hp.sm hP
  have p0 := hp.ne hP
  have lp := hp.ldd
  refine CallsV.start Try.func22 rfl (by rw [Try.results22]) (by kernel_rfl) (by rw [Try.ntmps22]; simp) ?_
  simp (disch := omega) only [WA, ↓reduceIte, reduceEqDiff, reduceAdd, reduceMul, reduceSub, reduceLeDiff, reduceLT, reduceLE, reduceNeg, reduceEq]
  refine .inl ⟨by kernel_rfl, ?_⟩; refine deriveSingle_c r (sp.mono (by decide)) lp fun v2 h2 s => ?_
  simp (disch := omega) only [WA, ↓reduceIte, reduceEqDiff, reduceAdd, reduceMul, reduceSub, reduceLeDiff, reduceLT, reduceLE, reduceNeg, reduceEq]
  refine .inl ⟨by kernel_rfl, ?_⟩; refine commonDivisor_c (r.mono s.ext) (s.pull 0 rfl).row (sp.mono (by decide)) (dv_sm9 sp) lp (dv_ldd lp) (.inl p0) fun v3 h3 t3 => ?_
  have s := s.add t3
  simp (disch := omega) only [WA, ↓reduceIte, reduceEqDiff, reduceAdd, reduceMul, reduceSub, reduceLeDiff, reduceLT, reduceLE, reduceNeg, reduceEq]
  refine .inl ⟨by kernel_rfl, ?_⟩; refine squarefreePart_c (r.mono s.ext) hP hp fun v4 h4 t4 => ?_
  have s := s.add t4
  cases hd : comL p (dvL p) with
  | none =>
    obtain ⟨hm, hf⟩ := parts_none1 hd
    rw [hm] at hQ
    simp (disch := omega) only [WA, ↓reduceIte, reduceEqDiff, reduceAdd, reduceMul, reduceSub, reduceLeDiff, reduceLT, reduceLE, reduceNeg, reduceEq, Option.isSome_none]
    exact hQ _ _ ((Sep.nil s.ext).nilA _)
  | some d =>
    obtain ⟨hf, hm⟩ := parts_some hd
    obtain ⟨a1, a2, a3, a4, a5, a6, a7⟩ := free_fact hP hp hd
    rw [hd, hf] at s
    rw [hf]
    simp (disch := omega) only [WA, ↓reduceIte, reduceEqDiff, reduceAdd, reduceMul, reduceSub, reduceLeDiff, reduceLT, reduceLE, reduceNeg, reduceEq, Option.isSome_some]
    have w1 := a3.up
    have rw0 := (s.pull 0 rfl).row
    have rc0 := (s.pull 1 rfl).row
    generalize upS (quoL (upS p) d) = w0 at *
    have hrest : Rest (partsM p) [] 40 w0 d := by unfold Rest; rw [hm]; cases partsA 40 w0 d <;> simp
    have hm40 : msr w0 d < 40 := by unfold msr; have := (a1.sm hP).len; split <;> omega
    refine loop_rule (fun m e h' => ∃ (w c : List Int) (out : List (List Int)) (n : Nat) (vw vc vo : Value), e 6 = vw ∧ e 4 = vc ∧ e 8 = vo ∧ m = msr w c ∧ msr w c < n ∧ InF p w ∧ InF p c ∧ Rest (partsM p) out n w c ∧ out.length + n = 40 ∧ Row h' w vw ∧ Row h' c vc ∧ Sep h h' [ownA 22 out vo]) ?_ (msr w0 d) _ _
      ⟨w0, d, [], 40, v4, v3, _, rfl, rfl, rfl, rfl, hm40, w1, a1, hrest, rfl, rw0, rc0, (Sep.nil s.ext).nilA _⟩
    clear s hrest hm40 rw0 rc0 w1 hm hf t3 t4
    rintro m e h5 ⟨w, c, out, n, vw, vc, vo, e6, e4, e8, rfl, hn, hw, hc, hrest, hon, rw', rc', s⟩
    by_cases k : 1 < w.length
    · have k1 : (1 : Int) < (w.length : Int) := by omega
      obtain ⟨n, rfl⟩ : ∃ j, n = j + 1 := ⟨n - 1, by omega⟩
      simp (disch := omega) only [WA, ↓reduceIte, reduceEqDiff, reduceAdd, reduceMul, reduceSub, reduceLeDiff, reduceLT, reduceLE, reduceNeg, reduceEq, e4, e6, rw'.isRow.len, k1]
      refine .inl ⟨by kernel_rfl, ?_⟩; refine commonDivisor_c rw' rc' ((hw.sm hP).mono (by decide)) ((hc.sm hP).mono (by decide)) hw.ldd hc.ldd (.inl (hw.ne hP)) fun v6 h6 t6 => ?_
      have s := s.add t6
      cases hy : comL w c with
      | none =>
        have hm := hrest.none k hy
        rw [hm] at hQ
        simp (disch := omega) only [WA, ↓reduceIte, reduceEqDiff, reduceAdd, reduceMul, reduceSub, reduceLeDiff, reduceLT, reduceLE, reduceNeg, reduceEq, Option.isSome_none]
        exact hQ _ _ ((Sep.nil s.ext).nilA _)
      | some y =>
        obtain ⟨b1, b2, b3, b4, b5, b6, b7⟩ := msr_next hP hw hc k hy
        rw [hy] at s
        have rw6 := rw'.mono t6.ext
        have rc6 := rc'.mono t6.ext
        simp (disch := omega) only [WA, ↓reduceIte, reduceEqDiff, reduceAdd, reduceMul, reduceSub, reduceLeDiff, reduceLT, reduceLE, reduceNeg, reduceEq, Option.isSome_some, e4, e6]
        refine .inl ⟨by kernel_rfl, ?_⟩; refine quotient_c rw6 (s.pull 0 rfl).row ⟨hw.ldd, b1.ldd, b3.ldd, hw.ne hP, b1.ne hP, hw.sm hP, b1.sm hP, b3.sm hP, b5⟩ fun v7 h7 t7 => ?_
        have s := s.add t7
        have rc7 := rc6.mono t7.ext
        simp (disch := omega) only [WA, ↓reduceIte, reduceEqDiff, reduceAdd, reduceMul, reduceSub, reduceLeDiff, reduceLT, reduceLE, reduceNeg, reduceEq, e4]
        refine .inl ⟨by kernel_rfl, ?_⟩; refine quotient_c rc7 (s.pull 1 rfl).row ⟨hc.ldd, b1.ldd, b4.ldd, hc.ne hP, b1.ne hP, hc.sm hP, b1.sm hP, b4.sm hP, b6⟩ fun v8 h8 t8 => ?_
        have s := s.add t8
        simp (disch := omega) only [WA, ↓reduceIte, reduceEqDiff, reduceAdd, reduceMul, reduceSub, reduceLeDiff, reduceLT, reduceLE, reduceNeg, reduceEq, e8]
        refine .inl ⟨by kernel_rfl, ?_⟩; refine divided_c (s.pull 1 rfl).row ((b3.sm hP).nin (by decide)) (by have := (b3.sm hP).len; omega) fun v9 h9 t9 => ?_
        have s := s.add t9
        simp (disch := omega) only [WA, ↓reduceIte, reduceEqDiff, reduceAdd, reduceMul, reduceSub, reduceLeDiff, reduceLT, reduceLE, reduceNeg, reduceEq]
        refine .inl ⟨by kernel_rfl, ?_⟩; refine withSign_c s ((b3.sm hP).part.nin (by decide)) (by have := (b3.sm hP).part.len; omega) fun v10 h10 s => ?_
        simp (disch := omega) only [WA, ↓reduceIte, reduceEqDiff, reduceAdd, reduceMul, reduceSub, reduceLeDiff, reduceLT, reduceLE, reduceNeg, reduceEq]
        have hu : sgnL (partL (quoL w y)) = upS (quoL w y) := rfl
        rw [hu] at s
        have cu := s.row.isRow.cells
        -- out is the last piece
        have s := ((s.toRep).pull 4 rfl)
        have hs2 := s
        simp (disch := omega) only [WA, ↓reduceIte, reduceEqDiff, reduceAdd, reduceMul, reduceSub, reduceLeDiff, reduceLT, reduceLE, reduceNeg, reduceEq, cu]
        refine sep_append (y := upS (quoL w y)) s rfl rfl te23 tk22 rfl (by decide) (by simp only []; omega) fun v11 h11 s => ?_
        have rc8 := (s.pull 1 rfl).row
        simp (disch := omega) only [WA, ↓reduceIte, reduceEqDiff, reduceAdd, reduceMul, reduceSub, reduceLeDiff, reduceLT, reduceLE, reduceNeg, reduceEq]
        refine .inl ⟨by kernel_rfl, ?_⟩; refine divided_c rc8 ((b4.sm hP).nin (by decide)) (by have := (b4.sm hP).len; omega) fun v12 h12 t12 => ?_
        have s := s.add t12
        simp (disch := omega) only [WA, ↓reduceIte, reduceEqDiff, reduceAdd, reduceMul, reduceSub, reduceLeDiff, reduceLT, reduceLE, reduceNeg, reduceEq]
        refine .inl ⟨by kernel_rfl, ?_⟩; refine withSign_c s ((b4.sm hP).part.nin (by decide)) (by have := (b4.sm hP).part.len; omega) fun v13 h13 s => ?_
        have hu2 : sgnL (partL (quoL c y)) = upS (quoL c y) := rfl
        rw [hu2] at s
        simp (disch := omega) only [WA, ↓reduceIte, reduceEqDiff, reduceAdd, reduceMul, reduceSub, reduceLeDiff, reduceLT, reduceLE, reduceNeg, reduceEq]
        refine ⟨_, b7, y, upS (quoL c y), out ++ [upS (quoL w y)], n, v6, v13, v11, rfl, rfl, rfl, rfl, by omega, b1, b4.up, hrest.next k hy, by rw [List.length_append, List.length_singleton]; omega, (s.pull 4 rfl).row, (s.pull 0 rfl).row, (s.pull 1 rfl).head⟩
    · have k1 : ¬ (1 : Int) < (w.length : Int) := by omega
      have hm := hrest.stop (by omega)
      rw [hm] at hQ
      have pl := s.row.isRow.plain
      simp (disch := omega) only [WA, ↓reduceIte, reduceEqDiff, reduceAdd, reduceMul, reduceSub, reduceLeDiff, reduceLT, reduceLE, reduceNeg, reduceEq, e6, rw'.isRow.len, k1, e8, pl]
      exact hQ _ _ s
theorem muParts_c {p : List Int} {v : Value} {h : Heap} {Q : Value → Heap → Prop} (r : Row h p v) (hP : Top p)
    (hQ : ∀ v h', Sep h h' [ownA 22 ((partsM p).getD []) v] → Q (.tuple #[v, .bool (partsM p).isSome]) h') : CallsV Try.prog 19 [v] h Q := by
  have hp : InF p p := ⟨hP.ldd, Fac.refl p⟩
  have sp := hp.sm hP
  have p0 := hp.ne hP
  have lp := hp.ldd
  refine CallsV.start Try.func19 rfl (by rw [Try.results19]) (by kernel_rfl) (by rw [Try.ntmps19]; simp) ?_
  simp (disch := omega) only [WA, ↓reduceIte, reduceEqDiff, reduceAdd, reduceMul, reduceSub, reduceLeDiff, reduceLT, reduceLE, reduceNeg, reduceEq]
  refine .inl ⟨by kernel_rfl, ?_⟩; refine sgDerive_c r (sp.mono (by decide)) fun v2 h2 s => ?_
  simp (disch := omega) only [WA, ↓reduceIte, reduceEqDiff, reduceAdd, reduceMul, reduceSub, reduceLeDiff, reduceLT, reduceLE, reduceNeg, reduceEq]
  refine .inl ⟨by kernel_rfl, ?_⟩; refine sgCommon_c (r.mono s.ext) (s.pull 0 rfl).row (sp.mono (by decide)) (dv_sm9 sp) lp (dv_ldd lp) (.inl p0) fun v3 h3 t3 => ?_
  have s := s.add t3
  simp (disch := omega) only [WA, ↓reduceIte, reduceEqDiff, reduceAdd, reduceMul, reduceSub, reduceLeDiff, reduceLT, reduceLE, reduceNeg, reduceEq]
  refine .inl ⟨by kernel_rfl, ?_⟩; refine sgFree_c (r.mono s.ext) hP hp fun v4 h4 t4 => ?_
  have s := s.add t4
  cases hd : comL p (dvL p) with
  | none =>
    obtain ⟨hm, hf⟩ := parts_none1 hd
    rw [hm] at hQ
    simp (disch := omega) only [WA, ↓reduceIte, reduceEqDiff, reduceAdd, reduceMul, reduceSub, reduceLeDiff, reduceLT, reduceLE, reduceNeg, reduceEq, Option.isSome_none]
    exact hQ _ _ ((Sep.nil s.ext).nilA _)
  | some d =>
    obtain ⟨hf, hm⟩ := parts_some hd
    obtain ⟨a1, a2, a3, a4, a5, a6, a7⟩ := free_fact hP hp hd
    rw [hd, hf] at s
    rw [hf]
    simp (disch := omega) only [WA, ↓reduceIte, reduceEqDiff, reduceAdd, reduceMul, reduceSub, reduceLeDiff, reduceLT, reduceLE, reduceNeg, reduceEq, Option.isSome_some]
    have w1 := a3.up
    have rw0 := (s.pull 0 rfl).row
    have rc0 := (s.pull 1 rfl).row
    generalize upS (quoL (upS p) d) = w0 at *
    have hrest : Rest (partsM p) [] 40 w0 d := by unfold Rest; rw [hm]; cases partsA 40 w0 d <;> simp
    have hm40 : msr w0 d < 40 := by unfold msr; have := (a1.sm hP).len; split <;> omega
    refine loop_rule (fun m e h' => ∃ (w c : List Int) (out : List (List Int)) (n : Nat) (vw vc vo : Value), e 6 = vw ∧ e 4 = vc ∧ e 8 = vo ∧ m = msr w c ∧ msr w c < n ∧ InF p w ∧ InF p c ∧ Rest (partsM p) out n w c ∧ out.length + n = 40 ∧ Row h' w vw ∧ Row h' c vc ∧ Sep h h' [ownA 22 out vo]) ?_ (msr w0 d) _ _
      ⟨w0, d, [], 40, v4, v3, _, rfl, rfl, rfl, rfl, hm40, w1, a1, hrest, rfl, rw0, rc0, (Sep.nil s.ext).nilA _⟩
    clear s hrest hm40 rw0 rc0 w1 hm hf t3 t4
    rintro m e h5 ⟨w, c, out, n, vw, vc, vo, e6, e4, e8, rfl, hn, hw, hc, hrest, hon, rw', rc', s⟩
    by_cases k : 1 < w.length
    · have k1 : (1 : Int) < (w.length : Int) := by omega
      obtain ⟨n, rfl⟩ : ∃ j, n = j + 1 := ⟨n - 1, by omega⟩
      simp (disch := omega) only [WA, ↓reduceIte, reduceEqDiff, reduceAdd, reduceMul, reduceSub, reduceLeDiff, reduceLT, reduceLE, reduceNeg, reduceEq, e4, e6, rw'.isRow.len, k1]
      refine .inl ⟨by kernel_rfl, ?_⟩; refine sgCommon_c rw' rc' ((hw.sm hP).mono (by decide)) ((hc.sm hP).mono (by decide)) hw.ldd hc.ldd (.inl (hw.ne hP)) fun v6 h6 t6 => ?_
      have s := s.add t6
      cases hy : comL w c with
      | none =>
        have hm := hrest.none k hy
        rw [hm] at hQ
        simp (disch := omega) only [WA, ↓reduceIte, reduceEqDiff, reduceAdd, reduceMul, reduceSub, reduceLeDiff, reduceLT, reduceLE, reduceNeg, reduceEq, Option.isSome_none]
        exact hQ _ _ ((Sep.nil s.ext).nilA _)
      | some y =>
        obtain ⟨b1, b2, b3, b4, b5, b6, b7⟩ := msr_next hP hw hc k hy
        rw [hy] at s
        have rw6 := rw'.mono t6.ext
        have rc6 := rc'.mono t6.ext
        simp (disch := omega) only [WA, ↓reduceIte, reduceEqDiff, reduceAdd, reduceMul, reduceSub, reduceLeDiff, reduceLT, reduceLE, reduceNeg, reduceEq, Option.isSome_some, e4, e6]
        refine .inl ⟨by kernel_rfl, ?_⟩; refine sgDivide_c rw6 (s.pull 0 rfl).row ⟨hw.ldd, b1.ldd, b3.ldd, hw.ne hP, b1.ne hP, hw.sm hP, b1.sm hP, b3.sm hP, b5⟩ fun v7 h7 t7 => ?_
        have s := s.add t7
        have rc7 := rc6.mono t7.ext
        simp (disch := omega) only [WA, ↓reduceIte, reduceEqDiff, reduceAdd, reduceMul, reduceSub, reduceLeDiff, reduceLT, reduceLE, reduceNeg, reduceEq, e4]
        refine .inl ⟨by kernel_rfl, ?_⟩; refine sgDivide_c rc7 (s.pull 1 rfl).row ⟨hc.ldd, b1.ldd, b4.ldd, hc.ne hP, b1.ne hP, hc.sm hP, b1.sm hP, b4.sm hP, b6⟩ fun v8 h8 t8 => ?_
        have s := s.add t8
        simp (disch := omega) only [WA, ↓reduceIte, reduceEqDiff, reduceAdd, reduceMul, reduceSub, reduceLeDiff, reduceLT, reduceLE, reduceNeg, reduceEq, e8]
        refine .inl ⟨by kernel_rfl, ?_⟩; refine sgUp_c (s.pull 1 rfl).row ((b3.sm hP).nin (by decide)) (by have := (b3.sm hP).len; omega) b3.ldd fun v10 h10 t10 => ?_
        have s := s.add t10
        simp (disch := omega) only [WA, ↓reduceIte, reduceEqDiff, reduceAdd, reduceMul, reduceSub, reduceLeDiff, reduceLT, reduceLE, reduceNeg, reduceEq]
        have cu := s.row.isRow.cells
        have s := ((s.toRep).pull 4 rfl)
        simp (disch := omega) only [WA, ↓reduceIte, reduceEqDiff, reduceAdd, reduceMul, reduceSub, reduceLeDiff, reduceLT, reduceLE, reduceNeg, reduceEq, cu]
        refine sep_append (y := upS (quoL w y)) s rfl rfl te23 tk22 rfl (by decide) (by simp only []; omega) fun v11 h11 s => ?_
        have rc8 := (s.pull 1 rfl).row
        simp (disch := omega) only [WA, ↓reduceIte, reduceEqDiff, reduceAdd, reduceMul, reduceSub, reduceLeDiff, reduceLT, reduceLE, reduceNeg, reduceEq]
        refine .inl ⟨by kernel_rfl, ?_⟩; refine sgUp_c rc8 ((b4.sm hP).nin (by decide)) (by have := (b4.sm hP).len; omega) b4.ldd fun v13 h13 t13 => ?_
        have s := s.add t13
        simp (disch := omega) only [WA, ↓reduceIte, reduceEqDiff, reduceAdd, reduceMul, reduceSub, reduceLeDiff, reduceLT, reduceLE, reduceNeg, reduceEq]
        refine ⟨_, b7, y, upS (quoL c y), out ++ [upS (quoL w y)], n, v6, v13, v11, rfl, rfl, rfl, rfl, by omega, b1, b4.up, hrest.next k hy, by rw [List.length_append, List.length_singleton]; omega, (s.pull 4 rfl).row, (s.pull 0 rfl).row, (s.pull 1 rfl).head⟩
    · have k1 : ¬ (1 : Int) < (w.length : Int) := by omega
      have hm := hrest.stop (by omega)
      rw [hm] at hQ
      have pl := s.row.isRow.plain
      simp (disch := omega) only [WA, ↓reduceIte, reduceEqDiff, reduceAdd, reduceMul, reduceSub, reduceLeDiff, reduceLT, reduceLE, reduceNeg, reduceEq, e6, rw'.isRow.len, k1, e8, pl]
      exact hQ _ _ s
end Go.Proofs
