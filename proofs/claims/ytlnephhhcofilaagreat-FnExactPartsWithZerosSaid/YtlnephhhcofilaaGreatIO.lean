/- Contracts of functions, facts of types, or the plain law behind one statement (own work): IO. Conditions: those told in each theorem. -/
import Derived.Test.YtlnephhhcofilaaGreatMF
set_option linter.all false
set_option linter.unusedSimpArgs false
set_option linter.unusedVariables false
set_option maxRecDepth 4000
namespace Go.Proofs
open Go Go.V
open Nat renaming reduceEqDiff → jA, reduceAdd → jB, reduceMul → jD, reduceSub → jE, reduceLeDiff → jF
open Int renaming reduceLT → jG, reduceLE → jH, reduceNeg → jI, reduceEq → jJ
theorem dy_in {a : Dy} (h : DyG a) : inI64 a.n ∧ inI64 a.k := by
  have := h.n0; have := h.n1; have := h.k0; have := h.k1
  unfold inI64
  omega
theorem dy_rep {a : Dy} (h : DyG a) (hh : Heap) : Rep.rep hh a (dyC a) [] := rep_Dy (dy_in h).1 (dy_in h).2
/-- A block that holds a whole list is one's own. -/
theorem Sep.blkOwn {α : Type} [Rep α] {a h : Heap} {L : List Asr} {l : List α} {b n : Nat} {cs : List Value} {ty : TypeId} (s : Sep a h (blkA b cs ty :: L)) (hc : ∃ fps, Cells h l cs fps ∧ fps.flatten = []) (hn : n = l.length) (hle : n ≤ 9223372036854775807) :
    Sep a h (ownA ty l (.slice (some ⟨b, 0, none⟩) n n) :: L) := s.to fun fp ⟨e, ex, o⟩ hd => by
  obtain ⟨fps, hc, hf⟩ := hc
  subst hn
  subst e
  have hl := hc.length.1
  have hcells : (cs.drop 0).take (l.length * Rep.sz α) = cs := by rw [List.drop_zero, List.take_of_length_le (Nat.le_of_eq hl)]
  refine ⟨b :: fps.flatten, Own.mk' (α := α) (l := l) (b := b) (off := 0) (cap := l.length) (fps := fps) (Nat.le_refl _) hle o rfl rfl (by simp only []; omega) (by rw [hcells]; exact hc) (by rw [hf]; simp), ?_, ?_⟩
  · rw [hf]; exact hd
  · intro x hx; rw [hf] at hx; exact hx
theorem cells2 {x y : Dy} (hx : DyG x) (hy : DyG y) (hh : Heap) : ∃ fps, Cells hh [x, y] [.int .i64 x.n, .int .i64 x.k, .int .i64 y.n, .int .i64 y.k] fps ∧ fps.flatten = [] :=
  ⟨[[], []], ⟨dyC x, [], dyC y, [[]], rfl, rfl, dy_rep hx hh, ⟨dyC y, [], [], [], rfl, rfl, dy_rep hy hh, rfl, rfl⟩⟩, rfl⟩
theorem ivPower_c {i : Iv} {n : Nat} {h : Heap} {Q : Value → Heap → Prop} (hi : IvD i) (hn : n ≤ 1000) (hQ : ∀ h', Ext h h' → Q (ivV (powS i n)) h') :
    CallsV Tryz.prog 133 [.agg (ivC i).toArray, .int .i64 n] h Q := by
  refine CallsV.start Tryz.func133 rfl (by rw [Tryz.results133]) (by kernel_rfl) (by rw [Tryz.ntmps133]; simp) ?_
  have s := Sep.blk2 h (ivC i) [.int .i64 0, .int .i64 0, .int .i64 0, .int .i64 0] 122 122 true true
  have gi := ivRd (s.pull 1 rfl)
  simp (disch := omega) only [WA, ↓reduceIte, jA, jB, jD, jE, jF, jG, jH, jI, jJ, gi]
  refine .inl ⟨by kernel_rfl, ?_⟩; refine ivRaise_c hi.low hn fun h1 E1 => ?_
  rw [optV_eq]
  have s := (s.mono E1).newBlk (dyC ((powD i.low n).getD ⟨0, 0⟩)) 97 true
  have gi := ivRd (s.pull 2 rfl)
  simp (disch := omega) only [WA, ↓reduceIte, jA, jB, jD, jE, jF, jG, jH, jI, jJ, gi]
  refine .inl ⟨by kernel_rfl, ?_⟩; refine ivRaise_c hi.high hn fun h2 E2 => ?_
  rw [optV_eq]
  have s := (s.mono E2).newBlk (dyC ((powD i.high n).getD ⟨0, 0⟩)) 97 true
  simp (disch := omega) only [WA, ↓reduceIte, jA, jB, jD, jE, jF, jG, jH, jI, jJ]
  unfold powS at hQ
  cases h1 : powD i.low n with
  | none =>
    rw [h1] at hQ s
    simp (disch := omega) only [WA, ↓reduceIte, jA, jB, jD, jE, jF, jG, jH, jI, jJ, Option.isSome_none]
    refine sep_store (s.pull 2 rfl) (by simp) fun h7 s => ?_
    have s := s.as (ds := ivC ⟨⟨0, 0⟩, ⟨0, 0⟩⟩) (by simp [t_put])
    have gz := ivRd s
    simp (disch := omega) only [WA, ↓reduceIte, jA, jB, jD, jE, jF, jG, jH, jI, jJ, gz]
    exact hQ _ s.ext
  | some x =>
    cases h2 : powD i.high n with
    | none =>
      rw [h1, h2] at hQ s
      simp (disch := omega) only [WA, ↓reduceIte, jA, jB, jD, jE, jF, jG, jH, jI, jJ, Option.isSome_none]
      refine sep_store (s.pull 2 rfl) (by simp) fun h7 s => ?_
      have s := s.as (ds := ivC ⟨⟨0, 0⟩, ⟨0, 0⟩⟩) (by simp [t_put])
      have gz := ivRd s
      simp (disch := omega) only [WA, ↓reduceIte, jA, jB, jD, jE, jF, jG, jH, jI, jJ, gz]
      exact hQ _ s.ext
    | some y =>
      rw [h1, h2] at s
      simp only [Option.getD_some] at s
      have gx := powD_good h1
      have gy := powD_good h2
      have gx1 := (s.pull 1 rfl).rdAll (n := 2) rfl
      have gy1 := (s.pull 0 rfl).rdAll (n := 2) rfl
      have s := s.newBlk [.int .i64 x.n, .int .i64 x.k, .int .i64 y.n, .int .i64 y.k] 97 true
      simp only [List.append_assoc, List.cons_append, List.nil_append, List.length_append, List.length_cons, List.length_nil, Nat.reduceAdd] at s
      by_cases c1 : n = 0
      · have c1' : ¬ (0 : Int) < (n : Int) := by omega
        simp (disch := omega) only [WA, ↓reduceIte, jA, jB, jD, jE, jF, jG, jH, jI, jJ, gx1, gy1, c1']
        have s := Sep.blkOwn (l := [x, y]) (n := 2) s (cells2 gx gy _) rfl (by decide)
        have gl : ∀ z ∈ ([x, y] : List Dy), DyG z := by intro z hz; simp only [List.mem_cons, List.not_mem_nil, or_false] at hz; rcases hz with rfl | rfl <;> assumption
        have hcond : (0 < n ∧ n % 2 = 0 ∧ zeroB i = true) = False := eq_false (fun hh => by omega)
        rw [h1, h2, ivV_eq] at hQ
        simp only [hcond, if_true, if_false, Option.getD_some, Option.isSome_some] at hQ
        refine .inl ⟨by kernel_rfl, ?_⟩; refine ivEnds_c s.row gl (by simp) fun h5 E5 => ?_
        have s := s.mono E5
        try simp (disch := omega) only [WA, ↓reduceIte, jA, jB, jD, jE, jF, jG, jH, jI, jJ]
        refine .inl ⟨by kernel_rfl, ?_⟩; refine ivRound_c (endsM_D gl) fun h6 E6 => ?_
        have s := s.mono E6
        simp (disch := omega) only [WA, ↓reduceIte, jA, jB, jD, jE, jF, jG, jH, jI, jJ]
        refine sep_store (s.pull 3 rfl) (by simp) fun h7 s => ?_
        have s := s.as (ds := ivC (rdI (endsM [x, y]))) (by simp [t_put])
        have gz := ivRd s
        simp (disch := omega) only [WA, ↓reduceIte, jA, jB, jD, jE, jF, jG, jH, jI, jJ, gz]
        exact hQ _ s.ext
      have c1' : (0 : Int) < (n : Int) := by omega
      have rm : Int.tmod (n : Int) 2 = ((n % 2 : Nat) : Int) := by rw [Int.tmod_eq_emod_of_nonneg (by omega)]; omega
      by_cases c2 : n % 2 = 0
      · have c2' : ((n % 2 : Nat) : Int) = 0 := by omega
        have d2 := decide_eq_true c2'
        have d1 := decide_eq_true c1'
        have gi := ivRd (s.pull 4 rfl)
        simp (disch := omega) only [WA, ↓reduceIte, jA, jB, jD, jE, jF, jG, jH, jI, jJ, gx1, gy1, c1', d1, rm, c2', d2, gi]
        refine .inl ⟨by kernel_rfl, ?_⟩; refine ivZero_c fun h4 E4 => ?_
        have s := s.mono E4
        cases c3 : zeroB i with
        | false =>
          simp (disch := omega) only [WA, ↓reduceIte, jA, jB, jD, jE, jF, jG, jH, jI, jJ]
          have s := Sep.blkOwn (l := [x, y]) (n := 2) s (cells2 gx gy _) rfl (by decide)
          have gl : ∀ z ∈ ([x, y] : List Dy), DyG z := by intro z hz; simp only [List.mem_cons, List.not_mem_nil, or_false] at hz; rcases hz with rfl | rfl <;> assumption
          have hcond : (0 < n ∧ n % 2 = 0 ∧ zeroB i = true) = False := eq_false (fun hh => by rw [c3] at hh; exact absurd hh.2.2 (by decide))
          rw [h1, h2, ivV_eq] at hQ
          simp only [hcond, if_true, if_false, Option.getD_some, Option.isSome_some] at hQ
          refine .inl ⟨by kernel_rfl, ?_⟩; refine ivEnds_c s.row gl (by simp) fun h5 E5 => ?_
          have s := s.mono E5
          try simp (disch := omega) only [WA, ↓reduceIte, jA, jB, jD, jE, jF, jG, jH, jI, jJ]
          refine .inl ⟨by kernel_rfl, ?_⟩; refine ivRound_c (endsM_D gl) fun h6 E6 => ?_
          have s := s.mono E6
          simp (disch := omega) only [WA, ↓reduceIte, jA, jB, jD, jE, jF, jG, jH, jI, jJ]
          refine sep_store (s.pull 3 rfl) (by simp) fun h7 s => ?_
          have s := s.as (ds := ivC (rdI (endsM [x, y]))) (by simp [t_put])
          have gz := ivRd s
          simp (disch := omega) only [WA, ↓reduceIte, jA, jB, jD, jE, jF, jG, jH, jI, jJ, gz]
          exact hQ _ s.ext
        | true =>
          simp (disch := omega) only [WA, ↓reduceIte, jA, jB, jD, jE, jF, jG, jH, jI, jJ]
          refine .inl ⟨by kernel_rfl, ?_⟩; refine dyInt_c fun h5 E5 => ?_
          have s := s.mono E5
          have s := Sep.blkOwn (l := [x, y]) (n := 2) s (cells2 gx gy _) rfl (by decide)
          have s := (s.rep0 (dy_rep good0 h5)).swap
          simp (disch := omega) only [WA, ↓reduceIte, jA, jB, jD, jE, jF, jG, jH, jI, jJ]
          refine sep_append (y := (⟨0, 0⟩ : Dy)) s rfl rfl te124 tk97 rfl (by decide) (by simp) fun w5 h6 s => ?_
          simp (disch := omega) only [WA, ↓reduceIte, jA, jB, jD, jE, jF, jG, jH, jI, jJ]
          have gl : ∀ z ∈ (([x, y] ++ [⟨0, 0⟩]) : List Dy), DyG z := by intro z hz; simp only [List.cons_append, List.nil_append, List.mem_cons, List.not_mem_nil, or_false] at hz; rcases hz with rfl | rfl | rfl; assumption; assumption; exact good0
          have hcond : (0 < n ∧ n % 2 = 0 ∧ zeroB i = true) = True := eq_true ⟨by omega, c2, c3⟩
          rw [h1, h2, ivV_eq] at hQ
          simp only [hcond, if_true, if_false, Option.getD_some, Option.isSome_some] at hQ
          refine .inl ⟨by kernel_rfl, ?_⟩; refine ivEnds_c s.row gl (by simp) fun h5 E5 => ?_
          have s := s.mono E5
          try simp (disch := omega) only [WA, ↓reduceIte, jA, jB, jD, jE, jF, jG, jH, jI, jJ]
          refine .inl ⟨by kernel_rfl, ?_⟩; refine ivRound_c (endsM_D gl) fun h6 E6 => ?_
          have s := s.mono E6
          simp (disch := omega) only [WA, ↓reduceIte, jA, jB, jD, jE, jF, jG, jH, jI, jJ]
          refine sep_store (s.pull 3 rfl) (by simp) fun h7 s => ?_
          have s := s.as (ds := ivC (rdI (endsM ([x, y] ++ [⟨0, 0⟩])))) (by simp [t_put])
          have gz := ivRd s
          simp (disch := omega) only [WA, ↓reduceIte, jA, jB, jD, jE, jF, jG, jH, jI, jJ, gz]
          exact hQ _ s.ext
      · have c2' : ¬ ((n % 2 : Nat) : Int) = 0 := by omega
        have d2 := decide_eq_false c2'
        have d1 := decide_eq_true c1'
        simp (disch := omega) only [WA, ↓reduceIte, jA, jB, jD, jE, jF, jG, jH, jI, jJ, gx1, gy1, c1', d1, rm, c2', d2]
        have s := Sep.blkOwn (l := [x, y]) (n := 2) s (cells2 gx gy _) rfl (by decide)
        have gl : ∀ z ∈ ([x, y] : List Dy), DyG z := by intro z hz; simp only [List.mem_cons, List.not_mem_nil, or_false] at hz; rcases hz with rfl | rfl <;> assumption
        have hcond : (0 < n ∧ n % 2 = 0 ∧ zeroB i = true) = False := eq_false (fun hh => by omega)
        rw [h1, h2, ivV_eq] at hQ
        simp only [hcond, if_true, if_false, Option.getD_some, Option.isSome_some] at hQ
        refine .inl ⟨by kernel_rfl, ?_⟩; refine ivEnds_c s.row gl (by simp) fun h5 E5 => ?_
        have s := s.mono E5
        try simp (disch := omega) only [WA, ↓reduceIte, jA, jB, jD, jE, jF, jG, jH, jI, jJ]
        refine .inl ⟨by kernel_rfl, ?_⟩; refine ivRound_c (endsM_D gl) fun h6 E6 => ?_
        have s := s.mono E6
        simp (disch := omega) only [WA, ↓reduceIte, jA, jB, jD, jE, jF, jG, jH, jI, jJ]
        refine sep_store (s.pull 3 rfl) (by simp) fun h7 s => ?_
        have s := s.as (ds := ivC (rdI (endsM [x, y]))) (by simp [t_put])
        have gz := ivRd s
        simp (disch := omega) only [WA, ↓reduceIte, jA, jB, jD, jE, jF, jG, jH, jI, jJ, gz]
        exact hQ _ s.ext
end Go.Proofs
