/- Contracts of functions, facts of types, or the plain law behind one statement (own work): IZ. Conditions: those told in each theorem. -/
import Derived.Test.YtlnephhhcofilaaGreatIY
set_option linter.all false
set_option linter.unusedSimpArgs false
set_option linter.unusedVariables false
set_option maxRecDepth 4000
namespace Go.Proofs
open Go Go.V
open Nat renaming reduceEqDiff → jA, reduceAdd → jB, reduceMul → jD, reduceSub → jE, reduceLeDiff → jF
open Int renaming reduceLT → jG, reduceLE → jH, reduceNeg → jI, reduceEq → jJ
/- Reasons that hold on an edge. -/
theorem polyF_all : ∀ {p : List Tm} {o : Option Tm}, polyF o p = true → ∀ t ∈ p, tmB t = true
  | [], _, _, t, ht => by simp at ht
  | t :: l, o, h, u, hu => by
    simp only [polyF, Bool.and_eq_true] at h
    rcases List.mem_cons.1 hu with rfl | hu
    · exact h.1.1.1
    · exact polyF_all h.2 u hu
theorem sys_at {S : List (List Tm)} (h : sysB S = true) {i : Nat} {p : List Tm} (hp : S[i]? = some p) : ∀ t ∈ p, TmG t := by
  unfold sysB at h
  rw [Bool.and_eq_true] at h
  have := List.all_eq_true.1 h.1 p (List.mem_of_getElem? hp)
  rw [Bool.and_eq_true] at this
  unfold polyB at this
  rw [Bool.and_eq_true] at this
  exact fun t ht => tmB_G (polyF_all this.1.1 t ht)
theorem partF_good {t : Tm} (ht : TmG t) : ∀ {sides : List Iv} {i : Nat} {o : Option Iv}, (∀ s ∈ sides, IvG s) → (∀ a, o = some a → IvG a) → ∀ a, partF t i sides o = some a → IvG a
  | [], i, o, hs, ho, a, h => ho a h
  | s :: l, i, o, hs, ho, a, h => by
    refine partF_good ht (sides := l) (i := i + 1) (o := stepM t i s o) (fun s hs' => hs s (by simp [hs'])) ?_ a h
    intro b hb
    unfold stepM at hb
    obtain ⟨c, _, hb⟩ := Option.bind_eq_some_iff.1 hb
    obtain ⟨d, _, hb⟩ := Option.bind_eq_some_iff.1 hb
    exact mulI_good hb
theorem one_good {t : Tm} (ht : TmG t) : IvG (oneI ⟨t.c, 0⟩) := ⟨good_int ⟨ht.c0, ht.c1⟩, good_int ⟨ht.c0, ht.c1⟩, Int.le_refl _⟩
theorem valF_good {sides : List Iv} (hs : ∀ s ∈ sides, IvG s) : ∀ {p : List Tm} {o : Option Iv}, (∀ t ∈ p, TmG t) → (∀ a, o = some a → IvG a) → ∀ a, valF sides p o = some a → IvG a
  | [], o, hp, ho, a, h => ho a h
  | t :: l, o, hp, ho, a, h => by
    refine valF_good hs (p := l) (o := addO o (partM t sides)) (fun u hu => hp u (by simp [hu])) ?_ a h
    intro b hb
    unfold addO at hb
    obtain ⟨c, hc, hb⟩ := Option.bind_eq_some_iff.1 hb
    obtain ⟨d, hd, hb⟩ := Option.bind_eq_some_iff.1 hb
    refine addI_good (ho c hc) ?_ hb
    exact partF_good (hp t (by simp)) hs (fun a ha => by cases ha; exact one_good (hp t (by simp))) d hd
theorem zero_IvG : IvG zeroI := ⟨good0, good0, Int.le_refl _⟩
theorem valM_good {sides : List Iv} {p : List Tm} (hs : ∀ s ∈ sides, IvG s) (hp : ∀ t ∈ p, TmG t) : IvG ((valM p sides).getD zeroI) := by
  cases h : valM p sides with
  | none => exact zero_IvG
  | some a => exact valF_good hs hp (fun a ha => by cases ha; exact zero_IvG) a h
/-- The sides of an edge. -/
def alongM (e : Ed) : Iv := ⟨lsM e.frm e.tip, gtM e.frm e.tip⟩
def sidesM (e : Ed) : List Iv := if e.side = 0 then [oneI e.mid, alongM e] else [alongM e, oneI e.mid]
theorem along_good {e : Ed} (h : EdG e) : IvG (alongM e) := ⟨lsM_good h.frm h.tip, gtM_good h.frm h.tip, by show val (lsM _ _) ≤ val (gtM _ _); rw [lsM_val, gtM_val]; omega⟩
theorem mid_good {e : Ed} (h : EdG e) : IvG (oneI e.mid) := ⟨h.mid, h.mid, Int.le_refl _⟩
theorem sides_good {e : Ed} (h : EdG e) : ∀ s ∈ sidesM e, IvG s := by
  intro s hs
  unfold sidesM at hs
  split at hs
  · simp only [List.mem_cons, List.not_mem_nil, or_false] at hs
    rcases hs with rfl | rfl
    · exact mid_good h
    · exact along_good h
  · simp only [List.mem_cons, List.not_mem_nil, or_false] at hs
    rcases hs with rfl | rfl
    · exact along_good h
    · exact mid_good h
theorem sides_len (e : Ed) : (sidesM e).length = 2 := by unfold sidesM; split <;> rfl
def signR (r : Nat) : Int := 1 - 2 * ((r / 2 : Nat) : Int)
def holdM (S : List (List Tm)) (sides : List Iv) (r : Nat) : Bool := (valM (S.getD (r % 2) []) sides).isSome && decide (sgI ((valM (S.getD (r % 2) []) sides).getD zeroI) = signR r)
def reasM (S : List (List Tm)) (sides : List Iv) : Option Nat := (List.range 4).find? (holdM S sides)
theorem twoB_two {S : List (List Tm)} (h : twoB S = true) : S.length = 2 ∧ sysB S = true := by
  unfold twoB at h
  simp only [Bool.and_eq_true, decide_eq_true_eq] at h
  exact h
theorem two_at {S : List (List Tm)} (h : twoB S = true) (r : Nat) : S[r % 2]? = some (S.getD (r % 2) []) := by
  have := (twoB_two h).1
  rw [List.getD_eq_getElem?_getD, List.getElem?_eq_getElem (by omega)]
  rfl
theorem iv_rep {a : Iv} (h : IvD a) (hh : Heap) : Rep.rep hh a (ivC a) [] := rep_Iv (dy_in h.low).1 (dy_in h.low).2 (dy_in h.high).1 (dy_in h.high).2
theorem cells_iv2 {a b : Iv} (ha : IvG a) (hb : IvG b) (h : Heap) : ∃ fps, Cells h [a, b] (ivC a ++ ivC b) fps ∧ fps.flatten = [] := by
  have e := (Cells.one (iv_rep ha.d h)).append (Cells.one (iv_rep hb.d h))
  exact ⟨_, e, rfl⟩
theorem imHolds_c {S : List (List Tm)} {sides : List Iv} {v w : Value} {r : Nat} {h : Heap} {Q : Value → Heap → Prop} (rS : Row h S v) (rs : Row h sides w) (hS : twoB S = true) (hs : ∀ s ∈ sides, IvG s) (hr : r < 4)
    (hQ : ∀ h', Ext h h' → Q (.bool (holdM S sides r)) h') : CallsV Tryz.prog 107 [v, w, .int .i64 r] h Q := by
  obtain ⟨hl, hsys⟩ := twoB_two hS
  have hp := two_at hS r
  obtain ⟨u, g1, hu⟩ := row_list rS hp
  have hT := sys_at hsys hp
  have tm : Int.tmod (r : Int) 2 = ((r % 2 : Nat) : Int) := by rw [Int.tmod_eq_emod_of_nonneg (by omega)]; omega
  have td : Int.tdiv (r : Int) 2 = ((r / 2 : Nat) : Int) := by rw [Int.tdiv_eq_ediv_of_nonneg (by omega)]; omega
  have q1 : ((r % 2 : Nat) : Int) < (S.length : Int) := by omega
  have wd := wrap_in ((r / 2 : Nat) : Int) (by omega)
  refine CallsV.start Tryz.func107 rfl (by rw [Tryz.results107]) (by kernel_rfl) (by rw [Tryz.ntmps107]; simp) ?_
  simp (disch := omega) only [WA, ↓reduceIte, jA, jB, jD, jE, jF, jG, jH, jI, jJ, tm, rS.isRow.ix, q1, g1]
  refine .inl ⟨by kernel_rfl, ?_⟩; refine vaOver_c hu rs hT hs fun h1 E1 => ?_
  have hg := valM_good (p := S.getD (r % 2) []) hs hT
  have s := (Sep.nil E1).newBlk (ivC ((valM (S.getD (r % 2) []) sides).getD zeroI)) 122 true
  have gz := ivRd s
  rw [ivV_eq]
  unfold holdM signR at hQ
  cases hv : (valM (S.getD (r % 2) []) sides).isSome with
  | false =>
    rw [hv] at hQ
    simp (disch := omega) only [WA, ↓reduceIte, jA, jB, jD, jE, jF, jG, jH, jI, jJ]
    exact hQ _ s.ext
  | true =>
    rw [hv, Bool.true_and] at hQ
    have w2 := wrap_in (2 * ((r / 2 : Nat) : Int)) (by omega)
    have w3 := wrap_in (1 - 2 * ((r / 2 : Nat) : Int)) (by omega)
    simp (disch := omega) only [WA, ↓reduceIte, jA, jB, jD, jE, jF, jG, jH, jI, jJ, gz]
    refine .inl ⟨by kernel_rfl, ?_⟩; refine ivSign_c hg fun h2 E2 => ?_
    simp (disch := omega) only [WA, ↓reduceIte, jA, jB, jD, jE, jF, jG, jH, jI, jJ, td, wd, w2, w3]
    exact hQ _ (s.ext.trans E2)
theorem imReason_c {S : List (List Tm)} {sides : List Iv} {v w : Value} {h : Heap} {Q : Value → Heap → Prop} (rS : Row h S v) (rs : Row h sides w) (hS : twoB S = true) (hs : ∀ s ∈ sides, IvG s)
    (hQ : ∀ h', Ext h h' → Q (.tuple #[.int .i64 ((reasM S sides).getD 0 : Nat), .bool (reasM S sides).isSome]) h') : CallsV Tryz.prog 90 [v, w] h Q := by
  refine CallsV.start Tryz.func90 rfl (by rw [Tryz.results90]) (by kernel_rfl) (by rw [Tryz.ntmps90]; simp) ?_
  simp (disch := omega) only [WA, ↓reduceIte, jA, jB, jD, jE, jF, jG, jH, jI, jJ]
  refine loop_rule (fun m e h' => ∃ (r : Nat), e 0 = v ∧ e 1 = w ∧ e 6 = .int .i64 r ∧ r ≤ 4 ∧ m = 4 - r ∧ (∀ j < r, holdM S sides j = false) ∧ Ext h h') ?_ 4 _ _ ⟨0, rfl, rfl, rfl, by omega, rfl, by omega, .refl _⟩
  rintro m e h3 ⟨r, e0, e1, e6, hr, rfl, hno, E⟩
  by_cases c : r < 4
  · have c1 : (r : Int) < 4 := by omega
    simp (disch := omega) only [WA, ↓reduceIte, jA, jB, jD, jE, jF, jG, jH, jI, jJ, e0, e1, e6, c1]
    refine .inl ⟨by kernel_rfl, ?_⟩; refine imHolds_c (rS.mono E) (rs.mono E) hS hs c fun h4 E4 => ?_
    cases hb : holdM S sides r with
    | true =>
      have hf : reasM S sides = some r := by
        unfold reasM
        rw [List.find?_range_eq_some]
        exact ⟨hb, by simp [c], fun j hj => by rw [hno j hj]; rfl⟩
      rw [hf] at hQ
      simp (disch := omega) only [WA, ↓reduceIte, jA, jB, jD, jE, jF, jG, jH, jI, jJ, e6]
      exact hQ _ (E.trans E4)
    | false =>
      simp (disch := omega) only [WA, ↓reduceIte, jA, jB, jD, jE, jF, jG, jH, jI, jJ, e6, wrap_in]
      refine ⟨_, by omega, r + 1, e0, e1, by simp, by omega, rfl, fun j hj => ?_, E.trans E4⟩
      by_cases e : j = r
      · rw [e]; exact hb
      · exact hno j (by omega)
  · obtain rfl : r = 4 := by omega
    have e6 : e 6 = .int .i64 4 := e6
    have hf : reasM S sides = none := by
      unfold reasM
      rw [List.find?_eq_none]
      intro j hj
      rw [List.mem_range] at hj
      rw [hno j hj]
      decide
    rw [hf] at hQ
    simp (disch := omega) only [WA, ↓reduceIte, jA, jB, jD, jE, jF, jG, jH, jI, jJ, e6]
    exact hQ _ E
theorem imSides_c {e : Ed} {cs : List Value} {h : Heap} {Q : Value → Heap → Prop} (he : EdG e) (hh : cs = edC e) (hQ : ∀ v h', Sep h h' [ownA 122 (sidesM e) v] → Q v h') :
    CallsV Tryz.prog 91 [.agg cs.toArray] h Q := by
  subst hh
  refine CallsV.start Tryz.func91 rfl (by rw [Tryz.results91]) (by kernel_rfl) (by rw [Tryz.ntmps91]; simp) ?_
  have s := Sep.blk1 h (edC e) 102 true
  have ga := s.rd
  have gb := s.rdA
  simp (disch := omega) only [WA, ↓reduceIte, jA, jB, jD, jE, jF, jG, jH, jI, jJ, ga, gb]
  have s := s.newBlk [.int .i64 e.frm.n, .int .i64 e.frm.k, .int .i64 e.tip.n, .int .i64 e.tip.k] 97 true
  simp only [List.append_assoc, List.cons_append, List.nil_append, List.length_append, List.length_cons, List.length_nil, Nat.reduceAdd] at s
  have s := Sep.blkOwn (l := [e.frm, e.tip]) (n := 2) s (cells2 he.frm he.tip _) rfl (by decide)
  have gl : ∀ z ∈ ([e.frm, e.tip] : List Dy), DyG z := by intro z hz; simp only [List.mem_cons, List.not_mem_nil, or_false] at hz; rcases hz with rfl | rfl; exact he.frm; exact he.tip
  refine .inl ⟨by kernel_rfl, ?_⟩; refine ivEnds_c s.row gl (by simp) fun h4 E4 => ?_
  have s := s.mono E4
  have eal : endsM [e.frm, e.tip] = alongM e := ends2 he.frm he.tip
  rw [eal]
  have s := s.newBlk (ivC (alongM e)) 122 true
  have ga := (s.pull 2 rfl).rd
  have gb := (s.pull 2 rfl).rdA
  simp (disch := omega) only [WA, ↓reduceIte, jA, jB, jD, jE, jF, jG, jH, jI, jJ, ga, gb]
  generalize h4 ++ [some ⟨ivC (alongM e), 122, false, true⟩] = H4 at s ga gb ⊢
  generalize List.length h4 = c4 at s ⊢
  by_cases c : e.side = 0
  · have es : sidesM e = [oneI e.mid, alongM e] := by unfold sidesM; rw [if_pos c]
    rw [es] at hQ
    have gi := ivRd s
    simp (disch := omega) only [WA, ↓reduceIte, jA, jB, jD, jE, jF, jG, jH, jI, jJ, c]
    refine draw_ord [0, 1, 3, 2, 4, 5] (by kernel_rfl) (by simp only [WLF]; rfl) ?_
    simp (disch := omega) only [WA, ↓reduceIte, jA, jB, jD, jE, jF, jG, jH, jI, jJ, gi, ga, gb]
    refine .inl ⟨by kernel_rfl, ?_⟩; refine vaPure_c fun h5 E5 => ?_
    have s := s.mono E5
    have gi := ivRd s
    have gb := (s.pull 2 rfl).rdA
    have s := s.newBlk [.int .i64 e.mid.n, .int .i64 e.mid.k, .int .i64 e.mid.n, .int .i64 e.mid.k, .int .i64 (alongM e).low.n, .int .i64 (alongM e).low.k, .int .i64 (alongM e).high.n, .int .i64 (alongM e).high.k] 122 true
    have s := Sep.blkOwn (l := [oneI e.mid, alongM e]) (n := 2) s (cells_iv2 (mid_good he) (along_good he) _) rfl (by decide)
    have gi2 := ivRd (s.pull 1 rfl)
    have gb2 := (s.pull 3 rfl).rdA
    simp (disch := omega) only [WA, ↓reduceIte, jA, jB, jD, jE, jF, jG, jH, jI, jJ, gi, gb, gi2, gb2]
    exact hQ _ _ s.head
  · have es : sidesM e = [alongM e, oneI e.mid] := by unfold sidesM; rw [if_neg c]
    rw [es] at hQ
    have gi := ivRd s
    simp (disch := omega) only [WA, ↓reduceIte, jA, jB, jD, jE, jF, jG, jH, jI, jJ, c]
    refine draw_ord [0, 1, 2, 3, 4, 5] (by kernel_rfl) (by simp only [WLF]; rfl) ?_
    simp (disch := omega) only [WA, ↓reduceIte, jA, jB, jD, jE, jF, jG, jH, jI, jJ, gi, ga, gb]
    refine .inl ⟨by kernel_rfl, ?_⟩; refine vaPure_c fun h5 E5 => ?_
    have s := s.mono E5
    have gi := ivRd s
    have gb := (s.pull 2 rfl).rdA
    have s := s.newBlk [.int .i64 (alongM e).low.n, .int .i64 (alongM e).low.k, .int .i64 (alongM e).high.n, .int .i64 (alongM e).high.k, .int .i64 e.mid.n, .int .i64 e.mid.k, .int .i64 e.mid.n, .int .i64 e.mid.k] 122 true
    have s := Sep.blkOwn (l := [alongM e, oneI e.mid]) (n := 2) s (cells_iv2 (along_good he) (mid_good he) _) rfl (by decide)
    have gi2 := ivRd (s.pull 1 rfl)
    have gb2 := (s.pull 3 rfl).rdA
    simp (disch := omega) only [WA, ↓reduceIte, jA, jB, jD, jE, jF, jG, jH, jI, jJ, gi, gb, gi2, gb2]
    exact hQ _ _ s.head
end Go.Proofs
