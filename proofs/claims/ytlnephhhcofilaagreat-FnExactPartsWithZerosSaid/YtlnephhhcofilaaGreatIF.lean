/- Contracts of functions, facts of types, or the plain law behind one statement (own work): IF. Conditions: those told in each theorem. -/
import Derived.Test.YtlnephhhcofilaaGreatIE
set_option linter.all false
set_option linter.unusedSimpArgs false
set_option linter.unusedVariables false
set_option maxRecDepth 4000
namespace Go.Proofs
open Go Go.V
open Nat renaming reduceEqDiff → jA, reduceAdd → jB, reduceMul → jD, reduceSub → jE, reduceLeDiff → jF
open Int renaming reduceLT → jG, reduceLE → jH, reduceNeg → jI, reduceEq → jJ
theorem draw_cut {l : List Oper} {e : Env} {h : Heap} {K : Env → Heap → Prop} (I : Env → Heap → Prop)
    (main : ∀ K' : Env → Heap → Prop, (∀ e' h', I e' h' → K' e' h') → drawK Tryz.prog l e h K') (key : ∀ e' h', I e' h' → K e' h') : drawK Tryz.prog l e h K := main _ key
set_option maxHeartbeats 4000000 in
theorem rmultiply_c {a h : Heap} {b : Nat} {L : List Asr} {p : Bool} {i k : Iv} {Q : Value → Heap → Prop} (s : Sep a h (blkA b [.bool p] 149 :: L)) (hi : IvD i) (hk : IvD k)
    (hQ : ∀ h' v, IvD v → (∀ o, p = true → mulI i k = some o → v = o) → Sep a h' (blkA b [.bool (p && (mulI i k).isSome)] 149 :: L) → Q (.agg (ivC v).toArray) h') :
    CallsV Tryz.prog 140 [.pointer (some ⟨b, 0, none⟩), .agg (ivC i).toArray, .agg (ivC k).toArray] h Q := by
  refine CallsV.start Tryz.func140 rfl (by rw [Tryz.results140]) (by kernel_rfl) (by rw [Tryz.ntmps140]; simp) ?_
  obtain ⟨hk1, hk2⟩ := mulI_keep (i := i) (k := k) (p := p)
  have GA := keepM_good (p := p) (o := mulM i.low k.low) fun d => mulM_good
  have GB := keepM_good (p := p && (mulM i.low k.low).isSome) (o := mulM i.low k.high) fun d => mulM_good
  have GC := keepM_good (p := (p && (mulM i.low k.low).isSome) && (mulM i.low k.high).isSome) (o := mulM i.high k.low) fun d => mulM_good
  have GD := keepM_good (p := ((p && (mulM i.low k.low).isSome) && (mulM i.low k.high).isSome) && (mulM i.high k.low).isSome) (o := mulM i.high k.high) fun d => mulM_good
  generalize hA : keepM p (mulM i.low k.low) = A at *
  generalize hB : keepM (p && (mulM i.low k.low).isSome) (mulM i.low k.high) = B at *
  generalize hC : keepM ((p && (mulM i.low k.low).isSome) && (mulM i.low k.high).isSome) (mulM i.high k.low) = C at *
  generalize hD : keepM (((p && (mulM i.low k.low).isSome) && (mulM i.low k.high).isSome) && (mulM i.high k.low).isSome) (mulM i.high k.high) = D at *
  have s := ((s.newBlk (ivC i) 122 true).newBlk (ivC k) 122 true).newBlk [.int .i64 0, .int .i64 0, .int .i64 0, .int .i64 0] 122 true
  simp only [List.append_assoc, List.cons_append, List.nil_append, List.length_append, List.length_cons, List.length_nil, Nat.reduceAdd] at s
  have gi := ivRd (s.pull 2 rfl)
  have gk := ivRd (s.pull 1 rfl)
  simp (disch := omega) only [WA, ↓reduceIte, jA, jB, jD, jE, jF, jG, jH, jI, jJ, gi, gk]
  generalize h ++ [some ⟨ivC i, 122, false, true⟩, some ⟨ivC k, 122, false, true⟩, some ⟨[.int .i64 0, .int .i64 0, .int .i64 0, .int .i64 0], 122, false, true⟩] = H0 at s ⊢
  have gi := ivRd (s.pull 2 rfl)
  have gk := ivRd (s.pull 1 rfl)
  refine draw_cut (fun e' h' => e' 0 = .pointer (some ⟨b, 0, none⟩) ∧ e' 4 = .pointer (some ⟨h.length, 0, none⟩) ∧ e' 5 = .pointer (some ⟨h.length + 1, 0, none⟩) ∧ e' 6 = .pointer (some ⟨h.length + 2, 0, none⟩) ∧ ∃ pa pb, e' 7 = .pointer (some ⟨pa, 0, none⟩) ∧ e' 8 = .pointer (some ⟨pb, 0, none⟩) ∧ Sep a h' (blkA pa (dyC A) 97 :: blkA pb (dyC B) 97 :: blkA b [.bool ((p && (mulM i.low k.low).isSome) && (mulM i.low k.high).isSome)] 149 :: blkA (h.length + 2) [.int .i64 0, .int .i64 0, .int .i64 0, .int .i64 0] 122 :: blkA (h.length + 1) (ivC k) 122 :: blkA h.length (ivC i) 122 :: L)) (fun K' hK' => ?_) ?_
  · skip
    refine draw_tail [0, 1, 2, 3, 4, 6, 7, 8, 9, 10] [5, 11, 12, 13, 14, 15] (by kernel_rfl) (by simp only [WLF]; rfl) ?_
    simp (disch := omega) only [WA, ↓reduceIte, jA, jB, jD, jE, jF, jG, jH, jI, jJ, gi, gk]
    skip
    refine tail_step [(5, [], [11, 12, 13, 14, 15], false), (12, [], [5, 11, 13, 14, 15], false), (13, [], [5, 11, 12, 14, 15], false)] (by kernel_rfl) (by kernel_rfl) (a_cons (by simp only [WLF]; rfl) (by kernel_rfl) ?_ (a_cons (by simp only [WLF]; rfl) (by kernel_rfl) ?_ (a_cons (by simp only [WLF]; rfl) (by kernel_rfl) ?_ trivial)))
    · skip
      have gi := ivRd (s.pull 2 rfl)
      have gk := ivRd (s.pull 1 rfl)
      simp (disch := omega) only [WA, ↓reduceIte, jA, jB, jD, jE, jF, jG, jH, jI, jJ, gi, gk]
      refine .inl ⟨by kernel_rfl, ?_⟩; refine rproduct_c (s.pull 3 rfl) hi.low hk.low fun hh s => ?_
      rw [hA]
      have gi := ivRd (s.pull 3 rfl)
      have gk := ivRd (s.pull 2 rfl)
      simp (disch := omega) only [WA, ↓reduceIte, jA, jB, jD, jE, jF, jG, jH, jI, jJ, gi, gk]
      refine tail_step [(11, [], [12, 13, 14, 15], true), (12, [], [11, 13, 14, 15], false), (13, [], [11, 12, 14, 15], false)] (by kernel_rfl) (by kernel_rfl) (a_cut (by simp only [WLF]; rfl) (by kernel_rfl) ?_ (a_cons (by simp only [WLF]; rfl) (by kernel_rfl) ?_ (a_cons (by simp only [WLF]; rfl) (by kernel_rfl) ?_ trivial)))
      · skip
        have gi := ivRd (s.pull 3 rfl)
        have gk := ivRd (s.pull 2 rfl)
        simp (disch := omega) only [WA, ↓reduceIte, jA, jB, jD, jE, jF, jG, jH, jI, jJ, gi, gk]
        refine .inl ⟨by kernel_rfl, ?_⟩; refine rproduct_c (s.pull 0 rfl) hi.low hk.high fun hh s => ?_
        rw [hB]
        have gi := ivRd (s.pull 3 rfl)
        have gk := ivRd (s.pull 2 rfl)
        simp (disch := omega) only [WA, ↓reduceIte, jA, jB, jD, jE, jF, jG, jH, jI, jJ, gi, gk]
        refine tail_step [(12, [], [13, 14, 15], false), (13, [], [12, 14, 15], false)] (by kernel_rfl) (by kernel_rfl) (a_cons (by simp only [WLF]; rfl) (by kernel_rfl) ?_ (a_cons (by simp only [WLF]; rfl) (by kernel_rfl) ?_ trivial))
        · skip
          have gi := ivRd (s.pull 3 rfl)
          have gk := ivRd (s.pull 2 rfl)
          simp (disch := omega) only [WA, ↓reduceIte, jA, jB, jD, jE, jF, jG, jH, jI, jJ, gi, gk]
          have s := s.newBlk [.int .i64 0, .int .i64 0] 97 true
          generalize hE12 : _ ++ [_] = hN at s ⊢
          have gi := ivRd (s.pull 4 rfl)
          have gk := ivRd (s.pull 3 rfl)
          try simp (disch := omega) only [WA, ↓reduceIte, jA, jB, jD, jE, jF, jG, jH, jI, jJ, gi, gk]
          refine tail_step [(13, [], [14, 15], false)] (by kernel_rfl) (by kernel_rfl) (a_cons (by simp only [WLF]; rfl) (by kernel_rfl) ?_ trivial)
          have gi := ivRd (s.pull 4 rfl)
          have gk := ivRd (s.pull 3 rfl)
          simp (disch := omega) only [WA, ↓reduceIte, jA, jB, jD, jE, jF, jG, jH, jI, jJ, gi, gk]
          have s := s.newBlk [.int .i64 0, .int .i64 0] 97 true
          generalize hE13 : _ ++ [_] = hN at s ⊢
          have gi := ivRd (s.pull 5 rfl)
          have gk := ivRd (s.pull 4 rfl)
          try simp (disch := omega) only [WA, ↓reduceIte, jA, jB, jD, jE, jF, jG, jH, jI, jJ, gi, gk]
          refine tail_step [(14, [], [15], true)] (by kernel_rfl) (by kernel_rfl) (a_cut (by simp only [WLF]; rfl) (by kernel_rfl) ?_ trivial)
          have gi := ivRd (s.pull 5 rfl)
          have gk := ivRd (s.pull 4 rfl)
          simp (disch := omega) only [WA, ↓reduceIte, jA, jB, jD, jE, jF, jG, jH, jI, jJ]
          refine sep_store (s.pull 1 rfl) (by simp) fun hh s => ?_
          have s := s.as (ds := dyC A) (by simp [t_put])
          simp (disch := omega) only [WA, ↓reduceIte, jA, jB, jD, jE, jF, jG, jH, jI, jJ]
          refine tail_step [(15, [], [], true)] (by kernel_rfl) (by kernel_rfl) (a_cut (by simp only [WLF]; rfl) (by kernel_rfl) ?_ trivial)
          have gi := ivRd (s.pull 5 rfl)
          have gk := ivRd (s.pull 4 rfl)
          simp (disch := omega) only [WA, ↓reduceIte, jA, jB, jD, jE, jF, jG, jH, jI, jJ]
          refine sep_store (s.pull 1 rfl) (by simp) fun hh s => ?_
          have s := s.as (ds := dyC B) (by simp [t_put])
          simp (disch := omega) only [WA, ↓reduceIte, jA, jB, jD, jE, jF, jG, jH, jI, jJ]
          exact hK' _ _ ⟨rfl, rfl, rfl, rfl, _, _, rfl, rfl, ((((((s.pull 5 rfl).pull 5 rfl).pull 5 rfl).pull 5 rfl).pull 4 rfl).pull 5 rfl)⟩
        · skip
          have gi := ivRd (s.pull 3 rfl)
          have gk := ivRd (s.pull 2 rfl)
          simp (disch := omega) only [WA, ↓reduceIte, jA, jB, jD, jE, jF, jG, jH, jI, jJ, gi, gk]
          have s := s.newBlk [.int .i64 0, .int .i64 0] 97 true
          generalize hE13 : _ ++ [_] = hN at s ⊢
          have gi := ivRd (s.pull 4 rfl)
          have gk := ivRd (s.pull 3 rfl)
          try simp (disch := omega) only [WA, ↓reduceIte, jA, jB, jD, jE, jF, jG, jH, jI, jJ, gi, gk]
          refine tail_step [(12, [], [14, 15], false)] (by kernel_rfl) (by kernel_rfl) (a_cons (by simp only [WLF]; rfl) (by kernel_rfl) ?_ trivial)
          have gi := ivRd (s.pull 4 rfl)
          have gk := ivRd (s.pull 3 rfl)
          simp (disch := omega) only [WA, ↓reduceIte, jA, jB, jD, jE, jF, jG, jH, jI, jJ, gi, gk]
          have s := s.newBlk [.int .i64 0, .int .i64 0] 97 true
          generalize hE12 : _ ++ [_] = hN at s ⊢
          have gi := ivRd (s.pull 5 rfl)
          have gk := ivRd (s.pull 4 rfl)
          try simp (disch := omega) only [WA, ↓reduceIte, jA, jB, jD, jE, jF, jG, jH, jI, jJ, gi, gk]
          refine tail_step [(14, [], [15], true)] (by kernel_rfl) (by kernel_rfl) (a_cut (by simp only [WLF]; rfl) (by kernel_rfl) ?_ trivial)
          have gi := ivRd (s.pull 5 rfl)
          have gk := ivRd (s.pull 4 rfl)
          simp (disch := omega) only [WA, ↓reduceIte, jA, jB, jD, jE, jF, jG, jH, jI, jJ]
          refine sep_store (s.pull 0 rfl) (by simp) fun hh s => ?_
          have s := s.as (ds := dyC A) (by simp [t_put])
          simp (disch := omega) only [WA, ↓reduceIte, jA, jB, jD, jE, jF, jG, jH, jI, jJ]
          refine tail_step [(15, [], [], true)] (by kernel_rfl) (by kernel_rfl) (a_cut (by simp only [WLF]; rfl) (by kernel_rfl) ?_ trivial)
          have gi := ivRd (s.pull 5 rfl)
          have gk := ivRd (s.pull 4 rfl)
          simp (disch := omega) only [WA, ↓reduceIte, jA, jB, jD, jE, jF, jG, jH, jI, jJ]
          refine sep_store (s.pull 1 rfl) (by simp) fun hh s => ?_
          have s := s.as (ds := dyC B) (by simp [t_put])
          simp (disch := omega) only [WA, ↓reduceIte, jA, jB, jD, jE, jF, jG, jH, jI, jJ]
          exact hK' _ _ ⟨rfl, rfl, rfl, rfl, _, _, rfl, rfl, ((((((s.pull 5 rfl).pull 5 rfl).pull 5 rfl).pull 5 rfl).pull 4 rfl).pull 5 rfl)⟩
      · skip
        have gi := ivRd (s.pull 3 rfl)
        have gk := ivRd (s.pull 2 rfl)
        simp (disch := omega) only [WA, ↓reduceIte, jA, jB, jD, jE, jF, jG, jH, jI, jJ, gi, gk]
        have s := s.newBlk [.int .i64 0, .int .i64 0] 97 true
        generalize hE12 : _ ++ [_] = hN at s ⊢
        have gi := ivRd (s.pull 4 rfl)
        have gk := ivRd (s.pull 3 rfl)
        try simp (disch := omega) only [WA, ↓reduceIte, jA, jB, jD, jE, jF, jG, jH, jI, jJ, gi, gk]
        refine tail_step [(11, [], [13, 14, 15], false), (13, [], [11, 14, 15], false)] (by kernel_rfl) (by kernel_rfl) (a_cons (by simp only [WLF]; rfl) (by kernel_rfl) ?_ (a_cons (by simp only [WLF]; rfl) (by kernel_rfl) ?_ trivial))
        · skip
          have gi := ivRd (s.pull 4 rfl)
          have gk := ivRd (s.pull 3 rfl)
          simp (disch := omega) only [WA, ↓reduceIte, jA, jB, jD, jE, jF, jG, jH, jI, jJ, gi, gk]
          refine .inl ⟨by kernel_rfl, ?_⟩; refine rproduct_c (s.pull 1 rfl) hi.low hk.high fun hh s => ?_
          rw [hB]
          have gi := ivRd (s.pull 4 rfl)
          have gk := ivRd (s.pull 3 rfl)
          simp (disch := omega) only [WA, ↓reduceIte, jA, jB, jD, jE, jF, jG, jH, jI, jJ, gi, gk]
          refine tail_step [(13, [], [14, 15], false)] (by kernel_rfl) (by kernel_rfl) (a_cons (by simp only [WLF]; rfl) (by kernel_rfl) ?_ trivial)
          have gi := ivRd (s.pull 4 rfl)
          have gk := ivRd (s.pull 3 rfl)
          simp (disch := omega) only [WA, ↓reduceIte, jA, jB, jD, jE, jF, jG, jH, jI, jJ, gi, gk]
          have s := s.newBlk [.int .i64 0, .int .i64 0] 97 true
          generalize hE13 : _ ++ [_] = hN at s ⊢
          have gi := ivRd (s.pull 5 rfl)
          have gk := ivRd (s.pull 4 rfl)
          try simp (disch := omega) only [WA, ↓reduceIte, jA, jB, jD, jE, jF, jG, jH, jI, jJ, gi, gk]
          refine tail_step [(14, [], [15], true)] (by kernel_rfl) (by kernel_rfl) (a_cut (by simp only [WLF]; rfl) (by kernel_rfl) ?_ trivial)
          have gi := ivRd (s.pull 5 rfl)
          have gk := ivRd (s.pull 4 rfl)
          simp (disch := omega) only [WA, ↓reduceIte, jA, jB, jD, jE, jF, jG, jH, jI, jJ]
          refine sep_store (s.pull 2 rfl) (by simp) fun hh s => ?_
          have s := s.as (ds := dyC A) (by simp [t_put])
          simp (disch := omega) only [WA, ↓reduceIte, jA, jB, jD, jE, jF, jG, jH, jI, jJ]
          refine tail_step [(15, [], [], true)] (by kernel_rfl) (by kernel_rfl) (a_cut (by simp only [WLF]; rfl) (by kernel_rfl) ?_ trivial)
          have gi := ivRd (s.pull 5 rfl)
          have gk := ivRd (s.pull 4 rfl)
          simp (disch := omega) only [WA, ↓reduceIte, jA, jB, jD, jE, jF, jG, jH, jI, jJ]
          refine sep_store (s.pull 1 rfl) (by simp) fun hh s => ?_
          have s := s.as (ds := dyC B) (by simp [t_put])
          simp (disch := omega) only [WA, ↓reduceIte, jA, jB, jD, jE, jF, jG, jH, jI, jJ]
          exact hK' _ _ ⟨rfl, rfl, rfl, rfl, _, _, rfl, rfl, ((((((s.pull 5 rfl).pull 5 rfl).pull 5 rfl).pull 5 rfl).pull 4 rfl).pull 5 rfl)⟩
        · skip
          have gi := ivRd (s.pull 4 rfl)
          have gk := ivRd (s.pull 3 rfl)
          simp (disch := omega) only [WA, ↓reduceIte, jA, jB, jD, jE, jF, jG, jH, jI, jJ, gi, gk]
          have s := s.newBlk [.int .i64 0, .int .i64 0] 97 true
          generalize hE13 : _ ++ [_] = hN at s ⊢
          have gi := ivRd (s.pull 5 rfl)
          have gk := ivRd (s.pull 4 rfl)
          try simp (disch := omega) only [WA, ↓reduceIte, jA, jB, jD, jE, jF, jG, jH, jI, jJ, gi, gk]
          refine tail_step [(11, [], [14, 15], false)] (by kernel_rfl) (by kernel_rfl) (a_cons (by simp only [WLF]; rfl) (by kernel_rfl) ?_ trivial)
          have gi := ivRd (s.pull 5 rfl)
          have gk := ivRd (s.pull 4 rfl)
          simp (disch := omega) only [WA, ↓reduceIte, jA, jB, jD, jE, jF, jG, jH, jI, jJ, gi, gk]
          refine .inl ⟨by kernel_rfl, ?_⟩; refine rproduct_c (s.pull 2 rfl) hi.low hk.high fun hh s => ?_
          rw [hB]
          have gi := ivRd (s.pull 5 rfl)
          have gk := ivRd (s.pull 4 rfl)
          simp (disch := omega) only [WA, ↓reduceIte, jA, jB, jD, jE, jF, jG, jH, jI, jJ, gi, gk]
          refine tail_step [(14, [], [15], true)] (by kernel_rfl) (by kernel_rfl) (a_cut (by simp only [WLF]; rfl) (by kernel_rfl) ?_ trivial)
          have gi := ivRd (s.pull 5 rfl)
          have gk := ivRd (s.pull 4 rfl)
          simp (disch := omega) only [WA, ↓reduceIte, jA, jB, jD, jE, jF, jG, jH, jI, jJ]
          refine sep_store (s.pull 2 rfl) (by simp) fun hh s => ?_
          have s := s.as (ds := dyC A) (by simp [t_put])
          simp (disch := omega) only [WA, ↓reduceIte, jA, jB, jD, jE, jF, jG, jH, jI, jJ]
          refine tail_step [(15, [], [], true)] (by kernel_rfl) (by kernel_rfl) (a_cut (by simp only [WLF]; rfl) (by kernel_rfl) ?_ trivial)
          have gi := ivRd (s.pull 5 rfl)
          have gk := ivRd (s.pull 4 rfl)
          simp (disch := omega) only [WA, ↓reduceIte, jA, jB, jD, jE, jF, jG, jH, jI, jJ]
          refine sep_store (s.pull 2 rfl) (by simp) fun hh s => ?_
          have s := s.as (ds := dyC B) (by simp [t_put])
          simp (disch := omega) only [WA, ↓reduceIte, jA, jB, jD, jE, jF, jG, jH, jI, jJ]
          exact hK' _ _ ⟨rfl, rfl, rfl, rfl, _, _, rfl, rfl, ((((((s.pull 5 rfl).pull 5 rfl).pull 5 rfl).pull 5 rfl).pull 4 rfl).pull 5 rfl)⟩
      · skip
        have gi := ivRd (s.pull 3 rfl)
        have gk := ivRd (s.pull 2 rfl)
        simp (disch := omega) only [WA, ↓reduceIte, jA, jB, jD, jE, jF, jG, jH, jI, jJ, gi, gk]
        have s := s.newBlk [.int .i64 0, .int .i64 0] 97 true
        generalize hE13 : _ ++ [_] = hN at s ⊢
        have gi := ivRd (s.pull 4 rfl)
        have gk := ivRd (s.pull 3 rfl)
        try simp (disch := omega) only [WA, ↓reduceIte, jA, jB, jD, jE, jF, jG, jH, jI, jJ, gi, gk]
        refine tail_step [(11, [], [12, 14, 15], false), (12, [], [11, 14, 15], false)] (by kernel_rfl) (by kernel_rfl) (a_cons (by simp only [WLF]; rfl) (by kernel_rfl) ?_ (a_cons (by simp only [WLF]; rfl) (by kernel_rfl) ?_ trivial))
        · skip
          have gi := ivRd (s.pull 4 rfl)
          have gk := ivRd (s.pull 3 rfl)
          simp (disch := omega) only [WA, ↓reduceIte, jA, jB, jD, jE, jF, jG, jH, jI, jJ, gi, gk]
          refine .inl ⟨by kernel_rfl, ?_⟩; refine rproduct_c (s.pull 1 rfl) hi.low hk.high fun hh s => ?_
          rw [hB]
          have gi := ivRd (s.pull 4 rfl)
          have gk := ivRd (s.pull 3 rfl)
          simp (disch := omega) only [WA, ↓reduceIte, jA, jB, jD, jE, jF, jG, jH, jI, jJ, gi, gk]
          refine tail_step [(12, [], [14, 15], false)] (by kernel_rfl) (by kernel_rfl) (a_cons (by simp only [WLF]; rfl) (by kernel_rfl) ?_ trivial)
          have gi := ivRd (s.pull 4 rfl)
          have gk := ivRd (s.pull 3 rfl)
          simp (disch := omega) only [WA, ↓reduceIte, jA, jB, jD, jE, jF, jG, jH, jI, jJ, gi, gk]
          have s := s.newBlk [.int .i64 0, .int .i64 0] 97 true
          generalize hE12 : _ ++ [_] = hN at s ⊢
          have gi := ivRd (s.pull 5 rfl)
          have gk := ivRd (s.pull 4 rfl)
          try simp (disch := omega) only [WA, ↓reduceIte, jA, jB, jD, jE, jF, jG, jH, jI, jJ, gi, gk]
          refine tail_step [(14, [], [15], true)] (by kernel_rfl) (by kernel_rfl) (a_cut (by simp only [WLF]; rfl) (by kernel_rfl) ?_ trivial)
          have gi := ivRd (s.pull 5 rfl)
          have gk := ivRd (s.pull 4 rfl)
          simp (disch := omega) only [WA, ↓reduceIte, jA, jB, jD, jE, jF, jG, jH, jI, jJ]
          refine sep_store (s.pull 0 rfl) (by simp) fun hh s => ?_
          have s := s.as (ds := dyC A) (by simp [t_put])
          simp (disch := omega) only [WA, ↓reduceIte, jA, jB, jD, jE, jF, jG, jH, jI, jJ]
          refine tail_step [(15, [], [], true)] (by kernel_rfl) (by kernel_rfl) (a_cut (by simp only [WLF]; rfl) (by kernel_rfl) ?_ trivial)
          have gi := ivRd (s.pull 5 rfl)
          have gk := ivRd (s.pull 4 rfl)
          simp (disch := omega) only [WA, ↓reduceIte, jA, jB, jD, jE, jF, jG, jH, jI, jJ]
          refine sep_store (s.pull 2 rfl) (by simp) fun hh s => ?_
          have s := s.as (ds := dyC B) (by simp [t_put])
          simp (disch := omega) only [WA, ↓reduceIte, jA, jB, jD, jE, jF, jG, jH, jI, jJ]
          exact hK' _ _ ⟨rfl, rfl, rfl, rfl, _, _, rfl, rfl, ((((((s.pull 5 rfl).pull 5 rfl).pull 5 rfl).pull 5 rfl).pull 4 rfl).pull 5 rfl)⟩
        · skip
          have gi := ivRd (s.pull 4 rfl)
          have gk := ivRd (s.pull 3 rfl)
          simp (disch := omega) only [WA, ↓reduceIte, jA, jB, jD, jE, jF, jG, jH, jI, jJ, gi, gk]
          have s := s.newBlk [.int .i64 0, .int .i64 0] 97 true
          generalize hE12 : _ ++ [_] = hN at s ⊢
          have gi := ivRd (s.pull 5 rfl)
          have gk := ivRd (s.pull 4 rfl)
          try simp (disch := omega) only [WA, ↓reduceIte, jA, jB, jD, jE, jF, jG, jH, jI, jJ, gi, gk]
          refine tail_step [(11, [], [14, 15], false)] (by kernel_rfl) (by kernel_rfl) (a_cons (by simp only [WLF]; rfl) (by kernel_rfl) ?_ trivial)
          have gi := ivRd (s.pull 5 rfl)
          have gk := ivRd (s.pull 4 rfl)
          simp (disch := omega) only [WA, ↓reduceIte, jA, jB, jD, jE, jF, jG, jH, jI, jJ, gi, gk]
          refine .inl ⟨by kernel_rfl, ?_⟩; refine rproduct_c (s.pull 2 rfl) hi.low hk.high fun hh s => ?_
          rw [hB]
          have gi := ivRd (s.pull 5 rfl)
          have gk := ivRd (s.pull 4 rfl)
          simp (disch := omega) only [WA, ↓reduceIte, jA, jB, jD, jE, jF, jG, jH, jI, jJ, gi, gk]
          refine tail_step [(14, [], [15], true)] (by kernel_rfl) (by kernel_rfl) (a_cut (by simp only [WLF]; rfl) (by kernel_rfl) ?_ trivial)
          have gi := ivRd (s.pull 5 rfl)
          have gk := ivRd (s.pull 4 rfl)
          simp (disch := omega) only [WA, ↓reduceIte, jA, jB, jD, jE, jF, jG, jH, jI, jJ]
          refine sep_store (s.pull 1 rfl) (by simp) fun hh s => ?_
          have s := s.as (ds := dyC A) (by simp [t_put])
          simp (disch := omega) only [WA, ↓reduceIte, jA, jB, jD, jE, jF, jG, jH, jI, jJ]
          refine tail_step [(15, [], [], true)] (by kernel_rfl) (by kernel_rfl) (a_cut (by simp only [WLF]; rfl) (by kernel_rfl) ?_ trivial)
          have gi := ivRd (s.pull 5 rfl)
          have gk := ivRd (s.pull 4 rfl)
          simp (disch := omega) only [WA, ↓reduceIte, jA, jB, jD, jE, jF, jG, jH, jI, jJ]
          refine sep_store (s.pull 2 rfl) (by simp) fun hh s => ?_
          have s := s.as (ds := dyC B) (by simp [t_put])
          simp (disch := omega) only [WA, ↓reduceIte, jA, jB, jD, jE, jF, jG, jH, jI, jJ]
          exact hK' _ _ ⟨rfl, rfl, rfl, rfl, _, _, rfl, rfl, ((((((s.pull 5 rfl).pull 5 rfl).pull 5 rfl).pull 5 rfl).pull 4 rfl).pull 5 rfl)⟩
    · skip
      have gi := ivRd (s.pull 2 rfl)
      have gk := ivRd (s.pull 1 rfl)
      simp (disch := omega) only [WA, ↓reduceIte, jA, jB, jD, jE, jF, jG, jH, jI, jJ, gi, gk]
      have s := s.newBlk [.int .i64 0, .int .i64 0] 97 true
      generalize hE12 : _ ++ [_] = hN at s ⊢
      have gi := ivRd (s.pull 3 rfl)
      have gk := ivRd (s.pull 2 rfl)
      try simp (disch := omega) only [WA, ↓reduceIte, jA, jB, jD, jE, jF, jG, jH, jI, jJ, gi, gk]
      refine tail_step [(5, [], [11, 13, 14, 15], false), (13, [], [5, 11, 14, 15], false)] (by kernel_rfl) (by kernel_rfl) (a_cons (by simp only [WLF]; rfl) (by kernel_rfl) ?_ (a_cons (by simp only [WLF]; rfl) (by kernel_rfl) ?_ trivial))
      · skip
        have gi := ivRd (s.pull 3 rfl)
        have gk := ivRd (s.pull 2 rfl)
        simp (disch := omega) only [WA, ↓reduceIte, jA, jB, jD, jE, jF, jG, jH, jI, jJ, gi, gk]
        refine .inl ⟨by kernel_rfl, ?_⟩; refine rproduct_c (s.pull 4 rfl) hi.low hk.low fun hh s => ?_
        rw [hA]
        have gi := ivRd (s.pull 4 rfl)
        have gk := ivRd (s.pull 3 rfl)
        simp (disch := omega) only [WA, ↓reduceIte, jA, jB, jD, jE, jF, jG, jH, jI, jJ, gi, gk]
        refine tail_step [(11, [], [13, 14, 15], false), (13, [], [11, 14, 15], false)] (by kernel_rfl) (by kernel_rfl) (a_cons (by simp only [WLF]; rfl) (by kernel_rfl) ?_ (a_cons (by simp only [WLF]; rfl) (by kernel_rfl) ?_ trivial))
        · skip
          have gi := ivRd (s.pull 4 rfl)
          have gk := ivRd (s.pull 3 rfl)
          simp (disch := omega) only [WA, ↓reduceIte, jA, jB, jD, jE, jF, jG, jH, jI, jJ, gi, gk]
          refine .inl ⟨by kernel_rfl, ?_⟩; refine rproduct_c (s.pull 0 rfl) hi.low hk.high fun hh s => ?_
          rw [hB]
          have gi := ivRd (s.pull 4 rfl)
          have gk := ivRd (s.pull 3 rfl)
          simp (disch := omega) only [WA, ↓reduceIte, jA, jB, jD, jE, jF, jG, jH, jI, jJ, gi, gk]
          refine tail_step [(13, [], [14, 15], false)] (by kernel_rfl) (by kernel_rfl) (a_cons (by simp only [WLF]; rfl) (by kernel_rfl) ?_ trivial)
          have gi := ivRd (s.pull 4 rfl)
          have gk := ivRd (s.pull 3 rfl)
          simp (disch := omega) only [WA, ↓reduceIte, jA, jB, jD, jE, jF, jG, jH, jI, jJ, gi, gk]
          have s := s.newBlk [.int .i64 0, .int .i64 0] 97 true
          generalize hE13 : _ ++ [_] = hN at s ⊢
          have gi := ivRd (s.pull 5 rfl)
          have gk := ivRd (s.pull 4 rfl)
          try simp (disch := omega) only [WA, ↓reduceIte, jA, jB, jD, jE, jF, jG, jH, jI, jJ, gi, gk]
          refine tail_step [(14, [], [15], true)] (by kernel_rfl) (by kernel_rfl) (a_cut (by simp only [WLF]; rfl) (by kernel_rfl) ?_ trivial)
          have gi := ivRd (s.pull 5 rfl)
          have gk := ivRd (s.pull 4 rfl)
          simp (disch := omega) only [WA, ↓reduceIte, jA, jB, jD, jE, jF, jG, jH, jI, jJ]
          refine sep_store (s.pull 2 rfl) (by simp) fun hh s => ?_
          have s := s.as (ds := dyC A) (by simp [t_put])
          simp (disch := omega) only [WA, ↓reduceIte, jA, jB, jD, jE, jF, jG, jH, jI, jJ]
          refine tail_step [(15, [], [], true)] (by kernel_rfl) (by kernel_rfl) (a_cut (by simp only [WLF]; rfl) (by kernel_rfl) ?_ trivial)
          have gi := ivRd (s.pull 5 rfl)
          have gk := ivRd (s.pull 4 rfl)
          simp (disch := omega) only [WA, ↓reduceIte, jA, jB, jD, jE, jF, jG, jH, jI, jJ]
          refine sep_store (s.pull 1 rfl) (by simp) fun hh s => ?_
          have s := s.as (ds := dyC B) (by simp [t_put])
          simp (disch := omega) only [WA, ↓reduceIte, jA, jB, jD, jE, jF, jG, jH, jI, jJ]
          exact hK' _ _ ⟨rfl, rfl, rfl, rfl, _, _, rfl, rfl, ((((((s.pull 5 rfl).pull 5 rfl).pull 5 rfl).pull 5 rfl).pull 4 rfl).pull 5 rfl)⟩
        · skip
          have gi := ivRd (s.pull 4 rfl)
          have gk := ivRd (s.pull 3 rfl)
          simp (disch := omega) only [WA, ↓reduceIte, jA, jB, jD, jE, jF, jG, jH, jI, jJ, gi, gk]
          have s := s.newBlk [.int .i64 0, .int .i64 0] 97 true
          generalize hE13 : _ ++ [_] = hN at s ⊢
          have gi := ivRd (s.pull 5 rfl)
          have gk := ivRd (s.pull 4 rfl)
          try simp (disch := omega) only [WA, ↓reduceIte, jA, jB, jD, jE, jF, jG, jH, jI, jJ, gi, gk]
          refine tail_step [(11, [], [14, 15], false)] (by kernel_rfl) (by kernel_rfl) (a_cons (by simp only [WLF]; rfl) (by kernel_rfl) ?_ trivial)
          have gi := ivRd (s.pull 5 rfl)
          have gk := ivRd (s.pull 4 rfl)
          simp (disch := omega) only [WA, ↓reduceIte, jA, jB, jD, jE, jF, jG, jH, jI, jJ, gi, gk]
          refine .inl ⟨by kernel_rfl, ?_⟩; refine rproduct_c (s.pull 1 rfl) hi.low hk.high fun hh s => ?_
          rw [hB]
          have gi := ivRd (s.pull 5 rfl)
          have gk := ivRd (s.pull 4 rfl)
          simp (disch := omega) only [WA, ↓reduceIte, jA, jB, jD, jE, jF, jG, jH, jI, jJ, gi, gk]
          refine tail_step [(14, [], [15], true)] (by kernel_rfl) (by kernel_rfl) (a_cut (by simp only [WLF]; rfl) (by kernel_rfl) ?_ trivial)
          have gi := ivRd (s.pull 5 rfl)
          have gk := ivRd (s.pull 4 rfl)
          simp (disch := omega) only [WA, ↓reduceIte, jA, jB, jD, jE, jF, jG, jH, jI, jJ]
          refine sep_store (s.pull 2 rfl) (by simp) fun hh s => ?_
          have s := s.as (ds := dyC A) (by simp [t_put])
          simp (disch := omega) only [WA, ↓reduceIte, jA, jB, jD, jE, jF, jG, jH, jI, jJ]
          refine tail_step [(15, [], [], true)] (by kernel_rfl) (by kernel_rfl) (a_cut (by simp only [WLF]; rfl) (by kernel_rfl) ?_ trivial)
          have gi := ivRd (s.pull 5 rfl)
          have gk := ivRd (s.pull 4 rfl)
          simp (disch := omega) only [WA, ↓reduceIte, jA, jB, jD, jE, jF, jG, jH, jI, jJ]
          refine sep_store (s.pull 2 rfl) (by simp) fun hh s => ?_
          have s := s.as (ds := dyC B) (by simp [t_put])
          simp (disch := omega) only [WA, ↓reduceIte, jA, jB, jD, jE, jF, jG, jH, jI, jJ]
          exact hK' _ _ ⟨rfl, rfl, rfl, rfl, _, _, rfl, rfl, ((((((s.pull 5 rfl).pull 5 rfl).pull 5 rfl).pull 5 rfl).pull 4 rfl).pull 5 rfl)⟩
      · skip
        have gi := ivRd (s.pull 3 rfl)
        have gk := ivRd (s.pull 2 rfl)
        simp (disch := omega) only [WA, ↓reduceIte, jA, jB, jD, jE, jF, jG, jH, jI, jJ, gi, gk]
        have s := s.newBlk [.int .i64 0, .int .i64 0] 97 true
        generalize hE13 : _ ++ [_] = hN at s ⊢
        have gi := ivRd (s.pull 4 rfl)
        have gk := ivRd (s.pull 3 rfl)
        try simp (disch := omega) only [WA, ↓reduceIte, jA, jB, jD, jE, jF, jG, jH, jI, jJ, gi, gk]
        refine tail_step [(5, [], [11, 14, 15], false)] (by kernel_rfl) (by kernel_rfl) (a_cons (by simp only [WLF]; rfl) (by kernel_rfl) ?_ trivial)
        have gi := ivRd (s.pull 4 rfl)
        have gk := ivRd (s.pull 3 rfl)
        simp (disch := omega) only [WA, ↓reduceIte, jA, jB, jD, jE, jF, jG, jH, jI, jJ, gi, gk]
        refine .inl ⟨by kernel_rfl, ?_⟩; refine rproduct_c (s.pull 5 rfl) hi.low hk.low fun hh s => ?_
        rw [hA]
        have gi := ivRd (s.pull 5 rfl)
        have gk := ivRd (s.pull 4 rfl)
        simp (disch := omega) only [WA, ↓reduceIte, jA, jB, jD, jE, jF, jG, jH, jI, jJ, gi, gk]
        refine tail_step [(11, [], [14, 15], false)] (by kernel_rfl) (by kernel_rfl) (a_cons (by simp only [WLF]; rfl) (by kernel_rfl) ?_ trivial)
        have gi := ivRd (s.pull 5 rfl)
        have gk := ivRd (s.pull 4 rfl)
        simp (disch := omega) only [WA, ↓reduceIte, jA, jB, jD, jE, jF, jG, jH, jI, jJ, gi, gk]
        refine .inl ⟨by kernel_rfl, ?_⟩; refine rproduct_c (s.pull 0 rfl) hi.low hk.high fun hh s => ?_
        rw [hB]
        have gi := ivRd (s.pull 5 rfl)
        have gk := ivRd (s.pull 4 rfl)
        simp (disch := omega) only [WA, ↓reduceIte, jA, jB, jD, jE, jF, jG, jH, jI, jJ, gi, gk]
        refine tail_step [(14, [], [15], true)] (by kernel_rfl) (by kernel_rfl) (a_cut (by simp only [WLF]; rfl) (by kernel_rfl) ?_ trivial)
        have gi := ivRd (s.pull 5 rfl)
        have gk := ivRd (s.pull 4 rfl)
        simp (disch := omega) only [WA, ↓reduceIte, jA, jB, jD, jE, jF, jG, jH, jI, jJ]
        refine sep_store (s.pull 2 rfl) (by simp) fun hh s => ?_
        have s := s.as (ds := dyC A) (by simp [t_put])
        simp (disch := omega) only [WA, ↓reduceIte, jA, jB, jD, jE, jF, jG, jH, jI, jJ]
        refine tail_step [(15, [], [], true)] (by kernel_rfl) (by kernel_rfl) (a_cut (by simp only [WLF]; rfl) (by kernel_rfl) ?_ trivial)
        have gi := ivRd (s.pull 5 rfl)
        have gk := ivRd (s.pull 4 rfl)
        simp (disch := omega) only [WA, ↓reduceIte, jA, jB, jD, jE, jF, jG, jH, jI, jJ]
        refine sep_store (s.pull 2 rfl) (by simp) fun hh s => ?_
        have s := s.as (ds := dyC B) (by simp [t_put])
        simp (disch := omega) only [WA, ↓reduceIte, jA, jB, jD, jE, jF, jG, jH, jI, jJ]
        exact hK' _ _ ⟨rfl, rfl, rfl, rfl, _, _, rfl, rfl, ((((((s.pull 5 rfl).pull 5 rfl).pull 5 rfl).pull 5 rfl).pull 4 rfl).pull 5 rfl)⟩
    · skip
      have gi := ivRd (s.pull 2 rfl)
      have gk := ivRd (s.pull 1 rfl)
      simp (disch := omega) only [WA, ↓reduceIte, jA, jB, jD, jE, jF, jG, jH, jI, jJ, gi, gk]
      have s := s.newBlk [.int .i64 0, .int .i64 0] 97 true
      generalize hE13 : _ ++ [_] = hN at s ⊢
      have gi := ivRd (s.pull 3 rfl)
      have gk := ivRd (s.pull 2 rfl)
      try simp (disch := omega) only [WA, ↓reduceIte, jA, jB, jD, jE, jF, jG, jH, jI, jJ, gi, gk]
      refine tail_step [(5, [], [11, 12, 14, 15], false), (12, [], [5, 11, 14, 15], false)] (by kernel_rfl) (by kernel_rfl) (a_cons (by simp only [WLF]; rfl) (by kernel_rfl) ?_ (a_cons (by simp only [WLF]; rfl) (by kernel_rfl) ?_ trivial))
      · skip
        have gi := ivRd (s.pull 3 rfl)
        have gk := ivRd (s.pull 2 rfl)
        simp (disch := omega) only [WA, ↓reduceIte, jA, jB, jD, jE, jF, jG, jH, jI, jJ, gi, gk]
        refine .inl ⟨by kernel_rfl, ?_⟩; refine rproduct_c (s.pull 4 rfl) hi.low hk.low fun hh s => ?_
        rw [hA]
        have gi := ivRd (s.pull 4 rfl)
        have gk := ivRd (s.pull 3 rfl)
        simp (disch := omega) only [WA, ↓reduceIte, jA, jB, jD, jE, jF, jG, jH, jI, jJ, gi, gk]
        refine tail_step [(11, [], [12, 14, 15], false), (12, [], [11, 14, 15], false)] (by kernel_rfl) (by kernel_rfl) (a_cons (by simp only [WLF]; rfl) (by kernel_rfl) ?_ (a_cons (by simp only [WLF]; rfl) (by kernel_rfl) ?_ trivial))
        · skip
          have gi := ivRd (s.pull 4 rfl)
          have gk := ivRd (s.pull 3 rfl)
          simp (disch := omega) only [WA, ↓reduceIte, jA, jB, jD, jE, jF, jG, jH, jI, jJ, gi, gk]
          refine .inl ⟨by kernel_rfl, ?_⟩; refine rproduct_c (s.pull 0 rfl) hi.low hk.high fun hh s => ?_
          rw [hB]
          have gi := ivRd (s.pull 4 rfl)
          have gk := ivRd (s.pull 3 rfl)
          simp (disch := omega) only [WA, ↓reduceIte, jA, jB, jD, jE, jF, jG, jH, jI, jJ, gi, gk]
          refine tail_step [(12, [], [14, 15], false)] (by kernel_rfl) (by kernel_rfl) (a_cons (by simp only [WLF]; rfl) (by kernel_rfl) ?_ trivial)
          have gi := ivRd (s.pull 4 rfl)
          have gk := ivRd (s.pull 3 rfl)
          simp (disch := omega) only [WA, ↓reduceIte, jA, jB, jD, jE, jF, jG, jH, jI, jJ, gi, gk]
          have s := s.newBlk [.int .i64 0, .int .i64 0] 97 true
          generalize hE12 : _ ++ [_] = hN at s ⊢
          have gi := ivRd (s.pull 5 rfl)
          have gk := ivRd (s.pull 4 rfl)
          try simp (disch := omega) only [WA, ↓reduceIte, jA, jB, jD, jE, jF, jG, jH, jI, jJ, gi, gk]
          refine tail_step [(14, [], [15], true)] (by kernel_rfl) (by kernel_rfl) (a_cut (by simp only [WLF]; rfl) (by kernel_rfl) ?_ trivial)
          have gi := ivRd (s.pull 5 rfl)
          have gk := ivRd (s.pull 4 rfl)
          simp (disch := omega) only [WA, ↓reduceIte, jA, jB, jD, jE, jF, jG, jH, jI, jJ]
          refine sep_store (s.pull 0 rfl) (by simp) fun hh s => ?_
          have s := s.as (ds := dyC A) (by simp [t_put])
          simp (disch := omega) only [WA, ↓reduceIte, jA, jB, jD, jE, jF, jG, jH, jI, jJ]
          refine tail_step [(15, [], [], true)] (by kernel_rfl) (by kernel_rfl) (a_cut (by simp only [WLF]; rfl) (by kernel_rfl) ?_ trivial)
          have gi := ivRd (s.pull 5 rfl)
          have gk := ivRd (s.pull 4 rfl)
          simp (disch := omega) only [WA, ↓reduceIte, jA, jB, jD, jE, jF, jG, jH, jI, jJ]
          refine sep_store (s.pull 2 rfl) (by simp) fun hh s => ?_
          have s := s.as (ds := dyC B) (by simp [t_put])
          simp (disch := omega) only [WA, ↓reduceIte, jA, jB, jD, jE, jF, jG, jH, jI, jJ]
          exact hK' _ _ ⟨rfl, rfl, rfl, rfl, _, _, rfl, rfl, ((((((s.pull 5 rfl).pull 5 rfl).pull 5 rfl).pull 5 rfl).pull 4 rfl).pull 5 rfl)⟩
        · skip
          have gi := ivRd (s.pull 4 rfl)
          have gk := ivRd (s.pull 3 rfl)
          simp (disch := omega) only [WA, ↓reduceIte, jA, jB, jD, jE, jF, jG, jH, jI, jJ, gi, gk]
          have s := s.newBlk [.int .i64 0, .int .i64 0] 97 true
          generalize hE12 : _ ++ [_] = hN at s ⊢
          have gi := ivRd (s.pull 5 rfl)
          have gk := ivRd (s.pull 4 rfl)
          try simp (disch := omega) only [WA, ↓reduceIte, jA, jB, jD, jE, jF, jG, jH, jI, jJ, gi, gk]
          refine tail_step [(11, [], [14, 15], false)] (by kernel_rfl) (by kernel_rfl) (a_cons (by simp only [WLF]; rfl) (by kernel_rfl) ?_ trivial)
          have gi := ivRd (s.pull 5 rfl)
          have gk := ivRd (s.pull 4 rfl)
          simp (disch := omega) only [WA, ↓reduceIte, jA, jB, jD, jE, jF, jG, jH, jI, jJ, gi, gk]
          refine .inl ⟨by kernel_rfl, ?_⟩; refine rproduct_c (s.pull 1 rfl) hi.low hk.high fun hh s => ?_
          rw [hB]
          have gi := ivRd (s.pull 5 rfl)
          have gk := ivRd (s.pull 4 rfl)
          simp (disch := omega) only [WA, ↓reduceIte, jA, jB, jD, jE, jF, jG, jH, jI, jJ, gi, gk]
          refine tail_step [(14, [], [15], true)] (by kernel_rfl) (by kernel_rfl) (a_cut (by simp only [WLF]; rfl) (by kernel_rfl) ?_ trivial)
          have gi := ivRd (s.pull 5 rfl)
          have gk := ivRd (s.pull 4 rfl)
          simp (disch := omega) only [WA, ↓reduceIte, jA, jB, jD, jE, jF, jG, jH, jI, jJ]
          refine sep_store (s.pull 1 rfl) (by simp) fun hh s => ?_
          have s := s.as (ds := dyC A) (by simp [t_put])
          simp (disch := omega) only [WA, ↓reduceIte, jA, jB, jD, jE, jF, jG, jH, jI, jJ]
          refine tail_step [(15, [], [], true)] (by kernel_rfl) (by kernel_rfl) (a_cut (by simp only [WLF]; rfl) (by kernel_rfl) ?_ trivial)
          have gi := ivRd (s.pull 5 rfl)
          have gk := ivRd (s.pull 4 rfl)
          simp (disch := omega) only [WA, ↓reduceIte, jA, jB, jD, jE, jF, jG, jH, jI, jJ]
          refine sep_store (s.pull 2 rfl) (by simp) fun hh s => ?_
          have s := s.as (ds := dyC B) (by simp [t_put])
          simp (disch := omega) only [WA, ↓reduceIte, jA, jB, jD, jE, jF, jG, jH, jI, jJ]
          exact hK' _ _ ⟨rfl, rfl, rfl, rfl, _, _, rfl, rfl, ((((((s.pull 5 rfl).pull 5 rfl).pull 5 rfl).pull 5 rfl).pull 4 rfl).pull 5 rfl)⟩
      · skip
        have gi := ivRd (s.pull 3 rfl)
        have gk := ivRd (s.pull 2 rfl)
        simp (disch := omega) only [WA, ↓reduceIte, jA, jB, jD, jE, jF, jG, jH, jI, jJ, gi, gk]
        have s := s.newBlk [.int .i64 0, .int .i64 0] 97 true
        generalize hE12 : _ ++ [_] = hN at s ⊢
        have gi := ivRd (s.pull 4 rfl)
        have gk := ivRd (s.pull 3 rfl)
        try simp (disch := omega) only [WA, ↓reduceIte, jA, jB, jD, jE, jF, jG, jH, jI, jJ, gi, gk]
        refine tail_step [(5, [], [11, 14, 15], false)] (by kernel_rfl) (by kernel_rfl) (a_cons (by simp only [WLF]; rfl) (by kernel_rfl) ?_ trivial)
        have gi := ivRd (s.pull 4 rfl)
        have gk := ivRd (s.pull 3 rfl)
        simp (disch := omega) only [WA, ↓reduceIte, jA, jB, jD, jE, jF, jG, jH, jI, jJ, gi, gk]
        refine .inl ⟨by kernel_rfl, ?_⟩; refine rproduct_c (s.pull 5 rfl) hi.low hk.low fun hh s => ?_
        rw [hA]
        have gi := ivRd (s.pull 5 rfl)
        have gk := ivRd (s.pull 4 rfl)
        simp (disch := omega) only [WA, ↓reduceIte, jA, jB, jD, jE, jF, jG, jH, jI, jJ, gi, gk]
        refine tail_step [(11, [], [14, 15], false)] (by kernel_rfl) (by kernel_rfl) (a_cons (by simp only [WLF]; rfl) (by kernel_rfl) ?_ trivial)
        have gi := ivRd (s.pull 5 rfl)
        have gk := ivRd (s.pull 4 rfl)
        simp (disch := omega) only [WA, ↓reduceIte, jA, jB, jD, jE, jF, jG, jH, jI, jJ, gi, gk]
        refine .inl ⟨by kernel_rfl, ?_⟩; refine rproduct_c (s.pull 0 rfl) hi.low hk.high fun hh s => ?_
        rw [hB]
        have gi := ivRd (s.pull 5 rfl)
        have gk := ivRd (s.pull 4 rfl)
        simp (disch := omega) only [WA, ↓reduceIte, jA, jB, jD, jE, jF, jG, jH, jI, jJ, gi, gk]
        refine tail_step [(14, [], [15], true)] (by kernel_rfl) (by kernel_rfl) (a_cut (by simp only [WLF]; rfl) (by kernel_rfl) ?_ trivial)
        have gi := ivRd (s.pull 5 rfl)
        have gk := ivRd (s.pull 4 rfl)
        simp (disch := omega) only [WA, ↓reduceIte, jA, jB, jD, jE, jF, jG, jH, jI, jJ]
        refine sep_store (s.pull 1 rfl) (by simp) fun hh s => ?_
        have s := s.as (ds := dyC A) (by simp [t_put])
        simp (disch := omega) only [WA, ↓reduceIte, jA, jB, jD, jE, jF, jG, jH, jI, jJ]
        refine tail_step [(15, [], [], true)] (by kernel_rfl) (by kernel_rfl) (a_cut (by simp only [WLF]; rfl) (by kernel_rfl) ?_ trivial)
        have gi := ivRd (s.pull 5 rfl)
        have gk := ivRd (s.pull 4 rfl)
        simp (disch := omega) only [WA, ↓reduceIte, jA, jB, jD, jE, jF, jG, jH, jI, jJ]
        refine sep_store (s.pull 2 rfl) (by simp) fun hh s => ?_
        have s := s.as (ds := dyC B) (by simp [t_put])
        simp (disch := omega) only [WA, ↓reduceIte, jA, jB, jD, jE, jF, jG, jH, jI, jJ]
        exact hK' _ _ ⟨rfl, rfl, rfl, rfl, _, _, rfl, rfl, ((((((s.pull 5 rfl).pull 5 rfl).pull 5 rfl).pull 5 rfl).pull 4 rfl).pull 5 rfl)⟩
  rintro e1 h1 ⟨e0, e4, e5, e6, pa, pb, e7, e8, s⟩
  have gi := ivRd (s.pull 5 rfl)
  have gk := ivRd (s.pull 4 rfl)
  simp (disch := omega) only [WA, ↓reduceIte, jA, jB, jD, jE, jF, jG, jH, jI, jJ, e0, e4, e5, e6, gi, gk]
  refine draw_cut (fun e' h' => e' 0 = .pointer (some ⟨b, 0, none⟩) ∧ e' 4 = .pointer (some ⟨h.length, 0, none⟩) ∧ e' 5 = .pointer (some ⟨h.length + 1, 0, none⟩) ∧ e' 6 = .pointer (some ⟨h.length + 2, 0, none⟩) ∧ ∃ pc pd, e' 7 = .pointer (some ⟨pa, 0, none⟩) ∧ e' 8 = .pointer (some ⟨pb, 0, none⟩) ∧ e' 9 = .pointer (some ⟨pc, 0, none⟩) ∧ e' 10 = .pointer (some ⟨pd, 0, none⟩) ∧ Sep a h' (blkA pc (dyC C) 97 :: blkA pd (dyC D) 97 :: blkA pa (dyC A) 97 :: blkA pb (dyC B) 97 :: blkA b [.bool ((((p && (mulM i.low k.low).isSome) && (mulM i.low k.high).isSome) && (mulM i.high k.low).isSome) && (mulM i.high k.high).isSome)] 149 :: blkA (h.length + 2) [.int .i64 0, .int .i64 0, .int .i64 0, .int .i64 0] 122 :: blkA (h.length + 1) (ivC k) 122 :: blkA h.length (ivC i) 122 :: L)) (fun K' hK' => ?_) ?_
  · skip
    refine draw_tail [0, 1, 2, 3, 4, 6, 7, 8, 9, 10] [5, 11, 12, 13, 14, 15] (by kernel_rfl) (by simp only [WLF]; rfl) ?_
    simp (disch := omega) only [WA, ↓reduceIte, jA, jB, jD, jE, jF, jG, jH, jI, jJ, e0, e4, e5, e6, e7, e8, gi, gk]
    skip
    refine tail_step [(5, [], [11, 12, 13, 14, 15], false), (12, [], [5, 11, 13, 14, 15], false), (13, [], [5, 11, 12, 14, 15], false)] (by kernel_rfl) (by kernel_rfl) (a_cons (by simp only [WLF]; rfl) (by kernel_rfl) ?_ (a_cons (by simp only [WLF]; rfl) (by kernel_rfl) ?_ (a_cons (by simp only [WLF]; rfl) (by kernel_rfl) ?_ trivial)))
    · skip
      have gi := ivRd (s.pull 5 rfl)
      have gk := ivRd (s.pull 4 rfl)
      simp (disch := omega) only [WA, ↓reduceIte, jA, jB, jD, jE, jF, jG, jH, jI, jJ, e0, e4, e5, e6, e7, e8, gi, gk]
      refine .inl ⟨by kernel_rfl, ?_⟩; refine rproduct_c (s.pull 2 rfl) hi.high hk.low fun hh s => ?_
      rw [hC]
      have gi := ivRd (s.pull 5 rfl)
      have gk := ivRd (s.pull 4 rfl)
      simp (disch := omega) only [WA, ↓reduceIte, jA, jB, jD, jE, jF, jG, jH, jI, jJ, e0, e4, e5, e6, e7, e8, gi, gk]
      refine tail_step [(11, [], [12, 13, 14, 15], true), (12, [], [11, 13, 14, 15], false), (13, [], [11, 12, 14, 15], false)] (by kernel_rfl) (by kernel_rfl) (a_cut (by simp only [WLF]; rfl) (by kernel_rfl) ?_ (a_cons (by simp only [WLF]; rfl) (by kernel_rfl) ?_ (a_cons (by simp only [WLF]; rfl) (by kernel_rfl) ?_ trivial)))
      · skip
        have gi := ivRd (s.pull 5 rfl)
        have gk := ivRd (s.pull 4 rfl)
        simp (disch := omega) only [WA, ↓reduceIte, jA, jB, jD, jE, jF, jG, jH, jI, jJ, e0, e4, e5, e6, e7, e8, gi, gk]
        refine .inl ⟨by kernel_rfl, ?_⟩; refine rproduct_c (s.pull 0 rfl) hi.high hk.high fun hh s => ?_
        rw [hD]
        have gi := ivRd (s.pull 5 rfl)
        have gk := ivRd (s.pull 4 rfl)
        simp (disch := omega) only [WA, ↓reduceIte, jA, jB, jD, jE, jF, jG, jH, jI, jJ, e0, e4, e5, e6, e7, e8, gi, gk]
        refine tail_step [(12, [], [13, 14, 15], false), (13, [], [12, 14, 15], false)] (by kernel_rfl) (by kernel_rfl) (a_cons (by simp only [WLF]; rfl) (by kernel_rfl) ?_ (a_cons (by simp only [WLF]; rfl) (by kernel_rfl) ?_ trivial))
        · skip
          have gi := ivRd (s.pull 5 rfl)
          have gk := ivRd (s.pull 4 rfl)
          simp (disch := omega) only [WA, ↓reduceIte, jA, jB, jD, jE, jF, jG, jH, jI, jJ, e0, e4, e5, e6, e7, e8, gi, gk]
          have s := s.newBlk [.int .i64 0, .int .i64 0] 97 true
          generalize hE12 : _ ++ [_] = hN at s ⊢
          have gi := ivRd (s.pull 6 rfl)
          have gk := ivRd (s.pull 5 rfl)
          try simp (disch := omega) only [WA, ↓reduceIte, jA, jB, jD, jE, jF, jG, jH, jI, jJ, e0, e4, e5, e6, e7, e8, gi, gk]
          refine tail_step [(13, [], [14, 15], false)] (by kernel_rfl) (by kernel_rfl) (a_cons (by simp only [WLF]; rfl) (by kernel_rfl) ?_ trivial)
          have gi := ivRd (s.pull 6 rfl)
          have gk := ivRd (s.pull 5 rfl)
          simp (disch := omega) only [WA, ↓reduceIte, jA, jB, jD, jE, jF, jG, jH, jI, jJ, e0, e4, e5, e6, e7, e8, gi, gk]
          have s := s.newBlk [.int .i64 0, .int .i64 0] 97 true
          generalize hE13 : _ ++ [_] = hN at s ⊢
          have gi := ivRd (s.pull 7 rfl)
          have gk := ivRd (s.pull 6 rfl)
          try simp (disch := omega) only [WA, ↓reduceIte, jA, jB, jD, jE, jF, jG, jH, jI, jJ, e0, e4, e5, e6, e7, e8, gi, gk]
          refine tail_step [(14, [], [15], true)] (by kernel_rfl) (by kernel_rfl) (a_cut (by simp only [WLF]; rfl) (by kernel_rfl) ?_ trivial)
          have gi := ivRd (s.pull 7 rfl)
          have gk := ivRd (s.pull 6 rfl)
          simp (disch := omega) only [WA, ↓reduceIte, jA, jB, jD, jE, jF, jG, jH, jI, jJ]
          refine sep_store (s.pull 1 rfl) (by simp) fun hh s => ?_
          have s := s.as (ds := dyC C) (by simp [t_put])
          simp (disch := omega) only [WA, ↓reduceIte, jA, jB, jD, jE, jF, jG, jH, jI, jJ]
          refine tail_step [(15, [], [], true)] (by kernel_rfl) (by kernel_rfl) (a_cut (by simp only [WLF]; rfl) (by kernel_rfl) ?_ trivial)
          have gi := ivRd (s.pull 7 rfl)
          have gk := ivRd (s.pull 6 rfl)
          simp (disch := omega) only [WA, ↓reduceIte, jA, jB, jD, jE, jF, jG, jH, jI, jJ]
          refine sep_store (s.pull 1 rfl) (by simp) fun hh s => ?_
          have s := s.as (ds := dyC D) (by simp [t_put])
          simp (disch := omega) only [WA, ↓reduceIte, jA, jB, jD, jE, jF, jG, jH, jI, jJ]
          exact hK' _ _ ⟨e0, e4, e5, e6, _, _, e7, e8, rfl, rfl, ((((((((s.pull 7 rfl).pull 7 rfl).pull 7 rfl).pull 5 rfl).pull 7 rfl).pull 7 rfl).pull 6 rfl).pull 7 rfl)⟩
        · skip
          have gi := ivRd (s.pull 5 rfl)
          have gk := ivRd (s.pull 4 rfl)
          simp (disch := omega) only [WA, ↓reduceIte, jA, jB, jD, jE, jF, jG, jH, jI, jJ, e0, e4, e5, e6, e7, e8, gi, gk]
          have s := s.newBlk [.int .i64 0, .int .i64 0] 97 true
          generalize hE13 : _ ++ [_] = hN at s ⊢
          have gi := ivRd (s.pull 6 rfl)
          have gk := ivRd (s.pull 5 rfl)
          try simp (disch := omega) only [WA, ↓reduceIte, jA, jB, jD, jE, jF, jG, jH, jI, jJ, e0, e4, e5, e6, e7, e8, gi, gk]
          refine tail_step [(12, [], [14, 15], false)] (by kernel_rfl) (by kernel_rfl) (a_cons (by simp only [WLF]; rfl) (by kernel_rfl) ?_ trivial)
          have gi := ivRd (s.pull 6 rfl)
          have gk := ivRd (s.pull 5 rfl)
          simp (disch := omega) only [WA, ↓reduceIte, jA, jB, jD, jE, jF, jG, jH, jI, jJ, e0, e4, e5, e6, e7, e8, gi, gk]
          have s := s.newBlk [.int .i64 0, .int .i64 0] 97 true
          generalize hE12 : _ ++ [_] = hN at s ⊢
          have gi := ivRd (s.pull 7 rfl)
          have gk := ivRd (s.pull 6 rfl)
          try simp (disch := omega) only [WA, ↓reduceIte, jA, jB, jD, jE, jF, jG, jH, jI, jJ, e0, e4, e5, e6, e7, e8, gi, gk]
          refine tail_step [(14, [], [15], true)] (by kernel_rfl) (by kernel_rfl) (a_cut (by simp only [WLF]; rfl) (by kernel_rfl) ?_ trivial)
          have gi := ivRd (s.pull 7 rfl)
          have gk := ivRd (s.pull 6 rfl)
          simp (disch := omega) only [WA, ↓reduceIte, jA, jB, jD, jE, jF, jG, jH, jI, jJ]
          refine sep_store (s.pull 0 rfl) (by simp) fun hh s => ?_
          have s := s.as (ds := dyC C) (by simp [t_put])
          simp (disch := omega) only [WA, ↓reduceIte, jA, jB, jD, jE, jF, jG, jH, jI, jJ]
          refine tail_step [(15, [], [], true)] (by kernel_rfl) (by kernel_rfl) (a_cut (by simp only [WLF]; rfl) (by kernel_rfl) ?_ trivial)
          have gi := ivRd (s.pull 7 rfl)
          have gk := ivRd (s.pull 6 rfl)
          simp (disch := omega) only [WA, ↓reduceIte, jA, jB, jD, jE, jF, jG, jH, jI, jJ]
          refine sep_store (s.pull 1 rfl) (by simp) fun hh s => ?_
          have s := s.as (ds := dyC D) (by simp [t_put])
          simp (disch := omega) only [WA, ↓reduceIte, jA, jB, jD, jE, jF, jG, jH, jI, jJ]
          exact hK' _ _ ⟨e0, e4, e5, e6, _, _, e7, e8, rfl, rfl, ((((((((s.pull 7 rfl).pull 7 rfl).pull 7 rfl).pull 5 rfl).pull 7 rfl).pull 7 rfl).pull 6 rfl).pull 7 rfl)⟩
      · skip
        have gi := ivRd (s.pull 5 rfl)
        have gk := ivRd (s.pull 4 rfl)
        simp (disch := omega) only [WA, ↓reduceIte, jA, jB, jD, jE, jF, jG, jH, jI, jJ, e0, e4, e5, e6, e7, e8, gi, gk]
        have s := s.newBlk [.int .i64 0, .int .i64 0] 97 true
        generalize hE12 : _ ++ [_] = hN at s ⊢
        have gi := ivRd (s.pull 6 rfl)
        have gk := ivRd (s.pull 5 rfl)
        try simp (disch := omega) only [WA, ↓reduceIte, jA, jB, jD, jE, jF, jG, jH, jI, jJ, e0, e4, e5, e6, e7, e8, gi, gk]
        refine tail_step [(11, [], [13, 14, 15], false), (13, [], [11, 14, 15], false)] (by kernel_rfl) (by kernel_rfl) (a_cons (by simp only [WLF]; rfl) (by kernel_rfl) ?_ (a_cons (by simp only [WLF]; rfl) (by kernel_rfl) ?_ trivial))
        · skip
          have gi := ivRd (s.pull 6 rfl)
          have gk := ivRd (s.pull 5 rfl)
          simp (disch := omega) only [WA, ↓reduceIte, jA, jB, jD, jE, jF, jG, jH, jI, jJ, e0, e4, e5, e6, e7, e8, gi, gk]
          refine .inl ⟨by kernel_rfl, ?_⟩; refine rproduct_c (s.pull 1 rfl) hi.high hk.high fun hh s => ?_
          rw [hD]
          have gi := ivRd (s.pull 6 rfl)
          have gk := ivRd (s.pull 5 rfl)
          simp (disch := omega) only [WA, ↓reduceIte, jA, jB, jD, jE, jF, jG, jH, jI, jJ, e0, e4, e5, e6, e7, e8, gi, gk]
          refine tail_step [(13, [], [14, 15], false)] (by kernel_rfl) (by kernel_rfl) (a_cons (by simp only [WLF]; rfl) (by kernel_rfl) ?_ trivial)
          have gi := ivRd (s.pull 6 rfl)
          have gk := ivRd (s.pull 5 rfl)
          simp (disch := omega) only [WA, ↓reduceIte, jA, jB, jD, jE, jF, jG, jH, jI, jJ, e0, e4, e5, e6, e7, e8, gi, gk]
          have s := s.newBlk [.int .i64 0, .int .i64 0] 97 true
          generalize hE13 : _ ++ [_] = hN at s ⊢
          have gi := ivRd (s.pull 7 rfl)
          have gk := ivRd (s.pull 6 rfl)
          try simp (disch := omega) only [WA, ↓reduceIte, jA, jB, jD, jE, jF, jG, jH, jI, jJ, e0, e4, e5, e6, e7, e8, gi, gk]
          refine tail_step [(14, [], [15], true)] (by kernel_rfl) (by kernel_rfl) (a_cut (by simp only [WLF]; rfl) (by kernel_rfl) ?_ trivial)
          have gi := ivRd (s.pull 7 rfl)
          have gk := ivRd (s.pull 6 rfl)
          simp (disch := omega) only [WA, ↓reduceIte, jA, jB, jD, jE, jF, jG, jH, jI, jJ]
          refine sep_store (s.pull 2 rfl) (by simp) fun hh s => ?_
          have s := s.as (ds := dyC C) (by simp [t_put])
          simp (disch := omega) only [WA, ↓reduceIte, jA, jB, jD, jE, jF, jG, jH, jI, jJ]
          refine tail_step [(15, [], [], true)] (by kernel_rfl) (by kernel_rfl) (a_cut (by simp only [WLF]; rfl) (by kernel_rfl) ?_ trivial)
          have gi := ivRd (s.pull 7 rfl)
          have gk := ivRd (s.pull 6 rfl)
          simp (disch := omega) only [WA, ↓reduceIte, jA, jB, jD, jE, jF, jG, jH, jI, jJ]
          refine sep_store (s.pull 1 rfl) (by simp) fun hh s => ?_
          have s := s.as (ds := dyC D) (by simp [t_put])
          simp (disch := omega) only [WA, ↓reduceIte, jA, jB, jD, jE, jF, jG, jH, jI, jJ]
          exact hK' _ _ ⟨e0, e4, e5, e6, _, _, e7, e8, rfl, rfl, ((((((((s.pull 7 rfl).pull 7 rfl).pull 7 rfl).pull 5 rfl).pull 7 rfl).pull 7 rfl).pull 6 rfl).pull 7 rfl)⟩
        · skip
          have gi := ivRd (s.pull 6 rfl)
          have gk := ivRd (s.pull 5 rfl)
          simp (disch := omega) only [WA, ↓reduceIte, jA, jB, jD, jE, jF, jG, jH, jI, jJ, e0, e4, e5, e6, e7, e8, gi, gk]
          have s := s.newBlk [.int .i64 0, .int .i64 0] 97 true
          generalize hE13 : _ ++ [_] = hN at s ⊢
          have gi := ivRd (s.pull 7 rfl)
          have gk := ivRd (s.pull 6 rfl)
          try simp (disch := omega) only [WA, ↓reduceIte, jA, jB, jD, jE, jF, jG, jH, jI, jJ, e0, e4, e5, e6, e7, e8, gi, gk]
          refine tail_step [(11, [], [14, 15], false)] (by kernel_rfl) (by kernel_rfl) (a_cons (by simp only [WLF]; rfl) (by kernel_rfl) ?_ trivial)
          have gi := ivRd (s.pull 7 rfl)
          have gk := ivRd (s.pull 6 rfl)
          simp (disch := omega) only [WA, ↓reduceIte, jA, jB, jD, jE, jF, jG, jH, jI, jJ, e0, e4, e5, e6, e7, e8, gi, gk]
          refine .inl ⟨by kernel_rfl, ?_⟩; refine rproduct_c (s.pull 2 rfl) hi.high hk.high fun hh s => ?_
          rw [hD]
          have gi := ivRd (s.pull 7 rfl)
          have gk := ivRd (s.pull 6 rfl)
          simp (disch := omega) only [WA, ↓reduceIte, jA, jB, jD, jE, jF, jG, jH, jI, jJ, e0, e4, e5, e6, e7, e8, gi, gk]
          refine tail_step [(14, [], [15], true)] (by kernel_rfl) (by kernel_rfl) (a_cut (by simp only [WLF]; rfl) (by kernel_rfl) ?_ trivial)
          have gi := ivRd (s.pull 7 rfl)
          have gk := ivRd (s.pull 6 rfl)
          simp (disch := omega) only [WA, ↓reduceIte, jA, jB, jD, jE, jF, jG, jH, jI, jJ]
          refine sep_store (s.pull 2 rfl) (by simp) fun hh s => ?_
          have s := s.as (ds := dyC C) (by simp [t_put])
          simp (disch := omega) only [WA, ↓reduceIte, jA, jB, jD, jE, jF, jG, jH, jI, jJ]
          refine tail_step [(15, [], [], true)] (by kernel_rfl) (by kernel_rfl) (a_cut (by simp only [WLF]; rfl) (by kernel_rfl) ?_ trivial)
          have gi := ivRd (s.pull 7 rfl)
          have gk := ivRd (s.pull 6 rfl)
          simp (disch := omega) only [WA, ↓reduceIte, jA, jB, jD, jE, jF, jG, jH, jI, jJ]
          refine sep_store (s.pull 2 rfl) (by simp) fun hh s => ?_
          have s := s.as (ds := dyC D) (by simp [t_put])
          simp (disch := omega) only [WA, ↓reduceIte, jA, jB, jD, jE, jF, jG, jH, jI, jJ]
          exact hK' _ _ ⟨e0, e4, e5, e6, _, _, e7, e8, rfl, rfl, ((((((((s.pull 7 rfl).pull 7 rfl).pull 7 rfl).pull 5 rfl).pull 7 rfl).pull 7 rfl).pull 6 rfl).pull 7 rfl)⟩
      · skip
        have gi := ivRd (s.pull 5 rfl)
        have gk := ivRd (s.pull 4 rfl)
        simp (disch := omega) only [WA, ↓reduceIte, jA, jB, jD, jE, jF, jG, jH, jI, jJ, e0, e4, e5, e6, e7, e8, gi, gk]
        have s := s.newBlk [.int .i64 0, .int .i64 0] 97 true
        generalize hE13 : _ ++ [_] = hN at s ⊢
        have gi := ivRd (s.pull 6 rfl)
        have gk := ivRd (s.pull 5 rfl)
        try simp (disch := omega) only [WA, ↓reduceIte, jA, jB, jD, jE, jF, jG, jH, jI, jJ, e0, e4, e5, e6, e7, e8, gi, gk]
        refine tail_step [(11, [], [12, 14, 15], false), (12, [], [11, 14, 15], false)] (by kernel_rfl) (by kernel_rfl) (a_cons (by simp only [WLF]; rfl) (by kernel_rfl) ?_ (a_cons (by simp only [WLF]; rfl) (by kernel_rfl) ?_ trivial))
        · skip
          have gi := ivRd (s.pull 6 rfl)
          have gk := ivRd (s.pull 5 rfl)
          simp (disch := omega) only [WA, ↓reduceIte, jA, jB, jD, jE, jF, jG, jH, jI, jJ, e0, e4, e5, e6, e7, e8, gi, gk]
          refine .inl ⟨by kernel_rfl, ?_⟩; refine rproduct_c (s.pull 1 rfl) hi.high hk.high fun hh s => ?_
          rw [hD]
          have gi := ivRd (s.pull 6 rfl)
          have gk := ivRd (s.pull 5 rfl)
          simp (disch := omega) only [WA, ↓reduceIte, jA, jB, jD, jE, jF, jG, jH, jI, jJ, e0, e4, e5, e6, e7, e8, gi, gk]
          refine tail_step [(12, [], [14, 15], false)] (by kernel_rfl) (by kernel_rfl) (a_cons (by simp only [WLF]; rfl) (by kernel_rfl) ?_ trivial)
          have gi := ivRd (s.pull 6 rfl)
          have gk := ivRd (s.pull 5 rfl)
          simp (disch := omega) only [WA, ↓reduceIte, jA, jB, jD, jE, jF, jG, jH, jI, jJ, e0, e4, e5, e6, e7, e8, gi, gk]
          have s := s.newBlk [.int .i64 0, .int .i64 0] 97 true
          generalize hE12 : _ ++ [_] = hN at s ⊢
          have gi := ivRd (s.pull 7 rfl)
          have gk := ivRd (s.pull 6 rfl)
          try simp (disch := omega) only [WA, ↓reduceIte, jA, jB, jD, jE, jF, jG, jH, jI, jJ, e0, e4, e5, e6, e7, e8, gi, gk]
          refine tail_step [(14, [], [15], true)] (by kernel_rfl) (by kernel_rfl) (a_cut (by simp only [WLF]; rfl) (by kernel_rfl) ?_ trivial)
          have gi := ivRd (s.pull 7 rfl)
          have gk := ivRd (s.pull 6 rfl)
          simp (disch := omega) only [WA, ↓reduceIte, jA, jB, jD, jE, jF, jG, jH, jI, jJ]
          refine sep_store (s.pull 0 rfl) (by simp) fun hh s => ?_
          have s := s.as (ds := dyC C) (by simp [t_put])
          simp (disch := omega) only [WA, ↓reduceIte, jA, jB, jD, jE, jF, jG, jH, jI, jJ]
          refine tail_step [(15, [], [], true)] (by kernel_rfl) (by kernel_rfl) (a_cut (by simp only [WLF]; rfl) (by kernel_rfl) ?_ trivial)
          have gi := ivRd (s.pull 7 rfl)
          have gk := ivRd (s.pull 6 rfl)
          simp (disch := omega) only [WA, ↓reduceIte, jA, jB, jD, jE, jF, jG, jH, jI, jJ]
          refine sep_store (s.pull 2 rfl) (by simp) fun hh s => ?_
          have s := s.as (ds := dyC D) (by simp [t_put])
          simp (disch := omega) only [WA, ↓reduceIte, jA, jB, jD, jE, jF, jG, jH, jI, jJ]
          exact hK' _ _ ⟨e0, e4, e5, e6, _, _, e7, e8, rfl, rfl, ((((((((s.pull 7 rfl).pull 7 rfl).pull 7 rfl).pull 5 rfl).pull 7 rfl).pull 7 rfl).pull 6 rfl).pull 7 rfl)⟩
        · skip
          have gi := ivRd (s.pull 6 rfl)
          have gk := ivRd (s.pull 5 rfl)
          simp (disch := omega) only [WA, ↓reduceIte, jA, jB, jD, jE, jF, jG, jH, jI, jJ, e0, e4, e5, e6, e7, e8, gi, gk]
          have s := s.newBlk [.int .i64 0, .int .i64 0] 97 true
          generalize hE12 : _ ++ [_] = hN at s ⊢
          have gi := ivRd (s.pull 7 rfl)
          have gk := ivRd (s.pull 6 rfl)
          try simp (disch := omega) only [WA, ↓reduceIte, jA, jB, jD, jE, jF, jG, jH, jI, jJ, e0, e4, e5, e6, e7, e8, gi, gk]
          refine tail_step [(11, [], [14, 15], false)] (by kernel_rfl) (by kernel_rfl) (a_cons (by simp only [WLF]; rfl) (by kernel_rfl) ?_ trivial)
          have gi := ivRd (s.pull 7 rfl)
          have gk := ivRd (s.pull 6 rfl)
          simp (disch := omega) only [WA, ↓reduceIte, jA, jB, jD, jE, jF, jG, jH, jI, jJ, e0, e4, e5, e6, e7, e8, gi, gk]
          refine .inl ⟨by kernel_rfl, ?_⟩; refine rproduct_c (s.pull 2 rfl) hi.high hk.high fun hh s => ?_
          rw [hD]
          have gi := ivRd (s.pull 7 rfl)
          have gk := ivRd (s.pull 6 rfl)
          simp (disch := omega) only [WA, ↓reduceIte, jA, jB, jD, jE, jF, jG, jH, jI, jJ, e0, e4, e5, e6, e7, e8, gi, gk]
          refine tail_step [(14, [], [15], true)] (by kernel_rfl) (by kernel_rfl) (a_cut (by simp only [WLF]; rfl) (by kernel_rfl) ?_ trivial)
          have gi := ivRd (s.pull 7 rfl)
          have gk := ivRd (s.pull 6 rfl)
          simp (disch := omega) only [WA, ↓reduceIte, jA, jB, jD, jE, jF, jG, jH, jI, jJ]
          refine sep_store (s.pull 1 rfl) (by simp) fun hh s => ?_
          have s := s.as (ds := dyC C) (by simp [t_put])
          simp (disch := omega) only [WA, ↓reduceIte, jA, jB, jD, jE, jF, jG, jH, jI, jJ]
          refine tail_step [(15, [], [], true)] (by kernel_rfl) (by kernel_rfl) (a_cut (by simp only [WLF]; rfl) (by kernel_rfl) ?_ trivial)
          have gi := ivRd (s.pull 7 rfl)
          have gk := ivRd (s.pull 6 rfl)
          simp (disch := omega) only [WA, ↓reduceIte, jA, jB, jD, jE, jF, jG, jH, jI, jJ]
          refine sep_store (s.pull 2 rfl) (by simp) fun hh s => ?_
          have s := s.as (ds := dyC D) (by simp [t_put])
          simp (disch := omega) only [WA, ↓reduceIte, jA, jB, jD, jE, jF, jG, jH, jI, jJ]
          exact hK' _ _ ⟨e0, e4, e5, e6, _, _, e7, e8, rfl, rfl, ((((((((s.pull 7 rfl).pull 7 rfl).pull 7 rfl).pull 5 rfl).pull 7 rfl).pull 7 rfl).pull 6 rfl).pull 7 rfl)⟩
    · skip
      have gi := ivRd (s.pull 5 rfl)
      have gk := ivRd (s.pull 4 rfl)
      simp (disch := omega) only [WA, ↓reduceIte, jA, jB, jD, jE, jF, jG, jH, jI, jJ, e0, e4, e5, e6, e7, e8, gi, gk]
      have s := s.newBlk [.int .i64 0, .int .i64 0] 97 true
      generalize hE12 : _ ++ [_] = hN at s ⊢
      have gi := ivRd (s.pull 6 rfl)
      have gk := ivRd (s.pull 5 rfl)
      try simp (disch := omega) only [WA, ↓reduceIte, jA, jB, jD, jE, jF, jG, jH, jI, jJ, e0, e4, e5, e6, e7, e8, gi, gk]
      refine tail_step [(5, [], [11, 13, 14, 15], false), (13, [], [5, 11, 14, 15], false)] (by kernel_rfl) (by kernel_rfl) (a_cons (by simp only [WLF]; rfl) (by kernel_rfl) ?_ (a_cons (by simp only [WLF]; rfl) (by kernel_rfl) ?_ trivial))
      · skip
        have gi := ivRd (s.pull 6 rfl)
        have gk := ivRd (s.pull 5 rfl)
        simp (disch := omega) only [WA, ↓reduceIte, jA, jB, jD, jE, jF, jG, jH, jI, jJ, e0, e4, e5, e6, e7, e8, gi, gk]
        refine .inl ⟨by kernel_rfl, ?_⟩; refine rproduct_c (s.pull 3 rfl) hi.high hk.low fun hh s => ?_
        rw [hC]
        have gi := ivRd (s.pull 6 rfl)
        have gk := ivRd (s.pull 5 rfl)
        simp (disch := omega) only [WA, ↓reduceIte, jA, jB, jD, jE, jF, jG, jH, jI, jJ, e0, e4, e5, e6, e7, e8, gi, gk]
        refine tail_step [(11, [], [13, 14, 15], false), (13, [], [11, 14, 15], false)] (by kernel_rfl) (by kernel_rfl) (a_cons (by simp only [WLF]; rfl) (by kernel_rfl) ?_ (a_cons (by simp only [WLF]; rfl) (by kernel_rfl) ?_ trivial))
        · skip
          have gi := ivRd (s.pull 6 rfl)
          have gk := ivRd (s.pull 5 rfl)
          simp (disch := omega) only [WA, ↓reduceIte, jA, jB, jD, jE, jF, jG, jH, jI, jJ, e0, e4, e5, e6, e7, e8, gi, gk]
          refine .inl ⟨by kernel_rfl, ?_⟩; refine rproduct_c (s.pull 0 rfl) hi.high hk.high fun hh s => ?_
          rw [hD]
          have gi := ivRd (s.pull 6 rfl)
          have gk := ivRd (s.pull 5 rfl)
          simp (disch := omega) only [WA, ↓reduceIte, jA, jB, jD, jE, jF, jG, jH, jI, jJ, e0, e4, e5, e6, e7, e8, gi, gk]
          refine tail_step [(13, [], [14, 15], false)] (by kernel_rfl) (by kernel_rfl) (a_cons (by simp only [WLF]; rfl) (by kernel_rfl) ?_ trivial)
          have gi := ivRd (s.pull 6 rfl)
          have gk := ivRd (s.pull 5 rfl)
          simp (disch := omega) only [WA, ↓reduceIte, jA, jB, jD, jE, jF, jG, jH, jI, jJ, e0, e4, e5, e6, e7, e8, gi, gk]
          have s := s.newBlk [.int .i64 0, .int .i64 0] 97 true
          generalize hE13 : _ ++ [_] = hN at s ⊢
          have gi := ivRd (s.pull 7 rfl)
          have gk := ivRd (s.pull 6 rfl)
          try simp (disch := omega) only [WA, ↓reduceIte, jA, jB, jD, jE, jF, jG, jH, jI, jJ, e0, e4, e5, e6, e7, e8, gi, gk]
          refine tail_step [(14, [], [15], true)] (by kernel_rfl) (by kernel_rfl) (a_cut (by simp only [WLF]; rfl) (by kernel_rfl) ?_ trivial)
          have gi := ivRd (s.pull 7 rfl)
          have gk := ivRd (s.pull 6 rfl)
          simp (disch := omega) only [WA, ↓reduceIte, jA, jB, jD, jE, jF, jG, jH, jI, jJ]
          refine sep_store (s.pull 2 rfl) (by simp) fun hh s => ?_
          have s := s.as (ds := dyC C) (by simp [t_put])
          simp (disch := omega) only [WA, ↓reduceIte, jA, jB, jD, jE, jF, jG, jH, jI, jJ]
          refine tail_step [(15, [], [], true)] (by kernel_rfl) (by kernel_rfl) (a_cut (by simp only [WLF]; rfl) (by kernel_rfl) ?_ trivial)
          have gi := ivRd (s.pull 7 rfl)
          have gk := ivRd (s.pull 6 rfl)
          simp (disch := omega) only [WA, ↓reduceIte, jA, jB, jD, jE, jF, jG, jH, jI, jJ]
          refine sep_store (s.pull 1 rfl) (by simp) fun hh s => ?_
          have s := s.as (ds := dyC D) (by simp [t_put])
          simp (disch := omega) only [WA, ↓reduceIte, jA, jB, jD, jE, jF, jG, jH, jI, jJ]
          exact hK' _ _ ⟨e0, e4, e5, e6, _, _, e7, e8, rfl, rfl, ((((((((s.pull 7 rfl).pull 7 rfl).pull 7 rfl).pull 5 rfl).pull 7 rfl).pull 7 rfl).pull 6 rfl).pull 7 rfl)⟩
        · skip
          have gi := ivRd (s.pull 6 rfl)
          have gk := ivRd (s.pull 5 rfl)
          simp (disch := omega) only [WA, ↓reduceIte, jA, jB, jD, jE, jF, jG, jH, jI, jJ, e0, e4, e5, e6, e7, e8, gi, gk]
          have s := s.newBlk [.int .i64 0, .int .i64 0] 97 true
          generalize hE13 : _ ++ [_] = hN at s ⊢
          have gi := ivRd (s.pull 7 rfl)
          have gk := ivRd (s.pull 6 rfl)
          try simp (disch := omega) only [WA, ↓reduceIte, jA, jB, jD, jE, jF, jG, jH, jI, jJ, e0, e4, e5, e6, e7, e8, gi, gk]
          refine tail_step [(11, [], [14, 15], false)] (by kernel_rfl) (by kernel_rfl) (a_cons (by simp only [WLF]; rfl) (by kernel_rfl) ?_ trivial)
          have gi := ivRd (s.pull 7 rfl)
          have gk := ivRd (s.pull 6 rfl)
          simp (disch := omega) only [WA, ↓reduceIte, jA, jB, jD, jE, jF, jG, jH, jI, jJ, e0, e4, e5, e6, e7, e8, gi, gk]
          refine .inl ⟨by kernel_rfl, ?_⟩; refine rproduct_c (s.pull 1 rfl) hi.high hk.high fun hh s => ?_
          rw [hD]
          have gi := ivRd (s.pull 7 rfl)
          have gk := ivRd (s.pull 6 rfl)
          simp (disch := omega) only [WA, ↓reduceIte, jA, jB, jD, jE, jF, jG, jH, jI, jJ, e0, e4, e5, e6, e7, e8, gi, gk]
          refine tail_step [(14, [], [15], true)] (by kernel_rfl) (by kernel_rfl) (a_cut (by simp only [WLF]; rfl) (by kernel_rfl) ?_ trivial)
          have gi := ivRd (s.pull 7 rfl)
          have gk := ivRd (s.pull 6 rfl)
          simp (disch := omega) only [WA, ↓reduceIte, jA, jB, jD, jE, jF, jG, jH, jI, jJ]
          refine sep_store (s.pull 2 rfl) (by simp) fun hh s => ?_
          have s := s.as (ds := dyC C) (by simp [t_put])
          simp (disch := omega) only [WA, ↓reduceIte, jA, jB, jD, jE, jF, jG, jH, jI, jJ]
          refine tail_step [(15, [], [], true)] (by kernel_rfl) (by kernel_rfl) (a_cut (by simp only [WLF]; rfl) (by kernel_rfl) ?_ trivial)
          have gi := ivRd (s.pull 7 rfl)
          have gk := ivRd (s.pull 6 rfl)
          simp (disch := omega) only [WA, ↓reduceIte, jA, jB, jD, jE, jF, jG, jH, jI, jJ]
          refine sep_store (s.pull 2 rfl) (by simp) fun hh s => ?_
          have s := s.as (ds := dyC D) (by simp [t_put])
          simp (disch := omega) only [WA, ↓reduceIte, jA, jB, jD, jE, jF, jG, jH, jI, jJ]
          exact hK' _ _ ⟨e0, e4, e5, e6, _, _, e7, e8, rfl, rfl, ((((((((s.pull 7 rfl).pull 7 rfl).pull 7 rfl).pull 5 rfl).pull 7 rfl).pull 7 rfl).pull 6 rfl).pull 7 rfl)⟩
      · skip
        have gi := ivRd (s.pull 6 rfl)
        have gk := ivRd (s.pull 5 rfl)
        simp (disch := omega) only [WA, ↓reduceIte, jA, jB, jD, jE, jF, jG, jH, jI, jJ, e0, e4, e5, e6, e7, e8, gi, gk]
        have s := s.newBlk [.int .i64 0, .int .i64 0] 97 true
        generalize hE13 : _ ++ [_] = hN at s ⊢
        have gi := ivRd (s.pull 7 rfl)
        have gk := ivRd (s.pull 6 rfl)
        try simp (disch := omega) only [WA, ↓reduceIte, jA, jB, jD, jE, jF, jG, jH, jI, jJ, e0, e4, e5, e6, e7, e8, gi, gk]
        refine tail_step [(5, [], [11, 14, 15], false)] (by kernel_rfl) (by kernel_rfl) (a_cons (by simp only [WLF]; rfl) (by kernel_rfl) ?_ trivial)
        have gi := ivRd (s.pull 7 rfl)
        have gk := ivRd (s.pull 6 rfl)
        simp (disch := omega) only [WA, ↓reduceIte, jA, jB, jD, jE, jF, jG, jH, jI, jJ, e0, e4, e5, e6, e7, e8, gi, gk]
        refine .inl ⟨by kernel_rfl, ?_⟩; refine rproduct_c (s.pull 4 rfl) hi.high hk.low fun hh s => ?_
        rw [hC]
        have gi := ivRd (s.pull 7 rfl)
        have gk := ivRd (s.pull 6 rfl)
        simp (disch := omega) only [WA, ↓reduceIte, jA, jB, jD, jE, jF, jG, jH, jI, jJ, e0, e4, e5, e6, e7, e8, gi, gk]
        refine tail_step [(11, [], [14, 15], false)] (by kernel_rfl) (by kernel_rfl) (a_cons (by simp only [WLF]; rfl) (by kernel_rfl) ?_ trivial)
        have gi := ivRd (s.pull 7 rfl)
        have gk := ivRd (s.pull 6 rfl)
        simp (disch := omega) only [WA, ↓reduceIte, jA, jB, jD, jE, jF, jG, jH, jI, jJ, e0, e4, e5, e6, e7, e8, gi, gk]
        refine .inl ⟨by kernel_rfl, ?_⟩; refine rproduct_c (s.pull 0 rfl) hi.high hk.high fun hh s => ?_
        rw [hD]
        have gi := ivRd (s.pull 7 rfl)
        have gk := ivRd (s.pull 6 rfl)
        simp (disch := omega) only [WA, ↓reduceIte, jA, jB, jD, jE, jF, jG, jH, jI, jJ, e0, e4, e5, e6, e7, e8, gi, gk]
        refine tail_step [(14, [], [15], true)] (by kernel_rfl) (by kernel_rfl) (a_cut (by simp only [WLF]; rfl) (by kernel_rfl) ?_ trivial)
        have gi := ivRd (s.pull 7 rfl)
        have gk := ivRd (s.pull 6 rfl)
        simp (disch := omega) only [WA, ↓reduceIte, jA, jB, jD, jE, jF, jG, jH, jI, jJ]
        refine sep_store (s.pull 2 rfl) (by simp) fun hh s => ?_
        have s := s.as (ds := dyC C) (by simp [t_put])
        simp (disch := omega) only [WA, ↓reduceIte, jA, jB, jD, jE, jF, jG, jH, jI, jJ]
        refine tail_step [(15, [], [], true)] (by kernel_rfl) (by kernel_rfl) (a_cut (by simp only [WLF]; rfl) (by kernel_rfl) ?_ trivial)
        have gi := ivRd (s.pull 7 rfl)
        have gk := ivRd (s.pull 6 rfl)
        simp (disch := omega) only [WA, ↓reduceIte, jA, jB, jD, jE, jF, jG, jH, jI, jJ]
        refine sep_store (s.pull 2 rfl) (by simp) fun hh s => ?_
        have s := s.as (ds := dyC D) (by simp [t_put])
        simp (disch := omega) only [WA, ↓reduceIte, jA, jB, jD, jE, jF, jG, jH, jI, jJ]
        exact hK' _ _ ⟨e0, e4, e5, e6, _, _, e7, e8, rfl, rfl, ((((((((s.pull 7 rfl).pull 7 rfl).pull 7 rfl).pull 5 rfl).pull 7 rfl).pull 7 rfl).pull 6 rfl).pull 7 rfl)⟩
    · skip
      have gi := ivRd (s.pull 5 rfl)
      have gk := ivRd (s.pull 4 rfl)
      simp (disch := omega) only [WA, ↓reduceIte, jA, jB, jD, jE, jF, jG, jH, jI, jJ, e0, e4, e5, e6, e7, e8, gi, gk]
      have s := s.newBlk [.int .i64 0, .int .i64 0] 97 true
      generalize hE13 : _ ++ [_] = hN at s ⊢
      have gi := ivRd (s.pull 6 rfl)
      have gk := ivRd (s.pull 5 rfl)
      try simp (disch := omega) only [WA, ↓reduceIte, jA, jB, jD, jE, jF, jG, jH, jI, jJ, e0, e4, e5, e6, e7, e8, gi, gk]
      refine tail_step [(5, [], [11, 12, 14, 15], false), (12, [], [5, 11, 14, 15], false)] (by kernel_rfl) (by kernel_rfl) (a_cons (by simp only [WLF]; rfl) (by kernel_rfl) ?_ (a_cons (by simp only [WLF]; rfl) (by kernel_rfl) ?_ trivial))
      · skip
        have gi := ivRd (s.pull 6 rfl)
        have gk := ivRd (s.pull 5 rfl)
        simp (disch := omega) only [WA, ↓reduceIte, jA, jB, jD, jE, jF, jG, jH, jI, jJ, e0, e4, e5, e6, e7, e8, gi, gk]
        refine .inl ⟨by kernel_rfl, ?_⟩; refine rproduct_c (s.pull 3 rfl) hi.high hk.low fun hh s => ?_
        rw [hC]
        have gi := ivRd (s.pull 6 rfl)
        have gk := ivRd (s.pull 5 rfl)
        simp (disch := omega) only [WA, ↓reduceIte, jA, jB, jD, jE, jF, jG, jH, jI, jJ, e0, e4, e5, e6, e7, e8, gi, gk]
        refine tail_step [(11, [], [12, 14, 15], false), (12, [], [11, 14, 15], false)] (by kernel_rfl) (by kernel_rfl) (a_cons (by simp only [WLF]; rfl) (by kernel_rfl) ?_ (a_cons (by simp only [WLF]; rfl) (by kernel_rfl) ?_ trivial))
        · skip
          have gi := ivRd (s.pull 6 rfl)
          have gk := ivRd (s.pull 5 rfl)
          simp (disch := omega) only [WA, ↓reduceIte, jA, jB, jD, jE, jF, jG, jH, jI, jJ, e0, e4, e5, e6, e7, e8, gi, gk]
          refine .inl ⟨by kernel_rfl, ?_⟩; refine rproduct_c (s.pull 0 rfl) hi.high hk.high fun hh s => ?_
          rw [hD]
          have gi := ivRd (s.pull 6 rfl)
          have gk := ivRd (s.pull 5 rfl)
          simp (disch := omega) only [WA, ↓reduceIte, jA, jB, jD, jE, jF, jG, jH, jI, jJ, e0, e4, e5, e6, e7, e8, gi, gk]
          refine tail_step [(12, [], [14, 15], false)] (by kernel_rfl) (by kernel_rfl) (a_cons (by simp only [WLF]; rfl) (by kernel_rfl) ?_ trivial)
          have gi := ivRd (s.pull 6 rfl)
          have gk := ivRd (s.pull 5 rfl)
          simp (disch := omega) only [WA, ↓reduceIte, jA, jB, jD, jE, jF, jG, jH, jI, jJ, e0, e4, e5, e6, e7, e8, gi, gk]
          have s := s.newBlk [.int .i64 0, .int .i64 0] 97 true
          generalize hE12 : _ ++ [_] = hN at s ⊢
          have gi := ivRd (s.pull 7 rfl)
          have gk := ivRd (s.pull 6 rfl)
          try simp (disch := omega) only [WA, ↓reduceIte, jA, jB, jD, jE, jF, jG, jH, jI, jJ, e0, e4, e5, e6, e7, e8, gi, gk]
          refine tail_step [(14, [], [15], true)] (by kernel_rfl) (by kernel_rfl) (a_cut (by simp only [WLF]; rfl) (by kernel_rfl) ?_ trivial)
          have gi := ivRd (s.pull 7 rfl)
          have gk := ivRd (s.pull 6 rfl)
          simp (disch := omega) only [WA, ↓reduceIte, jA, jB, jD, jE, jF, jG, jH, jI, jJ]
          refine sep_store (s.pull 0 rfl) (by simp) fun hh s => ?_
          have s := s.as (ds := dyC C) (by simp [t_put])
          simp (disch := omega) only [WA, ↓reduceIte, jA, jB, jD, jE, jF, jG, jH, jI, jJ]
          refine tail_step [(15, [], [], true)] (by kernel_rfl) (by kernel_rfl) (a_cut (by simp only [WLF]; rfl) (by kernel_rfl) ?_ trivial)
          have gi := ivRd (s.pull 7 rfl)
          have gk := ivRd (s.pull 6 rfl)
          simp (disch := omega) only [WA, ↓reduceIte, jA, jB, jD, jE, jF, jG, jH, jI, jJ]
          refine sep_store (s.pull 2 rfl) (by simp) fun hh s => ?_
          have s := s.as (ds := dyC D) (by simp [t_put])
          simp (disch := omega) only [WA, ↓reduceIte, jA, jB, jD, jE, jF, jG, jH, jI, jJ]
          exact hK' _ _ ⟨e0, e4, e5, e6, _, _, e7, e8, rfl, rfl, ((((((((s.pull 7 rfl).pull 7 rfl).pull 7 rfl).pull 5 rfl).pull 7 rfl).pull 7 rfl).pull 6 rfl).pull 7 rfl)⟩
        · skip
          have gi := ivRd (s.pull 6 rfl)
          have gk := ivRd (s.pull 5 rfl)
          simp (disch := omega) only [WA, ↓reduceIte, jA, jB, jD, jE, jF, jG, jH, jI, jJ, e0, e4, e5, e6, e7, e8, gi, gk]
          have s := s.newBlk [.int .i64 0, .int .i64 0] 97 true
          generalize hE12 : _ ++ [_] = hN at s ⊢
          have gi := ivRd (s.pull 7 rfl)
          have gk := ivRd (s.pull 6 rfl)
          try simp (disch := omega) only [WA, ↓reduceIte, jA, jB, jD, jE, jF, jG, jH, jI, jJ, e0, e4, e5, e6, e7, e8, gi, gk]
          refine tail_step [(11, [], [14, 15], false)] (by kernel_rfl) (by kernel_rfl) (a_cons (by simp only [WLF]; rfl) (by kernel_rfl) ?_ trivial)
          have gi := ivRd (s.pull 7 rfl)
          have gk := ivRd (s.pull 6 rfl)
          simp (disch := omega) only [WA, ↓reduceIte, jA, jB, jD, jE, jF, jG, jH, jI, jJ, e0, e4, e5, e6, e7, e8, gi, gk]
          refine .inl ⟨by kernel_rfl, ?_⟩; refine rproduct_c (s.pull 1 rfl) hi.high hk.high fun hh s => ?_
          rw [hD]
          have gi := ivRd (s.pull 7 rfl)
          have gk := ivRd (s.pull 6 rfl)
          simp (disch := omega) only [WA, ↓reduceIte, jA, jB, jD, jE, jF, jG, jH, jI, jJ, e0, e4, e5, e6, e7, e8, gi, gk]
          refine tail_step [(14, [], [15], true)] (by kernel_rfl) (by kernel_rfl) (a_cut (by simp only [WLF]; rfl) (by kernel_rfl) ?_ trivial)
          have gi := ivRd (s.pull 7 rfl)
          have gk := ivRd (s.pull 6 rfl)
          simp (disch := omega) only [WA, ↓reduceIte, jA, jB, jD, jE, jF, jG, jH, jI, jJ]
          refine sep_store (s.pull 1 rfl) (by simp) fun hh s => ?_
          have s := s.as (ds := dyC C) (by simp [t_put])
          simp (disch := omega) only [WA, ↓reduceIte, jA, jB, jD, jE, jF, jG, jH, jI, jJ]
          refine tail_step [(15, [], [], true)] (by kernel_rfl) (by kernel_rfl) (a_cut (by simp only [WLF]; rfl) (by kernel_rfl) ?_ trivial)
          have gi := ivRd (s.pull 7 rfl)
          have gk := ivRd (s.pull 6 rfl)
          simp (disch := omega) only [WA, ↓reduceIte, jA, jB, jD, jE, jF, jG, jH, jI, jJ]
          refine sep_store (s.pull 2 rfl) (by simp) fun hh s => ?_
          have s := s.as (ds := dyC D) (by simp [t_put])
          simp (disch := omega) only [WA, ↓reduceIte, jA, jB, jD, jE, jF, jG, jH, jI, jJ]
          exact hK' _ _ ⟨e0, e4, e5, e6, _, _, e7, e8, rfl, rfl, ((((((((s.pull 7 rfl).pull 7 rfl).pull 7 rfl).pull 5 rfl).pull 7 rfl).pull 7 rfl).pull 6 rfl).pull 7 rfl)⟩
      · skip
        have gi := ivRd (s.pull 6 rfl)
        have gk := ivRd (s.pull 5 rfl)
        simp (disch := omega) only [WA, ↓reduceIte, jA, jB, jD, jE, jF, jG, jH, jI, jJ, e0, e4, e5, e6, e7, e8, gi, gk]
        have s := s.newBlk [.int .i64 0, .int .i64 0] 97 true
        generalize hE12 : _ ++ [_] = hN at s ⊢
        have gi := ivRd (s.pull 7 rfl)
        have gk := ivRd (s.pull 6 rfl)
        try simp (disch := omega) only [WA, ↓reduceIte, jA, jB, jD, jE, jF, jG, jH, jI, jJ, e0, e4, e5, e6, e7, e8, gi, gk]
        refine tail_step [(5, [], [11, 14, 15], false)] (by kernel_rfl) (by kernel_rfl) (a_cons (by simp only [WLF]; rfl) (by kernel_rfl) ?_ trivial)
        have gi := ivRd (s.pull 7 rfl)
        have gk := ivRd (s.pull 6 rfl)
        simp (disch := omega) only [WA, ↓reduceIte, jA, jB, jD, jE, jF, jG, jH, jI, jJ, e0, e4, e5, e6, e7, e8, gi, gk]
        refine .inl ⟨by kernel_rfl, ?_⟩; refine rproduct_c (s.pull 4 rfl) hi.high hk.low fun hh s => ?_
        rw [hC]
        have gi := ivRd (s.pull 7 rfl)
        have gk := ivRd (s.pull 6 rfl)
        simp (disch := omega) only [WA, ↓reduceIte, jA, jB, jD, jE, jF, jG, jH, jI, jJ, e0, e4, e5, e6, e7, e8, gi, gk]
        refine tail_step [(11, [], [14, 15], false)] (by kernel_rfl) (by kernel_rfl) (a_cons (by simp only [WLF]; rfl) (by kernel_rfl) ?_ trivial)
        have gi := ivRd (s.pull 7 rfl)
        have gk := ivRd (s.pull 6 rfl)
        simp (disch := omega) only [WA, ↓reduceIte, jA, jB, jD, jE, jF, jG, jH, jI, jJ, e0, e4, e5, e6, e7, e8, gi, gk]
        refine .inl ⟨by kernel_rfl, ?_⟩; refine rproduct_c (s.pull 0 rfl) hi.high hk.high fun hh s => ?_
        rw [hD]
        have gi := ivRd (s.pull 7 rfl)
        have gk := ivRd (s.pull 6 rfl)
        simp (disch := omega) only [WA, ↓reduceIte, jA, jB, jD, jE, jF, jG, jH, jI, jJ, e0, e4, e5, e6, e7, e8, gi, gk]
        refine tail_step [(14, [], [15], true)] (by kernel_rfl) (by kernel_rfl) (a_cut (by simp only [WLF]; rfl) (by kernel_rfl) ?_ trivial)
        have gi := ivRd (s.pull 7 rfl)
        have gk := ivRd (s.pull 6 rfl)
        simp (disch := omega) only [WA, ↓reduceIte, jA, jB, jD, jE, jF, jG, jH, jI, jJ]
        refine sep_store (s.pull 1 rfl) (by simp) fun hh s => ?_
        have s := s.as (ds := dyC C) (by simp [t_put])
        simp (disch := omega) only [WA, ↓reduceIte, jA, jB, jD, jE, jF, jG, jH, jI, jJ]
        refine tail_step [(15, [], [], true)] (by kernel_rfl) (by kernel_rfl) (a_cut (by simp only [WLF]; rfl) (by kernel_rfl) ?_ trivial)
        have gi := ivRd (s.pull 7 rfl)
        have gk := ivRd (s.pull 6 rfl)
        simp (disch := omega) only [WA, ↓reduceIte, jA, jB, jD, jE, jF, jG, jH, jI, jJ]
        refine sep_store (s.pull 2 rfl) (by simp) fun hh s => ?_
        have s := s.as (ds := dyC D) (by simp [t_put])
        simp (disch := omega) only [WA, ↓reduceIte, jA, jB, jD, jE, jF, jG, jH, jI, jJ]
        exact hK' _ _ ⟨e0, e4, e5, e6, _, _, e7, e8, rfl, rfl, ((((((((s.pull 7 rfl).pull 7 rfl).pull 7 rfl).pull 5 rfl).pull 7 rfl).pull 7 rfl).pull 6 rfl).pull 7 rfl)⟩
  rintro e2 h2 ⟨e0, e4, e5, e6, pc, pd, e7, e8, e9, e10, s⟩
  have ga := (s.pull 2 rfl).rdAll (n := 2) rfl
  have gb := (s.pull 3 rfl).rdAll (n := 2) rfl
  have gc := (s.pull 0 rfl).rdAll (n := 2) rfl
  have gd := (s.pull 1 rfl).rdAll (n := 2) rfl
  simp (disch := omega) only [WA, ↓reduceIte, jA, jB, jD, jE, jF, jG, jH, jI, jJ, e6, e7, e8, e9, e10, ga, gb, gc, gd]
  refine draw_ord [0, 1, 3, 4, 7, 8, 10, 11, 2, 5, 6, 9, 12, 13, 14, 15, 16] (by kernel_rfl) (by simp only [WLF]; rfl) ?_
  simp (disch := omega) only [WA, ↓reduceIte, jA, jB, jD, jE, jF, jG, jH, jI, jJ, e6, e7, e8, e9, e10, ga, gb, gc, gd]
  refine .inl ⟨by kernel_rfl, ?_⟩; refine lesser_c GA GB fun h3 E3 => ?_
  have s := s.mono E3
  have ga := (s.pull 2 rfl).rdAll (n := 2) rfl
  have gb := (s.pull 3 rfl).rdAll (n := 2) rfl
  have gc := (s.pull 0 rfl).rdAll (n := 2) rfl
  have gd := (s.pull 1 rfl).rdAll (n := 2) rfl
  simp (disch := omega) only [WA, ↓reduceIte, jA, jB, jD, jE, jF, jG, jH, jI, jJ, e6, e7, e8, e9, e10, ga, gb, gc, gd]
  refine .inl ⟨by kernel_rfl, ?_⟩; refine lesser_c GC GD fun h3 E3 => ?_
  have s := s.mono E3
  have ga := (s.pull 2 rfl).rdAll (n := 2) rfl
  have gb := (s.pull 3 rfl).rdAll (n := 2) rfl
  have gc := (s.pull 0 rfl).rdAll (n := 2) rfl
  have gd := (s.pull 1 rfl).rdAll (n := 2) rfl
  simp (disch := omega) only [WA, ↓reduceIte, jA, jB, jD, jE, jF, jG, jH, jI, jJ, e6, e7, e8, e9, e10, ga, gb, gc, gd]
  refine .inl ⟨by kernel_rfl, ?_⟩; refine lesser_c (lsM_good GA GB) (lsM_good GC GD) fun h3 E3 => ?_
  have s := s.mono E3
  have ga := (s.pull 2 rfl).rdAll (n := 2) rfl
  have gb := (s.pull 3 rfl).rdAll (n := 2) rfl
  have gc := (s.pull 0 rfl).rdAll (n := 2) rfl
  have gd := (s.pull 1 rfl).rdAll (n := 2) rfl
  simp (disch := omega) only [WA, ↓reduceIte, jA, jB, jD, jE, jF, jG, jH, jI, jJ, e6, e7, e8, e9, e10, ga, gb, gc, gd]
  refine .inl ⟨by kernel_rfl, ?_⟩; refine greater_c GA GB fun h3 E3 => ?_
  have s := s.mono E3
  have ga := (s.pull 2 rfl).rdAll (n := 2) rfl
  have gb := (s.pull 3 rfl).rdAll (n := 2) rfl
  have gc := (s.pull 0 rfl).rdAll (n := 2) rfl
  have gd := (s.pull 1 rfl).rdAll (n := 2) rfl
  simp (disch := omega) only [WA, ↓reduceIte, jA, jB, jD, jE, jF, jG, jH, jI, jJ, e6, e7, e8, e9, e10, ga, gb, gc, gd]
  refine .inl ⟨by kernel_rfl, ?_⟩; refine greater_c GC GD fun h3 E3 => ?_
  have s := s.mono E3
  have ga := (s.pull 2 rfl).rdAll (n := 2) rfl
  have gb := (s.pull 3 rfl).rdAll (n := 2) rfl
  have gc := (s.pull 0 rfl).rdAll (n := 2) rfl
  have gd := (s.pull 1 rfl).rdAll (n := 2) rfl
  simp (disch := omega) only [WA, ↓reduceIte, jA, jB, jD, jE, jF, jG, jH, jI, jJ, e6, e7, e8, e9, e10, ga, gb, gc, gd]
  refine .inl ⟨by kernel_rfl, ?_⟩; refine greater_c (gtM_good GA GB) (gtM_good GC GD) fun h3 E3 => ?_
  have s := s.mono E3
  have ga := (s.pull 2 rfl).rdAll (n := 2) rfl
  have gb := (s.pull 3 rfl).rdAll (n := 2) rfl
  have gc := (s.pull 0 rfl).rdAll (n := 2) rfl
  have gd := (s.pull 1 rfl).rdAll (n := 2) rfl
  simp (disch := omega) only [WA, ↓reduceIte, jA, jB, jD, jE, jF, jG, jH, jI, jJ, e6, e7, e8, e9, e10, ga, gb, gc, gd]
  refine .inl ⟨by kernel_rfl, ?_⟩; refine roundOut_c (i := ⟨lsM (lsM A B) (lsM C D), gtM (gtM A B) (gtM C D)⟩) ⟨lsM_good (lsM_good GA GB) (lsM_good GC GD), gtM_good (gtM_good GA GB) (gtM_good GC GD)⟩ fun h3 E3 => ?_
  have s := s.mono E3
  have ga := (s.pull 2 rfl).rdAll (n := 2) rfl
  have gb := (s.pull 3 rfl).rdAll (n := 2) rfl
  have gc := (s.pull 0 rfl).rdAll (n := 2) rfl
  have gd := (s.pull 1 rfl).rdAll (n := 2) rfl
  simp (disch := omega) only [WA, ↓reduceIte, jA, jB, jD, jE, jF, jG, jH, jI, jJ, e6, e7, e8, e9, e10, ga, gb, gc, gd]
  have vD : IvD (rdI ⟨lsM (lsM A B) (lsM C D), gtM (gtM A B) (gtM C D)⟩) := rdI_D ⟨lsM_good (lsM_good GA GB) (lsM_good GC GD), gtM_good (gtM_good GA GB) (gtM_good GC GD)⟩
  generalize rdI ⟨lsM (lsM A B) (lsM C D), gtM (gtM A B) (gtM C D)⟩ = v at *
  refine sep_store (s.pull 5 rfl) (by simp) fun h7 s => ?_
  have s := s.as (ds := ivC v) (by simp [t_put])
  have gz := (s.pull 0 rfl).rdAll (n := 4) rfl
  have ga := (s.pull 3 rfl).rdAll (n := 2) rfl
  have gb := (s.pull 4 rfl).rdAll (n := 2) rfl
  have gc := (s.pull 1 rfl).rdAll (n := 2) rfl
  have gd := (s.pull 2 rfl).rdAll (n := 2) rfl
  simp (disch := omega) only [WA, ↓reduceIte, jA, jB, jD, jE, jF, jG, jH, jI, jJ, gz, ga, gb, gc, gd, e6]
  rw [hk2] at s
  exact hQ _ v vD hk1 (s.tail.tail.tail.tail.tail.swap.tail.swap.tail)
end Go.Proofs
