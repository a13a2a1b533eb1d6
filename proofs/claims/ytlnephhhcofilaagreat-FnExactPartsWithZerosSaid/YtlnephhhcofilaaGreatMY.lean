/- The layer V and contracts of functions over it, or plain laws behind one statement (own work): MY=IG,IH,IJ. Conditions: those told in each theorem. -/
import Derived.Test.YtlnephhhcofilaaGreatIF
import Derived.Test.YtlnephhhcofilaaGreatHT
set_option linter.all false
section
set_option linter.unusedSimpArgs false
set_option linter.unusedVariables false
set_option maxRecDepth 4000
namespace Go.Proofs
open Go Go.V
open Nat renaming reduceEqDiff → jA, reduceAdd → jB, reduceMul → jD, reduceSub → jE, reduceLeDiff → jF
open Int renaming reduceLT → jG, reduceLE → jH, reduceNeg → jI, reduceEq → jJ
theorem addI_keep {i k : Iv} {p : Bool} :
    (∀ o, p = true → addI i k = some o → (⟨keepM p (sumM' i.low k.low), keepM (p && (sumM' i.low k.low).isSome) (sumM' i.high k.high)⟩ : Iv) = o) ∧
    ((p && (sumM' i.low k.low).isSome) && (sumM' i.high k.high).isSome) = (p && (addI i k).isSome) := by
  unfold addI
  cases sumM' i.low k.low with
  | none => simp
  | some a =>
    cases sumM' i.high k.high with
    | none => simp
    | some b =>
      refine ⟨fun o hp ho => ?_, by simp⟩
      subst hp
      exact Option.some.inj ho
theorem radd_c {a h : Heap} {b : Nat} {L : List Asr} {p : Bool} {i k : Iv} {Q : Value → Heap → Prop} (s : Sep a h (blkA b [.bool p] 149 :: L)) (hi : IvD i) (hk : IvD k)
    (hQ : ∀ h' v, IvD v → (∀ o, p = true → addI i k = some o → v = o) → Sep a h' (blkA b [.bool (p && (addI i k).isSome)] 149 :: L) → Q (.agg (ivC v).toArray) h') :
    CallsV Tryz.prog 142 [.pointer (some ⟨b, 0, none⟩), .agg (ivC i).toArray, .agg (ivC k).toArray] h Q := by
  refine CallsV.start Tryz.func142 rfl (by rw [Tryz.results142]) (by kernel_rfl) (by rw [Tryz.ntmps142]; simp) ?_
  obtain ⟨hk1, hk2⟩ := addI_keep (i := i) (k := k) (p := p)
  have GA := keepM_good (p := p) (o := sumM' i.low k.low) fun d h => makeM_good h
  have GB := keepM_good (p := p && (sumM' i.low k.low).isSome) (o := sumM' i.high k.high) fun d h => makeM_good h
  have s := ((s.newBlk (ivC i) 122 true).newBlk (ivC k) 122 true).newBlk [.int .i64 0, .int .i64 0, .int .i64 0, .int .i64 0] 122 true
  simp only [List.append_assoc, List.cons_append, List.nil_append, List.length_append, List.length_cons, List.length_nil, Nat.reduceAdd] at s
  have gi := ivRd (s.pull 2 rfl)
  have gk := ivRd (s.pull 1 rfl)
  simp (disch := omega) only [WA, ↓reduceIte, jA, jB, jD, jE, jF, jG, jH, jI, jJ, gi, gk]
  refine draw_ord [0, 1, 2, 3, 4, 6, 7, 8, 9, 10, 5, 11, 12, 13] (by kernel_rfl) (by simp only [WLF]; rfl) ?_
  simp (disch := omega) only [WA, ↓reduceIte, jA, jB, jD, jE, jF, jG, jH, jI, jJ, gi, gk]
  refine .inl ⟨by kernel_rfl, ?_⟩; refine rsumP_c (s.pull 3 rfl) hi.low hk.low fun h1 s => ?_
  have gi := ivRd (s.pull 3 rfl)
  have gk := ivRd (s.pull 2 rfl)
  simp (disch := omega) only [WA, ↓reduceIte, jA, jB, jD, jE, jF, jG, jH, jI, jJ, gi, gk]
  refine .inl ⟨by kernel_rfl, ?_⟩; refine rsumP_c s hi.high hk.high fun h2 s => ?_
  have gi := ivRd (s.pull 3 rfl)
  have gk := ivRd (s.pull 2 rfl)
  generalize keepM p (sumM' i.low k.low) = A at *
  generalize keepM (p && (sumM' i.low k.low).isSome) (sumM' i.high k.high) = B at *
  simp (disch := omega) only [WA, ↓reduceIte, jA, jB, jD, jE, jF, jG, jH, jI, jJ, gi, gk]
  refine sep_store (s.pull 1 rfl) (by simp) fun h3 s => ?_
  have s := s.as (ds := ivC ⟨A, B⟩) (by simp [t_put])
  have gz := (s.pull 0 rfl).rdAll (n := 4) rfl
  have gi := ivRd (s.pull 3 rfl)
  have gk := ivRd (s.pull 2 rfl)
  simp (disch := omega) only [WA, ↓reduceIte, jA, jB, jD, jE, jF, jG, jH, jI, jJ, gz, gi, gk]
  rw [hk2] at s
  exact hQ _ ⟨A, B⟩ ⟨GA, GB⟩ hk1 (s.tail.swap.tail.swap.tail)
theorem rresult_c {a h : Heap} {b : Nat} {L : List Asr} {p : Bool} {i : Iv} {Q : Value → Heap → Prop} (s : Sep a h (blkA b [.bool p] 149 :: L))
    (hQ : ∀ h', Ext h h' → Q (.tuple #[.agg (ivC (if p = true then i else ⟨⟨0, 0⟩, ⟨0, 0⟩⟩)).toArray, .bool p]) h') :
    CallsV Tryz.prog 143 [.pointer (some ⟨b, 0, none⟩), .agg (ivC i).toArray] h Q := by
  refine CallsV.start Tryz.func143 rfl (by rw [Tryz.results143]) (by kernel_rfl) (by rw [Tryz.ntmps143]; simp) ?_
  have E := Ext.app h [some ⟨ivC i, 122, false, true⟩, some ⟨[.int .i64 0, .int .i64 0, .int .i64 0, .int .i64 0], 122, false, true⟩]
  have u := Sep.blk2 h (ivC i) [.int .i64 0, .int .i64 0, .int .i64 0, .int .i64 0] 122 122 true true
  have s := s.mono E
  have g := s.rd
  have gi := ivRd (u.pull 1 rfl)
  cases p with
  | true =>
    simp (disch := omega) only [WA, ↓reduceIte, jA, jB, jD, jE, jF, jG, jH, jI, jJ, g, gi]
    exact hQ _ (.app _ _)
  | false =>
    simp (disch := omega) only [WA, ↓reduceIte, jA, jB, jD, jE, jF, jG, jH, jI, jJ, g, gi]
    exact hQ _ (.app _ _)
end Go.Proofs
end

section
set_option linter.unusedSimpArgs false
set_option linter.unusedVariables false
set_option maxRecDepth 4000
namespace Go.Proofs
open Go Go.V
open Nat renaming reduceEqDiff → jA, reduceAdd → jB, reduceMul → jD, reduceSub → jE, reduceLeDiff → jF
open Int renaming reduceLT → jG, reduceLE → jH, reduceNeg → jI, reduceEq → jJ
/- A power, step by step. -/
def pwB (p : Bool) (i : Iv) (n : Nat) : Bool := p && (powD i.low n).isSome && (powD i.high n).isSome
theorem powD_one {a : Dy} (ha : DyG a) : powD a 1 = some a := by
  show ((powD a 0).bind fun x => mulM x a) = some a
  exact one_mulM ha
theorem pw_step {p : Bool} {i : Iv} {j : Nat} {x y : Dy} (hv : pwB p i j = true → powD i.low j = some x ∧ powD i.high j = some y) :
    (pwB p i (j + 1) = true → powD i.low (j + 1) = some (keepM (pwB p i j) (mulM x i.low)) ∧ powD i.high (j + 1) = some (keepM (pwB p i j && (mulM x i.low).isSome) (mulM y i.high))) ∧
    ((pwB p i j && (mulM x i.low).isSome) && (mulM y i.high).isSome) = pwB p i (j + 1) := by
  have e1 : powD i.low (j + 1) = (powD i.low j).bind fun x => mulM x i.low := rfl
  have e2 : powD i.high (j + 1) = (powD i.high j).bind fun x => mulM x i.high := rfl
  cases hb : pwB p i j with
  | false =>
    have hf : pwB p i (j + 1) = false := by
      unfold pwB at hb ⊢
      rw [e1, e2]
      cases p with
      | false => rfl
      | true =>
        cases h1 : powD i.low j with
        | none => rfl
        | some a =>
          cases h2 : powD i.high j with
          | none => simp
          | some b => rw [h1, h2] at hb; simp at hb
    rw [hf]
    exact ⟨fun h => (by cases h), by simp⟩
  | true =>
    obtain ⟨h1, h2⟩ := hv hb
    have hp : p = true := by unfold pwB at hb; cases p; simp at hb; rfl
    subst hp
    have e3 : pwB true i (j + 1) = ((mulM x i.low).isSome && (mulM y i.high).isSome) := by
      unfold pwB; rw [e1, e2, h1, h2]; rfl
    rw [e3, e1, e2, h1, h2]
    simp only [Option.bind_some, Bool.true_and]
    refine ⟨fun h => ?_, by simp⟩
    obtain ⟨g1, g2⟩ := Bool.and_eq_true_iff.1 h
    obtain ⟨a, ha⟩ := Option.isSome_iff_exists.1 g1
    obtain ⟨b, hb⟩ := Option.isSome_iff_exists.1 g2
    rw [ha, hb]
    exact ⟨rfl, rfl⟩
theorem pow_isSome {p : Bool} {i : Iv} {n : Nat} (h : n ≠ 0) : (p && (powI i n).isSome) = pwB p i n := by
  unfold powI pwB
  rw [if_neg h]
  cases powD i.low n with
  | none => simp
  | some a => cases powD i.high n <;> simp
theorem rpower_c {a h : Heap} {b : Nat} {L : List Asr} {p : Bool} {i : Iv} {n : Nat} {Q : Value → Heap → Prop} (s : Sep a h (blkA b [.bool p] 149 :: L)) (hi : IvD i) (hn : n ≤ 1000)
    (hQ : ∀ h' v, IvD v → (∀ o, p = true → powI i n = some o → v = o) → Sep a h' (blkA b [.bool (p && (powI i n).isSome)] 149 :: L) → Q (.agg (ivC v).toArray) h') :
    CallsV Tryz.prog 141 [.pointer (some ⟨b, 0, none⟩), .agg (ivC i).toArray, .int .i64 n] h Q := by
  refine CallsV.start Tryz.func141 rfl (by rw [Tryz.results141]) (by kernel_rfl) (by rw [Tryz.ntmps141]; simp) ?_
  have s := (s.newBlk (ivC i) 122 true).newBlk [.int .i64 0, .int .i64 0, .int .i64 0, .int .i64 0] 122 true
  simp only [List.append_assoc, List.cons_append, List.nil_append, List.length_append, List.length_cons, List.length_nil, Nat.reduceAdd] at s
  by_cases z : n = 0
  · subst z
    have d : ((0 : Nat) : Int) = 0 := rfl
    simp (disch := omega) only [WA, ↓reduceIte, jA, jB, jD, jE, jF, jG, jH, jI, jJ, d]
    refine .inl ⟨by kernel_rfl, ?_⟩; refine integer_c fun h1 E1 => ?_
    simp (disch := omega) only [WA, ↓reduceIte, jA, jB, jD, jE, jF, jG, jH, jI, jJ]
    refine .inl ⟨by kernel_rfl, ?_⟩; refine single_c fun h2 E2 => ?_
    have s := (s.mono E1).mono E2
    simp (disch := omega) only [WA, ↓reduceIte, jA, jB, jD, jE, jF, jG, jH, jI, jJ]
    refine sep_store (s.pull 0 rfl) (by simp) fun h3 s => ?_
    have s := s.as (ds := ivC ⟨⟨1, 0⟩, ⟨1, 0⟩⟩) (by simp [t_put])
    have gz := (s.pull 0 rfl).rdAll (n := 4) rfl
    simp (disch := omega) only [WA, ↓reduceIte, jA, jB, jD, jE, jF, jG, jH, jI, jJ, gz]
    refine hQ _ ⟨⟨1, 0⟩, ⟨1, 0⟩⟩ ⟨good_int (by decide), good_int (by decide)⟩ (fun o _ ho => by unfold powI at ho; rw [if_pos rfl] at ho; exact Option.some.inj ho) ?_
    have e : (p && (powI i 0).isSome) = p := by unfold powI; rw [if_pos rfl]; simp
    rw [e]
    exact s.tail.tail
  rw [pow_isSome z] at hQ
  have zi : ¬ (n : Int) = 0 := by omega
  have gi := ivRd (s.pull 1 rfl)
  simp (disch := omega) only [WA, ↓reduceIte, jA, jB, jD, jE, jF, jG, jH, jI, jJ, zi, gi]
  generalize h ++ [some ⟨ivC i, 122, false, true⟩, some ⟨[.int .i64 0, .int .i64 0, .int .i64 0, .int .i64 0], 122, false, true⟩] = H0 at s ⊢
  have gi := ivRd (s.pull 1 rfl)
  refine draw_cut (fun e' h' => e' 0 = .pointer (some ⟨b, 0, none⟩) ∧ e' 2 = .int .i64 n ∧ e' 4 = .pointer (some ⟨h.length, 0, none⟩) ∧ e' 6 = .pointer (some ⟨h.length + 1, 0, none⟩) ∧ ∃ px py, e' 7 = .pointer (some ⟨px, 0, none⟩) ∧ e' 8 = .pointer (some ⟨py, 0, none⟩) ∧
    Sep a h' (blkA b [.bool p] 149 :: blkA px (dyC i.low) 97 :: blkA py (dyC i.high) 97 :: blkA (h.length + 1) [.int .i64 0, .int .i64 0, .int .i64 0, .int .i64 0] 122 :: blkA h.length (ivC i) 122 :: L)) (fun K' hK' => ?_) ?_
  · refine draw_tail [0, 1, 2, 3] [4, 5, 6, 7] (by kernel_rfl) (by simp only [WLF]; rfl) ?_
    simp (disch := omega) only [WA, ↓reduceIte, jA, jB, jD, jE, jF, jG, jH, jI, jJ, gi]
    refine tail_step [(4, [], [5, 6, 7], false), (5, [], [4, 6, 7], false)] (by kernel_rfl) (by kernel_rfl) (a_cons (by simp only [WLF]; rfl) (by kernel_rfl) ?_ (a_cons (by simp only [WLF]; rfl) (by kernel_rfl) ?_ trivial))
    · have gi := ivRd (s.pull 1 rfl)
      simp (disch := omega) only [WA, ↓reduceIte, jA, jB, jD, jE, jF, jG, jH, jI, jJ, gi]
      have s := s.newBlk [.int .i64 0, .int .i64 0] 97 true
      generalize hE4 : _ ++ [_] = hN at s ⊢
      have gi := ivRd (s.pull 2 rfl)
      try simp (disch := omega) only [WA, ↓reduceIte, jA, jB, jD, jE, jF, jG, jH, jI, jJ, gi]
      refine tail_step [(5, [], [6, 7], false)] (by kernel_rfl) (by kernel_rfl) (a_cons (by simp only [WLF]; rfl) (by kernel_rfl) ?_ trivial)
      simp (disch := omega) only [WA, ↓reduceIte, jA, jB, jD, jE, jF, jG, jH, jI, jJ, gi]
      have s := s.newBlk [.int .i64 0, .int .i64 0] 97 true
      generalize hE5 : _ ++ [_] = hM at s ⊢
      have gi := ivRd (s.pull 3 rfl)
      try simp (disch := omega) only [WA, ↓reduceIte, jA, jB, jD, jE, jF, jG, jH, jI, jJ, gi]
      refine tail_step [(6, [], [7], false)] (by kernel_rfl) (by kernel_rfl) (a_cons (by simp only [WLF]; rfl) (by kernel_rfl) ?_ trivial)
      simp (disch := omega) only [WA, ↓reduceIte, jA, jB, jD, jE, jF, jG, jH, jI, jJ, gi]
      refine sep_store (s.pull 1 rfl) (by simp) fun h3 s => ?_
      have s := s.as (ds := dyC i.low) (by simp [t_put])
      have gi := ivRd (s.pull 3 rfl)
      try simp (disch := omega) only [WA, ↓reduceIte, jA, jB, jD, jE, jF, jG, jH, jI, jJ, gi]
      refine tail_step [(7, [], [], true)] (by kernel_rfl) (by kernel_rfl) (a_cut (by simp only [WLF]; rfl) (by kernel_rfl) ?_ trivial)
      simp (disch := omega) only [WA, ↓reduceIte, jA, jB, jD, jE, jF, jG, jH, jI, jJ, gi]
      refine sep_store (s.pull 1 rfl) (by simp) fun h3 s => ?_
      have s := s.as (ds := dyC i.high) (by simp [t_put])
      try simp (disch := omega) only [WA, ↓reduceIte, jA, jB, jD, jE, jF, jG, jH, jI, jJ]
      exact hK' _ _ ⟨rfl, rfl, rfl, rfl, _, _, rfl, rfl, ((s.pull 0 rfl).pull 1 rfl).pull 4 rfl⟩
    · have gi := ivRd (s.pull 1 rfl)
      simp (disch := omega) only [WA, ↓reduceIte, jA, jB, jD, jE, jF, jG, jH, jI, jJ, gi]
      have s := s.newBlk [.int .i64 0, .int .i64 0] 97 true
      generalize hE4 : _ ++ [_] = hN at s ⊢
      have gi := ivRd (s.pull 2 rfl)
      try simp (disch := omega) only [WA, ↓reduceIte, jA, jB, jD, jE, jF, jG, jH, jI, jJ, gi]
      refine tail_step [(4, [], [6, 7], false)] (by kernel_rfl) (by kernel_rfl) (a_cons (by simp only [WLF]; rfl) (by kernel_rfl) ?_ trivial)
      simp (disch := omega) only [WA, ↓reduceIte, jA, jB, jD, jE, jF, jG, jH, jI, jJ, gi]
      have s := s.newBlk [.int .i64 0, .int .i64 0] 97 true
      generalize hE5 : _ ++ [_] = hM at s ⊢
      have gi := ivRd (s.pull 3 rfl)
      try simp (disch := omega) only [WA, ↓reduceIte, jA, jB, jD, jE, jF, jG, jH, jI, jJ, gi]
      refine tail_step [(6, [], [7], false)] (by kernel_rfl) (by kernel_rfl) (a_cons (by simp only [WLF]; rfl) (by kernel_rfl) ?_ trivial)
      simp (disch := omega) only [WA, ↓reduceIte, jA, jB, jD, jE, jF, jG, jH, jI, jJ, gi]
      refine sep_store (s.pull 0 rfl) (by simp) fun h3 s => ?_
      have s := s.as (ds := dyC i.low) (by simp [t_put])
      have gi := ivRd (s.pull 3 rfl)
      try simp (disch := omega) only [WA, ↓reduceIte, jA, jB, jD, jE, jF, jG, jH, jI, jJ, gi]
      refine tail_step [(7, [], [], true)] (by kernel_rfl) (by kernel_rfl) (a_cut (by simp only [WLF]; rfl) (by kernel_rfl) ?_ trivial)
      simp (disch := omega) only [WA, ↓reduceIte, jA, jB, jD, jE, jF, jG, jH, jI, jJ, gi]
      refine sep_store (s.pull 1 rfl) (by simp) fun h3 s => ?_
      have s := s.as (ds := dyC i.high) (by simp [t_put])
      try simp (disch := omega) only [WA, ↓reduceIte, jA, jB, jD, jE, jF, jG, jH, jI, jJ]
      exact hK' _ _ ⟨rfl, rfl, rfl, rfl, _, _, rfl, rfl, ((s.pull 0 rfl).pull 1 rfl).pull 4 rfl⟩
  rintro e1 h1 ⟨e0, e2, e4, e6, px, py, e7, e8, s⟩
  clear gi
  have w1 : (n : Int) - 1 = ((n - 1 : Nat) : Int) := by omega
  simp (disch := omega) only [WA, ↓reduceIte, jA, jB, jD, jE, jF, jG, jH, jI, jJ, e2, wrap_in, w1]
  refine loop_rule (fun m e h' => ∃ (j : Nat) (x y : Dy), e 0 = .pointer (some ⟨b, 0, none⟩) ∧ e 2 = .int .i64 n ∧ e 4 = .pointer (some ⟨h.length, 0, none⟩) ∧ e 6 = .pointer (some ⟨h.length + 1, 0, none⟩) ∧ e 7 = .pointer (some ⟨px, 0, none⟩) ∧ e 8 = .pointer (some ⟨py, 0, none⟩) ∧ e 18 = .int .i64 ((n - 1 : Nat) : Int) ∧ e 19 = .int .i64 j ∧
    j ≤ n - 1 ∧ m = n - 1 - j ∧ DyG x ∧ DyG y ∧ (pwB p i (j + 1) = true → powD i.low (j + 1) = some x ∧ powD i.high (j + 1) = some y) ∧
    Sep a h' (blkA b [.bool (pwB p i (j + 1))] 149 :: blkA px (dyC x) 97 :: blkA py (dyC y) 97 :: blkA (h.length + 1) [.int .i64 0, .int .i64 0, .int .i64 0, .int .i64 0] 122 :: blkA h.length (ivC i) 122 :: L)) ?_ (n - 1) _ _
    ⟨0, i.low, i.high, e0, e2, e4, e6, e7, e8, rfl, rfl, by omega, by omega, hi.low, hi.high, fun _ => ⟨powD_one hi.low, powD_one hi.high⟩, by
      have e : pwB p i (0 + 1) = p := by unfold pwB; rw [powD_one hi.low, powD_one hi.high]; simp
      rw [e]; exact s⟩
  rintro m e h2 ⟨j, x, y, e0, e2, e4, e6, e7, e8, e18, e19, hj, rfl, gx, gy, hv, s⟩
  simp (disch := omega) only [WA, ↓reduceIte, jA, jB, jD, jE, jF, jG, jH, jI, jJ, e18, e19]
  by_cases c : (j : Int) < ((n - 1 : Nat) : Int)
  · obtain ⟨q1, q2⟩ := pw_step hv
    have GA := keepM_good (p := pwB p i (j + 1)) (o := mulM x i.low) fun d => mulM_good
    have GB := keepM_good (p := pwB p i (j + 1) && (mulM x i.low).isSome) (o := mulM y i.high) fun d => mulM_good
    have gx1 := (s.pull 1 rfl).rdAll (n := 2) rfl
    have gy1 := (s.pull 2 rfl).rdAll (n := 2) rfl
    have gi := ivRd (s.pull 4 rfl)
    simp (disch := omega) only [WA, ↓reduceIte, jA, jB, jD, jE, jF, jG, jH, jI, jJ, c, e0, e4, e7, e8, gx1, gy1, gi]
    refine draw_tail [0, 1, 2, 3, 5, 6, 7, 8] [4, 9, 10, 11] (by kernel_rfl) (by simp only [WLF]; rfl) ?_
    simp (disch := omega) only [WA, ↓reduceIte, jA, jB, jD, jE, jF, jG, jH, jI, jJ, e0, e4, e7, e8, gx1, gy1, gi]
    refine tail_step [(4, [], [9, 10, 11], false)] (by kernel_rfl) (by kernel_rfl) (a_cons (by simp only [WLF]; rfl) (by kernel_rfl) ?_ trivial)
    simp (disch := omega) only [WA, ↓reduceIte, jA, jB, jD, jE, jF, jG, jH, jI, jJ, e0, e4, e7, e8, gx1, gy1, gi]
    refine .inl ⟨by kernel_rfl, ?_⟩; refine rproduct_c s gx hi.low fun h3 s => ?_
    have gx1 := (s.pull 1 rfl).rdAll (n := 2) rfl
    have gy1 := (s.pull 2 rfl).rdAll (n := 2) rfl
    have gi := ivRd (s.pull 4 rfl)
    simp (disch := omega) only [WA, ↓reduceIte, jA, jB, jD, jE, jF, jG, jH, jI, jJ, e0, e4, e7, e8, gx1, gy1, gi]
    refine tail_step [(9, [], [10, 11], true)] (by kernel_rfl) (by kernel_rfl) (a_cut (by simp only [WLF]; rfl) (by kernel_rfl) ?_ trivial)
    simp (disch := omega) only [WA, ↓reduceIte, jA, jB, jD, jE, jF, jG, jH, jI, jJ, e0, e4, e7, e8, gx1, gy1, gi]
    refine .inl ⟨by kernel_rfl, ?_⟩; refine rproduct_c s gy hi.high fun h4 s => ?_
    have gx1 := (s.pull 1 rfl).rdAll (n := 2) rfl
    have gy1 := (s.pull 2 rfl).rdAll (n := 2) rfl
    have gi := ivRd (s.pull 4 rfl)
    rw [q2] at s
    generalize keepM (pwB p i (j + 1)) (mulM x i.low) = A at *
    generalize keepM (pwB p i (j + 1) && (mulM x i.low).isSome) (mulM y i.high) = B at *
    simp (disch := omega) only [WA, ↓reduceIte, jA, jB, jD, jE, jF, jG, jH, jI, jJ, e0, e4, e7, e8, gx1, gy1, gi]
    refine tail_step [(10, [], [11], true)] (by kernel_rfl) (by kernel_rfl) (a_cut (by simp only [WLF]; rfl) (by kernel_rfl) ?_ trivial)
    simp (disch := omega) only [WA, ↓reduceIte, jA, jB, jD, jE, jF, jG, jH, jI, jJ, e0, e4, e7, e8, gx1, gy1, gi]
    refine sep_store (s.pull 1 rfl) (by simp) fun h5 s => ?_
    have s := s.as (ds := dyC A) (by simp [t_put])
    have gi := ivRd (s.pull 4 rfl)
    have gy1 := (s.pull 2 rfl).rdAll (n := 2) rfl
    try simp (disch := omega) only [WA, ↓reduceIte, jA, jB, jD, jE, jF, jG, jH, jI, jJ, e8, gi, gy1]
    refine tail_step [(11, [], [], true)] (by kernel_rfl) (by kernel_rfl) (a_cut (by simp only [WLF]; rfl) (by kernel_rfl) ?_ trivial)
    simp (disch := omega) only [WA, ↓reduceIte, jA, jB, jD, jE, jF, jG, jH, jI, jJ, e8, gi, gy1]
    refine sep_store (s.pull 2 rfl) (by simp) fun h6 s => ?_
    have s := s.as (ds := dyC B) (by simp [t_put])
    have gi := ivRd (s.pull 4 rfl)
    simp (disch := omega) only [WA, ↓reduceIte, jA, jB, jD, jE, jF, jG, jH, jI, jJ, e19, wrap_in, gi]
    exact ⟨_, by omega, j + 1, A, B, e0, e2, e4, e6, e7, e8, e18, by simp, by omega, rfl, GA, GB, q1, ((s.pull 0 rfl).pull 1 rfl).pull 2 rfl⟩
  · obtain rfl : j = n - 1 := by omega
    have en : n - 1 + 1 = n := by omega
    rw [en] at hv s
    have hpw : ∀ o, p = true → powI i n = some o → pwB p i n = true := by
      intro o hp ho
      rw [← pow_isSome z, hp, ho]; rfl
    have gx1 := (s.pull 1 rfl).rdAll (n := 2) rfl
    have gy1 := (s.pull 2 rfl).rdAll (n := 2) rfl
    have gi := ivRd (s.pull 4 rfl)
    have rm : Int.tmod (n : Int) 2 = ((n % 2 : Nat) : Int) := by rw [Int.tmod_eq_emod_of_nonneg (by omega)]; omega
    simp (disch := omega) only [WA, ↓reduceIte, jA, jB, jD, jE, jF, jG, jH, jI, jJ, c, e2, rm, wrap_in]
    by_cases ev : n % 2 = 0
    · have ev' : ((n % 2 : Nat) : Int) = 0 := by omega
      simp (disch := omega) only [WA, ↓reduceIte, jA, jB, jD, jE, jF, jG, jH, jI, jJ, ev', e7, e8, gx1, gy1]
      refine draw_tail [0, 1, 3, 4] [2, 5, 6, 7] (by kernel_rfl) (by simp only [WLF]; rfl) ?_
      simp (disch := omega) only [WA, ↓reduceIte, jA, jB, jD, jE, jF, jG, jH, jI, jJ, ev', e7, e8, gx1, gy1]
      refine tail_step [(2, [], [5, 6, 7], false)] (by kernel_rfl) (by kernel_rfl) (a_cons (by simp only [WLF]; rfl) (by kernel_rfl) ?_ trivial)
      simp (disch := omega) only [WA, ↓reduceIte, jA, jB, jD, jE, jF, jG, jH, jI, jJ, ev', e7, e8, gx1, gy1]
      refine .inl ⟨by kernel_rfl, ?_⟩; refine lesser_c gx gy fun h3 E3 => ?_
      have s := s.mono E3
      have gx1 := (s.pull 1 rfl).rdAll (n := 2) rfl
      have gy1 := (s.pull 2 rfl).rdAll (n := 2) rfl
      simp (disch := omega) only [WA, ↓reduceIte, jA, jB, jD, jE, jF, jG, jH, jI, jJ, ev', e7, e8, gx1, gy1]
      refine tail_step [(5, [], [6, 7], true)] (by kernel_rfl) (by kernel_rfl) (a_cut (by simp only [WLF]; rfl) (by kernel_rfl) ?_ trivial)
      simp (disch := omega) only [WA, ↓reduceIte, jA, jB, jD, jE, jF, jG, jH, jI, jJ, ev', e7, e8, gx1, gy1]
      refine .inl ⟨by kernel_rfl, ?_⟩; refine greater_c gx gy fun h3 E3 => ?_
      have s := s.mono E3
      have gx1 := (s.pull 1 rfl).rdAll (n := 2) rfl
      have gy1 := (s.pull 2 rfl).rdAll (n := 2) rfl
      simp (disch := omega) only [WA, ↓reduceIte, jA, jB, jD, jE, jF, jG, jH, jI, jJ, ev', e7, e8, gx1, gy1]
      refine tail_step [(6, [], [7], true)] (by kernel_rfl) (by kernel_rfl) (a_cut (by simp only [WLF]; rfl) (by kernel_rfl) ?_ trivial)
      simp (disch := omega) only [WA, ↓reduceIte, jA, jB, jD, jE, jF, jG, jH, jI, jJ, ev', e7, e8, gx1, gy1]
      refine sep_store (s.pull 1 rfl) (by simp) fun h5 s => ?_
      have s := s.as (ds := dyC (lsM x y)) (by simp [t_put])
      have gy1 := (s.pull 2 rfl).rdAll (n := 2) rfl
      try simp (disch := omega) only [WA, ↓reduceIte, jA, jB, jD, jE, jF, jG, jH, jI, jJ, ev', e7, e8, gy1]
      refine tail_step [(7, [], [], true)] (by kernel_rfl) (by kernel_rfl) (a_cut (by simp only [WLF]; rfl) (by kernel_rfl) ?_ trivial)
      simp (disch := omega) only [WA, ↓reduceIte, jA, jB, jD, jE, jF, jG, jH, jI, jJ, ev', e7, e8, gy1]
      refine sep_store (s.pull 2 rfl) (by simp) fun h6 s => ?_
      have s := s.as (ds := dyC (gtM x y)) (by simp [t_put])
      have gi := ivRd (s.pull 4 rfl)
      simp (disch := omega) only [WA, ↓reduceIte, jA, jB, jD, jE, jF, jG, jH, jI, jJ, ev', e4, gi]
      refine .inl ⟨by kernel_rfl, ?_⟩; refine signOf_c fun h7 E7 => ?_
      have s := s.mono E7
      by_cases sz : sgI i = 0
      · simp (disch := omega) only [WA, ↓reduceIte, jA, jB, jD, jE, jF, jG, jH, jI, jJ, sz]
        refine .inl ⟨by kernel_rfl, ?_⟩; refine integer_c fun h8 E8 => ?_
        have s := s.mono E8
        simp (disch := omega) only [WA, ↓reduceIte, jA, jB, jD, jE, jF, jG, jH, jI, jJ, e7]
        refine sep_store (s.pull 1 rfl) (by simp) fun h9 s => ?_
        have s := s.as (ds := dyC ⟨0, 0⟩) (by simp [t_put])
        have gx1 := (s.pull 0 rfl).rdAll (n := 2) rfl
        have gy1 := (s.pull 1 rfl).rdAll (n := 2) rfl
        simp (disch := omega) only [WA, ↓reduceIte, jA, jB, jD, jE, jF, jG, jH, jI, jJ, e7, e8, gx1, gy1]
        refine .inl ⟨by kernel_rfl, ?_⟩; refine roundOut_c (i := ⟨⟨0, 0⟩, gtM x y⟩) ⟨good0, gtM_good gx gy⟩ fun h10 E10 => ?_
        have s := s.mono E10
        have vD : IvD (rdI ⟨⟨0, 0⟩, gtM x y⟩) := rdI_D ⟨good0, gtM_good gx gy⟩
        have hv2 : ∀ o, p = true → powI i n = some o → rdI ⟨⟨0, 0⟩, gtM x y⟩ = o := by
          intro o hp ho
          obtain ⟨k1, k2⟩ := hv (hpw o hp ho)
          unfold powI at ho
          rw [if_neg z, k1, k2] at ho
          simp only [if_pos ev, if_pos sz] at ho
          exact Option.some.inj ho
        generalize rdI ⟨⟨0, 0⟩, gtM x y⟩ = v at *
        simp (disch := omega) only [WA, ↓reduceIte, jA, jB, jD, jE, jF, jG, jH, jI, jJ, e6]
        refine sep_store (s.pull 3 rfl) (by simp) fun h11 s => ?_
        have s := s.as (ds := ivC v) (by simp [t_put])
        have gz := (s.pull 0 rfl).rdAll (n := 4) rfl
        simp (disch := omega) only [WA, ↓reduceIte, jA, jB, jD, jE, jF, jG, jH, jI, jJ, gz, e6]
        exact hQ _ v vD hv2 (s.tail.tail.tail.swap.tail)
      · simp (disch := omega) only [WA, ↓reduceIte, jA, jB, jD, jE, jF, jG, jH, jI, jJ, sz, e7, e8]
        have gx1 := (s.pull 1 rfl).rdAll (n := 2) rfl
        have gy1 := (s.pull 0 rfl).rdAll (n := 2) rfl
        simp (disch := omega) only [WA, ↓reduceIte, jA, jB, jD, jE, jF, jG, jH, jI, jJ, e7, e8, gx1, gy1]
        refine .inl ⟨by kernel_rfl, ?_⟩; refine roundOut_c (i := ⟨lsM x y, gtM x y⟩) ⟨lsM_good gx gy, gtM_good gx gy⟩ fun h10 E10 => ?_
        have s := s.mono E10
        have vD : IvD (rdI ⟨lsM x y, gtM x y⟩) := rdI_D ⟨lsM_good gx gy, gtM_good gx gy⟩
        have hv2 : ∀ o, p = true → powI i n = some o → rdI ⟨lsM x y, gtM x y⟩ = o := by
          intro o hp ho
          obtain ⟨k1, k2⟩ := hv (hpw o hp ho)
          unfold powI at ho
          rw [if_neg z, k1, k2] at ho
          simp only [if_pos ev, if_neg sz] at ho
          exact Option.some.inj ho
        generalize rdI ⟨lsM x y, gtM x y⟩ = v at *
        simp (disch := omega) only [WA, ↓reduceIte, jA, jB, jD, jE, jF, jG, jH, jI, jJ, e6]
        refine sep_store (s.pull 3 rfl) (by simp) fun h11 s => ?_
        have s := s.as (ds := ivC v) (by simp [t_put])
        have gz := (s.pull 0 rfl).rdAll (n := 4) rfl
        simp (disch := omega) only [WA, ↓reduceIte, jA, jB, jD, jE, jF, jG, jH, jI, jJ, gz, e6]
        exact hQ _ v vD hv2 (s.tail.tail.tail.swap.tail)
    · have ev' : ¬ ((n % 2 : Nat) : Int) = 0 := by omega
      simp (disch := omega) only [WA, ↓reduceIte, jA, jB, jD, jE, jF, jG, jH, jI, jJ, ev', e7, e8, gx1, gy1]
      refine .inl ⟨by kernel_rfl, ?_⟩; refine roundOut_c (i := ⟨x, y⟩) ⟨gx, gy⟩ fun h10 E10 => ?_
      have s := s.mono E10
      have vD : IvD (rdI ⟨x, y⟩) := rdI_D ⟨gx, gy⟩
      have hv2 : ∀ o, p = true → powI i n = some o → rdI ⟨x, y⟩ = o := by
        intro o hp ho
        obtain ⟨k1, k2⟩ := hv (hpw o hp ho)
        unfold powI at ho
        rw [if_neg z, k1, k2] at ho
        simp only [if_neg ev] at ho
        exact Option.some.inj ho
      generalize rdI ⟨x, y⟩ = v at *
      simp (disch := omega) only [WA, ↓reduceIte, jA, jB, jD, jE, jF, jG, jH, jI, jJ, e6]
      refine sep_store (s.pull 3 rfl) (by simp) fun h11 s => ?_
      have s := s.as (ds := ivC v) (by simp [t_put])
      have gz := (s.pull 0 rfl).rdAll (n := 4) rfl
      simp (disch := omega) only [WA, ↓reduceIte, jA, jB, jD, jE, jF, jG, jH, jI, jJ, gz, e6]
      exact hQ _ v vD hv2 (s.tail.swap.tail.swap.tail.swap.tail)
end Go.Proofs
end

section
set_option linter.unusedSimpArgs false
set_option linter.unusedVariables false
set_option maxRecDepth 4000
namespace Go.Proofs
open Go Go.V
open Nat renaming reduceEqDiff → jA, reduceAdd → jB, reduceMul → jD, reduceSub → jE, reduceLeDiff → jF
open Int renaming reduceLT → jG, reduceLE → jH, reduceNeg → jI, reduceEq → jJ
/- A polynomial's value over a box. -/
def exM (t : Tm) : Nat → Int
  | 0 => t.x
  | 1 => t.y
  | _ => t.z
def stepM (t : Tm) (i : Nat) (s : Iv) (o : Option Iv) : Option Iv := o.bind fun a => (powI s (exM t i).toNat).bind fun b => mulI a b
def partF (t : Tm) : Nat → List Iv → Option Iv → Option Iv
  | _, [], o => o
  | i, s :: l, o => partF t (i + 1) l (stepM t i s o)
def oneI (d : Dy) : Iv := ⟨d, d⟩
def partM (t : Tm) (sides : List Iv) : Option Iv := partF t 0 sides (some (oneI ⟨t.c, 0⟩))
def addO (s : Option Iv) (q : Option Iv) : Option Iv := s.bind fun a => q.bind fun b => addI a b
def valF (sides : List Iv) : List Tm → Option Iv → Option Iv
  | [], o => o
  | t :: l, o => valF sides l (addO o (partM t sides))
def zeroI : Iv := ⟨⟨0, 0⟩, ⟨0, 0⟩⟩
def valM (p : List Tm) (sides : List Iv) : Option Iv := valF sides p (some zeroI)
/-- What a term of a polynomial keeps to. -/
structure TmG (t : Tm) : Prop where
  c0 : -1099511627776 ≤ t.c
  c1 : t.c ≤ 1099511627776
  x0 : 0 ≤ t.x
  x1 : t.x ≤ 4
  y0 : 0 ≤ t.y
  y1 : t.y ≤ 4
  z0 : 0 ≤ t.z
  z1 : t.z ≤ 4
theorem exM_in {t : Tm} (h : TmG t) (i : Nat) : 0 ≤ exM t i ∧ exM t i ≤ 4 := by
  match i with
  | 0 => exact ⟨h.x0, h.x1⟩
  | 1 => exact ⟨h.y0, h.y1⟩
  | _ + 2 => exact ⟨h.z0, h.z1⟩
theorem here_iv {h : Heap} {x : Iv} {cs : List Value} (hr : Here h x cs) : cs = ivC x := (here_Iv hr).1
theorem exps_c {t : Tm} {h : Heap} {Q : Value → Heap → Prop} (hQ : ∀ h', Ext h h' → Q (.agg #[.int .i64 t.x, .int .i64 t.y, .int .i64 t.z]) h') :
    CallsV Tryz.prog 112 [.agg #[.int .i64 t.c, .int .i64 t.x, .int .i64 t.y, .int .i64 t.z]] h Q := by
  refine CallsV.start Tryz.func112 rfl (by rw [Tryz.results112]) (by kernel_rfl) (by rw [Tryz.ntmps112]; simp) ?_
  simp (disch := omega) only [WA, ↓reduceIte, jA, jB, jD, jE, jF, jG, jH, jI, jJ]
  exact hQ _ (.app _ _)
theorem partF_drop {t : Tm} {o : Option Iv} {sides : List Iv} {i : Nat} {s : Iv} (h : sides[i]? = some s) : partF t i (sides.drop i) o = partF t (i + 1) (sides.drop (i + 1)) (stepM t i s o) := by
  obtain ⟨hlt, he⟩ := List.getElem?_eq_some_iff.1 h
  rw [List.drop_eq_getElem_cons hlt, he]; rfl
theorem valF_drop {p : List Tm} {o : Option Iv} {sides : List Iv} {i : Nat} {t : Tm} (h : p[i]? = some t) : valF sides (p.drop i) o = valF sides (p.drop (i + 1)) (addO o (partM t sides)) := by
  obtain ⟨hlt, he⟩ := List.getElem?_eq_some_iff.1 h
  rw [List.drop_eq_getElem_cons hlt, he]; rfl
/-- A value that is right while nothing has failed. -/
structure Holds (o : Option Iv) (v : Iv) : Prop where
  d : IvD v
  eq : ∀ x, o = some x → v = x
theorem Holds.some {v : Iv} (h : IvD v) : Holds (some v) v := ⟨h, fun x hx => Option.some.inj hx⟩
theorem valueOver_c {p : List Tm} {sides : List Iv} {v w : Value} {h : Heap} {Q : Value → Heap → Prop} (rp : Row h p v) (rs : Row h sides w) (hp : ∀ t ∈ p, TmG t) (hs : ∀ s ∈ sides, IvD s) (h3 : sides.length ≤ 3)
    (hQ : ∀ h', Ext h h' → Q (.tuple #[.agg (ivC ((valM p sides).getD zeroI)).toArray, .bool (valM p sides).isSome]) h') :
    CallsV Tryz.prog 130 [v, w] h Q := by
  refine CallsV.start Tryz.func130 rfl (by rw [Tryz.results130]) (by kernel_rfl) (by rw [Tryz.ntmps130]; simp) ?_
  have hple := rp.le
  have s := ((((Sep.nil (.refl h)).newBlk [.int .i64 0, .int .i64 0, .int .i64 0, .int .i64 0] 122 true).newBlk [.bool true] 149 true).newBlk [.int .i64 0, .int .i64 0, .int .i64 0, .int .i64 0] 122 true)
  simp only [List.append_assoc, List.cons_append, List.nil_append, List.length_append, List.length_cons, List.length_nil, Nat.reduceAdd] at s
  simp (disch := omega) only [WA, ↓reduceIte, jA, jB, jD, jE, jF, jG, jH, jI, jJ, rp.isRow.len]
  generalize h ++ [some ⟨[.int .i64 0, .int .i64 0, .int .i64 0, .int .i64 0], 122, false, true⟩, some ⟨[.bool true], 149, false, true⟩, some ⟨[.int .i64 0, .int .i64 0, .int .i64 0, .int .i64 0], 122, false, true⟩] = H0 at s ⊢
  refine loop_rule (fun m e h' => ∃ (i : Nat) (S : Option Iv) (sv : Iv), e 0 = v ∧ e 1 = w ∧ e 4 = .pointer (some ⟨h.length, 0, none⟩) ∧ e 6 = .pointer (some ⟨h.length + 1, 0, none⟩) ∧ e 7 = .pointer (some ⟨h.length + 2, 0, none⟩) ∧ e 16 = v ∧ e 17 = .int .i64 p.length ∧ e 18 = .int .i64 i ∧
    i ≤ p.length ∧ m = p.length - i ∧ Holds S sv ∧ valM p sides = valF sides (p.drop i) S ∧
    Sep h h' [blkA (h.length + 2) (ivC sv) 122, blkA (h.length + 1) [.bool S.isSome] 149, blkA h.length [.int .i64 0, .int .i64 0, .int .i64 0, .int .i64 0] 122]) ?_ p.length _ _
    ⟨0, some zeroI, zeroI, rfl, rfl, rfl, rfl, rfl, rfl, rfl, rfl, by omega, by omega, .some ⟨good0, good0⟩, rfl, s⟩
  clear s
  rintro m e h1 ⟨i, S, sv, e0, e1, e4, e6, e7, e16, e17, e18, hi, rfl, hS, hv, s⟩
  simp (disch := omega) only [WA, ↓reduceIte, jA, jB, jD, jE, jF, jG, jH, jI, jJ, e17, e18]
  by_cases c : i < p.length
  · obtain ⟨t, ht⟩ := get_some c
    have c1 : (i : Int) < (p.length : Int) := by omega
    have gt := hp t (List.mem_of_getElem? ht)
    obtain ⟨xs, x3, x4⟩ := (rp.mono s.ext).at ht
    rw [Tm.sz] at x3
    obtain ⟨rfl, -⟩ := here_Tm x4
    rw [valF_drop ht] at hv
    simp (disch := omega) only [WA, ↓reduceIte, jA, jB, jD, jE, jF, jG, jH, jI, jJ, c1, e16, e18, rp.isRow.ix, x3]
    have s := s.newBlk [.int .i64 t.c, .int .i64 t.x, .int .i64 t.y, .int .i64 t.z] 59 true
    refine .inl ⟨by kernel_rfl, ?_⟩; refine integer_c fun h2 E2 => ?_
    refine .inl ⟨by kernel_rfl, ?_⟩; refine single_c fun h3' E3 => ?_
    have s := (s.mono E2).mono E3
    have s := s.newBlk (ivC ⟨⟨t.c, 0⟩, ⟨t.c, 0⟩⟩) 122 true
    simp (disch := omega) only [WA, ↓reduceIte, jA, jB, jD, jE, jF, jG, jH, jI, jJ, e1, rs.isRow.len]
    generalize hH : h3' ++ [some ⟨ivC ⟨⟨t.c, 0⟩, ⟨t.c, 0⟩⟩, 122, false, true⟩] = H1 at s ⊢
    refine loop_rule (fun m e h' => ∃ (j : Nat) (T : Option Iv) (pv : Iv), e 0 = v ∧ e 1 = w ∧ e 4 = .pointer (some ⟨h.length, 0, none⟩) ∧ e 6 = .pointer (some ⟨h.length + 1, 0, none⟩) ∧ e 7 = .pointer (some ⟨h.length + 2, 0, none⟩) ∧ e 16 = v ∧ e 17 = .int .i64 p.length ∧ e 18 = .int .i64 i ∧
      e 9 = .pointer (some ⟨h1.length, 0, none⟩) ∧ e 10 = .pointer (some ⟨h3'.length, 0, none⟩) ∧ e 26 = w ∧ e 27 = .int .i64 sides.length ∧ e 28 = .int .i64 j ∧
      j ≤ sides.length ∧ m = sides.length - j ∧ IvD pv ∧ (∀ x, S.isSome = true → T = some x → pv = x) ∧ partM t sides = partF t j (sides.drop j) T ∧
      Sep h h' [blkA h3'.length (ivC pv) 122, blkA h1.length [.int .i64 t.c, .int .i64 t.x, .int .i64 t.y, .int .i64 t.z] 59, blkA (h.length + 2) (ivC sv) 122, blkA (h.length + 1) [.bool (S.isSome && T.isSome)] 149, blkA h.length [.int .i64 0, .int .i64 0, .int .i64 0, .int .i64 0] 122]) ?_ sides.length _ _
      ⟨0, some (oneI ⟨t.c, 0⟩), oneI ⟨t.c, 0⟩, e0, e1, e4, e6, e7, e16, e17, e18, rfl, rfl, rfl, rfl, rfl, by omega, by omega, ⟨good_int ⟨gt.c0, gt.c1⟩, good_int ⟨gt.c0, gt.c1⟩⟩, fun x _ hx => Option.some.inj hx, rfl, by
        have e : (S.isSome && (some (oneI ⟨t.c, 0⟩)).isSome) = S.isSome := by simp
        rw [e]; exact s⟩
    clear s
    rintro m e h4 ⟨j, T, pv, e0, e1, e4, e6, e7, e16, e17, e18, e9, e10, e26, e27, e28, hj, rfl, hpv, hT, hpt, s⟩
    simp (disch := omega) only [WA, ↓reduceIte, jA, jB, jD, jE, jF, jG, jH, jI, jJ, e27, e28]
    by_cases cj : j < sides.length
    · obtain ⟨sd, hsd⟩ := get_some cj
      have c2 : (j : Int) < (sides.length : Int) := by omega
      obtain ⟨ys, y3, y4⟩ := (rs.mono s.ext).at hsd
      rw [Iv.sz] at y3
      obtain rfl := here_iv y4
      have gsd := hs sd (List.mem_of_getElem? hsd)
      have hex := exM_in gt j
      simp (disch := omega) only [WA, ↓reduceIte, jA, jB, jD, jE, jF, jG, jH, jI, jJ, c2, e26, e28, rs.isRow.ix, y3]
      have s := s.newBlk (ivC sd) 122 true
      have f1 := (s.pull 1 rfl).rdAll (n := 4) rfl
      have f2 := (s.pull 0 rfl).rdAll (n := 4) rfl
      have f3 := (s.pull 2 rfl).rdAll (n := 4) rfl
      refine draw_tail [0, 1, 2, 3, 4, 6] [5, 7, 8, 9, 10] (by kernel_rfl) (by simp only [WLF]; rfl) ?_
      simp (disch := omega) only [WA, ↓reduceIte, jA, jB, jD, jE, jF, jG, jH, jI, jJ, e6, e9, e10, f1, f2, f3]
      refine tail_step [(5, [7], [8, 9, 10], false)] (by kernel_rfl) (by kernel_rfl) (a_cons (by simp only [WLF]; rfl) (by kernel_rfl) ?_ trivial)
      simp (disch := omega) only [WA, ↓reduceIte, jA, jB, jD, jE, jF, jG, jH, jI, jJ, e6, e9, e10, f1, f2, f3]
      refine .inl ⟨by kernel_rfl, ?_⟩; refine exps_c fun h5 E5 => ?_
      have s := s.mono E5
      have f1 := (s.pull 1 rfl).rdAll (n := 4) rfl
      have f2 := (s.pull 0 rfl).rdAll (n := 4) rfl
      have f3 := (s.pull 2 rfl).rdAll (n := 4) rfl
      have ej : j = 0 ∨ j = 1 ∨ j = 2 := by omega
      have hidx : indexV Tryz.prog 126 (.agg #[.int .i64 t.x, .int .i64 t.y, .int .i64 t.z]) (.int .i64 j) = some (.int .i64 (exM t j)) := by
        rcases ej with rfl | rfl | rfl
        · rfl
        · rfl
        · rfl
      have ete : ((exM t j).toNat : Int) = exM t j := by omega
      simp (disch := omega) only [WA, ↓reduceIte, jA, jB, jD, jE, jF, jG, jH, jI, jJ, e28, f1, f2, f3, hidx]
      refine tail_step [(8, [], [9, 10], false)] (by kernel_rfl) (by kernel_rfl) (a_cons (by simp only [WLF]; rfl) (by kernel_rfl) ?_ trivial)
      simp (disch := omega) only [WA, ↓reduceIte, jA, jB, jD, jE, jF, jG, jH, jI, jJ, e6, f1, f2, f3]
      rw [← ete]
      refine .inl ⟨by kernel_rfl, ?_⟩; refine rpower_c (s.pull 4 rfl) gsd (by omega) fun h6 pw gpw hpw s => ?_
      have f1 := (s.pull 2 rfl).rdAll (n := 4) rfl
      have f2 := (s.pull 1 rfl).rdAll (n := 4) rfl
      have f3 := (s.pull 3 rfl).rdAll (n := 4) rfl
      simp (disch := omega) only [WA, ↓reduceIte, jA, jB, jD, jE, jF, jG, jH, jI, jJ, f1, f2, f3]
      refine tail_step [(9, [], [10], true)] (by kernel_rfl) (by kernel_rfl) (a_cut (by simp only [WLF]; rfl) (by kernel_rfl) ?_ trivial)
      simp (disch := omega) only [WA, ↓reduceIte, jA, jB, jD, jE, jF, jG, jH, jI, jJ, e6, f1, f2, f3]
      refine .inl ⟨by kernel_rfl, ?_⟩; refine rmultiply_c s hpv gpw fun h7 pm gpm hpm s => ?_
      have f1 := (s.pull 2 rfl).rdAll (n := 4) rfl
      have f2 := (s.pull 1 rfl).rdAll (n := 4) rfl
      have f3 := (s.pull 3 rfl).rdAll (n := 4) rfl
      simp (disch := omega) only [WA, ↓reduceIte, jA, jB, jD, jE, jF, jG, jH, jI, jJ, f1, f2, f3]
      refine tail_step [(10, [], [], true)] (by kernel_rfl) (by kernel_rfl) (a_cut (by simp only [WLF]; rfl) (by kernel_rfl) ?_ trivial)
      simp (disch := omega) only [WA, ↓reduceIte, jA, jB, jD, jE, jF, jG, jH, jI, jJ, e10]
      refine sep_store (s.pull 2 rfl) (by simp) fun h8 s => ?_
      have s := s.as (ds := ivC pm) (by simp [t_put])
      simp (disch := omega) only [WA, ↓reduceIte, jA, jB, jD, jE, jF, jG, jH, jI, jJ, e28, wrap_in]
      have es : ∀ a, S.isSome = true → T = some a → pv = a := hT
      have eok : (S.isSome && T.isSome && (powI sd (exM t j).toNat).isSome && (mulI pv pw).isSome) = (S.isSome && (stepM t j sd T).isSome) := by
        unfold stepM
        cases hS' : S.isSome with
        | false => simp
        | true =>
          cases hT' : T with
          | none => simp
          | some a =>
            have ea := hT a hS' hT'
            subst ea
            cases hP' : powI sd (exM t j).toNat with
            | none => simp
            | some b =>
              have eb := hpw b (by rw [hS', hT']; rfl) hP'
              subst eb
              simp
      rw [eok] at s
      refine ⟨_, by omega, j + 1, stepM t j sd T, pm, e0, e1, e4, e6, e7, e16, e17, e18, e9, e10, e26, e27, by simp, by omega, rfl, gpm, ?_, ?_, ((((s.pull 2 rfl).tail.pull 1 rfl).pull 3 rfl).pull 3 rfl).pull 3 rfl⟩
      · intro x hS' hx
        unfold stepM at hx
        obtain ⟨a, ha, hx⟩ := Option.bind_eq_some_iff.1 hx
        obtain ⟨b, hb, hx⟩ := Option.bind_eq_some_iff.1 hx
        have ea := hT a hS' ha
        have eb := hpw b (by rw [hS', ha]; rfl) hb
        subst ea
        subst eb
        exact hpm x (by rw [hS', ha, hb]; rfl) hx
      · rw [hpt, partF_drop hsd]
    · obtain rfl : j = sides.length := by omega
      have c2 : ¬ (sides.length : Int) < (sides.length : Int) := by omega
      rw [List.drop_length] at hpt
      have hpt : partM t sides = T := hpt
      have f1 := (s.pull 0 rfl).rdAll (n := 4) rfl
      have f2 := (s.pull 2 rfl).rdAll (n := 4) rfl
      simp (disch := omega) only [WA, ↓reduceIte, jA, jB, jD, jE, jF, jG, jH, jI, jJ, c2, e6, e7, e10, f1, f2]
      refine .inl ⟨by kernel_rfl, ?_⟩; refine radd_c (s.pull 3 rfl) hS.d hpv fun h5 sn gsn hsn s => ?_
      simp (disch := omega) only [WA, ↓reduceIte, jA, jB, jD, jE, jF, jG, jH, jI, jJ, e7]
      refine sep_store (s.pull 3 rfl) (by simp) fun h6 s => ?_
      have s := s.as (ds := ivC sn) (by simp [t_put])
      simp (disch := omega) only [WA, ↓reduceIte, jA, jB, jD, jE, jF, jG, jH, jI, jJ, e18, wrap_in]
      have eok : (S.isSome && T.isSome && (addI sv pv).isSome) = (addO S T).isSome := by
        unfold addO
        cases hS' : S with
        | none => rfl
        | some a =>
          cases hT' : T with
          | none => rfl
          | some b =>
            have ea := hS.eq a hS'
            have eb := hT b (by rw [hS']; rfl) hT'
            subst ea
            subst eb
            rfl
      rw [eok] at s
      rw [hpt] at hv
      refine ⟨_, by omega, i + 1, addO S T, sn, e0, e1, e4, e6, e7, e16, e17, by simp, by omega, rfl, ⟨gsn, ?_⟩, hv, (((s.pull 2 rfl).tail.pull 2 rfl).tail.pull 0 rfl)⟩
      intro x hx
      unfold addO at hx
      obtain ⟨a, ha, hx⟩ := Option.bind_eq_some_iff.1 hx
      obtain ⟨b, hb, hx⟩ := Option.bind_eq_some_iff.1 hx
      have ea := hS.eq a ha
      have eb := hT b (by rw [ha]; rfl) hb
      subst ea
      subst eb
      exact hsn x (by rw [ha, hb]; rfl) hx
  · obtain rfl : i = p.length := by omega
    have c1 : ¬ (p.length : Int) < (p.length : Int) := by omega
    rw [List.drop_length] at hv
    have hv : valM p sides = S := hv
    have f1 := (s.pull 0 rfl).rdAll (n := 4) rfl
    simp (disch := omega) only [WA, ↓reduceIte, jA, jB, jD, jE, jF, jG, jH, jI, jJ, c1, e6, e7, f1]
    refine .inl ⟨by kernel_rfl, ?_⟩; refine rresult_c (s.pull 1 rfl) fun h5 E5 => ?_
    have s := s.mono E5
    simp (disch := omega) only [WA, ↓reduceIte, jA, jB, jD, jE, jF, jG, jH, jI, jJ, e4]
    have ev : (if S.isSome = true then sv else (⟨⟨0, 0⟩, ⟨0, 0⟩⟩ : Iv)) = S.getD zeroI := by
      cases hS' : S with
      | none => rfl
      | some a => exact hS.eq a hS'
    rw [ev]
    refine sep_store (s.pull 2 rfl) (by simp) fun h6 s => ?_
    have s := s.as (ds := ivC (S.getD zeroI)) (by simp [t_put])
    have f1 := (s.pull 0 rfl).rdAll (n := 4) rfl
    have f2 := (s.pull 1 rfl).rdAll (n := 4) rfl
    rw [hv] at hQ
    simp (disch := omega) only [WA, ↓reduceIte, jA, jB, jD, jE, jF, jG, jH, jI, jJ, e4, f1, f2]
    exact hQ _ s.ext
end Go.Proofs
end
