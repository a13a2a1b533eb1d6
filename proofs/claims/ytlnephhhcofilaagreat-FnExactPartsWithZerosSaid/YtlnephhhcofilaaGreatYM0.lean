/- Contracts of functions, facts of types, or the plain law behind one statement (own work): YM0. Conditions: those told in each theorem. -/
import Derived.Test.YtlnephhhcofilaaGreatMB
set_option linter.all false
set_option linter.unusedSimpArgs false
set_option linter.unusedVariables false
set_option maxRecDepth 4000
namespace Go.Proofs
open Go Go.V
open Nat renaming reduceEqDiff → jA, reduceAdd → jB, reduceMul → jD, reduceSub → jE, reduceLeDiff → jF
open Int renaming reduceLT → jG, reduceLE → jH, reduceNeg → jI, reduceEq → jJ
/- The reckoner: a block with one cell. -/
theorem keep_c {a h : Heap} {b : Nat} {L : List Asr} {p q : Bool} {d : Dy} {Q : Value → Heap → Prop} (s : Sep a h (blkA b [.bool p] 149 :: L))
    (hQ : ∀ h', Sep a h' (blkA b [.bool (p && q)] 149 :: L) → Q (.agg (dyC (if (p && q) = true then d else ⟨0, 0⟩)).toArray) h') :
    CallsV Tryz.prog 157 [.pointer (some ⟨b, 0, none⟩), .agg (dyC d).toArray, .bool q] h Q := by
  refine CallsV.start Tryz.func157 rfl (by rw [Tryz.results157]) (by kernel_rfl) (by rw [Tryz.ntmps157]; simp) ?_
  have s := ((s.newBlk (dyC d) 97 true).newBlk [.int .i64 0, .int .i64 0] 97 true)
  have e1 : (h ++ [some (⟨dyC d, 97, false, true⟩ : Blk)]) ++ [some ⟨[.int .i64 0, .int .i64 0], 97, false, true⟩] = h ++ [some ⟨dyC d, 97, false, true⟩, some ⟨[.int .i64 0, .int .i64 0], 97, false, true⟩] := by simp
  have e2 : (h ++ [some (⟨dyC d, 97, false, true⟩ : Blk)]).length = h.length + 1 := by simp
  rw [e1, e2] at s
  have g := (s.pull 2 rfl).rd
  rcases p with _ | _ <;> rcases q with _ | _
  · simp (disch := omega) only [WA, ↓reduceIte, jA, jB, jD, jE, jF, jG, jH, jI, jJ, g]
    refine sep_store (s.pull 2 rfl) (by simp) fun h1 s => ?_
    have s := s.as (ds := [.bool false]) (by simp [t_put])
    have g := s.rd
    have gd := (s.pull 2 rfl).rdAll (n := 2) rfl
    simp (disch := omega) only [WA, ↓reduceIte, jA, jB, jD, jE, jF, jG, jH, jI, jJ, g, gd]
    refine sep_store (s.pull 1 rfl) (by simp) fun h2 s => ?_
    have s := s.as (ds := [.int .i64 0, .int .i64 0]) (by simp [t_put])
    have gz := s.rdAll (n := 2) rfl
    simp (disch := omega) only [WA, ↓reduceIte, jA, jB, jD, jE, jF, jG, jH, jI, jJ, gz]
    exact hQ _ ((s.tail).swap.tail)
  · simp (disch := omega) only [WA, ↓reduceIte, jA, jB, jD, jE, jF, jG, jH, jI, jJ, g]
    refine sep_store (s.pull 2 rfl) (by simp) fun h1 s => ?_
    have s := s.as (ds := [.bool false]) (by simp [t_put])
    have g := s.rd
    have gd := (s.pull 2 rfl).rdAll (n := 2) rfl
    simp (disch := omega) only [WA, ↓reduceIte, jA, jB, jD, jE, jF, jG, jH, jI, jJ, g, gd]
    refine sep_store (s.pull 1 rfl) (by simp) fun h2 s => ?_
    have s := s.as (ds := [.int .i64 0, .int .i64 0]) (by simp [t_put])
    have gz := s.rdAll (n := 2) rfl
    simp (disch := omega) only [WA, ↓reduceIte, jA, jB, jD, jE, jF, jG, jH, jI, jJ, gz]
    exact hQ _ ((s.tail).swap.tail)
  · simp (disch := omega) only [WA, ↓reduceIte, jA, jB, jD, jE, jF, jG, jH, jI, jJ, g]
    refine sep_store (s.pull 2 rfl) (by simp) fun h1 s => ?_
    have s := s.as (ds := [.bool false]) (by simp [t_put])
    have g := s.rd
    have gd := (s.pull 2 rfl).rdAll (n := 2) rfl
    simp (disch := omega) only [WA, ↓reduceIte, jA, jB, jD, jE, jF, jG, jH, jI, jJ, g, gd]
    refine sep_store (s.pull 1 rfl) (by simp) fun h2 s => ?_
    have s := s.as (ds := [.int .i64 0, .int .i64 0]) (by simp [t_put])
    have gz := s.rdAll (n := 2) rfl
    simp (disch := omega) only [WA, ↓reduceIte, jA, jB, jD, jE, jF, jG, jH, jI, jJ, gz]
    exact hQ _ ((s.tail).swap.tail)
  · simp (disch := omega) only [WA, ↓reduceIte, jA, jB, jD, jE, jF, jG, jH, jI, jJ, g]
    refine sep_store (s.pull 2 rfl) (by simp) fun h1 s => ?_
    have s := s.as (ds := [.bool true]) (by simp [t_put])
    have g := s.rd
    have gd := (s.pull 2 rfl).rdAll (n := 2) rfl
    simp (disch := omega) only [WA, ↓reduceIte, jA, jB, jD, jE, jF, jG, jH, jI, jJ, g, gd]
    refine sep_store (s.pull 1 rfl) (by simp) fun h2 s => ?_
    have s := s.as (ds := dyC d) (by simp [t_put])
    have gz := s.rdAll (n := 2) rfl
    simp (disch := omega) only [WA, ↓reduceIte, jA, jB, jD, jE, jF, jG, jH, jI, jJ, gz]
    exact hQ _ ((s.tail).swap.tail)
end Go.Proofs
