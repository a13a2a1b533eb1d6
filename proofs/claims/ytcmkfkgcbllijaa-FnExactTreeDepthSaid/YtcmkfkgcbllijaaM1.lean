/- Contracts of functions, facts of types, or the plain law behind one statement (own work): M1. Conditions: those told in each theorem. -/
import Derived.Test.YtcmkfkgcbllijaaC6
set_option linter.all false
namespace Go.Proofs
open Go Go.V

/-- The nodes used up, tree by tree; the depths that are open. -/
def runM (s : Int) : List Nd → List Nat → Bool
  | [], [] => true
  | [], _ :: _ => false
  | _ :: _, [] => false
  | x :: l, d :: st => okM s x && decide (d ≤ 20) && runM s l (if x.kind = 0 then (d + 1) :: (d + 1) :: st else st)

theorem run_prs {s : Int} : ∀ (n : Nat) (l : List Nd) (d : Nat) (st : List Nat), l.length ≤ n → (runM s l (d :: st) = true ↔ ∃ r, prsM s (21 - d) l = some r ∧ runM s r st = true) := by
  intro n
  induction n with
  | zero =>
    intro l d st hl
    obtain rfl := List.length_eq_zero_iff.1 (Nat.le_zero.1 hl)
    have : prsM s (21 - d) [] = none := by cases 21 - d <;> rfl
    simp [runM, this]
  | succ n ih =>
    intro l d st hl
    cases l with
    | nil =>
      have : prsM s (21 - d) [] = none := by cases 21 - d <;> rfl
      simp [runM, this]
    | cons x l =>
      have hl' : l.length ≤ n := by simpa using hl
      by_cases hd : d ≤ 20
      · have e : 21 - d = (20 - d) + 1 := by omega
        have e2 : 21 - (d + 1) = 20 - d := by omega
        rw [e]
        simp only [runM, prsM, decide_eq_true hd, Bool.and_true, Bool.and_eq_true]
        by_cases ho : okM s x = true
        · simp only [ho, true_and, if_true]
          by_cases hk : x.kind = 0
          · simp only [hk, if_true]
            rw [ih l (d + 1) ((d + 1) :: st) hl', e2]
            constructor
            · rintro ⟨m, h1, h2⟩
              have hm := (prs_drop h1).1
              rw [ih m (d + 1) st (by omega), e2] at h2
              obtain ⟨r, h3, h4⟩ := h2
              exact ⟨r, by rw [h1]; exact h3, h4⟩
            · rintro ⟨r, h1, h2⟩
              obtain ⟨m, h3, h4⟩ := Option.bind_eq_some_iff.1 h1
              have hm := (prs_drop h3).1
              refine ⟨m, h3, ?_⟩
              rw [ih m (d + 1) st (by omega), e2]
              exact ⟨r, h4, h2⟩
          · simp only [hk, if_false]
            constructor
            · intro h; exact ⟨l, rfl, h⟩
            · rintro ⟨r, h1, h2⟩
              simp only [Option.some.injEq] at h1; subst h1; exact h2
        · simp [ho]
      · have e : 21 - d = 0 := by omega
        simp [runM, e, prsM, hd]

theorem run_paths {s : Int} : ∀ (l : List Nd) (st : List ByteArray), runM s l (st.map (·.size)) = (decide (endM l st.length = some []) && ((pathsM l st).zip l).all fun x => okM s x.2 && decide (x.1.size ≤ 20)) := by
  intro l
  induction l with
  | nil =>
    intro st
    cases st with
    | nil => simp [runM, endM, pathsM]
    | cons q st => simp [runM, endM]
  | cons x l ih =>
    intro st
    cases st with
    | nil => simp [runM, endM]
    | cons q st =>
      simp only [List.map_cons, runM, List.length_cons, endM, pathsM, List.zip_cons_cons, List.all_cons]
      by_cases hk : x.kind = 0
      · simp only [hk, if_true]
        have := ih ((q ++ bL) :: (q ++ bU) :: st)
        simp only [List.map_cons, List.length_cons, size_append, bU_size, bL_size] at this
        rw [this]
        cases okM s x <;> cases decide (q.size ≤ 20) <;> simp
      · simp only [hk, if_false]
        rw [ih st]
        cases okM s x <;> cases decide (q.size ≤ 20) <;> simp

theorem good_isTree (l : List Nd) (s : Int) : goodM l s = isTreeM l s := by
  have h1 := run_prs (s := s) l.length l 0 [] (Nat.le_refl _)
  have h2 := run_paths (s := s) l [bE]
  have e : [bE].map (·.size) = [0] := rfl
  rw [e] at h2
  have h3 : runM s l [0] = decide (prsM s 21 l = some []) := by
    rw [Bool.eq_iff_iff, h1]
    simp only [decide_eq_true_eq]
    constructor
    · rintro ⟨r, h3, h4⟩
      cases r with
      | nil => exact h3
      | cons => simp [runM] at h4
    · intro h; exact ⟨[], h, rfl⟩
  unfold goodM isTreeM
  rw [Bool.and_assoc _ (decide (endM l 1 = some []))]
  have e2 : [bE].length = 1 := rfl
  rw [e2] at h2
  rw [← h2, h3]
  by_cases hp : prsM s 21 l = some []
  · have hl : 1 ≤ l.length := by have := (prs_drop hp).1; simp at this; omega
    simp [hp, hl]
  · simp [hp]
end Go.Proofs
