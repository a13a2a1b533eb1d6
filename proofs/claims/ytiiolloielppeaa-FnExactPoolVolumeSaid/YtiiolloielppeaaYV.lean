/- Contracts of functions, facts of types, or the plain law behind one statement (own work): YV. Conditions: those told in each theorem. -/
import Derived.Test.YtiiolloielppeaaYO
import Derived.Test.YtiiolloielppeaaP1
set_option linter.all false
set_option linter.unusedSimpArgs false
set_option linter.unusedVariables false
set_option maxRecDepth 4000
namespace Go.Proofs
open Go Go.V
/- The volume of a pool: sums from nothing, plain. -/
def addL (o : Option Dy) (l : List Dy) : Option Dy := l.foldl accM o
theorem addL_none (l : List Dy) : addL none l = none := by
  induction l with
  | nil => rfl
  | cons x l ih => exact ih
theorem addL_take {o : Option Dy} {l : List Dy} {i : Nat} {x : Dy} (h : l[i]? = some x) : addL o (l.take (i + 1)) = accM (addL o (l.take i)) x := by
  unfold addL
  rw [List.take_add_one, h, List.foldl_append]
  rfl
theorem addL_stop {o : Option Dy} {l : List Dy} {i : Nat} (h : addL o (l.take i) = none) : addL o l = none := by
  have e : l = l.take i ++ l.drop i := (List.take_append_drop i l).symm
  have : addL o l = addL (addL o (l.take i)) (l.drop i) := by
    unfold addL
    rw [← List.foldl_append, ← e]
  rw [this, h, addL_none]
theorem addL_good {o : Option Dy} (ho : GoodO o) (l : List Dy) (i : Nat) : GoodO (addL o (l.take i)) := by
  induction i with
  | zero => rw [List.take_zero]; exact ho
  | succ i ih =>
    by_cases c : i < l.length
    · obtain ⟨x, hx⟩ := get_some c
      rw [addL_take hx]
      exact accM_good
    · rw [List.take_of_length_le (by omega)] at ih ⊢
      exact ih
theorem sumM_zero {d : Dy} (h : DyG d) : sumM' ⟨0, 0⟩ d = some d := by
  have hk : kM ⟨0, 0⟩ d = d.k.toNat := by unfold kM; simp
  have e : upM ⟨0, 0⟩ d.k.toNat + upM d d.k.toNat = d.n := by unfold upM; simp
  unfold sumM'
  rw [hk, e, makeM_self h]
  by_cases c : d.n = 0
  · rw [if_pos c]
    obtain ⟨a, b⟩ := d
    obtain ⟨h1, h2, h3, h4, h5⟩ := h
    simp only at *
    subst c
    rcases h5 with h5 | h5
    · rw [h5]
    · omega
  · rw [if_neg c]
theorem addL_cons {x : Dy} {l : List Dy} (h : DyG x) : addL (some ⟨0, 0⟩) (x :: l) = addL (some x) l := by
  show addL (accM (some ⟨0, 0⟩) x) l = _
  rw [show accM (some ⟨0, 0⟩) x = some x from sumM_zero h]
/-- The boxes of the taken. -/
def takenVs (l : List Tkn) : List Dy := l.map fun t => volM t.box
def poolVs (x : Pl) : List Dy := (volsR (lists x.work)).1 ++ takenVs x.taken
def poolVM (x : Pl) (s : Int) : Option Dy := if poolM x s = true ∧ (volsR (lists x.work)).2 = true then addL (some ⟨0, 0⟩) (poolVs x) else none
theorem takenM_box {s : Int} : ∀ {l : List Tkn} {p : Int}, takenM s p l = true → ∀ t ∈ l, boxM t.box = true := by
  intro l
  induction l with
  | nil => intro p _ t ht; cases ht
  | cons u l ih =>
    intro p h t ht
    simp only [takenM, Bool.and_eq_true] at h
    rcases List.mem_cons.1 ht with rfl | ht
    · exact h.1.1.2.1
    · exact ih h.2 t ht
theorem volsR_len {ls : List (List Bx)} (h : (volsR ls).2 = true) : (volsR ls).1.length = ls.length := by
  unfold volsR at h ⊢
  split at h
  · rename_i c; rw [if_pos c]; simp
  · cases h
theorem volsR_good' (ls : List (List Bx)) : ∀ d ∈ (volsR ls).1, DyG d := by
  intro d hd
  unfold volsR at hd
  split at hd
  · simp only [List.mem_map] at hd
    obtain ⟨l, _, rfl⟩ := hd
    have := (sumL_good good00 l l.length).get
    rw [List.take_length] at this
    exact this
  · simp at hd
theorem poolVs_good {x : Pl} {s : Int} (h : takenM s 0 x.taken = true) : ∀ d ∈ poolVs x, DyG d := by
  intro d hd
  unfold poolVs takenVs at hd
  rcases List.mem_append.1 hd with hd | hd
  · exact volsR_good' _ d hd
  · simp only [List.mem_map] at hd
    obtain ⟨t, ht, rfl⟩ := hd
    exact (volM_eq (takenM_box h t ht)).2
end Go.Proofs
