/- Contracts of functions, facts of types, or the plain law behind one statement (own work): JP. Conditions: those told in each theorem. -/
import Derived.Test.YtkapgaajomaheaaGreatDoorLM
import Derived.Test.YtkapgaajomaheaaGreatDoorWTL
set_option linter.all false
set_option linter.unusedSimpArgs false
set_option linter.unusedVariables false
set_option maxRecDepth 4000
namespace Go.Proofs
open Go Go.V

/- Lines of marks: the plain law. -/
def splitL (c : UInt8) : List UInt8 → List (List UInt8)
  | [] => [[]]
  | x :: l => if x = c then [] :: splitL c l else
    match splitL c l with
    | [] => [[x]]
    | p :: r => (x :: p) :: r
theorem splitL_ne (c : UInt8) (l : List UInt8) : splitL c l ≠ [] := by
  cases l with
  | nil => simp [splitL]
  | cons x l =>
    simp only [splitL]
    split
    · simp
    · split <;> simp
def snocL (x : UInt8) : List (List UInt8) → List (List UInt8)
  | [] => []
  | [p] => [p ++ [x]]
  | p :: q :: r => p :: snocL x (q :: r)
theorem splitL_snoc {c x : UInt8} (h : x ≠ c) : ∀ l : List UInt8, splitL c (l ++ [x]) = snocL x (splitL c l)
  | [] => by simp [splitL, h, snocL]
  | y :: l => by
    have ih := splitL_snoc h l
    rw [List.cons_append]
    simp only [splitL]
    by_cases k : y = c
    · rw [if_pos k, if_pos k, ih]
      cases hs : splitL c l with
      | nil => exact absurd hs (splitL_ne _ _)
      | cons p r => rfl
    · rw [if_neg k, if_neg k, ih]
      cases hs : splitL c l with
      | nil => exact absurd hs (splitL_ne _ _)
      | cons p r =>
        cases r with
        | nil => rfl
        | cons q r => rfl
theorem splitL_no {c : UInt8} : ∀ {l : List UInt8}, c ∉ l → splitL c l = [l]
  | [], _ => rfl
  | x :: l, h => by
    simp only [splitL]
    rw [if_neg (fun e => h (by simp [e])), splitL_no (fun k => h (by simp [k]))]
theorem splitL_app {c : UInt8} : ∀ {a : List UInt8} (b : List UInt8), c ∉ a → splitL c (a ++ c :: b) = a :: splitL c b
  | [], b, _ => by simp [splitL]
  | x :: a, b, h => by
    rw [List.cons_append]
    simp only [splitL]
    rw [if_neg (fun e => h (by simp [e])), splitL_app b (fun k => h (by simp [k]))]
def kindL (c : List UInt8) : Int := if c = [102] then 1 else if c = [104] then 2 else if c = [111] then 3 else 0
def parseI (k : Nat) (line : List UInt8) : Option Mk :=
  match splitL 58 line with
  | [_, p, c, _] => if c.length = 1 then (if markM ⟨bL p, kindL c⟩ = true ∧ lineB k ⟨bL p, kindL c⟩ = bL line then some ⟨bL p, kindL c⟩ else none) else none
  | _ => none
def parseS (k : Nat) (s : List UInt8) : Option Mk :=
  match splitL 58 s with
  | [_, p, c, _] => if markM ⟨bL p, kindL c⟩ = true ∧ lineB k ⟨bL p, kindL c⟩ = bL (s ++ [10]) then some ⟨bL p, kindL c⟩ else none
  | _ => none
theorem kindL_len {c : List UInt8} (h : ¬ c.length = 1) : kindL c = 0 := by
  unfold kindL
  rw [if_neg (by rintro rfl; exact h rfl), if_neg (by rintro rfl; exact h rfl), if_neg (by rintro rfl; exact h rfl)]
theorem markM_zero (p : ByteArray) : markM ⟨p, 0⟩ = false := by unfold markM; simp
theorem parse_eq (k : Nat) (s : List UInt8) : parseI k (s ++ [10]) = parseS k s := by
  unfold parseI parseS
  rw [splitL_snoc (by decide)]
  match hs : splitL 58 s with
  | [] => rfl
  | [_] => rfl
  | [_, _] => rfl
  | [_, _, _] => rfl
  | [a, p, c, d] =>
    simp only [snocL]
    by_cases hc : c.length = 1
    · rw [if_pos hc]
    · rw [if_neg hc, kindL_len hc, markM_zero]; simp
  | _ :: _ :: _ :: _ :: _ :: r => cases r <;> rfl
theorem parseS_some {k : Nat} {s : List UInt8} {m : Mk} (h : parseS k s = some m) : markM m = true ∧ lineB k m = bL (s ++ [10]) := by
  unfold parseS at h
  split at h
  · split at h
    · rename_i hh; cases h; exact hh
    · cases h
  · cases h

/-- The first line, without its newline, and the rest. -/
def cutL : List UInt8 → Option (List UInt8 × List UInt8)
  | [] => none
  | x :: l => if x = 10 then some ([], l) else (cutL l).map fun p => (x :: p.1, p.2)
theorem cutL_some : ∀ {s a r : List UInt8}, cutL s = some (a, r) → s = a ++ 10 :: r ∧ 10 ∉ a
  | [], _, _, h => by cases h
  | x :: l, a, r, h => by
    simp only [cutL] at h
    split at h
    · rename_i e; cases h; subst e; exact ⟨rfl, by simp⟩
    · rename_i e
      cases hc : cutL l with
      | none => rw [hc] at h; cases h
      | some p =>
        rw [hc] at h
        obtain ⟨p1, p2⟩ := p
        cases h
        obtain ⟨h1, h2⟩ := cutL_some hc
        exact ⟨by rw [h1]; rfl, by simp [h2]; exact fun k => e k.symm⟩
theorem cutL_app : ∀ {a : List UInt8} (r : List UInt8), 10 ∉ a → cutL (a ++ 10 :: r) = some (a, r)
  | [], r, _ => by simp [cutL]
  | x :: a, r, h => by
    rw [List.cons_append]
    simp only [cutL]
    rw [if_neg (fun e => h (by simp [e])), cutL_app r (fun k => h (by simp [k]))]; rfl
theorem cutL_none : ∀ {s : List UInt8}, cutL s = none ↔ 10 ∉ s
  | [] => by simp [cutL]
  | x :: l => by
    simp only [cutL]
    by_cases e : x = 10
    · simp [e]
    · rw [if_neg e, Option.map_eq_none_iff, cutL_none]
      simp [fun k : (10 : UInt8) = x => e k.symm]
      exact fun _ k => e k.symm
def readM (k : Nat) (s : List UInt8) : List Mk × Nat :=
  if h : k < 40 then
    match cutL s with
    | none => ([], 0)
    | some p =>
      match parseS k p.1 with
      | none => ([], 0)
      | some m => (m :: (readM (k + 1) p.2).1, p.1.length + 1 + (readM (k + 1) p.2).2)
  else ([], 0)
termination_by 40 - k
theorem readM_stop {k : Nat} {s : List UInt8} (h : ¬ k < 40) : readM k s = ([], 0) := by rw [readM, dif_neg h]
theorem readM_none {k : Nat} {s : List UInt8} (h : cutL s = none) : readM k s = ([], 0) := by
  rw [readM]; split
  · rw [h]
  · rfl
theorem readM_bad {k : Nat} {s a r : List UInt8} (h : cutL s = some (a, r)) (hp : parseS k a = none) : readM k s = ([], 0) := by
  rw [readM]; split
  · rw [h]; simp only [hp]
  · rfl
theorem readM_some {k : Nat} {s a r : List UInt8} {m : Mk} (hk : k < 40) (h : cutL s = some (a, r)) (hp : parseS k a = some m) : readM k s = (m :: (readM (k + 1) r).1, a.length + 1 + (readM (k + 1) r).2) := by
  rw [readM, dif_pos hk, h]; simp only [hp]
theorem readM_len (n : Nat) : ∀ (k : Nat) (s : List UInt8), 40 - k = n → (readM k s).1.length ≤ 40 - k := by
  induction n with
  | zero => intro k s h; rw [readM_stop (by omega)]; simp
  | succ n ih =>
    intro k s h
    cases hc : cutL s with
    | none => rw [readM_none hc]; simp
    | some p =>
      obtain ⟨a, r⟩ := p
      cases hp : parseS k a with
      | none => rw [readM_bad hc hp]; simp
      | some m =>
        rw [readM_some (by omega) hc hp]
        have := ih (k + 1) r (by omega)
        simp only [List.length_cons]; omega
theorem readM_mark (n : Nat) : ∀ (k : Nat) (s : List UInt8), 40 - k = n → ∀ m ∈ (readM k s).1, markM m = true := by
  induction n with
  | zero => intro k s h; rw [readM_stop (by omega)]; simp
  | succ n ih =>
    intro k s h
    cases hc : cutL s with
    | none => rw [readM_none hc]; simp
    | some p =>
      obtain ⟨a, r⟩ := p
      cases hp : parseS k a with
      | none => rw [readM_bad hc hp]; simp
      | some m =>
        rw [readM_some (by omega) hc hp]
        intro x hx
        rcases List.mem_cons.1 hx with rfl | hx
        · exact (parseS_some hp).1
        · exact ih (k + 1) r (by omega) x hx
theorem line_short {k : Nat} {m : Mk} (hk : k < 40) (hm : markM m = true) : (lineB k m).size ≤ 20 := by
  have h1 : (decB k).size ≤ 2 := by
    have := dec_len 2 k (by have : (10 : Nat) ^ 2 = 100 := by decide
                            omega) (by decide)
    have e : (decB k).size = (Lib.decDigits k).length := bL_size _
    omega
  have h2 := jsumM_lt (show k ≤ 60000 by omega) (lineS k m).data.toList
  have h3 : (decB (jsumM k (lineS k m).data.toList)).size ≤ 5 := by
    have := dec_len 5 (jsumM k (lineS k m).data.toList) (by have : (10 : Nat) ^ 5 = 100000 := by decide
                                                            omega) (by decide)
    have e : (decB (jsumM k (lineS k m).data.toList)).size = (Lib.decDigits (jsumM k (lineS k m).data.toList)).length := bL_size _
    omega
  have h4 : m.path.size ≤ 8 := by
    unfold markM pathM at hm
    simp at hm
    omega
  have h5 : (fhoB m.kind).size ≤ 1 := by
    unfold markM at hm
    simp at hm
    unfold fhoB fho
    rw [ByteArray.size_extract]
    omega
  have h6 := col_size
  have ez : (⟨#[10]⟩ : ByteArray).size = 1 := rfl
  unfold lineB
  rw [size_append, size_append, ez]
  have : (lineS k m).size ≤ 14 := by
    unfold lineS
    rw [size_append, size_append, size_append, size_append, size_append]; omega
  omega
theorem readM_size (n : Nat) : ∀ (k : Nat) (s : List UInt8), 40 - k = n → (readM k s).2 ≤ 20 * (40 - k) ∧ (readM k s).2 ≤ s.length := by
  induction n with
  | zero => intro k s h; rw [readM_stop (by omega)]; simp
  | succ n ih =>
    intro k s h
    cases hc : cutL s with
    | none => rw [readM_none hc]; simp
    | some p =>
      obtain ⟨a, r⟩ := p
      cases hp : parseS k a with
      | none => rw [readM_bad hc hp]; simp
      | some m =>
        rw [readM_some (by omega) hc hp]
        have := ih (k + 1) r (by omega)
        obtain ⟨h1, h2⟩ := parseS_some hp
        have h3 := line_short (show k < 40 by omega) h1
        rw [h2, bL_size, List.length_append] at h3
        obtain ⟨h4, _⟩ := cutL_some hc
        have h5 := congrArg List.length h4
        simp only [List.length_append, List.length_cons, List.length_nil] at h3 h5
        simp only []
        omega
theorem cutL_more {s a r : List UInt8} (t : List UInt8) (h : cutL s = some (a, r)) : cutL (s ++ t) = some (a, r ++ t) := by
  obtain ⟨h1, h2⟩ := cutL_some h
  rw [h1, List.append_assoc, List.cons_append]
  exact cutL_app _ h2
theorem readM_app (n : Nat) : ∀ (k : Nat) (s t : List UInt8), 40 - k = n → (readM k s).2 = s.length →
    readM k (s ++ t) = ((readM k s).1 ++ (readM (k + (readM k s).1.length) t).1, s.length + (readM (k + (readM k s).1.length) t).2) := by
  induction n with
  | zero =>
    intro k s t h hs
    rw [readM_stop (s := s) (by omega)] at hs ⊢
    have : s = [] := List.eq_nil_of_length_eq_zero hs.symm
    subst this
    simp
  | succ n ih =>
    intro k s t h hs
    cases hc : cutL s with
    | none =>
      rw [readM_none hc] at hs ⊢
      have : s = [] := List.eq_nil_of_length_eq_zero hs.symm
      subst this
      simp
    | some p =>
      obtain ⟨a, r⟩ := p
      cases hp : parseS k a with
      | none =>
        rw [readM_bad hc hp] at hs
        have : s = [] := List.eq_nil_of_length_eq_zero hs.symm
        subst this
        cases hc
      | some m =>
        rw [readM_some (by omega) hc hp] at hs ⊢
        rw [readM_some (by omega) (cutL_more t hc) hp]
        obtain ⟨h4, _⟩ := cutL_some hc
        have h5 := congrArg List.length h4
        simp only [List.length_append, List.length_cons, List.length_nil] at h5 hs
        have := ih (k + 1) r t (by omega) (by omega)
        rw [this]
        have e : k + 1 + (readM (k + 1) r).1.length = k + ((readM (k + 1) r).1.length + 1) := by omega
        simp only [List.cons_append, List.length_cons, e, Prod.mk.injEq, true_and]
        omega
/-- The marks of a journal: what impl tells. -/
def marksL (s p : List UInt8) : Option (List Mk) :=
  if (readM 0 s).2 = s.length ∧ (readM (readM 0 s).1.length p).2 = p.length then some ((readM 0 s).1 ++ (readM (readM 0 s).1.length p).1) else none
theorem good_iff (s p : List UInt8) : ((s.length ≤ 2000 ∧ p.length ≤ 2000) ∧ (readM 0 (s ++ p)).2 = (s ++ p).length ∧ (readM 0 s).2 = s.length) ↔ ((readM 0 s).2 = s.length ∧ (readM (readM 0 s).1.length p).2 = p.length) := by
  constructor
  · rintro ⟨_, h1, h2⟩
    have := readM_app 40 0 s p rfl h2
    rw [Nat.zero_add] at this
    rw [this, List.length_append] at h1
    simp only [] at h1
    exact ⟨h2, by omega⟩
  · rintro ⟨h1, h2⟩
    have h3 := readM_app 40 0 s p rfl h1
    rw [Nat.zero_add] at h3
    have h4 := readM_size 40 0 s rfl
    have h5 := readM_size (40 - (readM 0 s).1.length) (readM 0 s).1.length p rfl
    refine ⟨⟨by omega, by omega⟩, ?_, h1⟩
    rw [h3, List.length_append]
    simp only []
    omega
theorem all_marks {s p : List UInt8} {l : List Mk} (h : marksL s p = some l) : (readM 0 (s ++ p)).1 = l := by
  unfold marksL at h
  split at h
  · rename_i hh
    cases h
    have h3 := readM_app 40 0 s p rfl hh.1
    rw [Nat.zero_add] at h3
    rw [h3]
  · cases h
theorem marksL_len {s p : List UInt8} {l : List Mk} (h : marksL s p = some l) : l.length ≤ 40 ∧ s.length ≤ 2000 ∧ p.length ≤ 2000 := by
  have h1 := all_marks h
  have h2 := readM_len 40 0 (s ++ p) rfl
  unfold marksL at h
  split at h
  · rename_i hh
    have := (good_iff s p).2 hh
    rw [h1] at h2
    exact ⟨by omega, this.1.1, this.1.2⟩
  · cases h
theorem marksL_mark {s p : List UInt8} {l : List Mk} (h : marksL s p = some l) : ∀ m ∈ l, markM m = true := by
  rw [← all_marks h]
  exact readM_mark 40 0 (s ++ p) rfl
end Go.Proofs
