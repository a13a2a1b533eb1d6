/- Contracts of functions, facts of types, or the plain law behind one statement (own work): Q2. Conditions: those told in each theorem. -/
import Derived.Test.YtiiolloielppeaaGreatDoorPS
import Derived.Lib.AtoiAllCases
import Derived.Lib.IndexMore
set_option linter.all false
set_option linter.unusedSimpArgs false
set_option linter.unusedVariables false
set_option maxRecDepth 4000
namespace Go.Proofs
open Go Go.V
/- Numbers read back, texts cut and split (plain). -/
def isDig (c : UInt8) : Bool := decide (48 ≤ c.toNat ∧ c.toNat ≤ 57)
/-- The digits of a text, from the left; nothing where a letter is none. -/
def digV : Nat → List UInt8 → Option Nat
  | a, [] => some a
  | a, c :: r => if isDig c = true then digV (10 * a + (c.toNat - 48)) r else none
theorem digV_app (a : Nat) (l m : List UInt8) : digV a (l ++ m) = (digV a l).bind fun b => digV b m := by
  induction l generalizing a with
  | nil => rfl
  | cons c r ih =>
    rw [List.cons_append]
    simp only [digV]
    by_cases h : isDig c = true
    · rw [if_pos h, if_pos h, ih]
    · rw [if_neg h, if_neg h]; rfl
theorem dig_nat {d : Nat} (h : d < 10) : (UInt8.ofNat (48 + d)).toNat = 48 + d := by
  rw [UInt8.toNat_ofNat']; omega
theorem dig_is {d : Nat} (h : d < 10) : isDig (UInt8.ofNat (48 + d)) = true := by
  unfold isDig; rw [dig_nat h]; simp; omega
theorem digV_one (a : Nat) {d : Nat} (h : d < 10) : digV a [UInt8.ofNat (48 + d)] = some (10 * a + d) := by
  simp only [digV]
  rw [if_pos (dig_is h), dig_nat h]
  congr 2; omega
theorem digV_dec (n : Nat) : digV 0 (Lib.decDigits n) = some n := by
  induction n using Nat.strongRecOn with
  | _ n ih =>
    by_cases c : n < 10
    · rw [Lib.decDigits, dif_pos c, digV_one 0 c]; simp
    · rw [Lib.decDigits, dif_neg c, digV_app, ih (n / 10) (by omega)]
      show digV (n / 10) _ = _
      rw [digV_one _ (by omega)]
      congr 1; omega
theorem dec_dig (n : Nat) : (Lib.decDigits n).all isDig = true := by
  induction n using Nat.strongRecOn with
  | _ n ih =>
    by_cases c : n < 10
    · rw [Lib.decDigits, dif_pos c, List.all_cons, dig_is c]; rfl
    · rw [Lib.decDigits, dif_neg c, List.all_append, ih (n / 10) (by omega), List.all_cons, dig_is (show n % 10 < 10 by omega)]; rfl
theorem dec_ne (n : Nat) : Lib.decDigits n ≠ [] := by
  by_cases c : n < 10
  · rw [Lib.decDigits, dif_pos c]; simp
  · rw [Lib.decDigits, dif_neg c]; simp
theorem dec_head0 (n : Nat) : ∀ r, Lib.decDigits n = 48 :: r → r = [] := by
  induction n using Nat.strongRecOn with
  | _ n ih =>
    intro r h
    by_cases c : n < 10
    · rw [Lib.decDigits, dif_pos c] at h
      simp at h; exact h.2
    · rw [Lib.decDigits, dif_neg c] at h
      cases hd : Lib.decDigits (n / 10) with
      | nil => exact absurd hd (dec_ne _)
      | cons x y =>
        rw [hd, List.cons_append] at h
        simp only [List.cons.injEq] at h
        obtain ⟨rfl, _⟩ := h
        obtain rfl := ih (n / 10) (by omega) y hd
        have h2 := digV_dec (n / 10)
        rw [hd] at h2
        simp [digV, isDig] at h2
        omega
/-- As Go's ParseUint goes on. -/
theorem parse_dig : ∀ (l : List UInt8) (a b : Nat), digV a l = some b → b < 1000000000 → Lib.parseUint10 a l = .ok b
  | [], a, b, h, _ => by simp only [digV] at h; cases h; rfl
  | c :: r, a, b, h, hb => by
    simp only [digV] at h
    by_cases hc : isDig c = true
    · rw [if_pos hc] at h
      have hle : ∀ (l : List UInt8) (a b : Nat), digV a l = some b → a ≤ b := by
        intro l
        induction l with
        | nil => intro a b h; simp only [digV] at h; cases h; exact Nat.le_refl _
        | cons x y ih =>
          intro a b h
          simp only [digV] at h
          split at h
          · have := ih _ _ h; omega
          · cases h
      have hl := hle _ _ _ h
      have hd := hc
      unfold isDig at hd
      simp only [decide_eq_true_eq] at hd
      have e : 10 * a + (c.toNat - 48) = a * 10 + (c.toNat - 48) := by omega
      simp only [Lib.parseUint10]
      rw [if_pos hd, if_neg (by omega), if_neg (by omega), ← e]
      exact parse_dig r _ _ h hb
    · rw [if_neg hc] at h; cases h
theorem atoi_nat (n : Nat) (h : n < 1000000000) : Lib.parseMag (Lib.decDigits n) = .ok n := by
  unfold Lib.parseMag
  rw [if_neg (dec_ne n)]
  exact parse_dig _ _ _ (digV_dec n) h
theorem dec_cons (n : Nat) : ∃ c r, Lib.decDigits n = c :: r ∧ 48 ≤ c.toNat ∧ c.toNat ≤ 57 := by
  cases hd : Lib.decDigits n with
  | nil => exact absurd hd (dec_ne _)
  | cons c r =>
    have := dec_dig n
    rw [hd, List.all_cons, Bool.and_eq_true] at this
    have h1 := this.1
    unfold isDig at h1
    simp only [decide_eq_true_eq] at h1
    exact ⟨c, r, rfl, h1.1, h1.2⟩
theorem atoi_itoa {n : Int} (h : n.natAbs < 1000000000) : Lib.atoiAll (Lib.itoa n) = .ok n := by
  unfold Lib.itoa
  by_cases c : n < 0
  · rw [if_pos c]
    have e45 : (45 : UInt8).toNat = 45 := rfl
    simp only [Lib.atoiAll, e45]
    rw [if_pos (.inr trivial), atoi_nat _ h]
    simp only [not_true_eq_false, false_and, ↓reduceIte, true_and]
    rw [if_neg (by omega)]
    congr 1; omega
  · rw [if_neg c]
    obtain ⟨x, r, hd, h1, h2⟩ := dec_cons n.toNat
    have hm := atoi_nat n.toNat (by omega)
    rw [hd] at hm ⊢
    simp only [Lib.atoiAll]
    rw [if_neg (by omega), hm]
    have hx : ¬ x.toNat = 45 := by omega
    simp only [hx, not_false_eq_true, true_and, false_and, ↓reduceIte]
    rw [if_neg (by omega)]
    congr 1; omega
theorem itoa_no {n : Int} {c : UInt8} (h1 : isDig c = false) (h2 : c ≠ 45) : c ∉ Lib.itoa n := by
  have hd : ∀ m, c ∉ Lib.decDigits m := fun m hm => by
    have := List.all_eq_true.1 (dec_dig m) c hm
    rw [h1] at this; cases this
  unfold Lib.itoa
  split
  · intro h
    rcases List.mem_cons.1 h with h | h
    · exact h2 h
    · exact hd _ h
  · exact hd _
/-- The first place of a text. -/
theorem index_first {c : UInt8} {t b : List UInt8} : ∀ {a : List UInt8}, c ∉ a → Lib.index (a ++ (c :: t ++ b)) (c :: t) = (a.length : Int)
  | [], _ => by
    rw [List.nil_append, List.cons_append]
    simp only [Lib.index]
    rw [if_pos (by simp)]; rfl
  | x :: a, h => by
    have ih := index_first (c := c) (t := t) (b := b) (a := a) (fun k => h (List.mem_cons_of_mem _ k))
    have hx : ¬ c = x := fun k => h (by simp [k])
    rw [List.cons_append]
    simp only [Lib.index, ih]
    rw [if_neg (by simp [List.isPrefixOf, hx])]
    have : ((a.length : Int) == -1) = false := beq_eq_false_iff_ne.2 (by omega)
    rw [this]; simp
def cutB (s sep : List UInt8) : List UInt8 × List UInt8 := ((Lib.cut s sep).1, (Lib.cut s sep).2.1)
theorem cut_at {a b t : List UInt8} {c : UInt8} (h : c ∉ a) : cutB (a ++ (c :: t ++ b)) (c :: t) = (a, b) := by
  unfold cutB Lib.cut
  rw [index_first h, if_pos (by omega)]
  have e : ((a.length : Int)).toNat = a.length := by omega
  simp only [e, List.take_left]
  rw [show a ++ (c :: t ++ b) = (a ++ (c :: t)) ++ b by simp, List.drop_left' (by simp)]
/-- Words behind a letter. -/
theorem split_words {c : UInt8} (f : Int → List UInt8) (hf : ∀ n, c ∉ f n) : ∀ (l : List Int) (a : List UInt8), c ∉ a → splitL c (a ++ l.flatMap fun n => c :: f n) = a :: l.map f
  | [], a, h => by simp; exact splitL_no h
  | n :: l, a, h => by
    rw [List.flatMap_cons, List.cons_append, splitL_app _ h, split_words f hf l (f n) (hf n)]
    rfl
theorem split_lines {c : UInt8} : ∀ (l : List (List UInt8)), (∀ x ∈ l, c ∉ x) → splitL c (l.flatMap fun x => x ++ [c]) = l ++ [[]]
  | [], _ => rfl
  | x :: l, h => by
    rw [List.flatMap_cons, List.append_assoc, List.cons_append, List.nil_append, splitL_app _ (h x (by simp)), split_lines l (fun y hy => h y (by simp [hy]))]
    rfl
theorem trim_last {l : List UInt8} {c : UInt8} : Lib.trimSuffix (l ++ [c]) [c] = l := by
  unfold Lib.trimSuffix Lib.hasSuffix
  rw [if_pos (by rw [List.isSuffixOf_iff_suffix]; exact ⟨l, rfl⟩)]
  simp
theorem split_lines' {c : UInt8} (x : List UInt8) (l : List (List UInt8)) (hx : c ∉ x) (h : ∀ y ∈ l, c ∉ y) : splitL c (Lib.trimSuffix ((x :: l).flatMap fun y => y ++ [c]) [c]) = x :: l := by
  have key : ∀ (l : List (List UInt8)) (x : List UInt8), c ∉ x → (∀ y ∈ l, c ∉ y) → ∃ r, (x :: l).flatMap (fun y => y ++ [c]) = r ++ [c] ∧ splitL c r = x :: l := by
    intro l
    induction l with
    | nil => intro x hx _; exact ⟨x, by simp, splitL_no hx⟩
    | cons y l ih =>
      intro x hx hl
      obtain ⟨r, h1, h2⟩ := ih y (hl y (by simp)) (fun z hz => hl z (by simp [hz]))
      refine ⟨x ++ c :: r, ?_, ?_⟩
      · rw [List.flatMap_cons, h1]; simp
      · rw [splitL_app _ hx, h2]
  obtain ⟨r, h1, h2⟩ := key l x hx h
  rw [h1, trim_last, h2]
end Go.Proofs
