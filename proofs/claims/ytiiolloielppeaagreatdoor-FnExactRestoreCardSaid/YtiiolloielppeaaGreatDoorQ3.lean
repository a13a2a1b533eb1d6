/- Contracts of functions, facts of types, or the plain law behind one statement (own work): Q3. Conditions: those told in each theorem. -/
import Derived.Test.YtiiolloielppeaaGreatDoorQ2
import Derived.Test.YtiiolloielppeaaGreatDoorWTM
set_option linter.all false
set_option linter.unusedSimpArgs false
set_option linter.unusedVariables false
set_option maxRecDepth 4000
namespace Go.Proofs
open Go Go.V
/- What both parsers of a box read, and that it is the one valid box with that text (plain). -/
def atoiO (l : List UInt8) : Option Int := match Lib.atoiAll l with | .ok v => some v | _ => none
def atoiN (l : List UInt8) : Int := match Lib.atoiAll l with | .ok v => v | .range => Lib.atoiSat l | _ => 0
theorem atoiO_itoa {n : Int} (h : n.natAbs < 1000000000) : atoiO (Lib.itoa n) = some n := by unfold atoiO; rw [atoi_itoa h]
theorem atoiN_itoa {n : Int} (h : n.natAbs < 1000000000) : atoiN (Lib.itoa n) = n := by unfold atoiN; rw [atoi_itoa h]
theorem atoiN_in (l : List UInt8) : inI64 (atoiN l) := by
  unfold atoiN
  cases h : Lib.atoiAll l
  · rename_i v
    have := Lib.atoiAll_bounds h
    simp only []
    exact ⟨by omega, by omega⟩
  · simp only []
    exact ⟨by decide, by decide⟩
  · simp only []
    unfold Lib.atoiSat
    split <;> exact ⟨by decide, by decide⟩
def accF (p : List Int × List Int) (x : Int) : List Int × List Int := if p.1.length = p.2.length then (p.1 ++ [x], p.2) else (p.1, p.2 ++ [x])
def accP (l : List Int) : List Int × List Int := l.foldl accF ([], [])
theorem accP_snoc (l : List Int) (x : Int) : accP (l ++ [x]) = accF (accP l) x := by
  unfold accP; rw [List.foldl_append]; rfl
theorem accF_len : ∀ (l : List Int) (p : List Int × List Int), (p.1.length = p.2.length ∨ p.1.length = p.2.length + 1) →
    (l.foldl accF p).1.length + (l.foldl accF p).2.length = p.1.length + p.2.length + l.length ∧ ((l.foldl accF p).1.length = (l.foldl accF p).2.length ∨ (l.foldl accF p).1.length = (l.foldl accF p).2.length + 1)
  | [], p, h => ⟨rfl, h⟩
  | x :: l, p, h => by
    have hp : ((accF p x).1.length = (accF p x).2.length ∨ (accF p x).1.length = (accF p x).2.length + 1) ∧ (accF p x).1.length + (accF p x).2.length = p.1.length + p.2.length + 1 := by
      unfold accF
      split
      · simp; omega
      · simp; omega
    have := accF_len l (accF p x) hp.1
    rw [List.foldl_cons]
    refine ⟨?_, this.2⟩
    rw [this.1, hp.2, List.length_cons]; omega
theorem accP_len (l : List Int) : (accP l).1.length + (accP l).2.length = l.length ∧ ((accP l).1.length = (accP l).2.length ∨ (accP l).1.length = (accP l).2.length + 1) := by
  have := accF_len l ([], []) (.inl rfl)
  unfold accP
  simpa using this
theorem accF_pairs : ∀ (z : List (Int × Int)) (p : List Int × List Int), p.1.length = p.2.length → (z.flatMap fun q => [q.1, q.2]).foldl accF p = (p.1 ++ z.map (·.1), p.2 ++ z.map (·.2))
  | [], p, h => by simp
  | q :: z, p, h => by
    rw [List.flatMap_cons, List.foldl_append]
    have e : [q.1, q.2].foldl accF p = (p.1 ++ [q.1], p.2 ++ [q.2]) := by
      show accF (accF p q.1) q.2 = _
      unfold accF
      rw [if_pos h]
      simp only [List.length_append, List.length_cons, List.length_nil]
      rw [if_neg (by omega)]
    rw [e, accF_pairs z _ (by simp; omega)]
    simp
def numsL (x : Bx) : List Int := (x.low.zip x.high).flatMap fun q => [q.1, q.2]
theorem accP_nums {x : Bx} (h : x.high.length = x.low.length) : accP (numsL x) = (x.low, x.high) := by
  unfold accP numsL
  rw [accF_pairs _ _ rfl, List.map_fst_zip (by omega), List.map_snd_zip (by omega)]
  simp
def spW (n : Int) : List UInt8 := 32 :: Lib.itoa n
theorem boxL_nums (x : Bx) : boxL x = (Lib.itoa x.k ++ [58]) ++ (numsL x).flatMap spW := by
  unfold boxL numsL
  rw [List.flatMap_assoc]
  congr 1
  have : pairT = fun q : Int × Int => [q.1, q.2].flatMap spW := by
    funext q
    simp [pairT, spW]
  rw [this]
theorem nums_small {x : Bx} (h : boxM x = true) : ∀ n ∈ numsL x, n.natAbs ≤ 2048 := by
  intro n hn
  obtain ⟨_, _, _, h4⟩ := box_small h
  unfold numsL at hn
  rw [List.mem_flatMap] at hn
  obtain ⟨q, hq, hn⟩ := hn
  have := h4 q hq
  simp at hn
  rcases hn with rfl | rfl <;> omega
theorem boxM_low {x : Bx} (h : boxM x = true) : 1 ≤ x.low.length ∧ x.low.length ≤ 3 := by
  unfold boxM at h
  simp only [Bool.and_eq_true, decide_eq_true_eq] at h
  omega
theorem nums_len {x : Bx} (h : boxM x = true) : (numsL x).length = 2 * x.low.length := by
  obtain ⟨_, _, h3, _⟩ := box_small h
  unfold numsL
  rw [List.length_flatMap]
  have : (x.low.zip x.high).map (fun q : Int × Int => ([q.1, q.2] : List Int).length) = List.replicate (x.low.zip x.high).length 2 := by
    rw [List.eq_replicate_iff]; simp; intros; omega
  rw [this, List.sum_replicate_nat, List.length_zip]; omega
theorem map_back (f : List UInt8 → Int) {l : List Int} (h : ∀ n ∈ l, f (Lib.itoa n) = n) : (l.map Lib.itoa).map f = l := by
  rw [List.map_map]
  conv => rhs; rw [← List.map_id l]
  exact List.map_congr_left fun n hn => h n hn
theorem no32 (n : Int) : (32 : UInt8) ∉ Lib.itoa n := itoa_no (by decide) (by decide)
theorem no58 (n : Int) : (58 : UInt8) ∉ Lib.itoa n := itoa_no (by decide) (by decide)
/-- The program's parser of a box. -/
def wordsI (s : List UInt8) : List (List UInt8) := splitL 32 (cutB s [58, 32]).2
def boxIb (s : List UInt8) : Bx := ⟨atoiN (cutB s [58, 32]).1, (accP ((wordsI s).map atoiN)).1, (accP ((wordsI s).map atoiN)).2⟩
def okW (w : List UInt8) : Bool := (atoiO w).isSome
def boxI (s : List UInt8) : Option Bx := if (wordsI s).all okW = true ∧ okW (cutB s [58, 32]).1 = true ∧ boxM (boxIb s) = true ∧ boxL (boxIb s) = s then some (boxIb s) else none
theorem boxI_own {x : Bx} (h : boxM x = true) : boxI (boxL x) = some x := by
  obtain ⟨h1, h2, h3, h4⟩ := box_small h
  have hs := nums_small h
  have hl := nums_len h
  have hlo := boxM_low h
  cases hn : numsL x with
  | nil => rw [hn] at hl; simp at hl; omega
  | cons a r =>
    have e : boxL x = Lib.itoa x.k ++ (58 :: [32] ++ (Lib.itoa a ++ r.flatMap spW)) := by
      rw [boxL_nums, hn, List.flatMap_cons]; simp [spW]
    have hc : cutB (boxL x) [58, 32] = (Lib.itoa x.k, Lib.itoa a ++ r.flatMap spW) := by
      rw [e]; exact cut_at (no58 _)
    have hw : wordsI (boxL x) = (numsL x).map Lib.itoa := by
      unfold wordsI
      rw [hc, hn]
      exact split_words Lib.itoa no32 r _ (no32 a)
    have hb : boxIb (boxL x) = x := by
      unfold boxIb
      rw [hw, map_back atoiN (fun n hn => atoiN_itoa (by have := hs n hn; omega)), accP_nums h3, hc]
      simp only [atoiN_itoa (show x.k.natAbs < 1000000000 by omega)]
    unfold boxI
    rw [hb, hw, hc]
    refine if_pos ⟨?_, ?_, h, rfl⟩
    · rw [List.all_eq_true]
      intro w hw
      rw [List.mem_map] at hw
      obtain ⟨n, hn, rfl⟩ := hw
      unfold okW
      rw [atoiO_itoa (by have := hs n hn; omega)]; rfl
    · show okW (Lib.itoa x.k) = true
      unfold okW
      rw [atoiO_itoa (by omega)]; rfl
/-- The reference's numbers. -/
def readM (l : List UInt8) : Int := if (1 ≤ l.length ∧ l.length ≤ 6) ∧ ¬ (l.head? = some 48 ∧ 1 < l.length) then (match digV 0 l with | some n => (n : Int) | none => -1) else -1
def digW : Nat → List UInt8 → Option Nat
  | a, [] => some a
  | a, c :: r => if isDig c = true ∧ a ≤ 10995116277760 then digW (10 * a + (c.toNat - 48)) r else none
def magM (sg : Int) (l : List UInt8) : Int := match digW 0 l with | none => 2199023255552 | some n => sg * n
def dyReadM (l : List UInt8) : Int := if l.head? = some 45 then magM (-1) l.tail else magM 1 l
theorem digV_le : ∀ (l : List UInt8) (a b : Nat), digV a l = some b → a ≤ b := by
  intro l
  induction l with
  | nil => intro a b h; simp only [digV] at h; cases h; exact Nat.le_refl _
  | cons x y ih =>
    intro a b h
    simp only [digV] at h
    split at h
    · have := ih _ _ h; omega
    · cases h
theorem digW_of : ∀ (l : List UInt8) (a b : Nat), digV a l = some b → b ≤ 10995116277760 → digW a l = some b
  | [], a, b, h, _ => h
  | c :: r, a, b, h, hb => by
    have hl := digV_le _ _ _ h
    simp only [digV] at h
    split at h
    · rename_i hc
      simp only [digW]
      rw [if_pos ⟨hc, by omega⟩]
      exact digW_of r _ _ h hb
    · cases h
theorem mag_dec (sg : Int) {n : Nat} (h : n < 1000000000) : magM sg (Lib.decDigits n) = sg * n := by
  unfold magM
  rw [digW_of _ _ _ (digV_dec n) (by omega)]
theorem dyRead_itoa {n : Int} (h : n.natAbs < 1000000000) : dyReadM (Lib.itoa n) = n := by
  unfold dyReadM Lib.itoa
  by_cases c : n < 0
  · rw [if_pos c, List.head?_cons, if_pos (show some (45 : UInt8) = some 45 from rfl), List.tail_cons, mag_dec _ h]; omega
  · rw [if_neg c]
    obtain ⟨x, r, hd, h1, h2⟩ := dec_cons n.toNat
    rw [if_neg, mag_dec _ (by omega)]
    · omega
    · rw [hd]
      simp only [List.head?_cons, Option.some.injEq]
      rintro rfl
      simp at h1
theorem read_itoa {n : Int} (h0 : 0 ≤ n) (h : n < 1000000) : readM (Lib.itoa n) = n := by
  have hl := itoa_len0 (n := n) 6 (by decide) h0 (by have : (10 : Nat) ^ 6 = 1000000 := by decide
                                                     omega)
  unfold readM
  have e : Lib.itoa n = Lib.decDigits n.toNat := by unfold Lib.itoa; rw [if_neg (by omega)]
  rw [e] at hl ⊢
  have hne := dec_ne n.toNat
  rw [if_pos, digV_dec]
  · simp only []; omega
  · refine ⟨⟨?_, hl⟩, ?_⟩
    · cases hd : Lib.decDigits n.toNat with
      | nil => exact absurd hd hne
      | cons _ _ => simp
    · rintro ⟨k1, k2⟩
      cases hd : Lib.decDigits n.toNat with
      | nil => exact absurd hd hne
      | cons a r =>
        rw [hd] at k1 k2
        simp only [List.head?_cons, Option.some.injEq] at k1
        subst k1
        rw [dec_head0 _ _ hd] at k2
        simp at k2
/-- The reference's parser of a box. -/
def boxSb (s : List UInt8) : Bx := ⟨readM (((splitL 32 s).headD []).take 1), (accP ((splitL 32 s).tail.map dyReadM)).1, (accP ((splitL 32 s).tail.map dyReadM)).2⟩
def shapeS (s : List UInt8) : Prop := s.length ≤ 60 ∧ (splitL 32 s).length % 2 = 1 ∧ (splitL 32 s).length ≤ 7 ∧ ((splitL 32 s).headD []).length = 2
instance (s : List UInt8) : Decidable (shapeS s) := by unfold shapeS; infer_instance
def boxS (s : List UInt8) : Option Bx := if shapeS s ∧ boxM (boxSb s) = true ∧ boxL (boxSb s) = s then some (boxSb s) else none
theorem boxS_own {x : Bx} (h : boxM x = true) : boxS (boxL x) = some x := by
  obtain ⟨h1, h2, h3, h4⟩ := box_small h
  have hs := nums_small h
  have hl := nums_len h
  have hlo := boxM_low h
  have hk := boxK_len h
  have hk1 : (Lib.itoa x.k).length = 1 := by
    have : Lib.itoa x.k ≠ [] := by
      unfold Lib.itoa; split
      · simp
      · exact dec_ne _
    cases hi : Lib.itoa x.k with
    | nil => exact absurd hi this
    | cons _ r => rw [hi] at hk; simp at hk ⊢; exact hk
  have hw : splitL 32 (boxL x) = (Lib.itoa x.k ++ [58]) :: (numsL x).map Lib.itoa := by
    rw [boxL_nums]
    refine split_words Lib.itoa no32 _ _ ?_
    intro hm
    rcases List.mem_append.1 hm with hm | hm
    · exact no32 _ hm
    · simp at hm
  have hb : boxSb (boxL x) = x := by
    unfold boxSb
    rw [hw]
    simp only [List.headD_cons, List.tail_cons]
    rw [map_back dyReadM (fun n hn => dyRead_itoa (by have := hs n hn; omega)), accP_nums h3, List.take_append_of_le_length (by omega), List.take_of_length_le (by omega), read_itoa h1.1 (by omega)]
  unfold boxS
  rw [hb]
  refine if_pos ⟨⟨?_, ?_, ?_, ?_⟩, h, rfl⟩
  · have := boxL_len h; omega
  · rw [hw, List.length_cons, List.length_map, hl]; omega
  · rw [hw, List.length_cons, List.length_map, hl]; omega
  · rw [hw]; simp [hk1]
theorem boxI_some {s : List UInt8} {x : Bx} (h : boxI s = some x) : boxM x = true ∧ boxL x = s := by
  unfold boxI at h
  split at h
  · rename_i c; cases h; exact ⟨c.2.2.1, c.2.2.2⟩
  · cases h
theorem boxS_some {s : List UInt8} {x : Bx} (h : boxS s = some x) : boxM x = true ∧ boxL x = s := by
  unfold boxS at h
  split at h
  · rename_i c; cases h; exact ⟨c.2.1, c.2.2⟩
  · cases h
theorem boxS_eq (s : List UInt8) : boxS s = boxI s := by
  cases hi : boxI s with
  | some x =>
    obtain ⟨h1, h2⟩ := boxI_some hi
    rw [← h2]; exact boxS_own h1
  | none =>
    cases hs : boxS s with
    | none => rfl
    | some x =>
      obtain ⟨h1, h2⟩ := boxS_some hs
      rw [← h2, boxI_own h1] at hi; cases hi
end Go.Proofs
