/- Contracts of functions, facts of types, or the plain law behind one statement (own work): XI. Conditions: those told in each theorem. -/
import Derived.Test.YtiiolloielppeaaXH
set_option linter.all false
set_option linter.unusedSimpArgs false
set_option linter.unusedVariables false
set_option maxRecDepth 4000
namespace Go.Proofs
open Go Go.V
/- The common box (plain). -/
def stp (f : Int → Int → Int) (i : Nat) (l m : List Int) : List Int := List.zipWith f (l.take i) (m.take i) ++ l.drop i
theorem stp_zero (f : Int → Int → Int) (l m : List Int) : stp f 0 l m = l := by simp [stp]
theorem stp_len {f : Int → Int → Int} {i : Nat} {l m : List Int} (h : m.length = l.length) (hi : i ≤ l.length) : (stp f i l m).length = l.length := by
  unfold stp; simp; omega
theorem lt_of_get {l : List Int} {i : Nat} {x : Int} (h : l[i]? = some x) : i < l.length := by
  rcases Nat.lt_or_ge i l.length with k | k
  · exact k
  · rw [List.getElem?_eq_none k] at h; cases h
theorem stp_get {f : Int → Int → Int} {i : Nat} {l m : List Int} {x : Int} (hm : m.length = l.length) (h : l[i]? = some x) : (stp f i l m)[i]? = some x := by
  have hlt := lt_of_get h
  have hz : (List.zipWith f (l.take i) (m.take i)).length = i := by rw [List.length_zipWith, List.length_take, List.length_take]; omega
  unfold stp
  rw [List.getElem?_append_right (by omega), hz, Nat.sub_self, List.getElem?_drop, Nat.add_zero]
  exact h
theorem stp_set {f : Int → Int → Int} {i : Nat} {l m : List Int} {x y : Int} (hm : m.length = l.length) (h : l[i]? = some x) (h2 : m[i]? = some y) : (stp f i l m).set i (f x y) = stp f (i + 1) l m := by
  have hlt := lt_of_get h
  have hz : (List.zipWith f (l.take i) (m.take i)).length = i := by rw [List.length_zipWith, List.length_take, List.length_take]; omega
  have hd : l.drop i = x :: l.drop (i + 1) := by
    rw [List.drop_eq_getElem_cons hlt]
    congr 1
    rw [List.getElem?_eq_getElem hlt] at h
    exact Option.some.inj h
  unfold stp
  rw [List.set_append_right _ _ (by omega), hz, Nat.sub_self, hd, List.set_cons_zero, List.take_add_one, List.take_add_one, h, h2]
  rw [List.zipWith_append (by rw [List.length_take, List.length_take]; omega)]
  simp
theorem stp_full {f : Int → Int → Int} {l m : List Int} (hm : m.length = l.length) : stp f l.length l m = List.zipWith f l m := by
  unfold stp
  rw [List.take_length, ← hm, List.take_length, List.drop_eq_nil_of_le (by omega), List.append_nil]
theorem box_in {x : Bx} (h : boxM x = true) : InB (mostM x.k) x.low ∧ InB (mostM x.k) x.high := by
  unfold boxM at h
  simp only [Bool.and_eq_true, decide_eq_true_eq] at h
  obtain ⟨⟨⟨h1, h2⟩, h3⟩, h4, _⟩ := h
  have key : ∀ (i : Nat) (a b : Int), x.low[i]? = some a → x.high[i]? = some b → -mostM x.k ≤ a ∧ a < b ∧ b ≤ mostM x.k := fun i a b ha hb => by
    have := List.all_eq_true.1 h4 (a, b) (List.mem_of_getElem? (zip_get ha hb))
    simp only [pairOk, decide_eq_true_eq] at this
    omega
  constructor
  · intro n hn
    obtain ⟨i, hi, rfl⟩ := List.mem_iff_getElem.1 hn
    obtain ⟨b, hb⟩ := get_some (show i < x.high.length by omega)
    have := key i _ b (List.getElem?_eq_getElem hi) hb
    omega
  · intro n hn
    obtain ⟨i, hi, rfl⟩ := List.mem_iff_getElem.1 hn
    obtain ⟨a, ha⟩ := get_some (show i < x.low.length by omega)
    have := key i a _ ha (List.getElem?_eq_getElem hi)
    omega
theorem pow_posI (j : Nat) : (0 : Int) < 2 ^ j := Int.pow_pos (by decide)
theorem mostM_add {k : Int} (h : 0 ≤ k) (d : Nat) : mostM (k + d) = mostM k * 2 ^ d := by
  unfold mostM
  have : (k + (d : Int)).toNat = k.toNat + d := by omega
  rw [this, Int.pow_add, Int.mul_assoc]
theorem up_in {l : List Int} {k : Int} {d : Nat} (hk : 0 ≤ k) (h : InB (mostM k) l) : InB (mostM (k + d)) (upL l d) := by
  intro n hn
  unfold upL at hn
  rw [List.mem_map] at hn
  obtain ⟨x, hx, rfl⟩ := hn
  have hb := h x hx
  rw [mostM_add hk]
  have hp := pow_posI d
  generalize (2 : Int) ^ d = p at *
  constructor
  · have h1 : -mostM k * p ≤ x * p := Int.mul_le_mul_of_nonneg_right hb.1 (by omega)
    rw [Int.neg_mul] at h1; exact h1
  · exact Int.mul_le_mul_of_nonneg_right hb.2 (by omega)
theorem zw_in {b : Int} {l m : List Int} {f : Int → Int → Int} (hf : ∀ x y, f x y = x ∨ f x y = y) (h1 : InB b l) (h2 : InB b m) : InB b (List.zipWith f l m) := by
  induction l generalizing m with
  | nil => intro n hn; simp at hn
  | cons x l ih =>
    cases m with
    | nil => intro n hn; simp at hn
    | cons y m =>
      intro n hn
      rw [List.zipWith_cons_cons] at hn
      rcases List.mem_cons.1 hn with rfl | hn
      · rcases hf x y with e | e
        · rw [e]; exact h1 x (by simp)
        · rw [e]; exact h2 y (by simp)
      · exact ih (fun z hz => h1 z (by simp [hz])) (fun z hz => h2 z (by simp [hz])) n hn
def imax (a b : Int) : Int := max a b
def imin (a b : Int) : Int := min a b
theorem imax_or (x y : Int) : imax x y = x ∨ imax x y = y := by unfold imax; omega
theorem imin_or (x y : Int) : imin x y = x ∨ imin x y = y := by unfold imin; omega
/-- Do two boxes have an inner point in common, at the scales a, b? -/
def comAt (x y : Bx) (a b : Nat) : Bool := ((List.zipWith imax (upL x.low a) (upL y.low b)).zip (List.zipWith imin (upL x.high a) (upL y.high b))).all ltP
def comM (x y : Bx) : Bool := comAt x y (upK x y) (upK y x)
theorem upL_add (l : List Int) (a d : Nat) : upL l (a + d) = (upL l a).map (· * 2 ^ d) := by
  unfold upL
  rw [List.map_map]
  apply List.map_congr_left
  intro x _
  simp only [Function.comp]
  rw [Int.pow_add, Int.mul_assoc]
theorem mul_lt {x y p : Int} (h : 0 < p) : (x * p < y * p) ↔ x < y :=
  ⟨fun k => Int.lt_of_mul_lt_mul_right k (by omega), fun k => Int.mul_lt_mul_of_pos_right k h⟩
theorem imax_mul {x y p : Int} (h : 0 < p) : imax (x * p) (y * p) = imax x y * p := by
  unfold imax
  rcases Int.le_total x y with k | k
  · rw [Int.max_eq_right k, Int.max_eq_right (Int.mul_le_mul_of_nonneg_right k (by omega))]
  · rw [Int.max_eq_left k, Int.max_eq_left (Int.mul_le_mul_of_nonneg_right k (by omega))]
theorem imin_mul {x y p : Int} (h : 0 < p) : imin (x * p) (y * p) = imin x y * p := by
  unfold imin
  rcases Int.le_total x y with k | k
  · rw [Int.min_eq_left k, Int.min_eq_left (Int.mul_le_mul_of_nonneg_right k (by omega))]
  · rw [Int.min_eq_right k, Int.min_eq_right (Int.mul_le_mul_of_nonneg_right k (by omega))]
theorem zw_mul {f : Int → Int → Int} {p : Int} (hf : ∀ x y, f (x * p) (y * p) = f x y * p) (l m : List Int) : List.zipWith f (l.map (· * p)) (m.map (· * p)) = (List.zipWith f l m).map (· * p) := by
  induction l generalizing m with
  | nil => simp
  | cons x l ih =>
    cases m with
    | nil => simp
    | cons y m => simp [hf, ih]
theorem all_mul {p : Int} (hp : 0 < p) (l m : List Int) : ((l.map (· * p)).zip (m.map (· * p))).all ltP = (l.zip m).all ltP := by
  induction l generalizing m with
  | nil => simp
  | cons x l ih =>
    cases m with
    | nil => simp
    | cons y m =>
      simp only [List.map_cons, List.zip_cons_cons, List.all_cons, ih]
      have : ltP (x * p, y * p) = ltP (x, y) := by
        simp only [ltP, decide_eq_decide]; exact mul_lt hp
      rw [this]
theorem comAt_add (x y : Bx) (a b d : Nat) : comAt x y (a + d) (b + d) = comAt x y a b := by
  have hp := pow_posI d
  unfold comAt
  rw [upL_add, upL_add, upL_add, upL_add, zw_mul (fun _ _ => imax_mul hp), zw_mul (fun _ _ => imin_mul hp), all_mul hp]
theorem comM_eight {x y : Bx} (hx : 0 ≤ x.k ∧ x.k ≤ 8) (hy : 0 ≤ y.k ∧ y.k ≤ 8) : comAt x y (8 - x.k).toNat (8 - y.k).toNat = comM x y := by
  have e1 : (8 - x.k).toNat = upK x y + (8 - topK x y).toNat := by unfold upK topK; omega
  have e2 : (8 - y.k).toNat = upK y x + (8 - topK x y).toNat := by unfold upK topK; omega
  rw [e1, e2, comAt_add]; rfl
end Go.Proofs
