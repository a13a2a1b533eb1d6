/- Contracts of functions, facts of types, or the plain law behind one statement (own work): ZA. Conditions: those told in each theorem. -/
import Derived.Test.YtiiolloielppeaaXB
import Derived.Test.YtiiolloielppeaaXE
set_option linter.all false
set_option linter.unusedSimpArgs false
set_option linter.unusedVariables false
set_option maxRecDepth 4000
namespace Go.Proofs
open Go Go.V
/- The order of boxes (plain). -/
def odI (n : Int) : Bool := decide (¬ Int.tmod n 2 = 0)
theorem pow_posZ (j : Nat) : (0 : Int) < 2 ^ j := Int.pow_pos (by decide)
theorem upL_addZ (l : List Int) (a d : Nat) : upL l (a + d) = (upL l a).map (· * 2 ^ d) := by
  unfold upL
  rw [List.map_map]
  apply List.map_congr_left
  intro x _
  simp only [Function.comp]
  rw [Int.pow_add, Int.mul_assoc]
theorem mul_ltZ {x y p : Int} (h : 0 < p) : (x * p < y * p) ↔ x < y :=
  ⟨fun k => Int.lt_of_mul_lt_mul_right k (by omega), fun k => Int.mul_lt_mul_of_pos_right k h⟩
def cmpL : List Int → List Int → Int
  | [], [] => 0
  | [], _ :: _ => -1
  | _ :: _, [] => 1
  | x :: l, y :: m => if x < y then -1 else if y < x then 1 else cmpL l m
def orI (a b : Int) : Int := if a = 0 then b else a
theorem cmpL_range : ∀ l m : List Int, cmpL l m = -1 ∨ cmpL l m = 0 ∨ cmpL l m = 1
  | [], [] => .inr (.inl rfl)
  | [], _ :: _ => .inl rfl
  | _ :: _, [] => .inr (.inr rfl)
  | x :: l, y :: m => by
    unfold cmpL
    split
    · exact .inl rfl
    · split
      · exact .inr (.inr rfl)
      · exact cmpL_range l m
theorem cmpL_zero : ∀ {l m : List Int}, cmpL l m = 0 → l = m
  | [], [], _ => rfl
  | [], _ :: _, h => by simp [cmpL] at h
  | _ :: _, [], h => by simp [cmpL] at h
  | x :: l, y :: m, h => by
    unfold cmpL at h
    split at h
    · simp at h
    · split at h
      · simp at h
      · rw [cmpL_zero h, show x = y by omega]
theorem cmpL_self : ∀ l : List Int, cmpL l l = 0
  | [] => rfl
  | x :: l => by unfold cmpL; rw [if_neg (by omega), if_neg (by omega)]; exact cmpL_self l
theorem cmpL_anti : ∀ l m : List Int, cmpL m l = - cmpL l m
  | [], [] => rfl
  | [], _ :: _ => rfl
  | _ :: _, [] => rfl
  | x :: l, y :: m => by
    unfold cmpL
    by_cases h1 : x < y
    · rw [if_neg (by omega), if_pos h1, if_pos h1]; rfl
    · by_cases h2 : y < x
      · rw [if_pos h2, if_neg h1, if_pos h2]
      · rw [if_neg h2, if_neg h1, if_neg h1, if_neg h2]; exact cmpL_anti l m
theorem cmpL_trans : ∀ {l m n : List Int}, cmpL l m ≤ 0 → cmpL m n ≤ 0 → cmpL l n ≤ 0
  | [], _, [], _, _ => by simp [cmpL]
  | [], _, _ :: _, _, _ => by simp [cmpL]
  | _ :: _, [], _, h, _ => by simp [cmpL] at h
  | x :: l, y :: m, [], _, h => by simp [cmpL] at h
  | x :: l, y :: m, z :: n, h1, h2 => by
    unfold cmpL at h1 h2 ⊢
    by_cases a1 : x < y
    · by_cases b1 : y < z
      · rw [if_pos (by omega)]; decide
      · rw [if_neg b1] at h2
        by_cases b2 : z < y
        · rw [if_pos b2] at h2; omega
        · rw [if_pos (by omega)]; decide
    · rw [if_neg a1] at h1
      by_cases a2 : y < x
      · rw [if_pos a2] at h1; omega
      · rw [if_neg a2] at h1
        have : x = y := by omega
        subst this
        by_cases b1 : x < z
        · rw [if_pos b1]; decide
        · rw [if_neg b1] at h2 ⊢
          by_cases b2 : z < x
          · rw [if_pos b2] at h2; omega
          · rw [if_neg b2] at h2 ⊢
            exact cmpL_trans h1 h2
theorem cmpL_mul {p : Int} (hp : 0 < p) : ∀ l m : List Int, cmpL (l.map (· * p)) (m.map (· * p)) = cmpL l m
  | [], [] => rfl
  | [], _ :: _ => rfl
  | _ :: _, [] => rfl
  | x :: l, y :: m => by
    simp only [List.map_cons, cmpL, mul_ltZ hp, cmpL_mul hp l m]
theorem cmpL_app : ∀ {l m : List Int} (l' m' : List Int), m.length = l.length → cmpL (l ++ l') (m ++ m') = orI (cmpL l m) (cmpL l' m')
  | [], [], _, _, _ => by simp [cmpL, orI]
  | [], _ :: _, _, _, h => by simp at h
  | _ :: _, [], _, _, h => by simp at h
  | x :: l, y :: m, l', m', h => by
    simp only [List.cons_append, cmpL]
    by_cases h1 : x < y
    · rw [if_pos h1, if_pos h1]; rfl
    · rw [if_neg h1, if_neg h1]
      by_cases h2 : y < x
      · rw [if_pos h2, if_pos h2]; rfl
      · rw [if_neg h2, if_neg h2]; exact cmpL_app l' m' (by simpa using h)
def cmpAt (x y : Bx) (a b : Nat) : Int := orI (cmpL (upL x.low a) (upL y.low b)) (cmpL (upL x.high a) (upL y.high b))
def bcmp (x y : Bx) : Int := cmpAt x y (upK x y) (upK y x)
theorem cmpAt_add (x y : Bx) (a b d : Nat) : cmpAt x y (a + d) (b + d) = cmpAt x y a b := by
  have hp := pow_posZ d
  unfold cmpAt
  rw [upL_addZ, upL_addZ, upL_addZ, upL_addZ, cmpL_mul hp, cmpL_mul hp]
def key (x : Bx) : List Int := upL x.low (8 - x.k).toNat ++ upL x.high (8 - x.k).toNat
theorem upL_len (l : List Int) (d : Nat) : (upL l d).length = l.length := by unfold upL; simp
theorem bcmp_eight {x y : Bx} (hx : 0 ≤ x.k ∧ x.k ≤ 8) (hy : 0 ≤ y.k ∧ y.k ≤ 8) : cmpAt x y (8 - x.k).toNat (8 - y.k).toNat = bcmp x y := by
  have e1 : (8 - x.k).toNat = upK x y + (8 - topK x y).toNat := by unfold upK topK; omega
  have e2 : (8 - y.k).toNat = upK y x + (8 - topK x y).toNat := by unfold upK topK; omega
  rw [e1, e2, cmpAt_add]; rfl
theorem bcmp_key {x y : Bx} (hx : boxM x = true) (hy : boxM y = true) (hl : y.low.length = x.low.length) : bcmp x y = cmpL (key x) (key y) := by
  obtain ⟨kx, _⟩ := box_k hx
  obtain ⟨ky, _⟩ := box_k hy
  rw [← bcmp_eight kx ky]
  unfold key cmpAt
  rw [cmpL_app _ _ (by rw [upL_len, upL_len]; exact hl)]
theorem even_up {l m : List Int} {a b : Nat} (hab : a < b) (h : upL l a = upL m b) : ∀ n ∈ l, odI n = false := by
  obtain ⟨d, rfl⟩ : ∃ d, b = d + 1 + a := ⟨b - a - 1, by omega⟩
  intro n hn
  have h1 : n * 2 ^ a ∈ upL m (d + 1 + a) := by rw [← h]; unfold upL; exact List.mem_map.2 ⟨n, hn, rfl⟩
  unfold upL at h1
  obtain ⟨z, hz, e⟩ := List.mem_map.1 h1
  rw [Int.pow_add, ← Int.mul_assoc] at e
  have hp := pow_posZ a
  have e2 : n = z * 2 ^ (d + 1) := (Int.eq_of_mul_eq_mul_right (by omega) e).symm
  unfold odI
  rw [e2, Int.pow_succ, ← Int.mul_assoc]
  simp
theorem upL_inj {l m : List Int} {a : Nat} (h : upL l a = upL m a) : l = m := by
  unfold upL at h
  have hp := pow_posZ a
  refine (List.map_inj_right fun x y e => Int.eq_of_mul_eq_mul_right (by omega) e).1 h
theorem box_odd {x : Bx} (h : boxM x = true) (hk : ¬ x.k = 0) (h1 : ∀ n ∈ x.low, odI n = false) (h2 : ∀ n ∈ x.high, odI n = false) : False := by
  unfold boxM at h
  simp only [Bool.and_eq_true, Bool.or_eq_true, decide_eq_true_eq] at h
  obtain ⟨_, _, h | h⟩ := h
  · exact hk h
  · rw [List.any_eq_true] at h
    obtain ⟨p, hp, ho⟩ := h
    have a1 := h1 p.1 (List.of_mem_zip hp).1
    have a2 := h2 p.2 (List.of_mem_zip hp).2
    have : pairOdd p = (odI p.1 || odI p.2) := rfl
    rw [this, a1, a2] at ho
    simp at ho
theorem key_inj {x y : Bx} (hx : boxM x = true) (hy : boxM y = true) (hl : y.low.length = x.low.length) (h : key x = key y) : x = y := by
  obtain ⟨kx, _⟩ := box_k hx
  obtain ⟨ky, _⟩ := box_k hy
  unfold key at h
  obtain ⟨h1, h2⟩ := List.append_inj h (by rw [upL_len, upL_len]; exact hl.symm)
  rcases Int.lt_trichotomy x.k y.k with c | c | c
  · exact (box_odd hy (by omega) (even_up (by omega) h1.symm) (even_up (by omega) h2.symm)).elim
  · rw [c] at h1 h2
    have e1 := upL_inj h1
    have e2 := upL_inj h2
    cases x; cases y
    simp only at c e1 e2
    rw [c, e1, e2]
  · exact (box_odd hx (by omega) (even_up (by omega) h1) (even_up (by omega) h2)).elim
/-- All boxes good, of one dimension. -/
def Gd (s : Nat) (x : Bx) : Prop := boxM x = true ∧ x.low.length = s
def leB (x y : Bx) : Prop := cmpL (key x) (key y) ≤ 0
theorem leB_trans {x y z : Bx} (h1 : leB x y) (h2 : leB y z) : leB x z := cmpL_trans h1 h2
theorem leB_total (x y : Bx) : leB x y ∨ leB y x := by
  unfold leB
  rw [cmpL_anti (key x) (key y)]; omega
theorem leB_anti {s : Nat} {x y : Bx} (hx : Gd s x) (hy : Gd s y) (h1 : leB x y) (h2 : leB y x) : x = y := by
  unfold leB at h1 h2
  rw [cmpL_anti (key x) (key y)] at h2
  exact key_inj hx.1 hy.1 (by rw [hx.2, hy.2]) (cmpL_zero (by omega))
theorem bcmp_le {s : Nat} {x y : Bx} (hx : Gd s x) (hy : Gd s y) : (bcmp x y ≤ 0 ↔ leB x y) ∧ (¬ bcmp x y < 0 ↔ leB y x) ∧ (bcmp x y = 0 ↔ x = y) := by
  have e := bcmp_key hx.1 hy.1 (by rw [hx.2, hy.2])
  unfold leB
  rw [e, cmpL_anti (key x) (key y)]
  refine ⟨Iff.rfl, by omega, fun h => key_inj hx.1 hy.1 (by rw [hx.2, hy.2]) (cmpL_zero h), ?_⟩
  rintro rfl
  exact cmpL_self _
theorem sorted_unique {s : Nat} : ∀ {l m : List Bx}, (∀ x ∈ l, Gd s x) → l.Perm m → l.Pairwise leB → m.Pairwise leB → l = m
  | [], m, _, hp, _, _ => by have := hp.length_eq; cases m with | nil => rfl | cons _ _ => simp at this
  | x :: l, [], _, hp, _, _ => by have := hp.length_eq; simp at this
  | x :: l, y :: m, hg, hp, h1, h2 => by
    obtain ⟨a1, a2⟩ := List.pairwise_cons.1 h1
    obtain ⟨b1, b2⟩ := List.pairwise_cons.1 h2
    have hy : y ∈ x :: l := hp.mem_iff.2 (by simp)
    have hx : x ∈ y :: m := hp.mem_iff.1 (by simp)
    have e : x = y := by
      rcases List.mem_cons.1 hy with e | hy'
      · exact e.symm
      · rcases List.mem_cons.1 hx with e | hx'
        · exact e
        · exact leB_anti (hg x (by simp)) (hg y hy) (a1 y hy') (b1 x hx')
    subst e
    rw [sorted_unique (fun z hz => hg z (by simp [hz])) (List.Perm.cons_inv hp) a2 b2]
end Go.Proofs
