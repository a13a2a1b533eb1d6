/- Contracts of functions, facts of types, or the plain law behind one statement (own work): PD. Conditions: those told in each theorem. -/
import Derived.Test.YtajkecjbdoineaaPC
import Derived.Test.YtajkecjbdoineaaPA
set_option linter.all false
namespace Go.Proofs
/- Multiples do not matter; derivatives; factors are small. -/
theorem trm_scl {c : Int} (hc : c ≠ 0) (l : List Int) : trmL (sclL c l) = sclL c (trmL l) :=
  ldd_eq (trm_ldd _) ((scl_ldd hc).2 (trm_ldd l)) fun x _ => by rw [trm_ev, ev_scl, ev_scl, trm_ev]
theorem scl_len (c : Int) (l : List Int) : (sclL c l).length = l.length := by simp [sclL]
theorem scl_ne {c : Int} {l : List Int} : sclL c l ≠ [] ↔ l ≠ [] := by rw [← List.length_pos_iff, ← List.length_pos_iff, scl_len]
theorem stp_sclq {c : Nat} {p q : List Int} (hc : 0 < c) (hq : Ldd q) (q0 : q ≠ []) : stpL p (sclL c q) = stpL p q := by
  have hq' : Ldd (sclL c q) := (scl_ldd (by omega)).2 hq
  obtain ⟨g, g0, e1, e2, _⟩ := up_dn (p := p) hq q0
  obtain ⟨g', g0', e1', e2', _⟩ := up_dn (p := p) hq' (scl_ne.2 q0)
  have hlast : cf (sclL c q) ((sclL c q).length - 1) = c * cf q (q.length - 1) := by rw [scl_len, cf_scl]
  rw [hlast] at e1' e2'
  have hraw : sclL (g' : Int) (rawL p (sclL c q)) = sclL ((c * g : Nat) : Int) (rawL p q) := by
    refine cf_list ?_ fun i => ?_
    · rw [scl_len, scl_len]
      unfold rawL shfL
      rw [add_len, add_len]
      simp only [scl_len, List.length_append, List.length_replicate]
    · rw [cf_scl, cf_scl]
      unfold rawL
      rw [cf_add, cf_add, cf_scl, cf_scl, cf_scl, cf_scl, cf_shf, cf_shf, scl_len]
      generalize upN p q = u at *
      generalize dnN p q = d at *
      generalize upN p (sclL c q) = u' at *
      generalize dnN p (sclL c q) = d' at *
      generalize cf p (p.length - 1) = a at *
      generalize cf q (q.length - 1) = b at *
      have hcb : (((c : Int) * b).natAbs : Int) = c * (b.natAbs : Int) := by rw [Int.natAbs_mul, Int.natAbs_natCast, Int.natCast_mul]
      have hneg : ((c : Int) * b < 0) ↔ b < 0 := by
        constructor
        · intro h
          by_cases k : b < 0
          · exact k
          · have := Int.mul_nonneg (a := (c : Int)) (b := b) (by omega) (by omega); omega
        · intro h; exact Int.mul_neg_of_pos_of_neg (by omega) h
      rw [hcb] at e1'
      have e3 : (g' : Int) * d' = (g : Int) * d := by
        rw [e2', e2]
        by_cases k : b < 0
        · rw [if_pos (hneg.2 k), if_pos k]
        · rw [if_neg (fun h => k (hneg.1 h)), if_neg k]
      have e4 : (g' : Int) * u' = c * ((g : Int) * u) := by rw [e1', e1]
      rw [Int.natCast_mul]
      split
      · have : (g' : Int) * (u' * cf p i + -d' * 0) = ((g' : Int) * u') * cf p i := by grind
        rw [this, e4]; grind
      · rw [cf_scl]
        generalize cf q (i - (p.length - q.length)) = z
        have : (g' : Int) * (u' * cf p i + -d' * (c * z)) = ((g' : Int) * u') * cf p i - ((g' : Int) * d') * (c * z) := by grind
        rw [this, e4, e3]; grind
  unfold stpL
  have h2 : sclL (g' : Int) (trmL (rawL p (sclL c q))) = sclL ((c * g : Nat) : Int) (trmL (rawL p q)) := by
    rw [← trm_scl (by omega), hraw, trm_scl]
    have := Nat.mul_pos hc g0
    omega
  exact part_eq g0' (Nat.mul_pos hc g0) h2
theorem remA_sclq {c : Nat} {q : List Int} (hc : 0 < c) (hq : Ldd q) (q0 : q ≠ []) : ∀ (n : Nat) (p : List Int), remA (sclL c q) n p = remA q n p := by
  intro n
  induction n with
  | zero => intro p; rfl
  | succ n ih =>
    intro p
    simp only [remA, scl_len, stp_sclq hc hq q0, ih]
theorem rem_sclq {c : Nat} {p q : List Int} (hc : 0 < c) (hq : Ldd q) (q0 : q ≠ []) : remL p (sclL c q) = remL p q := by unfold remL; rw [remA_sclq hc hq q0]
theorem rem_sclp {c : Nat} {p q : List Int} (hc : 0 < c) : remL (sclL c p) q = remL p q := by unfold remL; rw [scl_len, part_scl_eq hc]
theorem comA_sclp {c : Nat} (hc : 0 < c) : ∀ (n : Nat) (p q : List Int), comA n (sclL c p) q = comA n p q := by
  intro n p q
  cases n with
  | zero => show some (upS (sclL c p)) = some (upS p); rw [up_scl hc]
  | succ n => simp only [comA, up_scl hc, rem_sclp hc]
theorem comA_sclq {c : Nat} (hc : 0 < c) (n : Nat) (p q : List Int) (hq : Ldd q) : comA n p (sclL c q) = comA n p q := by
  cases n with
  | zero => rfl
  | succ n =>
    simp only [comA]
    by_cases q0 : q = []
    · subst q0; rfl
    · rw [if_neg q0, if_neg (scl_ne.2 q0), rem_sclq hc hq q0]
      cases remL p q with
      | none => rfl
      | some r => exact comA_sclp hc n q r
theorem com_scl {c d : Nat} {p q : List Int} (hc : 0 < c) (hd : 0 < d) (hq : Ldd q) : comL (sclL c p) (sclL d q) = comL p q := by
  unfold comL
  rw [scl_len, comA_sclp hc, comA_sclq hd _ _ _ hq]
/-! ### derivatives -/
def dvL (p : List Int) : List Int := (p.drop 1).mapIdx fun i x => ((i : Int) + 1) * x
theorem dv_len (p : List Int) : (dvL p).length = p.length - 1 := by simp [dvL]
theorem cf_dv (p : List Int) (i : Nat) : cf (dvL p) i = ((i : Int) + 1) * cf p (i + 1) := by
  unfold dvL cf
  rw [List.getElem?_mapIdx, List.getElem?_drop, Nat.add_comm 1 i]
  cases p[i + 1]? with
  | none => simp
  | some x => rfl
theorem dv_scl (c : Int) (p : List Int) : dvL (sclL c p) = sclL c (dvL p) := cf_list (by rw [dv_len, scl_len, scl_len, dv_len]) fun i => by rw [cf_dv, cf_scl, cf_scl, cf_dv]; grind
theorem dv_ldd {p : List Int} (h : Ldd p) : Ldd (dvL p) := by
  refine ldd_of fun h0 => ?_
  have hl := dv_len p
  have := List.length_pos_iff.2 h0
  rw [cf_dv, hl]
  have p0 : p ≠ [] := by rintro rfl; exact h0 rfl
  have h1 := ldd_cf h p0
  have e : p.length - 1 - 1 + 1 = p.length - 1 := by omega
  rw [e]
  exact Int.mul_ne_zero (by omega) h1
theorem com_dv {p : List Int} (hp : Ldd p) (p0 : p ≠ []) : comL p (dvL p) = comL (partL p) (dvL (partL p)) := by
  have hc := ldd_con hp p0
  conv => lhs; rw [← part_scl p, dv_scl]
  exact com_scl hc hc (dv_ldd (part_ldd hp))
/-! ### factors -/
def Fac (P w : List Int) : Prop := ∃ X : List Int, ∀ x, 1 ≤ x → ev P x = ev w x * ev X x
theorem Fac.refl (P : List Int) : Fac P P := ⟨[1], fun x _ => by simp [ev]⟩
theorem Fac.trans {P w y : List Int} (h1 : Fac P w) (h2 : Fac w y) : Fac P y := by
  obtain ⟨X, e1⟩ := h1
  obtain ⟨Y, e2⟩ := h2
  exact ⟨mulL Y X, fun x hx => by rw [ev_mul, e1 x hx, e2 x hx, Int.mul_assoc]⟩
theorem Fac.neg {P w : List Int} (h : Fac P w) : Fac P (negL w) := by
  obtain ⟨X, e⟩ := h
  exact ⟨negL X, fun x hx => by rw [neg_ev, neg_ev, Int.neg_mul_neg]; exact e x hx⟩
theorem Fac.sgn {P w : List Int} (h : Fac P w) : Fac P (sgnL w) := by unfold sgnL; split; exact h.neg; exact h
theorem Fac.part {P w : List Int} (h : Fac P w) : Fac P (partL w) := h.trans ⟨[(conL w : Int)], fun x _ => by rw [← part_ev w x]; simp only [ev]; grind⟩
theorem Fac.up {P w : List Int} (h : Fac P w) : Fac P (upS w) := h.part.sgn
/-- The coefficients of a product, as a sum over all places. -/
theorem mul_con (a b : List Int) (n : Nat) (hb : b.length ≤ n + 1) : ∀ k, cf (mulL a b) k = sumL (List.range a.length) fun i => sumL (List.range (n + 1)) fun j => if i + j = k then cf a i * cf b j else 0 := by
  induction a with
  | nil => intro k; rfl
  | cons x a ih =>
    intro k
    have e1 : sumL (List.range (x :: a).length) (fun i => sumL (List.range (n + 1)) fun j => if i + j = k then cf (x :: a) i * cf b j else 0)
        = (sumL (List.range (n + 1)) fun j => if 0 + j = k then cf (x :: a) 0 * cf b j else 0) + sumL (List.range a.length) fun i => sumL (List.range (n + 1)) fun j => if i + 1 + j = k then cf a i * cf b j else 0 := by
      rw [List.length_cons, List.range_succ_eq_map, sumL_cons, sumL_map]
      rfl
    rw [e1]
    simp only [mulL, cf_add, cf_scl]
    have e2 : (sumL (List.range (n + 1)) fun j => if 0 + j = k then cf (x :: a) 0 * cf b j else 0) = x * cf b k := by
      have : (sumL (List.range (n + 1)) fun j => if 0 + j = k then cf (x :: a) 0 * cf b j else 0) = sumL (List.range (n + 1)) fun j => if j = k then x * cf b j else 0 := sumL_congr fun j _ => by rw [Nat.zero_add]; rfl
      rw [this]
      by_cases c : k < n + 1
      · exact sumL_range (n + 1) k (fun j => x * cf b j) c
      · rw [sumL_range_out _ _ _ (by omega), cf_out (by omega), Int.mul_zero]
    rw [e2]
    congr 1
    cases k with
    | zero =>
      rw [cf_zero]
      have : (sumL (List.range a.length) fun i => sumL (List.range (n + 1)) fun j => if i + 1 + j = 0 then cf a i * cf b j else 0) = sumL (List.range a.length) fun _ => 0 := sumL_congr fun i _ => by
        have : (sumL (List.range (n + 1)) fun j => if i + 1 + j = 0 then cf a i * cf b j else 0) = sumL (List.range (n + 1)) fun _ => 0 := sumL_congr fun j _ => by rw [if_neg (by omega)]
        rw [this, sumL_zero]
      rw [this, sumL_zero]
    | succ k =>
      rw [cf_succ, ih k]
      refine sumL_congr fun i _ => sumL_congr fun j _ => ?_
      by_cases c : i + j = k
      · rw [if_pos c, if_pos (by omega)]
      · rw [if_neg c, if_neg (by omega)]
def wtB : Bool := (List.range 9).all fun m => (List.range (9 - m)).all fun s => decide (72 ≤ facN m * (facN s * facN (8 - m - s)))
theorem wtB_true : wtB = true := by decide +kernel
theorem wt_ge {m s : Nat} (h : m + s ≤ 8) : 72 ≤ facN m * (facN s * facN (8 - m - s)) := by
  have h1 := wtB_true
  unfold wtB at h1
  have h2 := List.all_eq_true.1 h1 m (List.mem_range.2 (by omega))
  have h3 := List.all_eq_true.1 h2 s (List.mem_range.2 (by omega))
  exact of_decide_eq_true h3
theorem wt_sum : sumL (List.range 9) wtN = 95616 := by decide +kernel
theorem sq_nonneg (x : Int) : 0 ≤ x * x := by
  rcases Int.le_total 0 x with k | k
  · exact Int.mul_nonneg k k
  · have := Int.mul_nonneg (a := -x) (b := -x) (by omega) (by omega)
    rwa [Int.neg_mul_neg] at this
theorem sq_le {x A : Int} (hA : 0 ≤ A) (h1 : -A ≤ x) (h2 : x ≤ A) : x * x ≤ A * A := by
  rcases Int.le_total 0 x with k | k
  · exact Int.mul_le_mul h2 h2 k hA
  · have := Int.mul_le_mul (a := -x) (b := -x) (c := A) (d := A) (by omega) (by omega) (by omega) hA
    rwa [Int.neg_mul_neg] at this
theorem sq_one {x : Int} (h : x ≠ 0) : 1 ≤ x * x := by
  rcases Int.lt_or_gt_of_ne h with k | k
  · have := Int.mul_le_mul (a := 1) (b := 1) (c := -x) (d := -x) (by omega) (by omega) (by omega) (by omega)
    rwa [Int.neg_mul_neg] at this
  · exact Int.mul_le_mul (a := 1) (b := 1) (c := x) (d := x) (by omega) (by omega) (by omega) (by omega)
/-- A polynomial as it comes in: primitive or not, of degree 8 at most. -/
structure Top (P : List Int) : Prop where
  ldd : Ldd P
  ne : P ≠ []
  len : P.length ≤ 9
  bd : ∀ x ∈ P, -1000000 ≤ x ∧ x ≤ 1000000
theorem cf_bd {l : List Int} {A : Int} (hA : 0 ≤ A) (h : ∀ x ∈ l, -A ≤ x ∧ x ≤ A) (i : Nat) : -A ≤ cf l i ∧ cf l i ≤ A := by
  by_cases c : i < l.length
  · exact h _ (cf_mem c)
  · rw [cf_out (by omega)]; omega
theorem fac_bound {P w : List Int} (hP : Top P) (hw : Ldd w) (h : Fac P w) : w ≠ [] ∧ w.length ≤ P.length ∧ ∀ x ∈ w, -40000000 ≤ x ∧ x ≤ 40000000 := by
  obtain ⟨X0, e0⟩ := h
  have e : ∀ x, 1 ≤ x → ev P x = ev w x * ev (trmL X0) x := fun x hx => by rw [trm_ev]; exact e0 x hx
  have hX := trm_ldd X0
  generalize trmL X0 = X at *
  obtain ⟨w0, X0', hl, htop⟩ := mul_len hP.ldd hw hX hP.ne e
  have lw := List.length_pos_iff.2 w0
  have lX := List.length_pos_iff.2 X0'
  have lP := hP.len
  refine ⟨w0, by omega, fun x hx => ?_⟩
  obtain ⟨s, hs⟩ := List.mem_iff_getElem?.1 hx
  obtain ⟨hsl, _⟩ := List.getElem?_eq_some_iff.1 hs
  have hxs : cf w s = x := cf_in hs
  -- the sizes
  obtain ⟨m, hm⟩ : ∃ m, X.length = m + 1 := ⟨X.length - 1, by omega⟩
  obtain ⟨n, hn⟩ : ∃ n, m + n = 8 := ⟨8 - m, by omega⟩
  have hcon : ∀ k, cf P k = conN m n (cf X) (cf w) k := by
    intro k
    have h1 : cf P k = cf (mulL X w) k := ev_inj (fun x hx => by rw [ev_mul, e x hx, Int.mul_comm]) k
    rw [h1, mul_con X w n (by omega) k, hm]
    rfl
  have hge := norm_ge hn (cf X) (cf w)
  have hle : sumL (List.range 9) (fun k => wtN k * (conN m n (cf X) (cf w) k * conN m n (cf X) (cf w) k)) ≤ 95616 * 1000000000000 := by
    rw [← wt_sum, ← sumL_mulr]
    refine sumL_le fun k _ => ?_
    rw [← hcon k]
    have hb := cf_bd (A := 1000000) (by decide) hP.bd k
    have := sq_le (A := 1000000) (by decide) hb.1 hb.2
    exact Int.mul_le_mul_of_nonneg_left this (by unfold wtN; exact Int.mul_nonneg (by omega) (by omega))
  have hXm : cf X m ≠ 0 := by
    have := ldd_cf hX X0'
    rwa [hm, Nat.add_sub_cancel] at this
  have h1 := sq_one hXm
  -- one of the terms
  have hnn : ∀ t ∈ List.range (n + 1), 0 ≤ (facN t : Int) * (facN (n - t) : Int) * (cf w t * cf w t) := fun t _ => Int.mul_nonneg (Int.mul_nonneg (by omega) (by omega)) (sq_nonneg _)
  have hone := sumL_ge (x := s) (List.mem_range.2 (show s < n + 1 by omega)) hnn
  have hS := sumL_nonneg hnn
  generalize sumL (List.range (n + 1)) (fun t => (facN t : Int) * (facN (n - t) : Int) * (cf w t * cf w t)) = S at *
  have hw72 := wt_ge (m := m) (s := s) (by omega)
  have e8 : 8 - m - s = n - s := by omega
  rw [e8] at hw72
  have hw72' : (72 : Int) ≤ (facN m : Int) * ((facN s : Int) * (facN (n - s) : Int)) := by exact_mod_cast hw72
  have f0 : (0 : Int) ≤ (facN m : Int) := by omega
  have k1 : (facN m : Int) * S ≤ (facN m : Int) * (cf X m * cf X m) * S := by
    have : (facN m : Int) * 1 * S ≤ (facN m : Int) * (cf X m * cf X m) * S := Int.mul_le_mul_of_nonneg_right (Int.mul_le_mul_of_nonneg_left h1 f0) hS
    rwa [Int.mul_one] at this
  have k2 : (facN m : Int) * ((facN s : Int) * (facN (n - s) : Int) * (cf w s * cf w s)) ≤ (facN m : Int) * S := Int.mul_le_mul_of_nonneg_left hone f0
  have k3 : 72 * (cf w s * cf w s) ≤ (facN m : Int) * ((facN s : Int) * (facN (n - s) : Int)) * (cf w s * cf w s) := Int.mul_le_mul_of_nonneg_right hw72' (sq_nonneg _)
  rw [Int.mul_assoc] at k3
  rw [hxs] at k2 k3
  have k4 : 72 * (x * x) ≤ 95616 * 1000000000000 := by omega
  constructor
  · rcases Int.lt_or_le x (-40000000) with c | c
    · have := Int.mul_le_mul (a := 40000000) (b := 40000000) (c := -x) (d := -x) (by omega) (by omega) (by omega) (by omega)
      rw [Int.neg_mul_neg] at this
      omega
    · exact c
  · rcases Int.lt_or_le 40000000 x with c | c
    · have := Int.mul_le_mul (a := 40000000) (b := 40000000) (c := x) (d := x) (by omega) (by omega) (by omega) (by omega)
      omega
    · exact c
end Go.Proofs
