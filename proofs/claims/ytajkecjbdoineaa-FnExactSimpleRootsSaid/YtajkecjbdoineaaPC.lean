/- Contracts of functions, facts of types, or the plain law behind one statement (own work): PC. Conditions: those told in each theorem. -/
import Derived.Test.YtajkecjbdoineaaPB
set_option linter.all false
namespace Go.Proofs
/- Contents, steps of dividing, common divisors. -/
def conF (d : Nat) (p : List Int) : Nat := p.foldl (fun d x => Nat.gcd d x.natAbs) d
def conL (p : List Int) : Nat := conF 0 p
theorem conF_dvd (p : List Int) : ∀ d : Nat, conF d p ∣ d ∧ ∀ x ∈ p, (conF d p : Int) ∣ x := by
  induction p with
  | nil => intro d; exact ⟨Nat.dvd_refl d, by simp⟩
  | cons a p ih =>
    intro d
    have h := ih (Nat.gcd d a.natAbs)
    have e : conF d (a :: p) = conF (Nat.gcd d a.natAbs) p := rfl
    rw [e]
    refine ⟨Nat.dvd_trans h.1 (Nat.gcd_dvd_left _ _), fun x hx => ?_⟩
    rcases List.mem_cons.1 hx with rfl | hx
    · rw [← Int.natAbs_dvd_natAbs, Int.natAbs_natCast]
      exact Nat.dvd_trans h.1 (Nat.gcd_dvd_right _ _)
    · exact h.2 x hx
theorem conF_max (p : List Int) : ∀ (d e : Nat), e ∣ d → (∀ x ∈ p, (e : Int) ∣ x) → e ∣ conF d p := by
  induction p with
  | nil => intro d e h _; exact h
  | cons a p ih =>
    intro d e h1 h2
    refine ih (Nat.gcd d a.natAbs) e (Nat.dvd_gcd h1 ?_) fun x hx => h2 x (by simp [hx])
    have := h2 a (by simp)
    rwa [← Int.natAbs_dvd_natAbs, Int.natAbs_natCast] at this
theorem con_dvd {p : List Int} {x : Int} (h : x ∈ p) : (conL p : Int) ∣ x := (conF_dvd p 0).2 x h
theorem con_max {p : List Int} {e : Nat} (h : ∀ x ∈ p, (e : Int) ∣ x) : e ∣ conL p := conF_max p 0 e (Nat.dvd_zero e) h
theorem con_pos {p : List Int} (h : ∃ x ∈ p, x ≠ 0) : 0 < conL p := by
  obtain ⟨x, hx, h0⟩ := h
  rcases Nat.eq_zero_or_pos (conL p) with e | e
  · have := con_dvd hx
    rw [e] at this
    exact absurd (Int.zero_dvd.1 this) h0
  · exact e
theorem ldd_ex {p : List Int} (h : Ldd p) (h0 : p ≠ []) : ∃ x ∈ p, x ≠ 0 :=
  ⟨cf p (p.length - 1), List.mem_of_getElem? (cf_get (by have := List.length_pos_iff.2 h0; omega)), ldd_cf h h0⟩
theorem ldd_con {p : List Int} (h : Ldd p) (h0 : p ≠ []) : 0 < conL p := con_pos (ldd_ex h h0)
def partL (p : List Int) : List Int := p.map (Int.tdiv · (conL p : Int))
theorem part_len (p : List Int) : (partL p).length = p.length := by unfold partL; simp
theorem part_nil : partL [] = [] := rfl
theorem part_ne {p : List Int} : partL p ≠ [] ↔ p ≠ [] := by
  constructor
  · rintro h rfl; exact h rfl
  · intro h e
    have := part_len p
    rw [e] at this
    exact h (List.length_eq_zero_iff.1 this.symm)
theorem cf_map {p : List Int} {f : Int → Int} (h0 : f 0 = 0) (i : Nat) : cf (p.map f) i = f (cf p i) := by
  unfold cf
  rw [List.getElem?_map]
  cases p[i]? with
  | none => exact h0.symm
  | some x => rfl
theorem cf_mem {p : List Int} {i : Nat} (h : i < p.length) : cf p i ∈ p := List.mem_of_getElem? (cf_get h)
theorem con_cf (p : List Int) (i : Nat) : (conL p : Int) ∣ cf p i := by
  by_cases c : i < p.length
  · exact con_dvd (cf_mem c)
  · rw [cf_out (by omega)]; exact ⟨0, by simp⟩
theorem part_scl (p : List Int) : sclL (conL p : Int) (partL p) = p := by
  refine cf_list (by unfold sclL; rw [List.length_map, part_len]) fun i => ?_
  rw [cf_scl]
  unfold partL
  rw [cf_map (by simp)]
  exact Int.mul_tdiv_cancel' (con_cf p i)
theorem part_ev (p : List Int) (x : Int) : (conL p : Int) * ev (partL p) x = ev p x := by rw [← ev_scl, part_scl]
theorem scl_ldd {c : Int} {p : List Int} (hc : c ≠ 0) : Ldd (sclL c p) ↔ Ldd p := by
  have hl : (sclL c p).length = p.length := by simp [sclL]
  have hn : sclL c p ≠ [] ↔ p ≠ [] := by rw [← List.length_pos_iff, ← List.length_pos_iff, hl]
  constructor
  · intro h
    refine ldd_of fun h0 => ?_
    have := ldd_cf h (hn.2 h0)
    rw [hl, cf_scl] at this
    exact fun e => this (by rw [e, Int.mul_zero])
  · intro h
    refine ldd_of fun h0 => ?_
    have := ldd_cf h (hn.1 h0)
    rw [hl, cf_scl]
    exact Int.mul_ne_zero hc this
theorem part_ldd {p : List Int} (h : Ldd p) : Ldd (partL p) := by
  by_cases h0 : p = []
  · rw [h0]; exact ldd_of fun h => absurd rfl h
  · have hc := ldd_con h h0
    rw [← part_scl p] at h
    exact (scl_ldd (by omega)).1 h
theorem dva_mem {d : Int} {p : List Int} (h : DvA d p) : ∀ x ∈ p, d ∣ x := by
  intro x hx
  obtain ⟨i, hi⟩ := List.mem_iff_getElem?.1 hx
  have := h i
  rwa [cf_in hi] at this
theorem part_pri {p : List Int} (h : Ldd p) (h0 : p ≠ []) : PriL (partL p) := by
  intro d hd hv
  have hc := ldd_con h h0
  have h1 : ∀ x ∈ p, ((d * conL p : Nat) : Int) ∣ x := by
    have : DvA ((d * conL p : Nat) : Int) p := fun i => by
      have e : cf p i = (conL p : Int) * cf (partL p) i := by rw [← cf_scl, part_scl]
      rw [e, Int.natCast_mul, Int.mul_comm (d : Int)]
      exact Int.mul_dvd_mul_left _ (hv i)
    exact dva_mem this
  have h2 := Nat.le_of_dvd hc (con_max h1)
  have : 2 * conL p ≤ d * conL p := Nat.mul_le_mul_right _ hd
  omega
theorem con_scl {c : Nat} {p : List Int} (hc : 0 < c) : conL (sclL c p) = c * conL p := by
  refine Nat.dvd_antisymm ?_ (con_max fun x hx => ?_)
  · have h1 : c ∣ conL (sclL c p) := con_max fun x hx => by
      unfold sclL at hx
      obtain ⟨y, _, rfl⟩ := List.mem_map.1 hx
      exact ⟨y, rfl⟩
    obtain ⟨e, he⟩ := h1
    rw [he]
    refine Nat.mul_dvd_mul_left c (con_max fun x hx => ?_)
    have h2 : ((conL (sclL c p) : Nat) : Int) ∣ c * x := con_dvd (List.mem_map.2 ⟨x, hx, rfl⟩)
    rw [he, Int.natCast_mul] at h2
    exact Int.dvd_of_mul_dvd_mul_left (by omega) h2
  · unfold sclL at hx
    obtain ⟨y, hy, rfl⟩ := List.mem_map.1 hx
    rw [Int.natCast_mul]
    exact Int.mul_dvd_mul_left _ (con_dvd hy)
theorem part_scl_eq {c : Nat} {p : List Int} (hc : 0 < c) : partL (sclL c p) = partL p := by
  refine cf_list (by rw [part_len, part_len]; simp [sclL]) fun i => ?_
  unfold partL
  rw [cf_map (by simp), cf_map (by simp), cf_scl, con_scl hc, Int.natCast_mul, Int.mul_tdiv_mul_of_pos _ _ (by omega)]
/-- Two lists that are multiples of one another have the same part. -/
theorem part_eq {m n : Nat} {p q : List Int} (hm : 0 < m) (hn : 0 < n) (h : sclL m p = sclL n q) : partL p = partL q := by
  rw [← part_scl_eq (p := p) hm, h, part_scl_eq hn]
def negL (p : List Int) : List Int := p.map (-·)
theorem neg_len (p : List Int) : (negL p).length = p.length := by simp [negL]
theorem cf_neg (p : List Int) (i : Nat) : cf (negL p) i = -cf p i := cf_map (by simp) i
theorem neg_scl (p : List Int) : negL p = sclL (-1) p := cf_list (by simp [negL, sclL]) fun i => by rw [cf_neg, cf_scl]; omega
theorem neg_ev (p : List Int) (x : Int) : ev (negL p) x = -ev p x := by rw [neg_scl, ev_scl]; omega
theorem neg_ldd {p : List Int} : Ldd (negL p) ↔ Ldd p := by rw [neg_scl]; exact scl_ldd (by decide)
theorem neg_pri {p : List Int} (h : PriL p) : PriL (negL p) := fun d hd hv => h d hd fun i => by
  have := hv i
  rw [cf_neg] at this
  exact Int.dvd_neg.1 this
def sgnL (p : List Int) : List Int := if cf p (p.length - 1) < 0 then negL p else p
def upS (p : List Int) : List Int := sgnL (partL p)
theorem sgn_len (p : List Int) : (sgnL p).length = p.length := by unfold sgnL; split; exact neg_len p; rfl
theorem sgn_ldd {p : List Int} (h : Ldd p) : Ldd (sgnL p) := by unfold sgnL; split; exact neg_ldd.2 h; exact h
theorem sgn_pri {p : List Int} (h : PriL p) : PriL (sgnL p) := by unfold sgnL; split; exact neg_pri h; exact h
theorem sgn_pos {p : List Int} (h : Ldd p) (h0 : p ≠ []) : 0 < cf (sgnL p) ((sgnL p).length - 1) := by
  have := ldd_cf h h0
  rw [sgn_len]
  unfold sgnL
  split
  · rw [cf_neg]; omega
  · omega
theorem sgn_ev (p : List Int) : (∀ x, ev (sgnL p) x = ev p x) ∨ (∀ x, ev (sgnL p) x = -ev p x) := by
  unfold sgnL; split
  · exact .inr (neg_ev p)
  · exact .inl fun _ => rfl
theorem up_len (p : List Int) : (upS p).length = p.length := by unfold upS; rw [sgn_len, part_len]
theorem up_ldd {p : List Int} (h : Ldd p) : Ldd (upS p) := sgn_ldd (part_ldd h)
theorem up_pri {p : List Int} (h : Ldd p) (h0 : p ≠ []) : PriL (upS p) := sgn_pri (part_pri h h0)
theorem up_ev (p : List Int) (h : Ldd p) (h0 : p ≠ []) : ∃ c : Int, c ≠ 0 ∧ ∀ x, ev p x = c * ev (upS p) x := by
  have hc := ldd_con h h0
  rcases sgn_ev (partL p) with e | e
  · exact ⟨conL p, by omega, fun x => by unfold upS; rw [e, part_ev]⟩
  · exact ⟨-(conL p : Int), by omega, fun x => by unfold upS; rw [e, Int.neg_mul_neg, part_ev]⟩
theorem up_scl {c : Nat} {p : List Int} (hc : 0 < c) : upS (sclL c p) = upS p := by unfold upS; rw [part_scl_eq hc]
theorem up_ne {p : List Int} : upS p ≠ [] ↔ p ≠ [] := by
  rw [← List.length_pos_iff, ← List.length_pos_iff, up_len]
/-! ### a step -/
def upN (p q : List Int) : Int := (cf q (q.length - 1)).natAbs / Nat.gcd (cf p (p.length - 1)).natAbs (cf q (q.length - 1)).natAbs
def dnN (p q : List Int) : Int :=
  let t := Int.tdiv (cf p (p.length - 1)) (Nat.gcd (cf p (p.length - 1)).natAbs (cf q (q.length - 1)).natAbs)
  if cf q (q.length - 1) < 0 then -t else t
def rawL (p q : List Int) : List Int := addL (sclL (upN p q) p) (sclL (-dnN p q) (shfL (p.length - q.length) q))
def stpL (p q : List Int) : List Int := partL (trmL (rawL p q))
theorem raw_ev (p q : List Int) (x : Int) : ev (rawL p q) x = upN p q * ev p x - dnN p q * (x ^ (p.length - q.length) * ev q x) := by
  unfold rawL
  rw [ev_add, ev_scl, ev_scl, ev_shf, Int.neg_mul]; omega
theorem add_len (l m : List Int) : (addL l m).length = max l.length m.length := by
  induction l generalizing m with
  | nil => simp [addL]
  | cons a l ih => cases m with
    | nil => simp [addL]
    | cons b m => simp only [addL, List.length_cons, ih]; omega
theorem raw_len {p q : List Int} (h : q.length ≤ p.length) : (rawL p q).length = p.length := by
  unfold rawL shfL sclL
  rw [add_len]
  simp only [List.length_map, List.length_append, List.length_replicate]
  omega
theorem cf_shf (k : Nat) (l : List Int) (i : Nat) : cf (shfL k l) i = if i < k then 0 else cf l (i - k) := by
  unfold cf shfL
  rw [List.getElem?_append]
  simp only [List.length_replicate]
  split
  · rename_i h; rw [List.getElem?_replicate, if_pos h]; rfl
  · rfl
theorem gcd_facts {a b : Int} (hb : b ≠ 0) : 0 < Nat.gcd a.natAbs b.natAbs ∧ ((Nat.gcd a.natAbs b.natAbs : Nat) : Int) ∣ a ∧ ((Nat.gcd a.natAbs b.natAbs : Nat) : Int) ∣ b := by
  refine ⟨Nat.gcd_pos_of_pos_right _ (by omega), ?_, ?_⟩
  · rw [← Int.natAbs_dvd_natAbs, Int.natAbs_natCast]; exact Nat.gcd_dvd_left _ _
  · rw [← Int.natAbs_dvd_natAbs, Int.natAbs_natCast]; exact Nat.gcd_dvd_right _ _
/-- What up and down are: over the divisor. -/
theorem up_dn {p q : List Int} (hq : Ldd q) (q0 : q ≠ []) : ∃ g : Nat, 0 < g ∧ (g : Int) * upN p q = (cf q (q.length - 1)).natAbs ∧ (g : Int) * dnN p q = (if cf q (q.length - 1) < 0 then -cf p (p.length - 1) else cf p (p.length - 1)) ∧ 0 < upN p q ∧
    upN p q ≤ (cf q (q.length - 1)).natAbs ∧ (dnN p q).natAbs ≤ (cf p (p.length - 1)).natAbs := by
  have hb := ldd_cf hq q0
  obtain ⟨g0, g1, g2⟩ := gcd_facts (a := cf p (p.length - 1)) hb
  unfold upN dnN
  generalize cf p (p.length - 1) = a at *
  generalize cf q (q.length - 1) = b at *
  generalize Nat.gcd a.natAbs b.natAbs = g at *
  have e1 : (g : Int) * ((b.natAbs : Nat) / (g : Int)) = (b.natAbs : Nat) := Int.mul_ediv_cancel' (by rw [← Int.natAbs_dvd_natAbs, Int.natAbs_natCast, Int.natAbs_natCast]; rwa [← Int.natAbs_dvd_natAbs, Int.natAbs_natCast] at g2)
  have e2 : (g : Int) * Int.tdiv a g = a := Int.mul_tdiv_cancel' g1
  have u0 : 0 < ((b.natAbs : Nat) : Int) / (g : Int) := by
    rcases Int.lt_or_le 0 (((b.natAbs : Nat) : Int) / (g : Int)) with c | c
    · exact c
    · have : (g : Int) * (((b.natAbs : Nat) : Int) / (g : Int)) ≤ 0 := Int.mul_nonpos_of_nonneg_of_nonpos (by omega) c
      omega
  refine ⟨g, g0, e1, ?_, u0, ?_, ?_⟩
  · by_cases c : b < 0
    · simp only [c, if_true]; rw [Int.mul_neg, e2]
    · simp only [c, if_false]; exact e2
  · have : 1 * (((b.natAbs : Nat) : Int) / (g : Int)) ≤ (g : Int) * (((b.natAbs : Nat) : Int) / (g : Int)) := Int.mul_le_mul_of_nonneg_right (by omega) (by omega)
    omega
  · have h1 : (Int.tdiv a g).natAbs ≤ a.natAbs := Int.natAbs_tdiv_le_natAbs a g
    split
    · rw [Int.natAbs_neg]; exact h1
    · exact h1
theorem raw_top {p q : List Int} (hq : Ldd q) (q0 : q ≠ []) (h : q.length ≤ p.length) : cf (rawL p q) (p.length - 1) = 0 := by
  obtain ⟨g, g0, e1, e2, _⟩ := up_dn (p := p) hq q0
  have l0 := List.length_pos_iff.2 q0
  have hc : cf (rawL p q) (p.length - 1) = upN p q * cf p (p.length - 1) - dnN p q * cf q (q.length - 1) := by
    unfold rawL
    rw [cf_add, cf_scl, cf_scl, cf_shf, if_neg (by omega)]
    have : p.length - 1 - (p.length - q.length) = q.length - 1 := by omega
    rw [this, Int.neg_mul]; omega
  rw [hc]
  generalize cf p (p.length - 1) = a at *
  generalize cf q (q.length - 1) = b at *
  generalize upN p q = u at *
  generalize dnN p q = d at *
  have : (g : Int) * (u * a - d * b) = 0 := by
    have e3 : (g : Int) * (u * a - d * b) = (g * u) * a - (g * d) * b := by grind
    rw [e3, e1, e2]
    split
    · have : ((b.natAbs : Nat) : Int) = -b := by omega
      rw [this]; grind
    · have : ((b.natAbs : Nat) : Int) = b := by omega
      rw [this]; grind
  rcases Int.mul_eq_zero.1 this with e | e
  · omega
  · exact e
theorem trm_lt {l : List Int} (h0 : l ≠ []) (h : cf l (l.length - 1) = 0) : (trmL l).length < l.length := by
  by_cases c : (trmL l).length < l.length
  · exact c
  · have e : (trmL l).length = l.length := Nat.le_antisymm (trm_len l) (by omega)
    have hn : trmL l ≠ [] := by rw [← List.length_pos_iff, e]; exact List.length_pos_iff.2 h0
    have := ldd_cf (trm_ldd l) hn
    rw [e, trm_cf] at this
    exact absurd h this
theorem stp_lt {p q : List Int} (hq : Ldd q) (q0 : q ≠ []) (h : q.length ≤ p.length) : (stpL p q).length < p.length := by
  have l0 := List.length_pos_iff.2 q0
  unfold stpL
  rw [part_len]
  have e := raw_len h
  have := trm_lt (l := rawL p q) (by rw [← List.length_pos_iff, e]; omega) (by rw [e]; exact raw_top hq q0 h)
  omega
theorem stp_ldd (p q : List Int) : Ldd (stpL p q) := part_ldd (trm_ldd _)
/-- What a step does. -/
theorem stp_ev (p q : List Int) (x : Int) : (conL (trmL (rawL p q)) : Int) * ev (stpL p q) x = upN p q * ev p x - dnN p q * (x ^ (p.length - q.length) * ev q x) := by
  unfold stpL
  rw [part_ev, trm_ev, raw_ev]
/-! ### remainders -/
def inP (l : List Int) : Bool := l.all fun x => decide (-1000000000 ≤ x ∧ x ≤ 1000000000)
def remA (q : List Int) : Nat → List Int → Option (List Int)
  | 0, p => some p
  | n + 1, p => if p.length < q.length then some p else if inP (stpL p q) then remA q n (stpL p q) else none
def remL (p q : List Int) : Option (List Int) := remA q (p.length + 1) (partL p)
/-- p is, but for numbers, a multiple of q and r; r is made of p and q. -/
def Cmb (p q r : List Int) : Prop := ∃ (α β : Int) (A : List Int), α ≠ 0 ∧ β ≠ 0 ∧ ∀ x, α * ev p x = ev q x * ev A x + β * ev r x
theorem Cmb.refl (p q : List Int) : Cmb p q p := ⟨1, 1, [], by decide, by decide, fun x => by simp [ev]⟩
theorem stp_cmb {p q : List Int} (hq : Ldd q) (q0 : q ≠ []) : Cmb p q (stpL p q) := by
  obtain ⟨g, g0, _, _, u0, _, _⟩ := up_dn (p := p) hq q0
  by_cases c : trmL (rawL p q) = []
  · refine ⟨upN p q, 1, shfL (p.length - q.length) [dnN p q], by omega, by decide, fun x => ?_⟩
    have h := raw_ev p q x
    rw [← trm_ev, c] at h
    have hs : stpL p q = [] := by unfold stpL; rw [c]; rfl
    rw [hs, ev_shf]
    simp only [ev] at *
    grind
  · have hc := ldd_con (trm_ldd _) c
    refine ⟨upN p q, conL (trmL (rawL p q)), shfL (p.length - q.length) [dnN p q], by omega, by omega, fun x => ?_⟩
    have h := stp_ev p q x
    rw [h, ev_shf]
    simp only [ev]
    grind
theorem Cmb.step {p q r s : List Int} (h1 : Cmb p q r) (h2 : Cmb r q s) : Cmb p q s := by
  obtain ⟨α, β, A, a0, b0, e1⟩ := h1
  obtain ⟨γ, δ, B, c0, d0, e2⟩ := h2
  refine ⟨α * γ, β * δ, addL (sclL γ A) (sclL β B), Int.mul_ne_zero a0 c0, Int.mul_ne_zero b0 d0, fun x => ?_⟩
  have f1 := e1 x
  have f2 := e2 x
  rw [ev_add, ev_scl, ev_scl]
  have : α * γ * ev p x = γ * (α * ev p x) := by grind
  rw [this, f1]
  have : γ * (ev q x * ev A x + β * ev r x) = γ * (ev q x * ev A x) + β * (γ * ev r x) := by grind
  rw [this, f2]
  grind
theorem remA_fact {q : List Int} (hq : Ldd q) (q0 : q ≠ []) : ∀ (n : Nat) (p r : List Int), Ldd p → p.length < n + q.length → remA q n p = some r → Ldd r ∧ r.length < q.length ∧ Cmb p q r ∧ (r = p ∨ inP r = true) := by
  intro n
  induction n with
  | zero =>
    intro p r hp hl h
    simp only [remA, Option.some.injEq] at h
    subst h
    exact ⟨hp, by omega, Cmb.refl _ _, .inl rfl⟩
  | succ n ih =>
    intro p r hp hl h
    simp only [remA] at h
    split at h
    · rename_i c
      cases h
      exact ⟨hp, c, Cmb.refl _ _, .inl rfl⟩
    · rename_i c
      split at h
      · rename_i c2
        have hlt := stp_lt hq q0 (show q.length ≤ p.length by omega)
        obtain ⟨h1, h2, h3, h4⟩ := ih (stpL p q) r (stp_ldd p q) (by omega) h
        refine ⟨h1, h2, (stp_cmb hq q0).step h3, .inr ?_⟩
        rcases h4 with rfl | h4
        · exact c2
        · exact h4
      · cases h
theorem part_cmb {p q : List Int} (hp : Ldd p) : Cmb p q (partL p) := by
  by_cases c : p = []
  · subst c; exact Cmb.refl _ _
  · exact ⟨1, conL p, [], by decide, by have := ldd_con hp c; omega, fun x => by rw [part_ev]; simp [ev]⟩
theorem rem_fact {p q r : List Int} (hp : Ldd p) (hq : Ldd q) (q0 : q ≠ []) (h : remL p q = some r) : Ldd r ∧ r.length < q.length ∧ Cmb p q r ∧ (r = partL p ∨ inP r = true) := by
  obtain ⟨h1, h2, h3, h4⟩ := remA_fact hq q0 (p.length + 1) (partL p) r (part_ldd hp) (by rw [part_len]; have := List.length_pos_iff.2 q0; omega) h
  exact ⟨h1, h2, (part_cmb hp).step h3, h4⟩
/-! ### common divisors -/
def comA : Nat → List Int → List Int → Option (List Int)
  | 0, p, _ => some (upS p)
  | n + 1, p, q => if q = [] then some (upS p) else match remL p q with
    | none => none
    | some r => comA n q r
def comL (p q : List Int) : Option (List Int) := comA (q.length + 1) p q
/-- A sum of multiples of p and q. -/
def Bez (p q d : List Int) : Prop := ∃ (α : Int) (A B : List Int), α ≠ 0 ∧ ∀ x, α * ev d x = ev p x * ev A x + ev q x * ev B x
structure IsGcd (p q d : List Int) : Prop where
  ldd : Ldd d
  ne : d ≠ []
  dp : DvQ d p
  dq : DvQ d q
  bez : Bez p q d
theorem gcd_next {p q r d : List Int} (h : Cmb p q r) (g : IsGcd q r d) : IsGcd p q d := by
  obtain ⟨α, β, A, a0, b0, e⟩ := h
  refine ⟨g.ldd, g.ne, DvQ.sum g.dp g.dq a0 fun x _ => e x, g.dp, ?_⟩
  obtain ⟨γ, B, C, c0, f⟩ := g.bez
  refine ⟨β * γ, sclL α C, addL (sclL β B) (sclL (-1) (mulL A C)), Int.mul_ne_zero b0 c0, fun x => ?_⟩
  have e1 := e x
  have f1 := f x
  rw [ev_scl, ev_add, ev_scl, ev_scl, ev_mul]
  have : β * γ * ev d x = β * (γ * ev d x) := by grind
  rw [this, f1]
  have : β * (ev q x * ev B x + ev r x * ev C x) = ev q x * (β * ev B x) + (β * ev r x) * ev C x := by grind
  rw [this]
  have : β * ev r x = α * ev p x - ev q x * ev A x := by omega
  rw [this]
  grind
theorem gcd_zero {p : List Int} (hp : Ldd p) (p0 : p ≠ []) : IsGcd p [] (upS p) := by
  obtain ⟨c, c0, hc⟩ := up_ev p hp p0
  refine ⟨up_ldd hp, up_ne.2 p0, ⟨1, [c], by decide, fun x _ => ?_⟩, DvQ.zero _, ⟨c, [1], [], c0, fun x => ?_⟩⟩
  · have := hc x
    simp only [ev]; grind
  · have := hc x
    simp only [ev]; grind
theorem comA_fact : ∀ (n : Nat) (p q d : List Int), Ldd p → Ldd q → (p ≠ [] ∨ q ≠ []) → q.length < n → comA n p q = some d → IsGcd p q d ∧ PriL d ∧ 0 < cf d (d.length - 1) := by
  intro n
  induction n with
  | zero => intro p q d _ _ _ hl; omega
  | succ n ih =>
    intro p q d hp hq h0 hl h
    simp only [comA] at h
    split at h
    · rename_i c
      subst c
      cases h
      have p0 : p ≠ [] := by rcases h0 with h | h; exact h; exact absurd rfl h
      exact ⟨gcd_zero hp p0, up_pri hp p0, sgn_pos (part_ldd hp) (part_ne.2 p0)⟩
    · rename_i c
      cases hr : remL p q with
      | none => rw [hr] at h; cases h
      | some r =>
        rw [hr] at h
        obtain ⟨h1, h2, h3, _⟩ := rem_fact hp hq c hr
        obtain ⟨g1, g2⟩ := ih q r d hq h1 (.inl c) (by omega) h
        exact ⟨gcd_next h3 g1, g2⟩
theorem com_fact {p q d : List Int} (hp : Ldd p) (hq : Ldd q) (h0 : p ≠ [] ∨ q ≠ []) (h : comL p q = some d) : IsGcd p q d ∧ PriL d ∧ 0 < cf d (d.length - 1) := comA_fact _ p q d hp hq h0 (by omega) h
end Go.Proofs
