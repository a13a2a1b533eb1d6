/- Contracts of functions, facts of types, or the plain law behind one statement (own work): PE. Conditions: those told in each theorem. -/
import Derived.Test.YtajkecjbdoineaaPD
set_option linter.all false
namespace Go.Proofs
/- Squarefree parts and parts of the same multiplicity: what both codes compute. -/
theorem mul_zero_of {q B : List Int} (hq : Ldd q) (q0 : q ≠ []) (hB : Ldd B) (h : ∀ x, 1 ≤ x → ev q x * ev B x = 0) : B = [] := by
  by_cases c : B = []
  · exact c
  · have h1 := cf_mul_top q0 c
    have h2 : ∀ x, 1 ≤ x → ev (mulL q B) x = ev [] x := fun x hx => by rw [ev_mul, h x hx]; rfl
    rw [ev_inj h2] at h1
    exact absurd h1.symm (Int.mul_ne_zero (ldd_cf hq q0) (ldd_cf hB c))
theorem quo_unique {q A B : List Int} (hq : Ldd q) (q0 : q ≠ []) (hA : Ldd A) (hB : Ldd B) (h : ∀ x, 1 ≤ x → ev q x * ev A x = ev q x * ev B x) : A = B := by
  have h1 := mul_zero_of hq q0 (trm_ldd (addL A (sclL (-1) B))) fun x hx => by
    rw [trm_ev, ev_add, ev_scl]
    have := h x hx
    grind
  refine ldd_eq hA hB fun x _ => ?_
  have h2 := trm_ev (addL A (sclL (-1) B)) x
  rw [h1, ev_add, ev_scl] at h2
  simp only [ev] at h2
  omega
open Classical in
noncomputable def quoL (p q : List Int) : List Int := if h : ∃ B, Ldd B ∧ ∀ x, 1 ≤ x → ev p x = ev q x * ev B x then choose h else []
theorem quoL_eq {p q B : List Int} (hq : Ldd q) (q0 : q ≠ []) (hB : Ldd B) (h : ∀ x, 1 ≤ x → ev p x = ev q x * ev B x) : quoL p q = B := by
  have hex : ∃ B, Ldd B ∧ ∀ x, 1 ≤ x → ev p x = ev q x * ev B x := ⟨B, hB, h⟩
  unfold quoL
  rw [dif_pos hex]
  obtain ⟨h1, h2⟩ := Classical.choose_spec hex
  exact quo_unique hq q0 h1 hB fun x hx => by rw [← h2 x hx, h x hx]
/-- An exact quotient by a primitive divisor. -/
theorem quoL_fact {p q : List Int} (hq : Ldd q) (q0 : q ≠ []) (hp : PriL q) (h : DvQ q p) : Ldd (quoL p q) ∧ ∀ x, 1 ≤ x → ev p x = ev q x * ev (quoL p q) x := by
  obtain ⟨B, h1, h2⟩ := DvQ.exact hp h
  rw [quoL_eq hq q0 h1 h2]
  exact ⟨h1, h2⟩
theorem DvQ.scl {d p q : List Int} {c : Int} (hc : c ≠ 0) (h : ∀ x, ev p x = c * ev q x) (hd : DvQ d p) : DvQ d q := by
  obtain ⟨α, A, a0, ha⟩ := hd
  refine ⟨α * c, A, Int.mul_ne_zero a0 hc, fun x hx => ?_⟩
  rw [Int.mul_assoc, ← h x]
  exact ha x hx
theorem DvQ.toUp {d p : List Int} (hp : Ldd p) (p0 : p ≠ []) (h : DvQ d p) : DvQ d (upS p) := by
  obtain ⟨c, c0, hc⟩ := up_ev p hp p0
  exact h.scl c0 hc
theorem DvQ.toPart {d p : List Int} (hp : Ldd p) (p0 : p ≠ []) (h : DvQ d p) : DvQ d (partL p) := h.scl (c := (conL p : Int)) (by have := ldd_con hp p0; omega) fun x => (part_ev p x).symm
theorem neg_neg_l (p : List Int) : negL (negL p) = p := cf_list (by rw [neg_len, neg_len]) fun i => by rw [cf_neg, cf_neg]; omega
theorem con_neg (p : List Int) : conL (negL p) = conL p := by
  refine Nat.dvd_antisymm (con_max fun x hx => ?_) (con_max fun x hx => ?_)
  · have : -x ∈ negL p := List.mem_map.2 ⟨x, hx, rfl⟩
    exact Int.dvd_neg.1 (con_dvd this)
  · unfold negL at hx
    obtain ⟨y, hy, rfl⟩ := List.mem_map.1 hx
    exact Int.dvd_neg.2 (con_dvd hy)
theorem part_neg (p : List Int) : partL (negL p) = negL (partL p) := by
  refine cf_list (by rw [part_len, neg_len, neg_len, part_len]) fun i => ?_
  rw [cf_neg]
  unfold partL
  rw [cf_map (by simp), cf_map (by simp), cf_neg, con_neg, Int.neg_tdiv]
theorem sgn_neg {p : List Int} (hp : Ldd p) : sgnL (negL p) = sgnL p := by
  by_cases c : p = []
  · subst c; rfl
  · have h := ldd_cf hp c
    unfold sgnL
    rw [neg_len, cf_neg]
    by_cases k : cf p (p.length - 1) < 0
    · rw [if_neg (by omega), if_pos k]
    · rw [if_pos (by omega), if_neg k, neg_neg_l]
theorem up_neg {p : List Int} (hp : Ldd p) : upS (negL p) = upS p := by unfold upS; rw [part_neg, sgn_neg (part_ldd hp)]
noncomputable def freeL (p : List Int) : Option (List Int) := (comL p (dvL p)).map fun d => upS (quoL (upS p) d)
/-- The quotient that the program takes: of the part. -/
theorem free_part {p d : List Int} (hp : Ldd p) (p0 : p ≠ []) (hd : Ldd d) (d0 : d ≠ []) (hpr : PriL d) (h : DvQ d p) : upS (quoL (partL p) d) = upS (quoL (upS p) d) := by
  obtain ⟨l1, e1⟩ := quoL_fact hd d0 hpr (h.toPart hp p0)
  rcases sgn_ev (partL p) with e | e
  · have : quoL (upS p) d = quoL (partL p) d := quoL_eq hd d0 l1 fun x hx => by unfold upS; rw [e x]; exact e1 x hx
    rw [this]
  · have : quoL (upS p) d = negL (quoL (partL p) d) := quoL_eq hd d0 (neg_ldd.2 l1) fun x hx => by unfold upS; rw [e x, neg_ev, e1 x hx, Int.mul_neg]
    rw [this, up_neg l1]
noncomputable def partsA : Nat → List Int → List Int → Option (List (List Int))
  | 0, _, _ => some []
  | n + 1, w, c => if w.length ≤ 1 then some [] else match comL w c with
    | none => none
    | some y => (partsA n y (upS (quoL c y))).map (upS (quoL w y) :: ·)
noncomputable def partsM (p : List Int) : Option (List (List Int)) := (comL p (dvL p)).bind fun c => (freeL p).bind fun w => partsA 40 w c
theorem Fac.of {P w B : List Int} {q : List Int} (h : Fac P w) (e : ∀ x, 1 ≤ x → ev w x = ev q x * ev B x) : Fac P q ∧ Fac P B :=
  ⟨h.trans ⟨B, e⟩, h.trans ⟨q, fun x hx => by rw [e x hx, Int.mul_comm]⟩⟩
theorem top_part {p : List Int} (h : Top p) : Top (partL p) := ⟨part_ldd h.ldd, part_ne.2 h.ne, by rw [part_len]; exact h.len, fun x hx => by
  unfold partL at hx
  obtain ⟨y, hy, rfl⟩ := List.mem_map.1 hx
  have := h.bd y hy
  have := Int.natAbs_tdiv_le_natAbs y (conL p)
  omega⟩
/-- A factor of a polynomial that came in. -/
structure InF (P w : List Int) : Prop where
  ldd : Ldd w
  fac : Fac P w
theorem InF.ne {P w : List Int} (hP : Top P) (h : InF P w) : w ≠ [] := (fac_bound hP h.ldd h.fac).1
theorem InF.len {P w : List Int} (hP : Top P) (h : InF P w) : w.length ≤ 9 := by have := (fac_bound hP h.ldd h.fac).2.1; have := hP.len; omega
theorem InF.bd {P w : List Int} (hP : Top P) (h : InF P w) : ∀ x ∈ w, -40000000 ≤ x ∧ x ≤ 40000000 := (fac_bound hP h.ldd h.fac).2.2
theorem InF.up {P w : List Int} (h : InF P w) : InF P (upS w) := ⟨up_ldd h.ldd, h.fac.up⟩
theorem InF.part {P w : List Int} (h : InF P w) : InF P (partL w) := ⟨part_ldd h.ldd, h.fac.part⟩
/-- A divisor and its quotient. -/
theorem InF.quo {P w y : List Int} (h : InF P w) (hy : Ldd y) (y0 : y ≠ []) (hpr : PriL y) (hd : DvQ y w) : InF P y ∧ InF P (quoL w y) ∧ (∀ x, 1 ≤ x → ev w x = ev y x * ev (quoL w y) x) := by
  obtain ⟨l1, e1⟩ := quoL_fact hy y0 hpr hd
  obtain ⟨f1, f2⟩ := h.fac.of e1
  exact ⟨⟨hy, f1⟩, ⟨l1, f2⟩, e1⟩
theorem free_fact {P p d : List Int} (hP : Top P) (h : InF P p) (hd : comL p (dvL p) = some d) :
    InF P d ∧ PriL d ∧ InF P (quoL (upS p) d) ∧ (∀ x, 1 ≤ x → ev (upS p) x = ev d x * ev (quoL (upS p) d) x) ∧ InF P (quoL (partL p) d) ∧ (∀ x, 1 ≤ x → ev (partL p) x = ev d x * ev (quoL (partL p) d) x) ∧ upS (quoL (partL p) d) = upS (quoL (upS p) d) := by
  have p0 := h.ne hP
  obtain ⟨g, hpr, _⟩ := com_fact h.ldd (dv_ldd h.ldd) (.inl p0) hd
  obtain ⟨a1, a2, a3⟩ := h.up.quo g.ldd g.ne hpr (g.dp.toUp h.ldd p0)
  obtain ⟨b1, b2, b3⟩ := h.part.quo g.ldd g.ne hpr (g.dp.toPart h.ldd p0)
  exact ⟨a1, hpr, a2, a3, b2, b3, free_part h.ldd p0 g.ldd g.ne hpr g.dp⟩
/-- How many rounds are left at most. -/
def msr (w c : List Int) : Nat := c.length + (if w.length ≤ 1 then 0 else 1)
theorem msr_next {P w c y : List Int} (hP : Top P) (hw : InF P w) (hc : InF P c) (hw1 : 1 < w.length) (h : comL w c = some y) :
    InF P y ∧ PriL y ∧ InF P (quoL w y) ∧ InF P (quoL c y) ∧ (∀ x, 1 ≤ x → ev w x = ev y x * ev (quoL w y) x) ∧ (∀ x, 1 ≤ x → ev c x = ev y x * ev (quoL c y) x) ∧ msr y (upS (quoL c y)) < msr w c := by
  have w0 := hw.ne hP
  have c0 := hc.ne hP
  obtain ⟨g, hpr, _⟩ := com_fact hw.ldd hc.ldd (.inl w0) h
  obtain ⟨a1, a2, a3⟩ := hw.quo g.ldd g.ne hpr g.dp
  obtain ⟨b1, b2, b3⟩ := hc.quo g.ldd g.ne hpr g.dq
  refine ⟨a1, hpr, a2, b2, a3, b3, ?_⟩
  obtain ⟨_, _, hl, _⟩ := mul_len hc.ldd g.ldd b2.ldd c0 b3
  have ly := List.length_pos_iff.2 g.ne
  unfold msr
  rw [up_len, if_neg (show ¬ w.length ≤ 1 by omega)]
  split <;> omega
end Go.Proofs
