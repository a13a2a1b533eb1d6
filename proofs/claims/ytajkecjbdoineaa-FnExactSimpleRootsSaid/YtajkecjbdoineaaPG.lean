/- Contracts of functions, facts of types, or the plain law behind one statement (own work): PG. Conditions: those told in each theorem. -/
import Derived.Test.YtajkecjbdoineaaPE
set_option linter.all false
namespace Go.Proofs
/- The squarefree part has no root in common with its derivative. -/
theorem dv_cons (a : Int) (l : List Int) (x : Int) : ev (dvL (a :: l)) x = ev l x + x * ev (dvL l) x := by
  have h : ∀ i, cf (dvL (a :: l)) i = cf (addL l (0 :: dvL l)) i := by
    intro i
    rw [cf_dv, cf_add, cf_succ]
    cases i with
    | zero => rw [cf_zero]; simp
    | succ i => rw [cf_succ, cf_dv]; grind
  rw [ev_cf h, ev_add]
  simp only [ev]; omega
theorem dv_add (l m : List Int) (x : Int) : ev (dvL (addL l m)) x = ev (dvL l) x + ev (dvL m) x := by
  have h : ∀ i, cf (dvL (addL l m)) i = cf (addL (dvL l) (dvL m)) i := by
    intro i
    rw [cf_dv, cf_add, cf_add, cf_dv, cf_dv]; grind
  rw [ev_cf h, ev_add]
theorem dv_congr {l m : List Int} (h : ∀ x, 1 ≤ x → ev l x = ev m x) (x : Int) : ev (dvL l) x = ev (dvL m) x :=
  ev_cf (fun i => by rw [cf_dv, cf_dv, ev_inj h]) x
theorem dv_mul (l m : List Int) (x : Int) : ev (dvL (mulL l m)) x = ev (dvL l) x * ev m x + ev l x * ev (dvL m) x := by
  induction l with
  | nil => simp [mulL, dvL, ev]
  | cons a l ih =>
    have e : mulL (a :: l) m = addL (sclL a m) (0 :: mulL l m) := rfl
    rw [e, dv_add, dv_scl, ev_scl, dv_cons, dv_cons, ih, ev_mul]
    simp only [ev]
    grind
def powL (h : List Int) : Nat → List Int
  | 0 => [1]
  | k + 1 => mulL h (powL h k)
theorem pow_succ_ev (h : List Int) (k : Nat) (x : Int) : ev (powL h (k + 1)) x = ev h x * ev (powL h k) x := ev_mul _ _ _
theorem dv_pow (h : List Int) (k : Nat) (x : Int) : ev (dvL (powL h (k + 1))) x = ((k : Int) + 1) * (ev (powL h k) x * ev (dvL h) x) := by
  induction k with
  | zero =>
    have e : powL h 1 = mulL h [1] := rfl
    rw [e, dv_mul]
    simp [powL, dvL, ev]
  | succ k ih =>
    have e : powL h (k + 1 + 1) = mulL h (powL h (k + 1)) := rfl
    rw [e, dv_mul, ih, pow_succ_ev]
    grind
/-- Remainders and common divisors, of any size. -/
theorem rem_exists {q : List Int} (hq : Ldd q) (q0 : q ≠ []) : ∀ (n : Nat) (p : List Int), p.length ≤ n → Ldd p → ∃ r, Ldd r ∧ r.length < q.length ∧ Cmb p q r := by
  intro n
  induction n with
  | zero => intro p hl hp; exact ⟨p, hp, by have := List.length_pos_iff.2 q0; omega, Cmb.refl _ _⟩
  | succ n ih =>
    intro p hl hp
    by_cases c : p.length < q.length
    · exact ⟨p, hp, c, Cmb.refl _ _⟩
    · obtain ⟨r, h1, h2, h3⟩ := ih (stpL p q) (by have := stp_lt hq q0 (show q.length ≤ p.length by omega); omega) (stp_ldd p q)
      exact ⟨r, h1, h2, (stp_cmb hq q0).step h3⟩
theorem gcd_exists : ∀ (n : Nat) (p q : List Int), q.length ≤ n → Ldd p → Ldd q → (p ≠ [] ∨ q ≠ []) → ∃ d, IsGcd p q d := by
  intro n
  induction n with
  | zero =>
    intro p q hl hp hq h0
    have : q = [] := List.length_eq_zero_iff.1 (by omega)
    subst this
    exact ⟨upS p, gcd_zero hp (by rcases h0 with h | h; exact h; exact absurd rfl h)⟩
  | succ n ih =>
    intro p q hl hp hq h0
    by_cases c : q = []
    · subst c
      exact ⟨upS p, gcd_zero hp (by rcases h0 with h | h; exact h; exact absurd rfl h)⟩
    · obtain ⟨r, h1, h2, h3⟩ := rem_exists hq c p.length p (Nat.le_refl _) hp
      obtain ⟨d, g⟩ := ih q r (by omega) hq h1 (.inl c)
      exact ⟨d, gcd_next h3 g⟩
theorem dvq_len {g d : List Int} (hd : Ldd d) (d0 : d ≠ []) (h : DvQ g d) : (trmL g).length ≤ d.length := by
  obtain ⟨α, A, a0, e⟩ := h
  have e2 : ∀ x, 1 ≤ x → ev (sclL α d) x = ev (trmL g) x * ev (trmL A) x := fun x hx => by rw [ev_scl, trm_ev, trm_ev]; exact e x hx
  obtain ⟨h1, h2, h3, _⟩ := mul_len ((scl_ldd a0).2 hd) (trm_ldd g) (trm_ldd A) (scl_ne.2 d0) e2
  rw [scl_len] at h3
  have := List.length_pos_iff.2 h2
  omega
theorem pow_len {h : List Int} (hh : Ldd h) (h2 : 2 ≤ h.length) : ∀ k, k + 1 ≤ (trmL (powL h k)).length := by
  intro k
  induction k with
  | zero => show 1 ≤ (trmL [1]).length; decide
  | succ k ih =>
    have h0 : h ≠ [] := by rw [← List.length_pos_iff]; omega
    have e : ∀ x, 1 ≤ x → ev (trmL (powL h (k + 1))) x = ev h x * ev (trmL (powL h k)) x := fun x _ => by rw [trm_ev, trm_ev, pow_succ_ev]
    have hn : trmL (powL h (k + 1)) ≠ [] := by
      intro hz
      have := mul_zero_of hh h0 (trm_ldd (powL h k)) fun x hx => by rw [← e x hx, hz]; rfl
      rw [this] at ih
      simp at ih
    obtain ⟨_, _, h3, _⟩ := mul_len (trm_ldd _) hh (trm_ldd _) hn e
    omega
theorem DvQ.mulr {d p : List Int} (h : DvQ d p) (m : List Int) : DvQ d (mulL p m) := by
  obtain ⟨α, A, a0, e⟩ := h
  refine ⟨α, mulL A m, a0, fun x hx => ?_⟩
  have := e x hx
  rw [ev_mul, ev_mul]
  grind
theorem DvQ.congr {d p q : List Int} (h : DvQ d p) (e : ∀ x, 1 ≤ x → ev p x = ev q x) : DvQ d q := by
  obtain ⟨α, A, a0, h⟩ := h
  exact ⟨α, A, a0, fun x hx => by rw [← e x hx]; exact h x hx⟩
theorem DvQ.comb {d p q r : List Int} {α : Int} {A B : List Int} (h1 : DvQ d p) (h2 : DvQ d q) (a0 : α ≠ 0) (e : ∀ x, 1 ≤ x → α * ev r x = ev p x * ev A x + ev q x * ev B x) : DvQ d r := by
  have h3 : DvQ d (mulL q B) := h2.mulr B
  exact DvQ.sum (q := p) (r := mulL q B) (α := α) (β := 1) (A := A) h1 h3 a0 fun x hx => by rw [ev_mul, e x hx]; omega
/-- F is p over its divisor with the derivative; nothing but numbers divides it and its derivative. -/
theorem free_cop {p F d : List Int} {c : Int} (hp : Ldd p) (g : IsGcd p (dvL p) d) (c0 : c ≠ 0) (e : ∀ x, 1 ≤ x → c * ev p x = ev d x * ev F x) (hF : Ldd F) (F0 : F ≠ []) :
    ∀ (n : Nat) (h : List Int), h.length ≤ n → Ldd h → 2 ≤ h.length → DvQ h F → DvQ h (dvL F) → False := by
  intro n
  induction n with
  | zero => intro h hl _ h2; omega
  | succ n ih =>
    intro h hl hh h2 hF1 hF2
    have h0 : h ≠ [] := by rw [← List.length_pos_iff]; omega
    obtain ⟨q, gq⟩ := gcd_exists _ h (dvL h) (Nat.le_refl _) hh (dv_ldd hh) (.inl h0)
    have dl := dv_len h
    have d0 : dvL h ≠ [] := by rw [← List.length_pos_iff, dl]; omega
    by_cases c2 : 2 ≤ q.length
    · have hql := dvq_len (dv_ldd hh) d0 gq.dq
      rw [trm_id gq.ldd, dl] at hql
      exact ih q (by omega) gq.ldd c2 (gq.dp.trans hF1) (gq.dp.trans hF2)
    · -- h and its derivative have nothing in common
      obtain ⟨β, A, B, b0, hb⟩ := gq.bez
      have ql := List.length_pos_iff.2 gq.ne
      obtain ⟨k, hk⟩ : ∃ k, q = [k] := by
        match q, ql, c2 with
        | [k], _, _ => exact ⟨k, rfl⟩
        | a :: b :: l, _, c2 => exact absurd (by simp) c2
      have k0 : k ≠ 0 := by
        have := ldd_cf gq.ldd gq.ne
        rw [hk] at this
        exact this
      have hb2 : ∀ x, β * k = ev h x * ev A x + ev (dvL h) x * ev B x := fun x => by
        have := hb x
        rw [hk] at this
        simp only [ev] at this
        grind
      obtain ⟨γ, F2, g0, hg⟩ := hF1
      -- the derivative of F
      have hdF : ∀ x, γ * ev (dvL F) x = ev (dvL h) x * ev F2 x + ev h x * ev (dvL F2) x := fun x => by
        rw [← ev_scl, ← dv_scl, ← dv_mul]
        exact dv_congr (fun x hx => by rw [ev_scl, ev_mul]; exact hg x hx) x
      obtain ⟨δ, G, e0, hd⟩ := hF2
      -- h divides F2
      have hF2' : DvQ h F2 := by
        refine ⟨δ * (β * k), addL (sclL δ (mulL A F2)) (mulL B (addL (sclL γ G) (sclL (-δ) (dvL F2)))), Int.mul_ne_zero e0 (Int.mul_ne_zero b0 k0), fun x hx => ?_⟩
        have e1 := hb2 x
        have e2 := hdF x
        have e3 := hd x hx
        rw [ev_add, ev_scl, ev_mul, ev_mul, ev_add, ev_scl, ev_scl]
        rw [e1]
        have e4 : δ * (ev (dvL h) x * ev F2 x) = γ * (ev h x * ev G x) - δ * (ev h x * ev (dvL F2) x) := by
          rw [← e3]
          have : δ * (ev (dvL h) x * ev F2 x + ev h x * ev (dvL F2) x) = δ * (γ * ev (dvL F) x) := by rw [e2]
          grind
        have e5 : δ * (ev h x * ev A x + ev (dvL h) x * ev B x) * ev F2 x = ev h x * (δ * ev A x * ev F2 x) + (δ * (ev (dvL h) x * ev F2 x)) * ev B x := by grind
        rw [e5, e4]
        grind
      obtain ⟨ζ, F3, z0, hz⟩ := hF2'
      -- all powers divide d
      have hpow : ∀ m, DvQ (powL h m) d := by
        intro m
        induction m with
        | zero => exact ⟨1, d, by decide, fun x _ => by simp [powL, ev]⟩
        | succ m ihm =>
          obtain ⟨η, R, n0, hn⟩ := ihm
          -- p is h^(m+2) R F3
          have hpp : ∀ x, 1 ≤ x → (η * (ζ * (γ * c))) * ev p x = ev (powL h (m + 2)) x * ev (mulL R F3) x := by
            intro x hx
            have e1 := e x hx
            have e2 := hn x hx
            have e3 := hz x hx
            have e4 := hg x hx
            rw [show m + 2 = (m + 1) + 1 by omega, pow_succ_ev, pow_succ_ev, ev_mul]
            have f1 : η * (ζ * (γ * c)) * ev p x = (η * ev d x) * (ζ * (γ * ev F x)) := by
              have : η * (ζ * (γ * c)) * ev p x = η * (ζ * γ) * (c * ev p x) := by grind
              rw [this, e1]; grind
            rw [f1, e2, e4]
            have f2 : ζ * (ev h x * ev F2 x) = ev h x * (ζ * ev F2 x) := by grind
            rw [f2, e3]
            grind
          have N0 : η * (ζ * (γ * c)) ≠ 0 := Int.mul_ne_zero n0 (Int.mul_ne_zero z0 (Int.mul_ne_zero g0 c0))
          generalize η * (ζ * (γ * c)) = N at *
          generalize mulL R F3 = S at *
          have d1 : DvQ (powL h (m + 1)) p := ⟨N, mulL h S, N0, fun x hx => by
            rw [hpp x hx, show m + 2 = (m + 1) + 1 by omega, pow_succ_ev, ev_mul]; grind⟩
          have d2 : DvQ (powL h (m + 1)) (dvL p) := by
            refine ⟨N, addL (sclL ((m : Int) + 1 + 1) (mulL (dvL h) S)) (mulL h (dvL S)), N0, fun x hx => ?_⟩
            have f1 : N * ev (dvL p) x = ev (dvL (mulL (powL h (m + 2)) S)) x := by
              rw [← ev_scl, ← dv_scl]
              exact dv_congr (fun x hx => by rw [ev_scl, ev_mul]; exact hpp x hx) x
            have f2 := dv_pow h (m + 1) x
            have f3 := pow_succ_ev h (m + 1) x
            rw [f1, dv_mul, show m + 2 = (m + 1) + 1 by omega, f2, f3, ev_add, ev_scl, ev_mul, ev_mul]
            have : ((m + 1 : Nat) : Int) = (m : Int) + 1 := by omega
            rw [this]
            grind
          obtain ⟨θ, A', B', t0, ht⟩ := g.bez
          exact DvQ.comb d1 d2 t0 fun x _ => ht x
      have l1 := pow_len hh h2 d.length
      have l2 := dvq_len g.ldd g.ne (hpow d.length)
      omega
/-- Nothing but numbers divides both. -/
def Cop (a b : List Int) : Prop := ∀ h, Ldd h → DvQ h a → DvQ h b → h.length ≤ 1
theorem Cop.next {a b r : List Int} (h : Cop a b) (c : Cmb a b r) : Cop b (negL r) := by
  obtain ⟨α, β, A, a0, b0, e⟩ := c
  intro g hg h1 h2
  have h3 : DvQ g r := h2.scl (c := -1) (by decide) fun x => by rw [neg_ev]; omega
  exact h g hg (DvQ.sum h1 h3 a0 fun x _ => e x) h1
theorem Cop.ne {a b r : List Int} (h : Cop a b) (hb : Ldd b) (b2 : 1 < b.length) (c : Cmb a b r) : r ≠ [] := by
  rintro rfl
  have h1 : Cop b (negL []) := h.next c
  have := h1 b hb (DvQ.refl b) (DvQ.zero b)
  omega
theorem free_cop' {P p f : List Int} (hP : Top P) (hp : InF P p) (hf : freeL p = some f) : InF P f ∧ Cop f (partL (dvL f)) := by
  have p0 := hp.ne hP
  unfold freeL at hf
  obtain ⟨d, hd, rfl⟩ := Option.map_eq_some_iff.1 hf
  obtain ⟨a1, a2, a3, a4, _⟩ := free_fact hP hp hd
  obtain ⟨g, _, _⟩ := com_fact hp.ldd (dv_ldd hp.ldd) (.inl p0) hd
  have F0 := a3.ne hP
  obtain ⟨k, k0, hk⟩ := up_ev p hp.ldd p0
  obtain ⟨j, j0, hj⟩ := up_ev (quoL (upS p) d) a3.ldd F0
  have hu := a3.up
  refine ⟨hu, fun h hh h1 h2 => ?_⟩
  by_cases c : h.length ≤ 1
  · exact c
  · exfalso
    have hF := hu.ldd
    have F0' := hu.ne hP
    generalize upS (quoL (upS p) d) = F at *
    have h3 : DvQ h (dvL F) := by
      by_cases z : dvL F = []
      · rw [z]; exact DvQ.zero h
      · obtain ⟨α, A, b0, e⟩ := h2
        refine ⟨α, sclL (conL (dvL F)) A, b0, fun x hx => ?_⟩
        have := e x hx
        rw [← part_ev (dvL F) x, ev_scl]
        grind
    -- p, but for a number, is d times F
    have e : ∀ x, 1 ≤ x → 1 * ev p x = ev (sclL (k * j) d) x * ev F x := fun x hx => by
      rw [hk x, a4 x hx, hj x, ev_scl]; grind
    have g' : IsGcd p (dvL p) (sclL (k * j) d) := by
      have kj : k * j ≠ 0 := Int.mul_ne_zero k0 j0
      refine ⟨(scl_ldd kj).2 g.ldd, scl_ne.2 g.ne, ?_, ?_, ?_⟩
      · obtain ⟨α, A, b0, e⟩ := g.dp
        exact ⟨α * (k * j), A, Int.mul_ne_zero b0 kj, fun x hx => by have := e x hx; rw [ev_scl]; grind⟩
      · obtain ⟨α, A, b0, e⟩ := g.dq
        exact ⟨α * (k * j), A, Int.mul_ne_zero b0 kj, fun x hx => by have := e x hx; rw [ev_scl]; grind⟩
      · obtain ⟨α, A, B, b0, e⟩ := g.bez
        exact ⟨α, sclL (k * j) A, sclL (k * j) B, b0, fun x => by have := e x; rw [ev_scl, ev_scl, ev_scl]; grind⟩
    exact free_cop hp.ldd g' (by decide) e hF F0' h.length h (Nat.le_refl _) hh (by omega) h1 h3
end Go.Proofs
