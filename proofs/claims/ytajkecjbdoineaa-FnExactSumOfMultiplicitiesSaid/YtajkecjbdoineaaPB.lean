/- Contracts of functions, facts of types, or the plain law behind one statement (own work): PB. Conditions: those told in each theorem. -/
set_option linter.all false
namespace Go.Proofs
/- Polynomials as lists of coefficients: values, products, divisors; Gauss's lemma. -/
def ev : List Int → Int → Int
  | [], _ => 0
  | a :: l, x => a + x * ev l x
def cf (l : List Int) (i : Nat) : Int := l[i]?.getD 0
theorem cf_nil (i : Nat) : cf [] i = 0 := rfl
theorem cf_zero (a : Int) (l : List Int) : cf (a :: l) 0 = a := rfl
theorem cf_succ (a : Int) (l : List Int) (i : Nat) : cf (a :: l) (i + 1) = cf l i := rfl
theorem cf_out {l : List Int} {i : Nat} (h : l.length ≤ i) : cf l i = 0 := by unfold cf; rw [List.getElem?_eq_none h]; rfl
theorem cf_in {l : List Int} {i : Nat} {x : Int} (h : l[i]? = some x) : cf l i = x := by unfold cf; rw [h]; rfl
theorem cf_get {l : List Int} {i : Nat} (h : i < l.length) : l[i]? = some (cf l i) := by unfold cf; rw [List.getElem?_eq_getElem h]; rfl
def addL : List Int → List Int → List Int
  | [], m => m
  | a :: l, [] => a :: l
  | a :: l, b :: m => (a + b) :: addL l m
def sclL (c : Int) (l : List Int) : List Int := l.map (c * ·)
def mulL : List Int → List Int → List Int
  | [], _ => []
  | a :: l, m => addL (sclL a m) (0 :: mulL l m)
def shfL (k : Nat) (l : List Int) : List Int := List.replicate k 0 ++ l
theorem ev_add (l m : List Int) (x : Int) : ev (addL l m) x = ev l x + ev m x := by
  induction l generalizing m with
  | nil => simp [addL, ev]
  | cons a l ih => cases m with
    | nil => simp [addL, ev]
    | cons b m => simp only [addL, ev, ih]; grind
theorem ev_scl (c : Int) (l : List Int) (x : Int) : ev (sclL c l) x = c * ev l x := by
  induction l with
  | nil => simp [sclL, ev]
  | cons a l ih => simp only [sclL, List.map_cons, ev] at *; rw [ih]; grind
theorem ev_mul (l m : List Int) (x : Int) : ev (mulL l m) x = ev l x * ev m x := by
  induction l with
  | nil => simp [mulL, ev]
  | cons a l ih => simp only [mulL, ev_add, ev_scl, ev, ih]; grind
theorem ev_shf (k : Nat) (l : List Int) (x : Int) : ev (shfL k l) x = x ^ k * ev l x := by
  induction k with
  | zero => simp [shfL]
  | succ k ih =>
    have : shfL (k + 1) l = 0 :: shfL k l := rfl
    rw [this]
    simp only [ev, ih]; grind
theorem ev_append (l m : List Int) (x : Int) : ev (l ++ m) x = ev l x + x ^ l.length * ev m x := by
  induction l with
  | nil => simp [ev]
  | cons a l ih => simp only [List.cons_append, ev, ih, List.length_cons]; grind
theorem cf_add (l m : List Int) (i : Nat) : cf (addL l m) i = cf l i + cf m i := by
  induction l generalizing m i with
  | nil => simp [addL, cf_nil]
  | cons a l ih => cases m with
    | nil => simp [addL, cf_nil]
    | cons b m => cases i with
      | zero => simp [addL, cf_zero]
      | succ i => simp only [addL, cf_succ, ih]
theorem cf_scl (c : Int) (l : List Int) (i : Nat) : cf (sclL c l) i = c * cf l i := by
  induction l generalizing i with
  | nil => simp [sclL, cf_nil]
  | cons a l ih => cases i with
    | zero => rfl
    | succ i => simp only [sclL, List.map_cons, cf_succ] at *; exact ih i
/-- A polynomial without values has no coefficients. -/
theorem ev_zero {l : List Int} (h : ∀ x, 1 ≤ x → ev l x = 0) : ∀ i, cf l i = 0 := by
  induction l with
  | nil => intro i; rfl
  | cons a l ih =>
    have ha : a = 0 := by
      have h1 := h ((a.natAbs : Int) + 1) (by omega)
      have h2 : ((a.natAbs : Int) + 1) ∣ a := by
        refine ⟨-ev l ((a.natAbs : Int) + 1), ?_⟩
        simp only [ev] at h1
        grind
      by_cases c : a = 0
      · exact c
      · have := Int.natAbs_dvd_natAbs.2 h2
        have := Nat.le_of_dvd (by omega) this
        omega
    subst ha
    have h2 : ∀ x, 1 ≤ x → ev l x = 0 := by
      intro x hx
      have := h x hx
      simp only [ev, Int.zero_add] at this
      rcases Int.mul_eq_zero.1 this with e | e
      · omega
      · exact e
    intro i
    cases i with
    | zero => rfl
    | succ i => exact ih h2 i
theorem ev_inj {l m : List Int} (h : ∀ x, 1 ≤ x → ev l x = ev m x) (i : Nat) : cf l i = cf m i := by
  have h1 := ev_zero (l := addL l (sclL (-1) m)) (fun x hx => by rw [ev_add, ev_scl, h x hx]; omega) i
  rw [cf_add, cf_scl] at h1
  omega
theorem ev_cf {l m : List Int} (h : ∀ i, cf l i = cf m i) (x : Int) : ev l x = ev m x := by
  induction l generalizing m with
  | nil =>
    induction m with
    | nil => rfl
    | cons b m ih =>
      have h0 := h 0
      rw [cf_zero, cf_nil] at h0
      have := ih fun i => by have := h (i + 1); rw [cf_succ] at this; rw [cf_nil] at *; exact this
      simp only [ev] at *
      rw [← this, ← h0]; simp
  | cons a l ih => cases m with
    | nil =>
      have h0 := h 0
      rw [cf_zero, cf_nil] at h0
      have := ih (m := []) fun i => by have := h (i + 1); rw [cf_succ] at this; rw [cf_nil] at *; exact this
      simp only [ev] at *
      rw [this, h0]; simp
    | cons b m =>
      have h0 := h 0
      rw [cf_zero, cf_zero] at h0
      have := ih (m := m) fun i => by have := h (i + 1); rw [cf_succ, cf_succ] at this; exact this
      simp only [ev]
      rw [this, h0]
/-- Led: no zero at the end. -/
def Ldd (p : List Int) : Prop := ∀ x, p[p.length - 1]? = some x → x ≠ 0
theorem ldd_cf {p : List Int} (h : Ldd p) (h0 : p ≠ []) : cf p (p.length - 1) ≠ 0 := by
  have hl : 0 < p.length := List.length_pos_iff.2 h0
  exact h _ (cf_get (by omega))
theorem ldd_of {p : List Int} (h : p ≠ [] → cf p (p.length - 1) ≠ 0) : Ldd p := by
  intro x hx
  by_cases c : p = []
  · subst c; simp at hx
  · rw [← cf_in hx]; exact h c
theorem cf_list {l m : List Int} (hl : l.length = m.length) (h : ∀ i, cf l i = cf m i) : l = m := by
  apply List.ext_getElem? 
  intro i
  by_cases c : i < l.length
  · rw [cf_get c, cf_get (by omega), h]
  · rw [List.getElem?_eq_none (by omega), List.getElem?_eq_none (by omega)]
theorem ldd_len {l m : List Int} (hl : Ldd l) (hm : Ldd m) (h : ∀ i, cf l i = cf m i) : l.length = m.length := by
  have key : ∀ {l m : List Int}, Ldd l → (∀ i, cf l i = cf m i) → l.length ≤ m.length := by
    intro l m hl h
    by_cases c : l = []
    · subst c; simp
    · have h1 := ldd_cf hl c
      rw [h] at h1
      by_cases c2 : l.length ≤ m.length
      · exact c2
      · rw [cf_out (by omega)] at h1
        exact absurd rfl h1
  exact Nat.le_antisymm (key hl h) (key hm fun i => (h i).symm)
theorem ldd_eq {l m : List Int} (hl : Ldd l) (hm : Ldd m) (h : ∀ x, 1 ≤ x → ev l x = ev m x) : l = m := cf_list (ldd_len hl hm (ev_inj h)) (ev_inj h)
/-- Without zeros at the end. -/
def trmL : List Int → List Int
  | [] => []
  | a :: l => if trmL l = [] ∧ a = 0 then [] else a :: trmL l
theorem trm_cf (l : List Int) : ∀ i, cf (trmL l) i = cf l i := by
  induction l with
  | nil => intro i; rfl
  | cons a l ih =>
    intro i
    unfold trmL
    split
    · rename_i h
      cases i with
      | zero => rw [cf_zero, h.2]; rfl
      | succ i => rw [cf_succ, ← ih, h.1]; rfl
    · cases i with
      | zero => rfl
      | succ i => exact ih i
theorem trm_ev (l : List Int) (x : Int) : ev (trmL l) x = ev l x := ev_cf (trm_cf l) x
theorem trm_ldd (l : List Int) : Ldd (trmL l) := by
  induction l with
  | nil => exact ldd_of fun h => absurd rfl h
  | cons a l ih =>
    unfold trmL
    split
    · exact ldd_of fun h => absurd rfl h
    · rename_i h
      refine ldd_of fun _ => ?_
      by_cases c : trmL l = []
      · rw [c]
        have : a ≠ 0 := fun e => h ⟨c, e⟩
        exact this
      · have hl : 0 < (trmL l).length := List.length_pos_iff.2 c
        have := ldd_cf ih c
        have e : (a :: trmL l).length - 1 = ((trmL l).length - 1) + 1 := by rw [List.length_cons]; omega
        rw [e, cf_succ]
        exact this
theorem trm_len (l : List Int) : (trmL l).length ≤ l.length := by
  induction l with
  | nil => exact Nat.le_refl _
  | cons a l ih =>
    unfold trmL
    split
    · simp
    · simp only [List.length_cons]; omega
theorem trm_id {l : List Int} (h : Ldd l) : trmL l = l := ldd_eq (trm_ldd l) h fun x _ => trm_ev l x
theorem trm_snoc (l : List Int) (a : Int) : trmL (l ++ [a]) = if a = 0 then trmL l else l ++ [a] := by
  by_cases c : a = 0
  · rw [if_pos c]
    refine ldd_eq (trm_ldd _) (trm_ldd _) fun x _ => ?_
    rw [trm_ev, trm_ev, ev_append, c]
    simp [ev]
  · rw [if_neg c]
    refine trm_id (ldd_of fun _ => ?_)
    have : cf (l ++ [a]) ((l ++ [a]).length - 1) = a := cf_in (by simp)
    rw [this]; exact c
/-- The leading coefficient of a product. -/
theorem cf_mul_out {l m : List Int} {i : Nat} (h : l.length + m.length ≤ i + 1) : cf (mulL l m) i = 0 := by
  induction l generalizing i with
  | nil => rfl
  | cons a l ih =>
    simp only [mulL, cf_add, cf_scl]
    have h1 : cf m i = 0 := cf_out (by simp only [List.length_cons] at h; omega)
    rw [h1, Int.mul_zero, Int.zero_add]
    cases i with
    | zero => rfl
    | succ i => rw [cf_succ]; exact ih (by simp only [List.length_cons] at h; omega)
theorem cf_mul_top {l m : List Int} (hl : l ≠ []) (hm : m ≠ []) : cf (mulL l m) (l.length - 1 + (m.length - 1)) = cf l (l.length - 1) * cf m (m.length - 1) := by
  induction l with
  | nil => exact absurd rfl hl
  | cons a l ih =>
    have hm0 : 0 < m.length := List.length_pos_iff.2 hm
    simp only [mulL, cf_add, cf_scl]
    by_cases c : l = []
    · subst c
      simp only [List.length_cons, List.length_nil, Nat.zero_add, Nat.sub_self]
      have : cf (0 :: mulL [] m) (m.length - 1) = 0 := by
        cases h : m.length - 1 with
        | zero => rfl
        | succ j => rfl
      rw [this, cf_zero]; omega
    · have hl0 : 0 < l.length := List.length_pos_iff.2 c
      have e1 : (a :: l).length - 1 = (l.length - 1) + 1 := by rw [List.length_cons]; omega
      rw [e1, cf_succ]
      have e2 : l.length - 1 + 1 + (m.length - 1) = (l.length - 1 + (m.length - 1)) + 1 := by omega
      rw [e2, cf_succ, ih c, cf_out (l := m) (by omega)]
      omega
/-- The length of a factor. -/
theorem mul_len {p q b : List Int} (hp : Ldd p) (hq : Ldd q) (hb : Ldd b) (hp0 : p ≠ []) (h : ∀ x, 1 ≤ x → ev p x = ev q x * ev b x) : q ≠ [] ∧ b ≠ [] ∧ p.length + 1 = q.length + b.length ∧ cf p (p.length - 1) = cf q (q.length - 1) * cf b (b.length - 1) := by
  have hc : ∀ i, cf p i = cf (mulL q b) i := ev_inj fun x hx => by rw [ev_mul]; exact h x hx
  have hpl := ldd_cf hp hp0
  have hq0 : q ≠ [] := by
    rintro rfl
    rw [hc] at hpl
    exact hpl rfl
  have hb0 : b ≠ [] := by
    rintro rfl
    have : ∀ x, 1 ≤ x → ev p x = ev [] x := fun x hx => by rw [h x hx]; simp [ev]
    rw [ev_inj this] at hpl
    exact hpl rfl
  have h1 := cf_mul_top hq0 hb0
  have h2 : cf q (q.length - 1) * cf b (b.length - 1) ≠ 0 := Int.mul_ne_zero (ldd_cf hq hq0) (ldd_cf hb hb0)
  have l1 : 0 < q.length := List.length_pos_iff.2 hq0
  have l2 : 0 < b.length := List.length_pos_iff.2 hb0
  have l3 : 0 < p.length := List.length_pos_iff.2 hp0
  have h3 : q.length - 1 + (b.length - 1) < p.length := by
    by_cases c : q.length - 1 + (b.length - 1) < p.length
    · exact c
    · rw [← hc, cf_out (by omega)] at h1
      exact absurd h1.symm h2
  have h4 : p.length + 1 ≤ q.length + b.length := by
    by_cases c : p.length + 1 ≤ q.length + b.length
    · exact c
    · rw [hc, cf_mul_out (by omega)] at hpl
      exact absurd rfl hpl
  have h5 : p.length - 1 = q.length - 1 + (b.length - 1) := by omega
  refine ⟨hq0, hb0, by omega, ?_⟩
  rw [h5, hc, h1]
/-! ### Gauss -/
def DvA (d : Int) (l : List Int) : Prop := ∀ i, d ∣ cf l i
theorem dva_nil (d : Int) : DvA d [] := fun i => ⟨0, by simp [cf_nil]⟩
theorem dva_cons {d a : Int} {l : List Int} (h1 : d ∣ a) (h2 : DvA d l) : DvA d (a :: l) := fun i => by
  cases i with
  | zero => exact h1
  | succ i => exact h2 i
theorem dva_tail {d a : Int} {l : List Int} (h : DvA d (a :: l)) : DvA d l := fun i => h (i + 1)
/-- A number that divides a product only if it divides a factor. -/
def PrI (d : Int) : Prop := ∀ a b : Int, d ∣ a * b → d ∣ a ∨ d ∣ b
theorem pr_mul {d : Int} (hd : PrI d) : ∀ (l m : List Int), DvA d (mulL l m) → DvA d l ∨ DvA d m := by
  intro l
  induction l with
  | nil => intro m _; exact .inl (dva_nil d)
  | cons a l ih =>
    intro m h
    by_cases ha : d ∣ a
    · have h1 : DvA d (mulL l m) := fun i => by
        have := h (i + 1)
        simp only [mulL, cf_add, cf_scl, cf_succ] at this
        exact (Int.dvd_add_right (Int.dvd_mul_of_dvd_left ha)).1 this
      rcases ih m h1 with h2 | h2
      · exact .inl (dva_cons ha h2)
      · exact .inr h2
    · right
      induction m with
      | nil => exact dva_nil d
      | cons b m ihm =>
        have h0 := h 0
        simp only [mulL, cf_add, cf_scl, cf_zero, Int.add_zero] at h0
        have hb : d ∣ b := (hd a b h0).resolve_left ha
        refine dva_cons hb (ihm ?_)
        have hc : ∀ i, cf (mulL (a :: l) (b :: m)) i = cf (addL (sclL b (a :: l)) (0 :: mulL (a :: l) m)) i := ev_inj fun x _ => by
          rw [ev_mul, ev_add, ev_scl]
          simp only [ev, ev_mul]
          grind
        intro i
        have := h (i + 1)
        rw [hc, cf_add, cf_scl, cf_succ 0] at this
        exact (Int.dvd_add_right (Int.dvd_mul_of_dvd_left hb)).1 this
/-- Each number but 0, 1 and -1 has such a divisor. -/
theorem pr_of {n : Nat} (h : 2 ≤ n) : ∃ d : Nat, 2 ≤ d ∧ d ∣ n ∧ PrI (d : Int) := by
  induction n using Nat.strongRecOn with
  | ind n ih =>
    by_cases c : ∃ d, 2 ≤ d ∧ d < n ∧ d ∣ n
    · obtain ⟨d, h1, h2, h3⟩ := c
      obtain ⟨e, e1, e2, e3⟩ := ih d h2 h1
      exact ⟨e, e1, Nat.dvd_trans e2 h3, e3⟩
    · refine ⟨n, h, Nat.dvd_refl n, fun a b hab => ?_⟩
      rw [← Int.natAbs_dvd_natAbs, Int.natAbs_mul, Int.natAbs_natCast] at hab
      have hg : Nat.gcd n a.natAbs = 1 ∨ Nat.gcd n a.natAbs = n := by
        have g1 := Nat.gcd_dvd_left n a.natAbs
        have g2 : 0 < Nat.gcd n a.natAbs := Nat.gcd_pos_of_pos_left _ (by omega)
        have g3 := Nat.le_of_dvd (by omega) g1
        by_cases e : Nat.gcd n a.natAbs = 1
        · exact .inl e
        · right
          by_cases e2 : Nat.gcd n a.natAbs = n
          · exact e2
          · exact absurd ⟨Nat.gcd n a.natAbs, by omega, by omega, g1⟩ c
      rcases hg with g | g
      · right
        rw [← Int.natAbs_dvd_natAbs, Int.natAbs_natCast]
        exact Nat.Coprime.dvd_of_dvd_mul_left g hab
      · left
        rw [← Int.natAbs_dvd_natAbs, Int.natAbs_natCast]
        rw [← g]
        exact Nat.gcd_dvd_right _ _
/-- Primitive: no such divisor divides all coefficients. -/
def PriL (l : List Int) : Prop := ∀ d : Nat, 2 ≤ d → ¬ DvA (d : Int) l
theorem dva_div {d : Int} {l : List Int} (h : DvA d l) : ∃ m : List Int, l = sclL d m ∧ m.length = l.length := by
  refine ⟨l.map (· / d), ?_, by simp⟩
  refine cf_list (by simp [sclL]) fun i => ?_
  rw [cf_scl]
  by_cases c : i < l.length
  · have : cf (l.map (· / d)) i = cf l i / d := cf_in (by rw [List.getElem?_map, cf_get c]; rfl)
    rw [this]
    exact (Int.mul_ediv_cancel' (h i)).symm
  · rw [cf_out (by omega), cf_out (by simp; omega)]; simp
theorem gauss {d : List Int} (hd : PriL d) : ∀ (n : Nat) (α : Int) (p A : List Int), α.natAbs = n → α ≠ 0 → (∀ x, 1 ≤ x → α * ev p x = ev d x * ev A x) → ∃ B : List Int, ∀ x, 1 ≤ x → ev p x = ev d x * ev B x := by
  intro n
  induction n using Nat.strongRecOn with
  | ind n ih =>
    intro α p A hn h0 h
    by_cases c : n = 1
    · rcases Int.natAbs_eq α with e | e
      · refine ⟨A, fun x hx => ?_⟩
        rw [← h x hx, e, hn, c]; simp
      · refine ⟨sclL (-1) A, fun x hx => ?_⟩
        have := h x hx
        rw [ev_scl]
        rw [e, hn, c] at this
        grind
    · obtain ⟨ℓ, h1, h2, h3⟩ := pr_of (n := n) (by omega)
      have hdv : (ℓ : Int) ∣ α := by rw [← Int.natAbs_dvd_natAbs, Int.natAbs_natCast, hn]; exact h2
      have hc : ∀ i, cf (sclL α p) i = cf (mulL d A) i := ev_inj fun x hx => by rw [ev_scl, ev_mul]; exact h x hx
      have hm : DvA (ℓ : Int) (mulL d A) := fun i => by rw [← hc, cf_scl]; exact Int.dvd_mul_of_dvd_left hdv
      rcases pr_mul h3 d A hm with e | e
      · exact absurd e (hd ℓ h1)
      · obtain ⟨A', rfl, _⟩ := dva_div e
        obtain ⟨α', rfl⟩ := hdv
        rw [Int.natAbs_mul, Int.natAbs_natCast] at hn
        have hα : α' ≠ 0 := fun e => h0 (by rw [e, Int.mul_zero])
        have hlt : α'.natAbs < n := by
          rw [← hn]
          have : 0 < α'.natAbs := by omega
          have : 1 * α'.natAbs < ℓ * α'.natAbs := Nat.mul_lt_mul_of_pos_right (by omega) this
          omega
        refine ih α'.natAbs hlt α' p A' rfl hα fun x hx => ?_
        have := h x hx
        rw [ev_scl] at this
        have e1 : (ℓ : Int) * (α' * ev p x) = ℓ * (ev d x * ev A' x) := by grind
        exact Int.eq_of_mul_eq_mul_left (show (ℓ : Int) ≠ 0 by omega) e1
/-- d divides p, but for a number. -/
def DvQ (d p : List Int) : Prop := ∃ (α : Int) (A : List Int), α ≠ 0 ∧ ∀ x, 1 ≤ x → α * ev p x = ev d x * ev A x
theorem DvQ.refl (d : List Int) : DvQ d d := ⟨1, [1], by decide, fun x _ => by simp [ev]⟩
theorem DvQ.zero (d : List Int) : DvQ d [] := ⟨1, [], by decide, fun x _ => by simp [ev]⟩
theorem DvQ.trans {d e p : List Int} (h1 : DvQ d e) (h2 : DvQ e p) : DvQ d p := by
  obtain ⟨α, A, a0, ha⟩ := h1
  obtain ⟨β, B, b0, hb⟩ := h2
  refine ⟨α * β, mulL A B, Int.mul_ne_zero a0 b0, fun x hx => ?_⟩
  have e1 := ha x hx
  have e2 := hb x hx
  rw [ev_mul]
  grind
/-- A sum of multiples. -/
theorem DvQ.sum {d p q r : List Int} {α β : Int} {A : List Int} (h1 : DvQ d q) (h2 : DvQ d r) (a0 : α ≠ 0) (h : ∀ x, 1 ≤ x → α * ev p x = ev q x * ev A x + β * ev r x) : DvQ d p := by
  obtain ⟨γ, B, b0, hb⟩ := h1
  obtain ⟨δ, C, c0, hc⟩ := h2
  refine ⟨γ * δ * α, addL (sclL δ (mulL A B)) (sclL (γ * β) C), Int.mul_ne_zero (Int.mul_ne_zero b0 c0) a0, fun x hx => ?_⟩
  have e1 := hb x hx
  have e2 := hc x hx
  have e3 := h x hx
  rw [ev_add, ev_scl, ev_scl, ev_mul]
  have e4 : γ * δ * α * ev p x = γ * δ * (α * ev p x) := by grind
  rw [e4, e3]
  have e5 : γ * δ * (ev q x * ev A x + β * ev r x) = δ * ev A x * (γ * ev q x) + γ * β * (δ * ev r x) := by grind
  rw [e5, e1, e2]
  grind
theorem DvQ.exact {d p : List Int} (hd : PriL d) (h : DvQ d p) : ∃ B : List Int, Ldd B ∧ ∀ x, 1 ≤ x → ev p x = ev d x * ev B x := by
  obtain ⟨α, A, a0, ha⟩ := h
  obtain ⟨B, hB⟩ := gauss hd α.natAbs α p A rfl a0 ha
  exact ⟨trmL B, trm_ldd B, fun x hx => by rw [trm_ev]; exact hB x hx⟩
end Go.Proofs
