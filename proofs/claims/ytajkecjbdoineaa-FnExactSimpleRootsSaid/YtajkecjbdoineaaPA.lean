/- Contracts of functions, facts of types, or the plain law behind one statement (own work): PA. Conditions: those told in each theorem. -/
set_option linter.all false
namespace Go.Proofs
/- Sums over lists, and the inequality for the norm of a product (Bombieri's). -/
def sumL {ι : Type} (l : List ι) (f : ι → Int) : Int := (l.map f).sum
section
variable {ι κ : Type}
theorem sumL_nil (f : ι → Int) : sumL [] f = 0 := rfl
theorem sumL_cons (x : ι) (l : List ι) (f : ι → Int) : sumL (x :: l) f = f x + sumL l f := by unfold sumL; simp
theorem sumL_congr {l : List ι} {f g : ι → Int} (h : ∀ x ∈ l, f x = g x) : sumL l f = sumL l g := by
  induction l with
  | nil => rfl
  | cons x l ih =>
    rw [sumL_cons, sumL_cons, h x (by simp), ih fun y hy => h y (by simp [hy])]
theorem sumL_add (l : List ι) (f g : ι → Int) : sumL l (fun x => f x + g x) = sumL l f + sumL l g := by
  induction l with
  | nil => rfl
  | cons x l ih => rw [sumL_cons, sumL_cons, sumL_cons, ih]; omega
theorem sumL_mul (l : List ι) (c : Int) (f : ι → Int) : sumL l (fun x => c * f x) = c * sumL l f := by
  induction l with
  | nil => rw [sumL_nil, sumL_nil, Int.mul_zero]
  | cons x l ih => rw [sumL_cons, sumL_cons, ih, Int.mul_add]
theorem sumL_mulr (l : List ι) (c : Int) (f : ι → Int) : sumL l (fun x => f x * c) = sumL l f * c := by
  induction l with
  | nil => rw [sumL_nil, sumL_nil, Int.zero_mul]
  | cons x l ih => rw [sumL_cons, sumL_cons, ih, Int.add_mul]
theorem sumL_zero (l : List ι) : sumL l (fun _ => 0) = 0 := by
  induction l with
  | nil => rfl
  | cons x l ih => rw [sumL_cons, ih]; rfl
theorem sumL_swap (l : List ι) (m : List κ) (f : ι → κ → Int) : sumL l (fun x => sumL m fun y => f x y) = sumL m (fun y => sumL l fun x => f x y) := by
  induction l with
  | nil => simp only [sumL_nil, sumL_zero]
  | cons x l ih => simp only [sumL_cons, ih, sumL_add]
theorem sumL_nonneg {l : List ι} {f : ι → Int} (h : ∀ x ∈ l, 0 ≤ f x) : 0 ≤ sumL l f := by
  induction l with
  | nil => exact Int.le_refl 0
  | cons x l ih =>
    rw [sumL_cons]
    have := h x (by simp)
    have := ih fun y hy => h y (by simp [hy])
    omega
theorem sumL_ge {l : List ι} {f : ι → Int} {x : ι} (hx : x ∈ l) (h : ∀ x ∈ l, 0 ≤ f x) : f x ≤ sumL l f := by
  induction l with
  | nil => simp at hx
  | cons y l ih =>
    rw [sumL_cons]
    have h1 := h y (by simp)
    have h2 := sumL_nonneg fun z (hz : z ∈ l) => h z (by simp [hz])
    rcases List.mem_cons.1 hx with rfl | hx
    · omega
    · have := ih hx fun z hz => h z (by simp [hz])
      omega
theorem sumL_le {l : List ι} {f g : ι → Int} (h : ∀ x ∈ l, f x ≤ g x) : sumL l f ≤ sumL l g := by
  induction l with
  | nil => exact Int.le_refl _
  | cons x l ih =>
    rw [sumL_cons, sumL_cons]
    have := h x (by simp)
    have := ih fun y hy => h y (by simp [hy])
    omega
/-- A sum with a single place. -/
theorem sumL_range (n k : Nat) (f : Nat → Int) (hk : k < n) : sumL (List.range n) (fun i => if i = k then f i else 0) = f k := by
  induction n with
  | zero => omega
  | succ n ih =>
    unfold sumL
    rw [List.range_succ, List.map_append, List.sum_append]
    by_cases c : k = n
    · subst c
      have : ((List.range k).map fun i => if i = k then f i else 0).sum = 0 := by
        have : sumL (List.range k) (fun i => if i = k then f i else 0) = sumL (List.range k) fun _ => 0 := sumL_congr fun i hi => by
          rw [List.mem_range] at hi
          rw [if_neg (by omega)]
        rw [sumL_zero] at this
        exact this
      rw [this]
      simp
    · have h1 := ih (by omega)
      unfold sumL at h1
      rw [h1]
      have : ¬ n = k := fun e => c e.symm
      simp [this]
theorem sumL_range_out (n k : Nat) (f : Nat → Int) (hk : n ≤ k) : sumL (List.range n) (fun i => if i = k then f i else 0) = 0 := by
  have : sumL (List.range n) (fun i => if i = k then f i else 0) = sumL (List.range n) fun _ => 0 := sumL_congr fun i hi => by
    rw [List.mem_range] at hi
    rw [if_neg (by omega)]
  rw [this, sumL_zero]
/-- Squares of sums by a key. -/
theorem sq_sum (l : List ι) (f : ι → Int) : sumL l f * sumL l f = sumL l fun x => sumL l fun y => f x * f y := by
  rw [← sumL_mulr]
  exact sumL_congr fun x _ => (sumL_mul l (f x) f).symm
theorem sq_group (L : List ι) (key : ι → Nat) (v : ι → Int) (M : Nat) (w : Nat → Int) (h : ∀ x ∈ L, key x < M) :
    sumL (List.range M) (fun k => w k * ((sumL L fun x => if key x = k then v x else 0) * (sumL L fun x => if key x = k then v x else 0)))
      = sumL L fun x => sumL L fun y => if key x = key y then w (key x) * (v x * v y) else 0 := by
  have e1 : sumL (List.range M) (fun k => w k * ((sumL L fun x => if key x = k then v x else 0) * (sumL L fun x => if key x = k then v x else 0)))
      = sumL (List.range M) fun k => sumL L fun x => sumL L fun y => w k * ((if key x = k then v x else 0) * (if key y = k then v y else 0)) := sumL_congr fun k _ => by
    rw [sq_sum, ← sumL_mul]
    exact sumL_congr fun x _ => (sumL_mul L (w k) _).symm
  rw [e1, sumL_swap]
  refine sumL_congr fun x hx => ?_
  rw [sumL_swap]
  refine sumL_congr fun y hy => ?_
  have e2 : sumL (List.range M) (fun k => w k * ((if key x = k then v x else 0) * (if key y = k then v y else 0))) = sumL (List.range M) fun k => if k = key x then (if key x = key y then w k * (v x * v y) else 0) else 0 := sumL_congr fun k _ => by
    by_cases c1 : key x = k
    · by_cases c2 : key y = k
      · rw [if_pos c1, if_pos c2, if_pos c1.symm, if_pos (by omega)]
      · rw [if_pos c1, if_neg c2, if_pos c1.symm, if_neg (by omega), Int.mul_zero, Int.mul_zero]
    · rw [if_neg c1, if_neg (fun e : k = key x => c1 e.symm), Int.zero_mul, Int.mul_zero]
  rw [e2]
  exact sumL_range M (key x) (fun k => if key x = key y then w k * (v x * v y) else 0) (h x hx)
end
/-! ### the norm -/
def facN : Nat → Nat
  | 0 => 1
  | n + 1 => (n + 1) * facN n
def choN : Nat → Nat → Nat
  | _, 0 => 1
  | 0, _ + 1 => 0
  | n + 1, k + 1 => choN n k + choN n (k + 1)
def dscN : Nat → Nat → Nat
  | _, 0 => 1
  | n, r + 1 => n * dscN (n - 1) r
/-- i of the first, j of the other one, a are left. -/
def cN (a i j : Nat) : Nat := if a ≤ i ∧ i ≤ j + a then choN i a * dscN j (i - a) else 0
def vanB : Bool := (List.range 9).all fun i => (List.range 9).all fun j => (List.range 9).all fun p => decide (8 < i + j ∨ i + j < p) || decide (facN (i + j) = ((List.range 9).map fun a => facN a * (cN a i (i + j - p) * cN a p j) * facN (i + j - p + a - i)).sum)
theorem vanB_true : vanB = true := by decide +kernel
theorem van {i j p q : Nat} (h : i + j ≤ 8) (e : i + j = p + q) : facN (i + j) = ((List.range 9).map fun a => facN a * (cN a i q * cN a p j) * facN (q + a - i)).sum := by
  have h1 := vanB_true
  unfold vanB at h1
  rw [List.all_eq_true] at h1
  have h2 := h1 i (List.mem_range.2 (by omega))
  rw [List.all_eq_true] at h2
  have h3 := h2 j (List.mem_range.2 (by omega))
  rw [List.all_eq_true] at h3
  have h4 := h3 p (List.mem_range.2 (by omega))
  have d1 : decide (8 < i + j ∨ i + j < p) = false := decide_eq_false (by omega)
  rw [d1, Bool.false_or, decide_eq_true_iff] at h4
  have e1 : i + j - p = q := by omega
  rw [e1] at h4
  exact h4
theorem sumL_cast {ι : Type} (l : List ι) (f : ι → Nat) : ((l.map f).sum : Nat) = sumL l (fun x => (f x : Int)) := by
  induction l with
  | nil => rfl
  | cons x l ih => rw [sumL_cons, List.map_cons, List.sum_cons, ← ih]; simp
/-- The identity in whole numbers. -/
theorem vanI {i j p q : Nat} (h : i + j ≤ 8) (e : i + j = p + q) : (facN (i + j) : Int) = sumL (List.range 9) fun a => (facN a : Int) * ((cN a i q : Int) * (cN a p j : Int)) * (facN (q + a - i) : Int) := by
  rw [van h e, sumL_cast]
  exact sumL_congr fun a _ => by simp
/-- The coefficients of a product. -/
def conN (m n : Nat) (p q : Nat → Int) (k : Nat) : Int := sumL (List.range (m + 1)) fun i => sumL (List.range (n + 1)) fun j => if i + j = k then p i * q j else 0
/-- The places of both. -/
def prs (m n : Nat) : List (Nat × Nat) := (List.range (m + 1)).flatMap fun i => (List.range (n + 1)).map fun j => (i, j)
theorem sumL_append {ι : Type} (l m : List ι) (f : ι → Int) : sumL (l ++ m) f = sumL l f + sumL m f := by unfold sumL; simp
theorem sumL_map {ι κ : Type} (l : List κ) (g : κ → ι) (f : ι → Int) : sumL (l.map g) f = sumL l fun x => f (g x) := by unfold sumL; rw [List.map_map]; rfl
theorem sumL_flat {ι κ : Type} (l : List κ) (g : κ → List ι) (f : ι → Int) : sumL (l.flatMap g) f = sumL l fun x => sumL (g x) f := by
  induction l with
  | nil => rfl
  | cons x l ih => rw [List.flatMap_cons, sumL_append, sumL_cons, ih]
theorem sumL_prs (m n : Nat) (f : Nat × Nat → Int) : sumL (prs m n) f = sumL (List.range (m + 1)) fun i => sumL (List.range (n + 1)) fun j => f (i, j) := by
  unfold prs
  rw [sumL_flat]
  exact sumL_congr fun i _ => sumL_map _ _ _
theorem prs_mem {m n : Nat} {x : Nat × Nat} (h : x ∈ prs m n) : x.1 ≤ m ∧ x.2 ≤ n := by
  unfold prs at h
  obtain ⟨i, hi, h⟩ := List.mem_flatMap.1 h
  obtain ⟨j, hj, rfl⟩ := List.mem_map.1 h
  rw [List.mem_range] at hi hj
  exact ⟨by show i ≤ m; omega, by show j ≤ n; omega⟩
def wtN (k : Nat) : Int := (facN k : Int) * (facN (8 - k) : Int)
/-- The sum of all products of four. -/
def fourS (m n : Nat) (p q : Nat → Int) : Int :=
  sumL (prs m n) fun x => sumL (prs m n) fun y => if x.1 + x.2 = y.1 + y.2 then wtN (x.1 + x.2) * ((p x.1 * q x.2) * (p y.1 * q y.2)) else 0
theorem norm_four {m n : Nat} (h : m + n = 8) (p q : Nat → Int) : sumL (List.range 9) (fun k => wtN k * (conN m n p q k * conN m n p q k)) = fourS m n p q := by
  unfold fourS
  rw [← sq_group (prs m n) (fun x => x.1 + x.2) (fun x => p x.1 * q x.2) 9 wtN fun x hx => by have := prs_mem hx; show x.1 + x.2 < 9; omega]
  refine sumL_congr fun k _ => ?_
  have : conN m n p q k = sumL (prs m n) fun x => if x.1 + x.2 = k then p x.1 * q x.2 else 0 := by rw [sumL_prs]; rfl
  rw [this]
/-- The squares. -/
def sqS (m n : Nat) (p q : Nat → Int) (a b s : Nat) : Int :=
  sumL (prs m n) fun x => if x.2 + (m - x.1) = s then (cN a x.1 x.2 : Int) * (cN b (m - x.1) (n - x.2) : Int) * (p x.1 * q x.2) else 0
def wtS (m a b s : Nat) : Int := (facN a : Int) * (facN b : Int) * ((facN (s + a - m) : Int) * (facN (8 + b - m - s) : Int))
theorem four_sq {m n : Nat} (h : m + n = 8) (p q : Nat → Int) :
    fourS m n p q = sumL (List.range 9) fun a => sumL (List.range 9) fun b => sumL (List.range 9) fun s => wtS m a b s * (sqS m n p q a b s * sqS m n p q a b s) := by
  -- both sides as sums over four places
  have e1 : fourS m n p q = sumL (List.range (m + 1)) fun i => sumL (List.range (n + 1)) fun j => sumL (List.range (m + 1)) fun i' => sumL (List.range (n + 1)) fun j' =>
      if i + j = i' + j' then wtN (i + j) * ((p i * q j) * (p i' * q j')) else 0 := by
    unfold fourS
    rw [sumL_prs]
    exact sumL_congr fun i _ => sumL_congr fun j _ => sumL_prs m n _
  have e2 : (sumL (List.range 9) fun a => sumL (List.range 9) fun b => sumL (List.range 9) fun s => wtS m a b s * (sqS m n p q a b s * sqS m n p q a b s))
      = sumL (List.range 9) fun a => sumL (List.range 9) fun b => sumL (List.range (m + 1)) fun i => sumL (List.range (n + 1)) fun j' => sumL (List.range (m + 1)) fun i' => sumL (List.range (n + 1)) fun j =>
        if j' + (m - i) = j + (m - i') then wtS m a b (j' + (m - i)) * (((cN a i j' : Int) * (cN b (m - i) (n - j') : Int) * (p i * q j')) * ((cN a i' j : Int) * (cN b (m - i') (n - j) : Int) * (p i' * q j))) else 0 := by
    refine sumL_congr fun a _ => sumL_congr fun b _ => ?_
    unfold sqS
    rw [sq_group (prs m n) (fun x => x.2 + (m - x.1)) (fun x => (cN a x.1 x.2 : Int) * (cN b (m - x.1) (n - x.2) : Int) * (p x.1 * q x.2)) 9 (wtS m a b) fun x hx => by have := prs_mem hx; show x.2 + (m - x.1) < 9; omega]
    rw [sumL_prs]
    exact sumL_congr fun i _ => sumL_congr fun j' _ => sumL_prs m n _
  rw [e1, e2]
  -- the sums over a and b go inside
  have e3 : (sumL (List.range 9) fun a => sumL (List.range 9) fun b => sumL (List.range (m + 1)) fun i => sumL (List.range (n + 1)) fun j' => sumL (List.range (m + 1)) fun i' => sumL (List.range (n + 1)) fun j =>
        if j' + (m - i) = j + (m - i') then wtS m a b (j' + (m - i)) * (((cN a i j' : Int) * (cN b (m - i) (n - j') : Int) * (p i * q j')) * ((cN a i' j : Int) * (cN b (m - i') (n - j) : Int) * (p i' * q j))) else 0)
      = sumL (List.range (m + 1)) fun i => sumL (List.range (n + 1)) fun j' => sumL (List.range (m + 1)) fun i' => sumL (List.range (n + 1)) fun j => sumL (List.range 9) fun a => sumL (List.range 9) fun b =>
        if j' + (m - i) = j + (m - i') then wtS m a b (j' + (m - i)) * (((cN a i j' : Int) * (cN b (m - i) (n - j') : Int) * (p i * q j')) * ((cN a i' j : Int) * (cN b (m - i') (n - j) : Int) * (p i' * q j))) else 0 := by
    have k1 : ∀ (F : Nat → Nat → Nat → Nat → Nat → Nat → Int), (sumL (List.range 9) fun a => sumL (List.range 9) fun b => sumL (List.range (m + 1)) fun i => sumL (List.range (n + 1)) fun j' => sumL (List.range (m + 1)) fun i' => sumL (List.range (n + 1)) fun j => F a b i j' i' j)
        = sumL (List.range (m + 1)) fun i => sumL (List.range (n + 1)) fun j' => sumL (List.range (m + 1)) fun i' => sumL (List.range (n + 1)) fun j => sumL (List.range 9) fun a => sumL (List.range 9) fun b => F a b i j' i' j := by
      intro F
      have t1 : ∀ (G : Nat → Nat → Nat → Nat → Nat → Int), (sumL (List.range 9) fun b => sumL (List.range (m + 1)) fun i => sumL (List.range (n + 1)) fun j' => sumL (List.range (m + 1)) fun i' => sumL (List.range (n + 1)) fun j => G b i j' i' j)
          = sumL (List.range (m + 1)) fun i => sumL (List.range (n + 1)) fun j' => sumL (List.range (m + 1)) fun i' => sumL (List.range (n + 1)) fun j => sumL (List.range 9) fun b => G b i j' i' j := by
        intro G
        rw [sumL_swap]
        refine sumL_congr fun i _ => ?_
        rw [sumL_swap]
        refine sumL_congr fun j' _ => ?_
        rw [sumL_swap]
        refine sumL_congr fun i' _ => ?_
        rw [sumL_swap]
      have t2 : (sumL (List.range 9) fun a => sumL (List.range 9) fun b => sumL (List.range (m + 1)) fun i => sumL (List.range (n + 1)) fun j' => sumL (List.range (m + 1)) fun i' => sumL (List.range (n + 1)) fun j => F a b i j' i' j)
          = sumL (List.range 9) fun a => sumL (List.range (m + 1)) fun i => sumL (List.range (n + 1)) fun j' => sumL (List.range (m + 1)) fun i' => sumL (List.range (n + 1)) fun j => sumL (List.range 9) fun b => F a b i j' i' j := sumL_congr fun a _ => t1 (F a)
      rw [t2]
      exact t1 fun a i j' i' j => sumL (List.range 9) fun b => F a b i j' i' j
    exact k1 fun a b i j' i' j => if j' + (m - i) = j + (m - i') then wtS m a b (j' + (m - i)) * (((cN a i j' : Int) * (cN b (m - i) (n - j') : Int) * (p i * q j')) * ((cN a i' j : Int) * (cN b (m - i') (n - j) : Int) * (p i' * q j))) else 0
  rw [e3]
  refine sumL_congr fun i hi => ?_
  rw [List.mem_range] at hi
  -- j and j' change places
  have e4 : (sumL (List.range (n + 1)) fun j => sumL (List.range (m + 1)) fun i' => sumL (List.range (n + 1)) fun j' => if i + j = i' + j' then wtN (i + j) * ((p i * q j) * (p i' * q j')) else 0)
      = sumL (List.range (n + 1)) fun j' => sumL (List.range (m + 1)) fun i' => sumL (List.range (n + 1)) fun j => if i + j = i' + j' then wtN (i + j) * ((p i * q j) * (p i' * q j')) else 0 := by
    rw [sumL_swap]
    have : (sumL (List.range (m + 1)) fun i' => sumL (List.range (n + 1)) fun j => sumL (List.range (n + 1)) fun j' => if i + j = i' + j' then wtN (i + j) * ((p i * q j) * (p i' * q j')) else 0)
        = sumL (List.range (m + 1)) fun i' => sumL (List.range (n + 1)) fun j' => sumL (List.range (n + 1)) fun j => if i + j = i' + j' then wtN (i + j) * ((p i * q j) * (p i' * q j')) else 0 :=
      sumL_congr fun i' _ => sumL_swap _ _ _
    rw [this, sumL_swap]
  rw [e4]
  refine sumL_congr fun j' hj' => sumL_congr fun i' hi' => sumL_congr fun j hj => ?_
  rw [List.mem_range] at hj' hi' hj
  by_cases c : i + j = i' + j'
  · have c2 : j' + (m - i) = j + (m - i') := by omega
    simp only [if_pos c, if_pos c2]
    have v1 := vanI (i := i) (j := j) (p := i') (q := j') (by omega) c
    have v2 := vanI (i := m - i) (j := n - j) (p := m - i') (q := n - j') (by omega) (by omega)
    have e5 : m - i + (n - j) = 8 - (i + j) := by omega
    rw [e5] at v2
    unfold wtN
    rw [v1, v2]
    have e6 : ∀ A B X : Int, A * B * X = A * (B * X) := fun A B X => Int.mul_assoc A B X
    rw [e6, ← sumL_mulr, ← sumL_mulr]
    refine sumL_congr fun a _ => ?_
    rw [← sumL_mul]
    refine sumL_congr fun b _ => ?_
    unfold wtS
    have e7 : j' + (m - i) + a - m = j' + a - i := by omega
    have e8 : 8 + b - m - (j' + (m - i)) = n - j' + b - (m - i) := by omega
    rw [e7, e8]
    generalize (facN (j' + a - i) : Int) = T
    generalize (facN (n - j' + b - (m - i)) : Int) = U
    generalize (facN a : Int) = A
    generalize (facN b : Int) = B
    generalize (cN a i j' : Int) = c1
    generalize (cN a i' j : Int) = c2
    generalize (cN b (m - i) (n - j') : Int) = c3
    generalize (cN b (m - i') (n - j) : Int) = c4
    grind
  · have c2 : ¬ j' + (m - i) = j + (m - i') := by omega
    simp only [if_neg c, if_neg c2, sumL_zero]
/-- The norm of a product is no less than that of a factor, times that of the other one's last coefficient. -/
theorem norm_ge {m n : Nat} (h : m + n = 8) (p q : Nat → Int) :
    (facN m : Int) * (p m * p m) * (sumL (List.range (n + 1)) fun s => (facN s : Int) * (facN (n - s) : Int) * (q s * q s)) ≤ sumL (List.range 9) (fun k => wtN k * (conN m n p q k * conN m n p q k)) := by
  rw [norm_four h, four_sq h]
  have nn : ∀ a b s, 0 ≤ wtS m a b s * (sqS m n p q a b s * sqS m n p q a b s) := fun a b s => Int.mul_nonneg (by unfold wtS; exact Int.mul_nonneg (Int.mul_nonneg (by omega) (by omega)) (Int.mul_nonneg (by omega) (by omega))) (by
    rcases Int.le_total 0 (sqS m n p q a b s) with k | k
    · exact Int.mul_nonneg k k
    · have := Int.mul_nonneg (a := -sqS m n p q a b s) (b := -sqS m n p q a b s) (by omega) (by omega)
      rw [Int.neg_mul_neg] at this
      exact this)
  have g1 := sumL_ge (l := List.range 9) (x := m) (f := fun a => sumL (List.range 9) fun b => sumL (List.range 9) fun s => wtS m a b s * (sqS m n p q a b s * sqS m n p q a b s)) (List.mem_range.2 (by omega)) fun a _ => sumL_nonneg fun b _ => sumL_nonneg fun s _ => nn a b s
  have g2 := sumL_ge (l := List.range 9) (x := 0) (f := fun b => sumL (List.range 9) fun s => wtS m m b s * (sqS m n p q m b s * sqS m n p q m b s)) (List.mem_range.2 (by omega)) fun b _ => sumL_nonneg fun s _ => nn m b s
  refine Int.le_trans ?_ (Int.le_trans g2 g1)
  -- the places from 0 to n
  have e0 : List.range 9 = List.range (n + 1) ++ (List.range m).map (fun i => n + 1 + i) := by
    have : (9 : Nat) = (n + 1) + m := by omega
    rw [this, List.range_add]
  rw [e0, sumL_append]
  have g3 : 0 ≤ sumL ((List.range m).map (fun i => n + 1 + i)) fun s => wtS m m 0 s * (sqS m n p q m 0 s * sqS m n p q m 0 s) := sumL_nonneg fun s _ => nn m 0 s
  rw [← sumL_mul]
  have g4 : (sumL (List.range (n + 1)) fun s => (facN m : Int) * (p m * p m) * ((facN s : Int) * (facN (n - s) : Int) * (q s * q s))) = sumL (List.range (n + 1)) fun s => wtS m m 0 s * (sqS m n p q m 0 s * sqS m n p q m 0 s) := sumL_congr fun s hs => by
    rw [List.mem_range] at hs
    have e1 : sqS m n p q m 0 s = p m * q s := by
      unfold sqS
      rw [sumL_prs]
      have e2 : (sumL (List.range (m + 1)) fun i => sumL (List.range (n + 1)) fun j => if j + (m - i) = s then (cN m i j : Int) * (cN 0 (m - i) (n - j) : Int) * (p i * q j) else 0)
          = sumL (List.range (m + 1)) fun i => if i = m then (p i * q s) else 0 := sumL_congr fun i hi => by
        rw [List.mem_range] at hi
        by_cases c : i = m
        · subst c
          rw [if_pos rfl]
          have e3 : (sumL (List.range (n + 1)) fun j => if j + (i - i) = s then (cN i i j : Int) * (cN 0 (i - i) (n - j) : Int) * (p i * q j) else 0) = sumL (List.range (n + 1)) fun j => if j = s then p i * q j else 0 := sumL_congr fun j hj => by
            rw [List.mem_range] at hj
            by_cases c : j = s
            · have c1 : cN i i j = 1 := by
                unfold cN
                rw [if_pos (by omega), Nat.sub_self]
                have : ∀ i, choN i i = 1 ∧ ∀ k, i < k → choN i k = 0 := by
                  intro i
                  induction i with
                  | zero => exact ⟨rfl, fun k hk => by obtain ⟨k, rfl⟩ : ∃ l, k = l + 1 := ⟨k - 1, by omega⟩; rfl⟩
                  | succ i ih => exact ⟨by show choN i i + choN i (i + 1) = 1; rw [ih.1, ih.2 (i + 1) (by omega)], fun k hk => by
                      obtain ⟨k, rfl⟩ : ∃ l, k = l + 1 := ⟨k - 1, by omega⟩
                      show choN i k + choN i (k + 1) = 0
                      rw [ih.2 k (by omega), ih.2 (k + 1) (by omega)]⟩
                rw [(this i).1]; rfl
              have c2 : cN 0 (i - i) (n - j) = 1 := by rw [Nat.sub_self]; unfold cN; rw [if_pos (by omega)]; rfl
              rw [if_pos (by omega), if_pos c, c1, c2]
              simp
            · rw [if_neg (by omega), if_neg c]
          rw [e3, sumL_range (n + 1) s (fun j => p i * q j) (by omega)]
        · rw [if_neg c]
          have c1 : ∀ j, cN m i j = 0 := fun j => by unfold cN; rw [if_neg (by omega)]
          have : (sumL (List.range (n + 1)) fun j => if j + (m - i) = s then (cN m i j : Int) * (cN 0 (m - i) (n - j) : Int) * (p i * q j) else 0) = sumL (List.range (n + 1)) fun _ => 0 := sumL_congr fun j _ => by rw [c1]; simp
          rw [this, sumL_zero]
      rw [e2, sumL_range (m + 1) m (fun i => p i * q s) (by omega)]
    rw [e1]
    unfold wtS
    have e4 : s + m - m = s := by omega
    have e5 : 8 + 0 - m - s = n - s := by omega
    rw [e4, e5]
    have e6 : (facN 0 : Int) = 1 := rfl
    rw [e6]
    generalize (facN m : Int) = A
    generalize (facN s : Int) = B
    generalize (facN (n - s) : Int) = C
    grind
  omega
end Go.Proofs
