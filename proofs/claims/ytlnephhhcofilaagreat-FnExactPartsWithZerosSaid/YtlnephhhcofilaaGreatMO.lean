/- The layer V and contracts of functions over it, or plain laws behind one statement (own work): MO=UK,ZC. Conditions: those told in each theorem. -/
import Derived.Test.YtlnephhhcofilaaGreatMI
import Derived.Test.YtlnephhhcofilaaGreatMK
set_option linter.all false
section
set_option linter.unusedSimpArgs false
set_option linter.unusedVariables false
set_option maxRecDepth 4000
namespace Go.Proofs
open Go Go.V
/- Quarters of a box in the plane (plain). -/
theorem hf_dbl (l : List Int) : hfL (dblL l) = l := by
  unfold hfL dblL
  rw [List.map_map]
  have : (fun x : Int => Int.tdiv (2 * x) 2) = id := by
    funext x
    show Int.tdiv (2 * x) 2 = x
    rw [Int.mul_comm]
    exact Int.mul_tdiv_cancel _ (by decide)
  show l.map (fun x : Int => Int.tdiv (2 * x) 2) = l
  rw [this, List.map_id]
theorem dbl_even (l m : List Int) : ((dblL l).zip (dblL m)).any pairOdd = false := by
  unfold dblL
  rw [List.any_eq_false]
  intro p hp
  rw [List.zip_map] at hp
  obtain ⟨q, _, rfl⟩ := List.mem_map.1 hp
  have h1 : Int.tmod (2 * q.1) 2 = 0 := (tmod2 _).2 (by omega)
  have h2 : Int.tmod (2 * q.2) 2 = 0 := (tmod2 _).2 (by omega)
  simp [pairOdd, Prod.map, h1, h2]
theorem nrm_dbl (m : Nat) (l h : List Int) : nrmB (m + 1) (dblL l) (dblL h) = nrmB m l h := by
  rw [nrmB_next (dbl_even l h), hf_dbl, hf_dbl]
theorem up_succ (l : List Int) (d : Nat) : upL l (d + 1) = dblL (upL l d) := by
  unfold upL dblL
  rw [List.map_map]
  refine List.map_congr_left fun x _ => ?_
  show x * 2 ^ (d + 1) = 2 * (x * 2 ^ d)
  rw [Int.pow_succ, ← Int.mul_assoc, Int.mul_comm]
theorem nrm_up (m d : Nat) (l h : List Int) : nrmB (m + d) (upL l d) (upL h d) = nrmB m l h := by
  induction d with
  | zero => simp [upL]
  | succ d ih => rw [up_succ, up_succ, ← Nat.add_assoc, nrm_dbl, ih]
theorem dbl_hf {l : List Int} (h : ∀ n ∈ l, oddI n = false) : dblL (hfL l) = l := by
  unfold hfL dblL
  rw [List.map_map]
  conv => rhs; rw [← List.map_id l]
  refine List.map_congr_left fun x hx => ?_
  exact (even_half (h x hx)).symm
theorem zip_even {l m : List Int} (hm : m.length = l.length) (h : (l.zip m).any pairOdd = false) : (∀ n ∈ l, oddI n = false) ∧ ∀ n ∈ m, oddI n = false :=
  (zip_odd hm (by rw [any_pair l m hm]; exact h)).2
theorem nrm_rel : ∀ (K : Nat) (l h : List Int), h.length = l.length → ∃ d A, nrmB K l h = A ∧ A.k = ((K - d : Nat) : Int) ∧ d ≤ K ∧ l = upL A.low d ∧ h = upL A.high d
  | 0, l, h, _ => ⟨0, _, rfl, rfl, Nat.le_refl _, by simp [upL, nrmB], by simp [upL, nrmB]⟩
  | K + 1, l, h, hl => by
    by_cases c : (l.zip h).any pairOdd = true
    · exact ⟨0, _, nrmB_stop (.inr c), rfl, by omega, by simp [upL], by simp [upL]⟩
    · have c : (l.zip h).any pairOdd = false := by simpa using c
      obtain ⟨e1, e2⟩ := zip_even hl c
      obtain ⟨d, A, h1, h2, h3, h4, h5⟩ := nrm_rel K (hfL l) (hfL h) (by rw [hfL_len, hfL_len]; exact hl)
      refine ⟨d + 1, A, by rw [nrmB_next c]; exact h1, by rw [h2]; congr 1; omega, by omega, ?_, ?_⟩
      · rw [up_succ, ← h4, dbl_hf e1]
      · rw [up_succ, ← h5, dbl_hf e2]
theorem nrm_box : ∀ (K : Nat) (l h : List Int), K ≤ 8 → 1 ≤ l.length → l.length ≤ 3 → h.length = l.length → (∀ n ∈ l, -mostM (K : Int) ≤ n ∧ n ≤ mostM (K : Int)) → (∀ n ∈ h, -mostM (K : Int) ≤ n ∧ n ≤ mostM (K : Int)) → (l.zip h).all ltP = true → boxM (nrmB K l h) = true
  | 0, l, h, _, l1, l3, hl, b1, b2, hlt => by
    rw [nrmB_stop (.inl rfl), box_of (by omega) l1 l3 hl b1 b2 (.inl rfl)]; exact hlt
  | K + 1, l, h, hK, l1, l3, hl, b1, b2, hlt => by
    by_cases c : (l.zip h).any pairOdd = true
    · rw [nrmB_stop (.inr c), box_of (by omega) l1 l3 hl b1 b2 (.inr c)]; exact hlt
    · have c : (l.zip h).any pairOdd = false := by simpa using c
      obtain ⟨e1, e2⟩ := zip_even hl c
      rw [nrmB_next c]
      refine nrm_box K (hfL l) (hfL h) (by omega) (by rw [hfL_len]; exact l1) (by rw [hfL_len]; exact l3) (by rw [hfL_len, hfL_len]; exact hl) ?_ ?_ ?_
      · exact half_small (by rw [← mostM_step]; exact b1) e1
      · exact half_small (by rw [← mostM_step]; exact b2) e2
      · rw [← half_lt c] at hlt; exact hlt
theorem up_dbl (l : List Int) (d : Nat) : upL (dblL l) d = dblL (upL l d) := by
  unfold upL dblL
  rw [List.map_map, List.map_map]
  exact List.map_congr_left fun x _ => by show 2 * x * 2 ^ d = 2 * (x * 2 ^ d); rw [Int.mul_assoc]
theorem up_set (l : List Int) (i : Nat) (x : Int) (d : Nat) : upL (l.set i x) d = (upL l d).set i (x * 2 ^ d) := by unfold upL; rw [List.map_set]
theorem up_getD (l : List Int) (i d : Nat) : (upL l d).getD i 0 = l.getD i 0 * 2 ^ d := by
  unfold upL
  rw [List.getD_eq_getElem?_getD, List.getElem?_map, List.getD_eq_getElem?_getD]
  cases l[i]? <;> simp
theorem mkB_up (m d : Nat) (l h : List Int) : mkB (m + d) (upL l d) (upL h d) = mkB m l h := by unfold mkB; rw [nrm_up]
theorem half1_nrm {K : Nat} {l h : List Int} (hl : h.length = l.length) (i : Nat) : half1 (nrmB K l h) i = mkB (K + 1) (dblL l) ((dblL h).set i (l.getD i 0 + h.getD i 0)) := by
  obtain ⟨d, A, hA, hk, hd, rfl, rfl⟩ := nrm_rel K l h hl
  rw [hA]
  unfold half1
  have e : K + 1 = A.k.toNat + 1 + d := by rw [hk]; show K + 1 = K - d + 1 + d; omega
  rw [e, ← up_dbl, ← up_dbl, up_getD, up_getD, ← Int.add_mul, ← up_set, mkB_up]
theorem half2_nrm {K : Nat} {l h : List Int} (hl : h.length = l.length) (i : Nat) : half2 (nrmB K l h) i = mkB (K + 1) ((dblL l).set i (l.getD i 0 + h.getD i 0)) (dblL h) := by
  obtain ⟨d, A, hA, hk, hd, rfl, rfl⟩ := nrm_rel K l h hl
  rw [hA]
  unfold half2
  have e : K + 1 = A.k.toNat + 1 + d := by rw [hk]; show K + 1 = K - d + 1 + d; omega
  rw [e, ← up_dbl, ← up_dbl, up_getD, up_getD, ← Int.add_mul, ← up_set, mkB_up]
def half0 (k : Nat) (x y z w : Int) : Bx := nrmB (k + 1) [2 * x, 2 * z] [x + y, 2 * w]
def halfO (k : Nat) (x y z w : Int) : Bx := nrmB (k + 1) [x + y, 2 * z] [2 * y, 2 * w]
def q00 (k : Nat) (x y z w : Int) : Bx := nrmB (k + 1) [2 * x, 2 * z] [x + y, z + w]
def q01 (k : Nat) (x y z w : Int) : Bx := nrmB (k + 1) [2 * x, z + w] [x + y, 2 * w]
def q10 (k : Nat) (x y z w : Int) : Bx := nrmB (k + 1) [x + y, 2 * z] [2 * y, z + w]
def q11 (k : Nat) (x y z w : Int) : Bx := nrmB (k + 1) [x + y, z + w] [2 * y, 2 * w]
def quarts (k : Nat) (x y z w : Int) : List Bx := [q00 k x y z w, q01 k x y z w, q10 k x y z w, q11 k x y z w]
theorem most_pl {k : Nat} {b : Bx} {x y z w : Int} (g : PlG b k x y z w) (gb : boxM b = true) : mostM ((k + 1 : Nat) : Int) = 2 * mostM (k : Int) ∧ -mostM (k : Int) ≤ x ∧ y ≤ mostM (k : Int) ∧ -mostM (k : Int) ≤ z ∧ w ≤ mostM (k : Int) := by
  refine ⟨mostM_step k, ?_⟩
  unfold boxM at gb
  rw [g.bk, g.low, g.high] at gb
  simp only [Bool.and_eq_true, decide_eq_true_eq, List.zip_cons_cons, List.zip_nil_left, List.all_cons, List.all_nil, Bool.and_true, pairOk] at gb
  omega
theorem pair_box {b : Bx} {k : Nat} {x y z w p q r s : Int} (g : PlG b k x y z w) (gb : boxM b = true) (hp : 2 * x ≤ p ∧ p < r ∧ r ≤ 2 * y) (hq : 2 * z ≤ q ∧ q < s ∧ s ≤ 2 * w) : boxM (nrmB (k + 1) [p, q] [r, s]) = true := by
  obtain ⟨m0, m1, m2, m3, m4⟩ := most_pl g gb
  have hk := g.k3
  refine nrm_box (k + 1) [p, q] [r, s] (by omega) (by simp) (by simp) rfl ?_ ?_ (by simp [ltP]; omega)
  · intro n hn
    rw [m0]
    rcases List.mem_cons.1 hn with rfl | hn
    · omega
    · rcases List.mem_singleton.1 hn with rfl; omega
  · intro n hn
    rw [m0]
    rcases List.mem_cons.1 hn with rfl | hn
    · omega
    · rcases List.mem_singleton.1 hn with rfl; omega
theorem mkB_ok {K : Nat} {l h : List Int} (hb : boxM (nrmB K l h) = true) : mkB K l h = some (nrmB K l h) := by unfold mkB; rw [if_pos hb]
section
variable {b : Bx} {k : Nat} {x y z w : Int} (g : PlG b k x y z w) (gb : boxM b = true)
include g gb
theorem halves_b : halvesM b 0 = some [half0 k x y z w, halfO k x y z w] := by
  have h1 := g.xy
  have h2 := g.zw
  have a1 : half1 b 0 = some (half0 k x y z w) := by
    unfold half1
    rw [g.bk, g.low, g.high]
    show mkB (k + 1) [2 * x, 2 * z] [x + y, 2 * w] = _
    exact mkB_ok (pair_box g gb (by omega) (by omega))
  have a2 : half2 b 0 = some (halfO k x y z w) := by
    unfold half2
    rw [g.bk, g.low, g.high]
    show mkB (k + 1) [x + y, 2 * z] [2 * y, 2 * w] = _
    exact mkB_ok (pair_box g gb (by omega) (by omega))
  unfold halvesM
  rw [a1, a2]; rfl
theorem halves_0 : halvesM (half0 k x y z w) 1 = some [q00 k x y z w, q01 k x y z w] := by
  have h1 := g.xy
  have h2 := g.zw
  have a1 : half1 (half0 k x y z w) 1 = some (q00 k x y z w) := by
    unfold half0
    rw [half1_nrm (by simp)]
    have e : (dblL [x + y, 2 * w]).set 1 (([2 * x, 2 * z] : List Int).getD 1 0 + ([x + y, 2 * w] : List Int).getD 1 0) = dblL [x + y, z + w] := by
      show [2 * (x + y), 2 * z + 2 * w] = [2 * (x + y), 2 * (z + w)]
      rw [Int.mul_add 2 z w]
    rw [e]
    show mkB (k + 1 + 1) _ _ = _
    unfold mkB
    rw [nrm_dbl]
    exact mkB_ok (pair_box g gb (by omega) (by omega))
  have a2 : half2 (half0 k x y z w) 1 = some (q01 k x y z w) := by
    unfold half0
    rw [half2_nrm (by simp)]
    have e : (dblL [2 * x, 2 * z]).set 1 (([2 * x, 2 * z] : List Int).getD 1 0 + ([x + y, 2 * w] : List Int).getD 1 0) = dblL [2 * x, z + w] := by
      show [2 * (2 * x), 2 * z + 2 * w] = [2 * (2 * x), 2 * (z + w)]
      rw [Int.mul_add 2 z w]
    rw [e]
    show mkB (k + 1 + 1) _ _ = _
    unfold mkB
    rw [nrm_dbl]
    exact mkB_ok (pair_box g gb (by omega) (by omega))
  unfold halvesM
  rw [a1, a2]; rfl
theorem halves_1 : halvesM (halfO k x y z w) 1 = some [q10 k x y z w, q11 k x y z w] := by
  have h1 := g.xy
  have h2 := g.zw
  have a1 : half1 (halfO k x y z w) 1 = some (q10 k x y z w) := by
    unfold halfO
    rw [half1_nrm (by simp)]
    have e : (dblL [2 * y, 2 * w]).set 1 (([x + y, 2 * z] : List Int).getD 1 0 + ([2 * y, 2 * w] : List Int).getD 1 0) = dblL [2 * y, z + w] := by
      show [2 * (2 * y), 2 * z + 2 * w] = [2 * (2 * y), 2 * (z + w)]
      rw [Int.mul_add 2 z w]
    rw [e]
    show mkB (k + 1 + 1) _ _ = _
    unfold mkB
    rw [nrm_dbl]
    exact mkB_ok (pair_box g gb (by omega) (by omega))
  have a2 : half2 (halfO k x y z w) 1 = some (q11 k x y z w) := by
    unfold halfO
    rw [half2_nrm (by simp)]
    have e : (dblL [x + y, 2 * z]).set 1 (([x + y, 2 * z] : List Int).getD 1 0 + ([2 * y, 2 * w] : List Int).getD 1 0) = dblL [x + y, z + w] := by
      show [2 * (x + y), 2 * z + 2 * w] = [2 * (x + y), 2 * (z + w)]
      rw [Int.mul_add 2 z w]
    rw [e]
    show mkB (k + 1 + 1) _ _ = _
    unfold mkB
    rw [nrm_dbl]
    exact mkB_ok (pair_box g gb (by omega) (by omega))
  unfold halvesM
  rw [a1, a2]; rfl
theorem half_good : boxM (half0 k x y z w) = true ∧ boxM (halfO k x y z w) = true := by
  have h1 := g.xy
  have h2 := g.zw
  exact ⟨pair_box g gb (by omega) (by omega), pair_box g gb (by omega) (by omega)⟩
theorem quart_good : boxM (q00 k x y z w) = true ∧ boxM (q01 k x y z w) = true ∧ boxM (q10 k x y z w) = true ∧ boxM (q11 k x y z w) = true := by
  have h1 := g.xy
  have h2 := g.zw
  exact ⟨pair_box g gb (by omega) (by omega), pair_box g gb (by omega) (by omega), pair_box g gb (by omega) (by omega), pair_box g gb (by omega) (by omega)⟩
end
theorem nrm_len {K : Nat} {l h : List Int} (hl : h.length = l.length) : (nrmB K l h).low.length = l.length ∧ (nrmB K l h).high.length = l.length := by
  obtain ⟨d, A, hA, _, _, h1, h2⟩ := nrm_rel K l h hl
  rw [hA]
  have e1 : l.length = A.low.length := by conv => lhs; rw [h1]
                                          unfold upL; rw [List.length_map]
  have e2 : h.length = A.high.length := by conv => lhs; rw [h2]
                                           unfold upL; rw [List.length_map]
  omega
/-- The numbers of a box do not change when it is halved. -/
theorem nrm_num {K i : Nat} {l h : List Int} (hl : h.length = l.length) : numM ((nrmB K l h).low.getD i 0) (nrmB K l h).k.toNat = numM (l.getD i 0) K := by
  obtain ⟨d, A, hA, hk, hd, h1, _⟩ := nrm_rel K l h hl
  rw [hA]
  conv => rhs; rw [h1, up_getD]
  have e : K = A.k.toNat + d := by rw [hk]; show K = K - d + d; omega
  rw [e, numM_two]
theorem cmp_num {a b : Int} {k : Nat} (ha : a.natAbs ≤ 1099511627776) (hb : b.natAbs ≤ 1099511627776) (hk : k ≤ 24) : cmpM (numM a k) (numM b k) = sgn (a - b) := by
  obtain ⟨d1, e1⟩ := small_make ha hk
  obtain ⟨d2, e2⟩ := small_make hb hk
  unfold numM
  rw [e1, e2]
  show cmpM d1 d2 = _
  unfold cmpM
  rw [makeM_up hk e1, makeM_up hk e2, ← Int.sub_mul, sgn_pos (pow_pos' _)]
end Go.Proofs
end

section
set_option linter.unusedSimpArgs false
set_option linter.unusedVariables false
set_option maxRecDepth 4000
namespace Go.Proofs
open Go Go.V
/- A row of boxes taken apart: its cells, and what its boxes hold. -/
abbrev El := Bx × Raw3
abbrev bxs (z : List El) : List Bx := z.map Prod.fst
abbrev raws (z : List El) : List Raw3 := z.map Prod.snd
def InF (h : Heap) : List El → List (List Nat) → Prop
  | [], fps => fps = []
  | p :: z, fps => ∃ f fps', fps = f :: fps' ∧ Rep.rep h p.1 p.2.c f ∧ InF h z fps'
theorem InF.frame {h h' : Heap} : ∀ {z : List El} {fps : List (List Nat)}, InF h z fps → (∀ b ∈ fps.flatten, getB h' b = getB h b) → InF h' z fps
  | [], _, e, _ => e
  | p :: z, fps, ⟨f, fps', e, h1, h2⟩, hf => by
    subst e
    exact ⟨f, fps', rfl, Rep.frame h1 fun b hb => hf b (by simp [hb]), h2.frame fun b hb => hf b (by rw [List.flatten_cons]; exact List.mem_append_right _ hb)⟩
theorem InF.live {h : Heap} : ∀ {z : List El} {fps : List (List Nat)}, InF h z fps → ∀ b ∈ fps.flatten, b < h.length
  | [], fps, e, b, hb => by rw [show fps = [] from e] at hb; simp at hb
  | p :: z, fps, ⟨f, fps', e, h1, h2⟩, b, hb => by
    subst e
    rw [List.flatten_cons] at hb
    rcases List.mem_append.1 hb with hb | hb
    · exact Rep.live h1 b hb
    · exact h2.live b hb
theorem InF.mem {h : Heap} : ∀ {z : List El} {fps : List (List Nat)}, InF h z fps → ∀ p ∈ z, Here h p.1 p.2.c
  | [], _, _, p, hp => by simp at hp
  | q :: z, fps, ⟨f, fps', e, h1, h2⟩, p, hp => by
    rcases List.mem_cons.1 hp with rfl | hp
    · exact ⟨f, h1⟩
    · exact h2.mem p hp
theorem InF.perm {h : Heap} {z z' : List El} (hp : z.Perm z') : ∀ {fps : List (List Nat)}, InF h z fps → ∃ fps', InF h z' fps' ∧ fps.flatten.Perm fps'.flatten := by
  induction hp with
  | nil => exact fun h1 => ⟨_, h1, .refl _⟩
  | cons x _ ih =>
    rintro fps ⟨f, fps', rfl, h1, h2⟩
    obtain ⟨g, h3, h4⟩ := ih h2
    exact ⟨f :: g, ⟨f, g, rfl, h1, h3⟩, by rw [List.flatten_cons, List.flatten_cons]; exact h4.append_left f⟩
  | swap x y l =>
    rintro fps ⟨f, fps', rfl, h1, g, fps2, rfl, h2, h3⟩
    exact ⟨g :: f :: fps2, ⟨g, _, rfl, h2, f, _, rfl, h1, h3⟩, by
      simp only [List.flatten_cons, ← List.append_assoc]
      exact List.perm_append_comm.append_right _⟩
  | trans _ _ ih1 ih2 =>
    intro fps h1
    obtain ⟨g, h2, h3⟩ := ih1 h1
    obtain ⟨k, h4, h5⟩ := ih2 h2
    exact ⟨k, h4, h3.trans h5⟩
def inA (z : List El) : Asr := ⟨fun h fp => ∃ fps, InF h z fps ∧ fp = fps.flatten, fun ⟨fps, o, e⟩ hf => ⟨fps, o.frame fun b hb => hf b (by rw [e]; exact hb), e⟩, fun ⟨fps, o, e⟩ b hb => o.live b (by rw [← e]; exact hb)⟩
theorem Cells.parts {h : Heap} : ∀ {l : List Bx} {cs : List Value} {fps : List (List Nat)}, Cells h l cs fps → ∃ z : List El, bxs z = l ∧ InF h z fps ∧ ∃ fq, Cells h (raws z) cs fq ∧ fq.flatten = []
  | [], cs, fps, hc => ⟨[], rfl, hc.2, [], ⟨hc.1, rfl⟩, rfl⟩
  | x :: l, cs, fps, ⟨c, f, cs', fps', e1, e2, hr, hc⟩ => by
    obtain ⟨z, h1, h2, fq, h3, h4⟩ := Cells.parts hc
    exact ⟨(x, ⟨c, Rep.len hr⟩) :: z, by simp [bxs, h1], ⟨f, fps', e2, hr, h2⟩, [] :: fq, ⟨c, [], cs', fq, e1, rfl, ⟨rfl, rfl⟩, h3⟩, by simpa using h4⟩
theorem Cells.whole {h : Heap} : ∀ {z : List El} {cs : List Value} {fps fq : List (List Nat)}, InF h z fps → Cells h (raws z) cs fq → Cells h (bxs z) cs fps ∧ fq.flatten = []
  | [], cs, fps, fq, h1, h2 => ⟨⟨h2.1, h1⟩, by rw [h2.2]; rfl⟩
  | p :: z, cs, fps, fq, ⟨f, fps', e, h1, h2⟩, ⟨c, g, cs', fq', e1, e2, hr, hc⟩ => by
    obtain ⟨h3, h4⟩ := Cells.whole h2 hc
    obtain ⟨rfl, rfl⟩ := hr
    exact ⟨⟨_, f, cs', fps', e1, e, h1, h3⟩, by rw [e2]; simpa using h4⟩
theorem Sep.parts {a h : Heap} {L : List Asr} {el : TypeId} {l : List Bx} {v : Value} (s : Sep a h (ownA el l v :: L)) : ∃ z : List El, bxs z = l ∧ Sep a h (ownA (α := Raw3) el (raws z) v :: inA z :: L) := by
  obtain ⟨e0, fp, ⟨f1, g1, rfl, h1, s⟩, hd, hn⟩ := s
  rcases Own.cases (show Own el h l v f1 from h1) with ⟨rfl, rfl, rfl⟩ | ⟨b, off, cap, k, fps, rfl, hle, k1, k2, k3, k4, rfl, hc⟩
  · exact ⟨[], rfl, e0, g1, ⟨[], g1, rfl, Own.nil el h, [], g1, rfl, ⟨[], rfl, rfl⟩, s⟩, by simpa using hd, by simpa using hn⟩
  · obtain ⟨z, hz, hi, fq, hq, hq0⟩ := Cells.parts hc
    subst hz
    have hlen : (bxs z).length = (raws z).length := by simp
    have hn0 : (bxs z).length ≤ 9223372036854775807 := h1.row.2.1
    refine ⟨z, rfl, e0, (b :: fps.flatten) ++ g1, ⟨[b], fps.flatten ++ g1, rfl, ?_, fps.flatten, g1, rfl, ⟨fps, hi, rfl⟩, s⟩, hd, hn⟩
    have := Own.mk' (α := Raw3) (l := raws z) (el := el) (h := h) (off := off) (cap := cap) (by rw [← hlen]; exact hle) (by rw [← hlen]; exact hn0) k1 k2 k3 k4 (by rw [← hlen]; exact hq) (by rw [hq0]; simp)
    rw [hq0, ← hlen] at this
    exact this
theorem Sep.whole {a h : Heap} {L : List Asr} {el : TypeId} {z : List El} {v : Value} (s : Sep a h (ownA (α := Raw3) el (raws z) v :: inA z :: L)) : Sep a h (ownA el (bxs z) v :: L) := by
  refine s.both.to ?_
  rintro fp ⟨f, g, rfl, h1, fps, hi, rfl⟩ hd
  have hlen : (bxs z).length = (raws z).length := by simp
  rcases Own.cases (show Own el h (raws z) v f from h1) with ⟨rfl, h2, rfl⟩ | ⟨b, off, cap, k, fq, rfl, hle, k1, k2, k3, k4, rfl, hc⟩
  · have : z = [] := by cases z with | nil => rfl | cons _ _ => simp at h2
    subst this
    exact ⟨[], Own.nil el h, List.nodup_nil, by simp⟩
  · obtain ⟨h3, h4⟩ := Cells.whole hi hc
    have hn0 : (raws z).length ≤ 9223372036854775807 := h1.row.2.1
    rw [h4] at hd
    refine ⟨b :: fps.flatten, ?_, by simpa using hd, fun c hc => by
      rcases List.mem_cons.1 hc with rfl | hc
      · simp
      · exact List.mem_append_right _ hc⟩
    have := Own.mk' (α := Bx) (l := bxs z) (el := el) (h := h) (off := off) (cap := cap) (by rw [hlen]; exact hle) (by rw [hlen]; exact hn0) k1 k2 k3 k4 (by rw [hlen]; exact h3) (by simpa using hd)
    rw [hlen] at this
    exact this
theorem Sep.inPerm {a h : Heap} {L : List Asr} {z z' : List El} (s : Sep a h (inA z :: L)) (hp : z.Perm z') : Sep a h (inA z' :: L) := by
  refine s.to ?_
  rintro fp ⟨fps, hi, rfl⟩ hd
  obtain ⟨fps', h1, h2⟩ := hi.perm hp
  exact ⟨_, ⟨fps', h1, rfl⟩, h2.nodup_iff.1 hd, fun b hb => h2.mem_iff.2 hb⟩
theorem Sep.inHere {a h : Heap} {L : List Asr} {z : List El} (s : Sep a h (inA z :: L)) {p : El} (hp : p ∈ z) : Here h p.1 p.2.c := by
  obtain ⟨fp, ⟨fps, hi, _⟩, _⟩ := s.get
  exact hi.mem p hp
/-- The state of a sort: the row's cells as they stand, and what is held. -/
abbrev St (a h : Heap) (z : List El) (v : Value) (L : List Asr) : Prop := Sep a h (ownA (α := Raw3) 32 (raws z) v :: inA z :: L)
theorem St.here {a h : Heap} {L : List Asr} {z : List El} {v : Value} (s : St a h z v L) {p : El} (hp : p ∈ z) : Here h p.1 p.2.c := Sep.inHere (Sep.tail s) hp
theorem St.cell {a h : Heap} {L : List Asr} {z : List El} {v : Value} (s : St a h z v L) {i : Nat} {p : El} (hp : z[i]? = some p) : cellsAt h (rowB v) (rowO v + i * 3) 3 = some p.2.c := by
  have hr : (raws z)[i]? = some p.2 := by simp [hp]
  obtain ⟨xs, x3, f, x4⟩ := (Sep.row s).at hr
  have x3 : cellsAt h (rowB v) (rowO v + i * 3) 3 = some xs := x3
  rw [x3, x4.1]
theorem St.len {a h : Heap} {L : List Asr} {z : List El} {v : Value} (s : St a h z v L) : IsRow v z.length := by
  have := (Sep.row s).isRow
  simpa using this
theorem St.done {a h : Heap} {L : List Asr} {z z' : List El} {v : Value} {m : List Raw3} (s : Sep a h (ownA (α := Raw3) 32 m v :: inA z :: L)) (hp : z.Perm z') (hm : m = raws z') : St a h z' v L := by
  subst hm
  exact (Sep.inPerm s.swap hp).swap
end Go.Proofs
end
