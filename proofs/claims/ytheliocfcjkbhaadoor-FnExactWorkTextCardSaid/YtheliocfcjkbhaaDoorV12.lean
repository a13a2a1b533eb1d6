/- The layer V, part 12: regions in the text's order, code, functions. -/
import Derived.Test.YtheliocfcjkbhaaDoorV11
set_option linter.all false
namespace Go.V
open Go Go.RowKit
variable {P : Program} [Laid P] {B0 : Nat} {ι : List Place} {h : Heap} {w : World}

theorem VR.float_eq {k : FloatKind} {n : Nat} {u : Value} (r : VR ι (.float k n) u) : u = undef := by
  cases r with
  | one r =>
    cases r with
    | skip => rfl
    | flat r => cases r with | base r => cases r

theorem guard_sound {n : Nat} {e : Env} {a : Act} {all : Array Oper} {o : Oper} {b : Bool} (hE : EnvR ι n e a) (hall : ∀ o ∈ all.toList, opsIn n o) (hg : guardV all o e = some b) : Region.wanted o (yielded all a.tmps) = b := by
  unfold guardV at hg
  unfold Region.wanted
  split at hg
  · rename_i hgd
    simp only [Option.some.injEq] at hg
    subst hg; rw [hgd]
  · rename_i j want hgd
    rw [hgd]
    simp only []
    split at hg
    · rename_i t ht
      have htn : t < n := by
        simp only [Option.bind_eq_some_iff] at ht
        obtain ⟨oj, hoj, hd⟩ := ht
        exact (hall oj (by simpa using Array.mem_of_getElem? hoj)).2 t hd
      have hv := hE.at_ t htn
      have hsome : a.tmps[t]? = some (a.tmps.getD t undef) := by
        have : t < a.tmps.size := by rw [hE.size]; exact htn
        simp [this]
      unfold yielded
      rw [ht]
      simp only [Option.bind_some]
      rw [hsome]
      split at hg
      · rename_i b' hb
        rw [hb] at hv
        rw [hv.bool_eq]
        simp only [Option.some.injEq] at hg
        subst hg
        cases b' <;> cases want <;> rfl
      · rename_i k m hb
        rw [hb] at hv
        rw [hv.float_eq]
        simp only [Option.some.injEq] at hg
        subst hg
        rfl
      · simp at hg
    · simp at hg

theorem ops_sound {n : Nat} {all : Array Oper} (hall : ∀ o ∈ all.toList, opsIn n o) {K : Env → Heap → Prop} {Q : Go.Exit → Act → World → Prop} : ∀ (os : List Oper) (e : Env) (h : Heap) (ι : List Place) (a : Act) (w : World), (∀ o ∈ os, opsIn n o) → opsV P all os e h K → EnvR ι n e a → Rel P B0 ι h w →
    (∀ e' h' ι' a' w', K e' h' → EnvR ι' n e' a' → Rel P B0 ι' h' w' → ι <+: ι' → Below B0 w w' → Q .normal a' w') → wpList P all Q os a w := by
  intro os
  induction os with
  | nil => intro e h ι a w _ hv hE r hn; exact hn e h ι a w hv hE r List.prefix_rfl (Below.refl _ _)
  | cons o os ih =>
    intro e h ι a w hos hv hE r hn
    unfold opsV at hv
    unfold wpList
    split at hv
    · rename_i hg
      rw [if_pos (guard_sound hE hall hg)]
      refine .inl (op_sound r hE (hos o (by simp)) hv ?_)
      intro v u h' ι' w' hk hvr hR hp hB
      refine ih _ h' ι' _ w' (fun o' ho' => hos o' (by simp [ho'])) hk ((hE.pre hp).put (hos o (by simp)).2 hvr) hR ?_
      intro e2 h2 ι2 a2 w2 hk2 hE2 hR2 hp2 hB2
      exact hn e2 h2 ι2 a2 w2 hk2 hE2 hR2 (hp.trans hp2) (hB.trans hB2)
    · rename_i hg
      rw [if_neg (by rw [guard_sound hE hall hg]; simp)]
      exact ih _ h ι _ w (fun o' ho' => hos o' (by simp [ho'])) hv (hE.put (hos o (by simp)).2 (.one .skip)) r hn
    · exact hv.elim

theorem wp_loop_n {c : Code} {Q : Go.Exit → Act → World → Prop} (I : Nat → Act → World → Prop) (round : ∀ m a w, I m a w → c.wp P (Exit.then (fun a' w' => ∃ m', m' < m ∧ I m' a' w') Q) a w) (m : Nat) (a : Act) (w : World) (h0 : I m a w) : (Code.loop c).wp P Q a w := by
  intro b k cs
  have key : ∀ n a w, I n a w → ∃ e a' w', Q e a' w' ∧ Arrives P (lone (b.at a (.code c :: .inLoop c :: k)) cs w) b k cs e a' w' := by
    intro n
    induction n using Nat.strongRecOn with
    | _ n ih =>
      intro a w hI
      obtain ⟨e, a₁, w₁, hq, harr⟩ := round n a w hI b (.inLoop c :: k) cs
      cases e with
      | normal =>
        obtain ⟨m', hlt, hI₁⟩ := hq
        obtain ⟨e₂, a₂, w₂, hq₂, harr₂⟩ := ih m' hlt a₁ w₁ hI₁
        exact ⟨e₂, a₂, w₂, hq₂, .of_steps (Steps.trans harr (.one step_inLoop)) harr₂⟩
      | exit id => exact ⟨_, a₁, w₁, hq, .pass (x := .inLoop c) rfl (fun _ _ => .inl (by simp)) harr⟩
      | goto l => exact ⟨_, a₁, w₁, hq, .pass (x := .inLoop c) rfl (fun _ _ => .inl (by simp)) harr⟩
      | ret => exact ⟨_, a₁, w₁, hq, .pass (x := .inLoop c) rfl (fun _ _ => .inl (by simp)) harr⟩
      | panic ch => exact ⟨_, a₁, w₁, hq, .pass (x := .inLoop c) rfl (fun _ _ => .inl (by simp)) harr⟩
      | outgrown => exact ⟨_, a₁, w₁, hq, .pass (x := .inLoop c) rfl (fun _ _ => .inl (by simp)) harr⟩
  obtain ⟨e, a', w', hq, harr⟩ := key _ a w h0
  exact ⟨e, a', w', hq, .of_steps (.one step_loop) harr⟩

def toExit : VX → Go.Exit
  | .norm => .normal
  | .exit id => .exit id
  | .ret => .ret

/-- What a region that draws owes (proved in the next part). -/
def DrawSound (P : Program) [Laid P] : Prop := ∀ (B0 n id : Nat) (ops : Array Oper) (e : Env) (h : Heap) (ι : List Place) (a : Act) (w : World) (K : Env → Heap → Prop) (Q : Go.Exit → Act → World → Prop),
  (∀ o ∈ ops.toList, opsIn n o) → drawV P ops e h K → EnvR ι n e a → Rel P B0 ι h w →
  (∀ e' h' ι' a' w', K e' h' → EnvR ι' n e' a' → Rel P B0 ι' h' w' → ι <+: ι' → Below B0 w w' → Q .normal a' w') → (Code.region id ops true).wp P Q a w

theorem code_sound (hD : DrawSound P) {n : Nat} : ∀ (c : Code) (e : Env) (h : Heap) (ι : List Place) (a : Act) (w : World) (Q : VX → Env → Heap → Prop) (QC : Go.Exit → Act → World → Prop), codeOk n c = true → wpV P c e h Q → EnvR ι n e a → Rel P B0 ι h w →
    (∀ x e' h' ι' a' w', Q x e' h' → EnvR ι' n e' a' → Rel P B0 ι' h' w' → ι <+: ι' → Below B0 w w' → QC (toExit x) a' w') → c.wp P QC a w := by
  intro c
  induction c with
  | skip => intro e h ι a w Q QC _ hv hE r hn; exact wp_skip (hn .norm e h ι a w hv hE r List.prefix_rfl (Below.refl _ _))
  | region id ops draw =>
    intro e h ι a w Q QC hok hv hE r hn
    have hall : ∀ o ∈ ops.toList, opsIn n o := fun o ho => opsIn_of (List.all_eq_true.1 hok o ho)
    cases draw with
    | false =>
      refine wp_region_list ?_
      exact ops_sound hall ops.toList e h ι a w hall hv hE r (fun e' h' ι' a' w' hk => hn .norm e' h' ι' a' w' hk)
    | true => exact hD B0 n id ops e h ι a w _ QC hall hv hE r (fun e' h' ι' a' w' hk => hn .norm e' h' ι' a' w' hk)
  | seq x y ihx ihy =>
    intro e h ι a w Q QC hok hv hE r hn
    simp only [codeOk, Bool.and_eq_true] at hok
    refine wp_seq (ihx e h ι a w _ _ hok.1 hv hE r ?_)
    intro x1 e' h' ι' a' w' hq hE' hR' hp hB
    cases x1 with
    | norm => exact ihy e' h' ι' a' w' Q QC hok.2 hq hE' hR' (fun x2 e2 h2 ι2 a2 w2 hq2 hE2 hR2 hp2 hB2 => hn x2 e2 h2 ι2 a2 w2 hq2 hE2 hR2 (hp.trans hp2) (hB.trans hB2))
    | exit id => exact hn (.exit id) e' h' ι' a' w' hq hE' hR' hp hB
    | ret => exact hn .ret e' h' ι' a' w' hq hE' hR' hp hB
  | cond c x y ihx ihy =>
    intro e h ι a w Q QC hok hv hE r hn
    simp only [codeOk, Bool.and_eq_true] at hok
    have hc := hE.eval (x := c) (by
      rintro t rfl
      simpa using hok.1.1)
    simp only [wpV] at hv
    split at hv
    · rename_i he
      rw [he] at hc
      exact wp_cond_true hc.bool_eq (ihx e h ι a w Q QC hok.1.2 hv hE r hn)
    · rename_i he
      rw [he] at hc
      exact wp_cond_false hc.bool_eq (ihy e h ι a w Q QC hok.2 hv hE r hn)
    · exact hv.elim
  | block id b ih =>
    intro e h ι a w Q QC hok hv hE r hn
    refine wp_block (ih e h ι a w _ _ hok hv hE r ?_)
    intro x1 e' h' ι' a' w' hq hE' hR' hp hB
    cases x1 with
    | norm => exact hn .norm e' h' ι' a' w' hq hE' hR' hp hB
    | exit i =>
      simp only [exitV] at hq
      simp only [toExit, Exit.inBlock]
      split at hq
      · rename_i hi; rw [if_pos hi]; exact hn .norm e' h' ι' a' w' hq hE' hR' hp hB
      · rename_i hi; rw [if_neg hi]; exact hn (.exit i) e' h' ι' a' w' hq hE' hR' hp hB
    | ret => exact hn .ret e' h' ι' a' w' hq hE' hR' hp hB
  | loop b ih =>
    intro e h ι a w Q QC hok hv hE r hn
    obtain ⟨m, hm⟩ := hv
    refine wp_loop_n (fun m a' w' => ∃ e' h' ι', iterV (wpV P b) Q m e' h' ∧ EnvR ι' n e' a' ∧ Rel P B0 ι' h' w' ∧ ι <+: ι' ∧ Below B0 w w') ?_ m a w ⟨e, h, ι, hm, hE, r, List.prefix_rfl, Below.refl _ _⟩
    rintro m a1 w1 ⟨e1, h1, ι1, hi, hE1, hR1, hp1, hB1⟩
    cases m with
    | zero => exact hi.elim
    | succ m =>
      refine ih e1 h1 ι1 a1 w1 _ _ hok hi hE1 hR1 ?_
      intro x1 e' h' ι' a' w' hq hE' hR' hp hB
      cases x1 with
      | norm => exact ⟨m, Nat.lt_succ_self m, e', h', ι', hq, hE', hR', hp1.trans hp, hB1.trans hB⟩
      | exit i => exact hn (.exit i) e' h' ι' a' w' hq hE' hR' (hp1.trans hp) (hB1.trans hB)
      | ret => exact hn .ret e' h' ι' a' w' hq hE' hR' (hp1.trans hp) (hB1.trans hB)
  | exit id => intro e h ι a w Q QC _ hv hE r hn; exact wp_exit (hn (.exit id) e h ι a w hv hE r List.prefix_rfl (Below.refl _ _))
  | ret => intro e h ι a w Q QC _ hv hE r hn; exact wp_ret (hn .ret e h ι a w hv hE r List.prefix_rfl (Below.refl _ _))
  | _ => intro e h ι a w Q QC _ hv; exact hv.elim

/-! ### functions -/
def resIn (n : Nat) : ResultVar → Bool
  | .tmp t => decide (t < n)
  | .cell a _ => decide (a < n)

/-- The facts on a function that a contract rests on, told in one Bool. -/
def fnOk (fn : Func) (c : Code) : Bool := codeOk fn.ntmps c && fn.results.toList.all (resIn fn.ntmps) && decide (fn.params.size + fn.nfree ≤ fn.ntmps)

theorem loadV_ptr {t : TypeId} {x u v : Value} (hx : VR ι x u) (hv : loadV P t x h = some v) : ∃ ad, u = .pointer (some ad) := by
  unfold loadV at hv
  split at hv
  · cases BR.of_flat (hx.flat_inv trivial) (by simp) with
    | ptr hp => exact ⟨_, rfl⟩
  · simp at hv

theorem results_list {n : Nat} {e : Env} {a : Act} (hE : EnvR ι n e a) (r : Rel P B0 ι h w) : ∀ (rs : List ResultVar) (vs : List Value), rs.all (resIn n) = true → rs.mapM (resultV P e h) = some vs →
    ∃ us, L2 (VR ι) vs us ∧ ((rs.mapM fun | .tmp t => pure (a.tmps.getD t undef) | .cell x t => do loadVar t (← asAddr (a.tmps.getD x undef)) : Sem (List Value))).run P w = .ok us w := by
  intro rs
  induction rs with
  | nil => intro vs _ hv; simp at hv; subst hv; exact ⟨[], .nil, rfl⟩
  | cons x rs ih =>
    intro vs hin hv
    simp only [List.all_cons, Bool.and_eq_true] at hin
    simp only [List.mapM_cons, Option.pure_def, Option.bind_eq_bind, Option.bind_eq_some_iff, Option.some.injEq] at hv
    obtain ⟨v, hv1, vs', hv2, rfl⟩ := hv
    obtain ⟨us, hl, hr⟩ := ih vs' hin.2 hv2
    cases x with
    | tmp t =>
      simp only [resultV, Option.some.injEq] at hv1
      subst hv1
      exact ⟨_ :: us, .cons (hE.at_ t (by simpa [resIn] using hin.1)) hl, by simp only [List.mapM_cons, Sem.run_bind, Sem.run_pure, Result.andThen_ok, hr]⟩
    | cell x t =>
      simp only [resultV] at hv1
      have hx := hE.at_ x (by simpa [resIn] using hin.1)
      obtain ⟨u, hu, hur⟩ := load_sound r hx hv1
      refine ⟨u :: us, .cons hur hl, ?_⟩
      obtain ⟨ad, had⟩ := loadV_ptr hx hv1
      have hu' : (loadVar t ad).run P w = .ok u w := by
        rw [had] at hu
        exact hu
      have h1 : (asAddr (a.tmps.getD x undef)).run P w = .ok ad w := by rw [had]; rfl
      simp only [List.mapM_cons, Sem.run_bind, Sem.run_pure, h1, Result.andThen_ok, hu', hr]

theorem results_sound {n : Nat} {e : Env} {a : Act} {fn : Func} {v : Value} (hE : EnvR ι n e a) (r : Rel P B0 ι h w) (hin : fn.results.toList.all (resIn n) = true) (hv : resultsV P fn e h = some v) :
    ∃ u, VR ι v u ∧ (results fn a.tmps).run P w = .ok u w := by
  unfold resultsV at hv
  simp only [Option.bind_eq_some_iff] at hv
  obtain ⟨vs, hvs, hv⟩ := hv
  obtain ⟨us, hl, hr⟩ := results_list hE r fn.results.toList vs hin hvs
  have hrun : (results fn a.tmps).run P w = .ok (if h : us.toArray.size = 1 then us.toArray[0] else .tuple us.toArray) w := by
    unfold results
    rw [Array.mapM_eq_mapM_toList]
    rw [Sem.run_bind, Sem.run_map]
    exact congrArg (fun X : Result (List Value) => (X.andThen fun a w' => Result.ok a.toArray w').andThen fun a w' => Sem.run P (pure (if h : a.size = 1 then a[0] else Value.tuple a)) w') hr
  rw [hrun]
  split at hv
  · rename_i v1
    simp only [Option.some.injEq] at hv; subst hv
    cases hl with
    | @cons _ u _ m h1 h2 =>
      cases h2
      exact ⟨u, h1, by simp⟩
  · rename_i vs' hne
    split at hv
    · rename_i hall
      simp only [Option.some.injEq] at hv; subst hv
      have hne1 : us.length ≠ 1 := by
        intro h1
        have := hl.length
        rw [h1] at this
        match vs, this with
        | [v], _ => exact hne v rfl
      refine ⟨.tuple us.toArray, .tup ?_, by simp [hne1]⟩
      have key : ∀ (l m : List Value), L2 (VR ι) l m → l.all (fun v => match v with | .tuple vs => vs.size == 0 | _ => true) = true → L2 (AR ι) l m := by
        intro l m hlm
        induction hlm with
        | nil => intro _; exact .nil
        | cons h1 _ ih =>
          intro hc
          simp only [List.all_cons, Bool.and_eq_true] at hc
          refine .cons ?_ (ih hc.2)
          cases h1 with
          | one h1 => exact h1
          | @tup a b h1 =>
            have : a = [] := by simpa using hc.1
            subst this
            exact .junk _
      exact key _ _ hl hall
    · simp at hv

/-- A contract, from the body. -/
theorem CallsV.intro (hD : DrawSound P) {f : FuncId} {fn : Func} {c : Code} {args : List Value} {Q : Value → Heap → Prop} (hf : P.funcs[f]? = some fn) (hb : fn.body = some c) (hok : fnOk fn c = true) (hlen : args.length ≤ fn.ntmps)
    (hv : wpV P c (startEnv args) h (retV P fn Q)) : CallsV P f args h Q := by
  intro B0 ι w us r ha
  unfold fnOk at hok
  simp only [Bool.and_eq_true] at hok
  obtain ⟨⟨h1, h2⟩, _⟩ := hok
  refine calls_of_wp hf hb ?_
  have hul := ha.length
  refine code_sound hD (B0 := B0) (ι := ι) (n := fn.ntmps) c (startEnv args) h _ w _ _ h1 hv ⟨by simp; omega, rfl, fun t ht => ?_⟩ r ?_
  · unfold startEnv
    rcases Nat.lt_or_ge t args.length with hlt | hge
    · obtain ⟨u, hu, hr⟩ := ha.get t _ (List.getElem?_eq_getElem hlt)
      have e1 : args.getD t UN = args[t] := by simp [List.getD, hlt]
      rw [e1]
      have e2 : ((us.toArray ++ Array.replicate (fn.ntmps - us.toArray.size) undef).getD t undef) = u := by
        have h3 : t < us.length := by omega
        have h4 : us[t] = u := by
          have := hu
          rw [List.getElem?_eq_getElem h3] at this
          simpa using this
        simp [h3, Array.getElem?_append, h4]
      rw [e2]; exact hr
    · have e1 : args.getD t UN = UN := by simp [List.getD, hge]
      rw [e1]; exact .one (.junk _)
  · intro x e' h' ι' a' w' hq hE hR hp hB
    have fin : ∀ (hq : match resultsV P fn e' h' with | some v => Q v h' | none => False), a'.defers = [] ∧ ∃ v, (results fn a'.tmps).run P w' = .ok v w' ∧ ∃ v_1 u h'_1 ι', Ending.returned v = .returned u ∧ Q v_1 h'_1 ∧ VR ι' v_1 u ∧ Rel P B0 ι' h'_1 w' ∧ ι <+: ι' ∧ Below B0 w w' := by
      intro hq
      split at hq
      · rename_i v hv
        obtain ⟨u, hu, hr⟩ := results_sound hE hR h2 hv
        exact ⟨hE.defers, u, hr, v, u, h', ι', rfl, hq, hu, hR, hp, hB⟩
      · exact hq.elim
    cases x with
    | norm => exact fin hq
    | ret => exact fin hq
    | exit id => exact hq.elim

end Go.V
