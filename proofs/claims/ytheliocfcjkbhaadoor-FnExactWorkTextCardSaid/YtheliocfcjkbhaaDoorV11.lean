/- The layer V, part 11: one operation, whatever it is. -/
import Derived.Test.YtheliocfcjkbhaaDoorV10
set_option linter.all false
namespace Go.V
open Go Go.RowKit
variable {P : Program} [Laid P] {B0 : Nat} {ι : List Place} {h : Heap} {w : World}

theorem wp_of_value {o : Oper} {a : Act} {next : Act → World → Prop} {Q : Go.Exit → Act → World → Prop} {u : Value} {w' : World} (hr : (execOp a.eval o).run P w = .ok (.value u) w') (hn : next (a.put o.dst u) w') : o.wp P a w next Q := by
  unfold Oper.wp; rw [hr]; exact hn
theorem wp_of_skip {o : Oper} {a : Act} {next : Act → World → Prop} {Q : Go.Exit → Act → World → Prop} {w' : World} (hr : (execOp a.eval o).run P w = .ok .skip w') (hn : next (a.put o.dst undef) w') : o.wp P a w next Q := by
  unfold Oper.wp; rw [hr]; exact hn

theorem run_val {s : Sem Value} {u : Value} {w' : World} (hs : s.run P w = .ok u w') : ((do pure (.value (← s)) : Sem Next)).run P w = .ok (.value u) w' := by
  simp [hs]

/-- max, min: whole numbers alone. -/
theorem fold_sound {f : Value → Value → Option Value} {g : Value → Value → Sem Value} (hf : ∀ x y v, f x y = some v → closed1 v = true ∧ closed1 x = true ∧ closed1 y = true ∧ ∀ w : World, (g x y).run P w = .ok v w) :
    ∀ (l us : List Value) (x v : Value), closed1 x = true → L2 (VR ι) l us → foldV f x l = some v → closed1 v = true ∧ ∀ w : World, (us.foldlM g x).run P w = .ok v w := by
  intro l
  induction l with
  | nil => intro us x v hx hl hv; cases hl; simp [foldV] at hv; subst hv; exact ⟨hx, fun w => rfl⟩
  | cons y l ih =>
    intro us x v hx hl hv
    cases hl with
    | @cons _ u _ m hr hrest =>
      simp only [foldV, Option.bind_eq_some_iff] at hv
      obtain ⟨z, hz, hv⟩ := hv
      obtain ⟨h1, h2, h3, h4⟩ := hf x y z hz
      have : u = y := VR.closed_eq (by cases y <;> simp_all [closedA, closed1]) hr
      subst this
      obtain ⟨h5, h6⟩ := ih m z v h1 hrest hv
      exact ⟨h5, fun w => by simp [List.foldlM_cons, h4, h6]⟩

theorem max_sound {l us : List Value} {v : Value} (hl : L2 (VR ι) l us) (hv : maxV l = some v) (ts : Array TypeId) (t : TypeId) : closed1 v = true ∧ ∀ w : World, (Builtin.max_ ts t us.toArray).run P w = .ok v w := by
  unfold maxV at hv
  split at hv
  · rename_i k x rest
    cases hl with
    | cons hr hrest =>
      have := hr.int_eq; subst this
      obtain ⟨h1, h2⟩ := fold_sound (P := P) (f := max2V) (g := Builtin.max2) (by
        intro x y v hv
        unfold max2V at hv
        split at hv
        · simp only [Option.some.injEq] at hv; subst hv
          exact ⟨rfl, rfl, rfl, fun w => by simp [Builtin.max2]⟩
        · simp at hv) rest _ _ v rfl hrest hv
      exact ⟨h1, fun w => by simpa [Builtin.max_] using h2 w⟩
  · simp at hv
theorem min_sound {l us : List Value} {v : Value} (hl : L2 (VR ι) l us) (hv : minV l = some v) (ts : Array TypeId) (t : TypeId) : closed1 v = true ∧ ∀ w : World, (Builtin.min_ ts t us.toArray).run P w = .ok v w := by
  unfold minV at hv
  split at hv
  · rename_i k x rest
    cases hl with
    | cons hr hrest =>
      have := hr.int_eq; subst this
      obtain ⟨h1, h2⟩ := fold_sound (P := P) (f := min2V) (g := Builtin.min2) (by
        intro x y v hv
        unfold min2V at hv
        split at hv
        · simp only [Option.some.injEq] at hv; subst hv
          exact ⟨rfl, rfl, rfl, fun w => by simp [Builtin.min2]⟩
        · simp at hv) rest _ _ v rfl hrest hv
      exact ⟨h1, fun w => by simpa [Builtin.min_] using h2 w⟩
  · simp at hv

theorem closed1_VR {v : Value} (hv : closed1 v = true) : VR ι v v := .one (.flat (.closed hv))

/-- The operands' values. -/
theorem eval_args {n : Nat} {e : Env} {a : Act} (hE : EnvR ι n e a) : ∀ (l : List Operand), (∀ x ∈ l, ∀ t, x = .tmp t → t < n) → L2 (VR ι) (l.map (evO e)) (l.map a.eval) := by
  intro l
  induction l with
  | nil => intro _; exact .nil
  | cons x l ih => intro hx; exact .cons (hE.eval (hx x (by simp))) (ih fun y hy => hx y (by simp [hy]))

theorem eval_parts {n : Nat} {e : Env} {a : Act} (hE : EnvR ι n e a) : ∀ (l : List (Nat × Operand)), (∀ x ∈ l, ∀ t, x.2 = .tmp t → t < n) →
    L2 (fun a b : Nat × Value => a.1 = b.1 ∧ VR ι a.2 b.2) (l.map fun (i, x) => (i, evO e x)) (l.map fun (i, x) => (i, a.eval x)) := by
  intro l
  induction l with
  | nil => intro _; exact .nil
  | cons x l ih => intro hx; exact .cons ⟨rfl, hE.eval (hx x (by simp))⟩ (ih fun y hy => hx y (by simp [hy]))

/-- What a call owes. -/
def CallLands (P : Program) [Laid P] (B0 : Nat) (ι : List Place) (w : World) (s : Sem Next) (K : Value → Heap → Prop) : Prop :=
  (∃ v u h' ι' w', s.run P w = .ok (.value u) w' ∧ K v h' ∧ VR ι' v u ∧ Rel P B0 ι' h' w' ∧ ι <+: ι' ∧ Below B0 w w') ∨
  (∃ f us, s.run P w = .ok (.enter f us) w ∧ Calls P f us w fun e w' => ∃ v u h' ι', e = .returned u ∧ K v h' ∧ VR ι' v u ∧ Rel P B0 ι' h' w' ∧ ι <+: ι' ∧ Below B0 w w')

theorem CallLands.wp {o : Oper} {a : Act} {K : Value → Heap → Prop} {next : Act → World → Prop} {Q : Go.Exit → Act → World → Prop} (hc : CallLands P B0 ι w (execOp a.eval o) K)
    (hn : ∀ v u h' ι' w', K v h' → VR ι' v u → Rel P B0 ι' h' w' → ι <+: ι' → Below B0 w w' → next (a.put o.dst u) w') : o.wp P a w next Q := by
  rcases hc with ⟨v, u, h', ι', w', hr, hk, hv, hR, hp, hB⟩ | ⟨f, us, hr, hcalls⟩
  · exact wp_of_value hr (hn v u h' ι' w' hk hv hR hp hB)
  · unfold Oper.wp
    rw [hr]
    refine Calls.mono hcalls ?_
    rintro e w' ⟨v, u, h', ι', rfl, hk, hv, hR, hp, hB⟩
    exact hn v u h' ι' w' hk hv hR hp hB

theorem closed_list_eq {l us : List Value} (hl : L2 (VR ι) l us) (hc : l.all closed1 = true) : us = l := by
  induction hl with
  | nil => rfl
  | cons hr _ ih =>
    simp at hc
    rw [VR.closed_eq ?_ hr, ih (by simpa using hc.2)]
    have := hc.1
    rename_i a b _ _ _
    cases a <;> simp_all [closedA, closed1]

theorem callFunc_body {f : FuncId} (hb : hasBody P f = true) (us : Array Value) (w : World) : (callFunc f us).run P w = .ok (.enter f us) w := by
  unfold hasBody at hb
  split at hb
  · rename_i fn hfn
    simp only [Bool.and_eq_true, bne_iff_ne, ne_eq] at hb
    obtain ⟨h1, h2⟩ := hb
    simp [callFunc, hfn, h2]
    intro h3
    simp [h3] at h1
  · simp at hb

theorem call_sound (r : Rel P B0 ι h w) {f : FuncId} {args us : List Value} {K : Value → Heap → Prop} (ha : L2 (VR ι) args us) (hc : CallV P f args h K) : CallLands P B0 ι w (callFunc f us.toArray) K := by
  rcases hc with ⟨hb, hc⟩ | ⟨v, ⟨h1, h2, h3⟩, hk⟩
  · exact .inr ⟨f, us.toArray, callFunc_body hb _ _, hc B0 ι w us r ha⟩
  · rw [closed_list_eq ha h1]
    refine .inl ⟨v, v, h, ι, w, h3 w, hk, ?_, r, List.prefix_rfl, Below.refl _ _⟩
    split at h2
    · rename_i vs
      have : VR ι (.tuple vs.toList.toArray) (.tuple vs.toList.toArray) := .tup (L2.refl fun a ha => .flat (.closed (List.all_eq_true.1 h2 a ha)))
      simpa using this
    · exact closed1_VR h2

theorem dyn_sound (r : Rel P B0 ι h w) {g ug : Value} {args us : List Value} {K : Value → Heap → Prop} (hg : VR ι g ug) (ha : L2 (VR ι) args us) (hc : callDyn P g args h K) :
    CallLands P B0 ι w (do let d ← Deferred.ofValue ug us.toArray; invoke d.target d.args) K := by
  unfold callDyn at hc
  split at hc
  · rename_i f first captured
    have hf := hg.flat_inv trivial
    generalize hx : Value.func (.func f) first captured = x at hf
    cases hf with
    | base hb => subst hx; cases hb
    | @func fn a b c d h1 h2 =>
      simp only [Value.func.injEq] at hx
      obtain ⟨rfl, rfl, rfl⟩ := hx
      have hall : L2 (VR ι) (a ++ args ++ c) (b ++ us ++ d) := ((h1.imp fun _ _ x => VR.one (.flat (.base x))).append ha).append (h2.imp fun _ _ x => VR.one (.flat (.base x)))
      have hcall := call_sound r hall (by simpa using hc)
      have e : (do let d' ← Deferred.ofValue (.func (.func f) b.toArray d.toArray) us.toArray; invoke d'.target d'.args : Sem Next) = callFunc f (b ++ us ++ d).toArray := by
        simp [Deferred.ofValue, invoke]
      rw [e]; exact hcall
  · exact hc.elim


theorem capOk_BR {v u : Value} (r : VR ι v u) (h : capOk v = true) : BR ι v u := by
  cases r with
  | one r =>
    cases r with
    | junk => simp [capOk] at h
    | skip => simp [capOk] at h
    | flat r =>
      refine BR.of_flat r ?_
      rintro fn a b rfl
      simp [capOk] at h
    | agg => simp [capOk] at h
  | tup => simp [capOk] at h

/-- The operands of an operation are slots that there are. -/
def opsIn (n : Nat) (o : Oper) : Prop := (∀ x ∈ o.op.operands.toList, ∀ t, x = .tmp t → t < n) ∧ ∀ t, o.dst = some t → t < n
theorem opsIn_of {n : Nat} {o : Oper} (h : opOk n o = true) : opsIn n o := by
  unfold opOk at h
  simp only [Bool.and_eq_true] at h
  obtain ⟨⟨h1, h2⟩, _⟩ := h
  refine ⟨fun x hx t ht => ?_, fun t ht => ?_⟩
  · have := List.all_eq_true.1 h2 x hx
    subst ht
    simpa using this
  · rw [ht] at h1; simpa using h1

theorem Lands.wp {o : Oper} {a : Act} {s : Sem Value} {v : Value} {h' : Heap} {K : Value → Heap → Prop} {next : Act → World → Prop} {Q : Go.Exit → Act → World → Prop} (he : execOp a.eval o = (do pure (.value (← s)) : Sem Next)) (hl : Lands P B0 ι w s v h') (hk : K v h')
    (hn : ∀ v u h' ι' w', K v h' → VR ι' v u → Rel P B0 ι' h' w' → ι <+: ι' → Below B0 w w' → next (a.put o.dst u) w') : o.wp P a w next Q := by
  obtain ⟨u, w', ι', hr, hv, hR, hp, hB⟩ := hl
  exact wp_of_value (u := u) (w' := w') (by rw [he]; exact run_val hr) (hn v u h' ι' w' hk hv hR hp hB)

theorem optK_some {o : Option Value} {h : Heap} {K : Value → Heap → Prop} (hk : optK o h K) : ∃ v, o = some v ∧ K v h := by
  cases o with
  | none => exact hk.elim
  | some v => exact ⟨v, rfl, hk⟩
theorem optH_some {o : Option (Value × Heap)} {K : Value → Heap → Prop} (hk : optH o K) : ∃ v h, o = some (v, h) ∧ K v h := by
  cases o with
  | none => exact hk.elim
  | some v => exact ⟨v.1, v.2, rfl, hk⟩

theorem builtin_sound (r : Rel P B0 ι h w) {b : Builtin} {ts : Array TypeId} {ty : TypeId} {cs : Array Bool} {args us : List Value} {K : Value → Heap → Prop} (ha : L2 (VR ι) args us) (hc : builtinV P b ts args h K) :
    ∃ s v h', builtin b ts ty cs us.toArray = (do pure (.value (← s)) : Sem Next) ∧ Lands P B0 ι w s v h' ∧ K v h' := by
  unfold builtinV at hc
  split at hc
  · -- len of a slice
    rename_i t A n c hts
    cases ha with
    | @cons _ u _ m hr hrest =>
      cases hrest
      obtain ⟨he, hk⟩ := hc
      obtain ⟨el, hel⟩ := Option.isSome_iff_exists.1 he
      have ht := tElem_some hel
      have hts' : ts = #[t] := by apply Array.ext'; simpa using hts
      refine ⟨_, .int .i64 n, h, rfl, Lands.same r (u := .int .i64 n) ?_ (.closed rfl), hk⟩
      cases BR.of_flat (hr.flat_inv trivial) (by simp) <;> simp [Builtin.len_, hts', run_underlying ht, goInt]
  · rename_i t s hts
    cases ha with
    | @cons _ u _ m hr hrest =>
      cases hrest
      obtain ⟨he, hk⟩ := hc
      have ht := kind_str he
      have hts' : ts = #[t] := by apply Array.ext'; simpa using hts
      have := hr.string_eq; subst this
      refine ⟨_, .int .i64 s.size, h, rfl, Lands.same r (u := .int .i64 s.size) ?_ (.closed rfl), hk⟩
      simp [Builtin.len_, hts', run_underlying ht, goInt]
  · rename_i t t2 s x hts
    cases ha with
    | @cons _ u _ m hr hrest =>
      cases hrest with
      | @cons _ u2 _ m2 hr2 hrest2 =>
        cases hrest2
        obtain ⟨he, hc⟩ := hc
        split at hc
        · rename_i v h' happ
          have hts' : ts = #[t, t2] := by apply Array.ext'; simpa using hts
          subst hts'
          exact ⟨_, v, h', rfl, append_sound r hr hr2 happ he, hc⟩
        · exact hc.elim
  · rename_i t t2 d s hts
    cases ha with
    | @cons _ u _ m hr hrest =>
      cases hrest with
      | @cons _ u2 _ m2 hr2 hrest2 =>
        cases hrest2
        split at hc
        · rename_i v h' happ
          have hts' : ts = #[t, t2] := by apply Array.ext'; simpa using hts
          subst hts'
          exact ⟨_, v, h', rfl, copy_sound r hr hr2 happ, hc⟩
        · exact hc.elim
  · split at hc
    · rename_i v hv
      obtain ⟨h1, h2⟩ := max_sound (P := P) ha hv ts ty
      exact ⟨_, v, h, rfl, Lands.same r (h2 w) (closed1_VR h1), hc⟩
    · exact hc.elim
  · split at hc
    · rename_i v hv
      obtain ⟨h1, h2⟩ := min_sound (P := P) ha hv ts ty
      exact ⟨_, v, h, rfl, Lands.same r (h2 w) (closed1_VR h1), hc⟩
    · exact hc.elim
  · exact hc.elim

set_option maxHeartbeats 1000000 in
theorem op_sound (r : Rel P B0 ι h w) {n : Nat} {e : Env} {a : Act} {o : Oper} (hE : EnvR ι n e a) (hok : opsIn n o) {K : Value → Heap → Prop} (hv : opV P o.op e h K) {next : Act → World → Prop} {Q : Go.Exit → Act → World → Prop}
    (hn : ∀ v u h' ι' w', K v h' → VR ι' v u → Rel P B0 ι' h' w' → ι <+: ι' → Below B0 w w' → next (a.put o.dst u) w') : o.wp P a w next Q := by
  obtain ⟨dst, op, ty, pos, after, guard⟩ := o
  have hx := hok.1
  simp only [] at hv hx
  cases op <;> simp only [opV] at hv <;> try exact hv.elim
  case move x =>
    exact wp_of_value (u := a.eval x) rfl (hn _ _ _ _ _ hv (hE.eval (hx x (by simp [Op.operands]))) r List.prefix_rfl (Below.refl _ _))
  case assign x =>
    exact wp_of_value (u := a.eval x) rfl (hn _ _ _ _ _ hv (hE.eval (hx x (by simp [Op.operands]))) r List.prefix_rfl (Below.refl _ _))
  case pick c x y =>
    have hc := hE.eval (hx c (by simp [Op.operands]))
    split at hv
    · rename_i he
      rw [he] at hc
      have := hc.bool_eq
      exact wp_of_value (u := a.eval x) (by show ((do pure (.value (if ← asBool (a.eval c) then a.eval x else a.eval y)) : Sem Next)).run P w = _; rw [this]; rfl) (hn _ _ _ _ _ hv (hE.eval (hx x (by simp [Op.operands]))) r List.prefix_rfl (Below.refl _ _))
    · rename_i he
      rw [he] at hc
      have := hc.bool_eq
      exact wp_of_value (u := a.eval y) (by show ((do pure (.value (if ← asBool (a.eval c) then a.eval x else a.eval y)) : Sem Next)).run P w = _; rw [this]; rfl) (hn _ _ _ _ _ hv (hE.eval (hx y (by simp [Op.operands]))) r List.prefix_rfl (Below.refl _ _))
    · exact hv.elim
  case alloc t =>
    split at hv
    · rename_i k hk
      exact Lands.wp rfl (alloc_sound r hk) hv hn
    · exact hv.elim
  case box t x =>
    split at hv
    · rename_i k cs hk hcs
      exact Lands.wp rfl (box_sound r hk (hE.eval (hx x (by simp [Op.operands]))) hcs) hv.2 hn
    · exact hv.elim
  case build t ps =>
    obtain ⟨v, hv, hk⟩ := optK_some hv
    obtain ⟨u, hu, hr⟩ := build_sound (eval_parts hE ps.toList (fun x hxm t ht => hx x.2 (by simp [Op.operands]; exact ⟨x.1, by simpa using hxm⟩) t ht)) hv
    refine Lands.wp (s := Instr.build t (ps.map fun (i, x) => (i, a.eval x))) rfl (Lands.same r (u := u) ?_ hr) hk hn
    have := hu w
    rw [← this]; congr 2; apply Array.ext'; simp
  case buildSlice t m ps =>
    obtain ⟨v, h', hv, hk⟩ := optH_some hv
    have := buildSlice_sound r (eval_parts hE ps.toList (fun x hxm t ht => hx x.2 (by simp [Op.operands]; exact ⟨x.1, by simpa using hxm⟩) t ht)) hv
    refine Lands.wp (s := Instr.buildSlice t m (ps.map fun (i, x) => (i, a.eval x))) rfl ?_ hk hn
    have e : (ps.map fun (i, x) => (i, a.eval x)) = (ps.toList.map fun (i, x) => (i, a.eval x)).toArray := by apply Array.ext'; simp
    rw [e]; exact this
  case load t x =>
    obtain ⟨v, hv, hk⟩ := optK_some hv
    obtain ⟨u, hu, hr⟩ := load_sound r (hE.eval (hx x (by simp [Op.operands]))) hv
    exact Lands.wp rfl (Lands.same r hu hr) hk hn
  case store t x y =>
    split at hv
    · rename_i h' hst
      obtain ⟨w', hr, hR, hB⟩ := store_sound r (hE.eval (hx x (by simp [Op.operands]))) (hE.eval (hx y (by simp [Op.operands]))) hst
      exact wp_of_skip (by show ((do Instr.storeAt t (a.eval x) (a.eval y); pure .skip : Sem Next)).run P w = _; rw [Sem.run_bind, hr]; rfl) (hn _ _ _ _ _ hv (.one (.junk _)) hR List.prefix_rfl hB)
    · exact hv.elim
  case nilCheck x =>
    obtain ⟨v, hv, hk⟩ := optK_some hv
    have hxx := hE.eval (hx x (by simp [Op.operands]))
    obtain ⟨h1, h2⟩ := nilCheck_sound hxx hv
    rw [h1] at hxx
    refine wp_of_value (u := a.eval x) ?_ (hn _ _ _ _ _ hk hxx r List.prefix_rfl (Below.refl _ _))
    rcases h2 with ⟨_, h2⟩ | ⟨_, _, _, h2⟩ <;> (simp only [execOp, h2]; rfl)
  case binOp op t x y t2 =>
    have h1 := hE.eval (hx x (by simp [Op.operands]))
    have h2 := hE.eval (hx y (by simp [Op.operands]))
    split at hv
    · rename_i v hb
      obtain ⟨hc, hr⟩ := bin_sound (P := P) (xo := x) (yo := y) h1 h2 hb
      exact Lands.wp rfl (Lands.same r (hr w) (closed1_VR hc)) hv hn
    · obtain ⟨c1, c2, v, c3, hr, hk⟩ := hv
      have e1 := h1.closed_eq c1
      have e2 := h2.closed_eq c2
      refine Lands.wp rfl (Lands.same r (u := v) ?_ (.closed c3)) hk hn
      rw [e1, e2]; exact hr w
  case unOp op t x =>
    obtain ⟨v, hv, hk⟩ := optK_some hv
    obtain ⟨hc, hr⟩ := un_sound (P := P) (hE.eval (hx x (by simp [Op.operands]))) hv
    exact Lands.wp rfl (Lands.same r (hr w) (closed1_VR hc)) hk hn
  case convert s t x =>
    obtain ⟨v, h', hv, hk⟩ := optH_some hv
    exact Lands.wp rfl (conv_sound r (hE.eval (hx x (by simp [Op.operands]))) hv) hk hn
  case makeFunc fn first captured =>
    obtain ⟨hc, hk⟩ := hv
    simp only [Bool.and_eq_true] at hc
    have key : ∀ l : List Operand, (∀ x ∈ l, ∀ t, x = .tmp t → t < n) → l.all (fun x => capOk (evO e x)) = true → L2 (BR ι) (l.map (evO e)) (l.map a.eval) := by
      intro l
      induction l with
      | nil => intro _ _; exact .nil
      | cons x l ih =>
        intro h1 h2
        simp only [List.all_cons, Bool.and_eq_true] at h2
        refine .cons ?_ (ih (fun y hy => h1 y (by simp [hy])) h2.2)
        have hv := hE.eval (h1 x (by simp))
        exact capOk_BR hv h2.1
    have hv2 := FR.func fn (key first.toList (fun x hxm t ht => hx x (by simp [Op.operands]; exact .inl (by simpa using hxm)) t ht) hc.1) (key captured.toList (fun x hxm t ht => hx x (by simp [Op.operands]; exact .inr (by simpa using hxm)) t ht) hc.2)
    refine Lands.wp (s := Instr.makeFunc fn (first.map a.eval) (captured.map a.eval)) rfl (Lands.same r (u := .func fn (first.toList.map a.eval).toArray (captured.toList.map a.eval).toArray) ?_ (.one (.flat hv2))) hk hn
    have e1 : first.map a.eval = (first.toList.map a.eval).toArray := by apply Array.ext'; simp
    have e2 : captured.map a.eval = (captured.toList.map a.eval).toArray := by apply Array.ext'; simp
    rw [e1, e2]; rfl
  case makeSlice t l c =>
    obtain ⟨v, h', hv, hk⟩ := optH_some hv
    exact Lands.wp rfl (makeSlice_sound r (hE.eval (hx l (by simp [Op.operands]))) (hE.eval (hx c (by simp [Op.operands]))) hv) hk hn
  case slice t x lo hi mx =>
    cases mx with
    | some _ => exact hv.elim
    | none =>
      obtain ⟨v, hv, hk⟩ := optK_some hv
      obtain ⟨u, hu, hr⟩ := slice_sound (P := P) (e := e) (ρ := a.eval) (hE.eval (hx x (by simp [Op.operands]))) (by
        intro y hy
        refine hE.eval (hx y ?_)
        rcases hy with rfl | rfl <;> simp [Op.operands]) hv
      exact Lands.wp rfl (Lands.same r (hu w) hr) hk hn
  case fieldAddr t x f =>
    obtain ⟨v, hv, hk⟩ := optK_some hv
    obtain ⟨u, hu, hr⟩ := fieldAddr_sound (P := P) (hE.eval (hx x (by simp [Op.operands]))) hv
    exact Lands.wp rfl (Lands.same r (hu w) hr) hk hn
  case field t x f =>
    obtain ⟨v, hv, hk⟩ := optK_some hv
    obtain ⟨u, hu, hr⟩ := field_sound (P := P) (hE.eval (hx x (by simp [Op.operands]))) hv
    exact Lands.wp rfl (Lands.same r (hu w) hr) hk hn
  case indexAddr t x i =>
    obtain ⟨v, hv, hk⟩ := optK_some hv
    obtain ⟨u, hu, hr⟩ := indexAddr_sound (P := P) (hE.eval (hx x (by simp [Op.operands]))) (hE.eval (hx i (by simp [Op.operands]))) hv
    exact Lands.wp rfl (Lands.same r (hu w) hr) hk hn
  case index t x i =>
    obtain ⟨v, hv, hk⟩ := optK_some hv
    obtain ⟨u, hu, hr⟩ := index_sound (P := P) (hE.eval (hx x (by simp [Op.operands]))) (hE.eval (hx i (by simp [Op.operands]))) hv
    exact Lands.wp rfl (Lands.same r (hu w) hr) hk hn
  case extract x i =>
    obtain ⟨v, hv, hk⟩ := optK_some hv
    obtain ⟨u, hu, hr⟩ := extract_sound (P := P) (hE.eval (hx x (by simp [Op.operands]))) hv
    exact Lands.wp rfl (Lands.same r (hu w) hr) hk hn
  case call c =>
    obtain ⟨callee, args, ats⟩ := c
    simp only [] at hv
    cases callee with
    | builtin b =>
      simp only [] at hv
      have hargs := eval_args hE args.toList (fun x hxm t ht => hx x (by simp [Op.operands, Call.operands]; simpa using hxm) t ht)
      obtain ⟨s, v, h', he, hl, hk⟩ := builtin_sound r (ty := ty) (cs := args.map fun | .const _ => true | _ => false) hargs hv
      refine Lands.wp (s := s) ?_ hl hk hn
      rw [← he]
      simp only [execOp, resolve]
      simp [invoke]
      congr 1
      apply Array.ext'
      simp
    | value f =>
      simp only [] at hv
      have hargs := eval_args hE args.toList (fun x hxm t ht => hx x (by simp [Op.operands, Call.operands]; right; simpa using hxm) t ht)
      have hf := hE.eval (hx f (by simp [Op.operands, Call.operands]))
      have hd := dyn_sound r hf hargs hv
      refine CallLands.wp ?_ hn
      have e : execOp a.eval { dst := dst, op := .call { callee := .value f, args := args, argTypes := ats }, type := ty, pos := pos, after := after, guard := guard } = (do let d ← Deferred.ofValue (a.eval f) (args.toList.map a.eval).toArray; invoke d.target d.args : Sem Next) := by
        simp only [execOp, resolve]
        congr 2
        apply Array.ext'
        simp
      rw [e]; exact hd
    | invoke x m => exact hv.elim

end Go.V
