/- The layer V, part 13: a region that draws its order. -/
import Derived.Test.YtheliocfcjkbhaaDoorV12
set_option linter.all false
namespace Go.V
open Go Go.RowKit
variable {P : Program} [Laid P] {B0 : Nat} {ι : List Place} {h : Heap} {w : World}

theorem CallsV.mono {f : FuncId} {args : List Value} {K K' : Value → Heap → Prop} (hk : ∀ v h, K v h → K' v h) (hc : CallsV P f args h K) : CallsV P f args h K' := by
  intro B0 ι w us r ha
  refine Calls.mono (hc B0 ι w us r ha) ?_
  rintro e w' ⟨v, u, h', ι', he, hq, rest⟩
  exact ⟨v, u, h', ι', he, hk _ _ hq, rest⟩
theorem CallV.mono {f : FuncId} {args : List Value} {K K' : Value → Heap → Prop} (hk : ∀ v h, K v h → K' v h) (hc : CallV P f args h K) : CallV P f args h K' := by
  rcases hc with ⟨h1, h2⟩ | ⟨v, h1, h2⟩
  · exact .inl ⟨h1, h2.mono hk⟩
  · exact .inr ⟨v, h1, hk _ _ h2⟩
theorem callDyn_mono {g : Value} {args : List Value} {K K' : Value → Heap → Prop} (hk : ∀ v h, K v h → K' v h) (hc : callDyn P g args h K) : callDyn P g args h K' := by
  unfold callDyn at hc ⊢
  split at hc
  · exact hc.mono hk
  · exact hc.elim
theorem optK_mono {o : Option Value} {K K' : Value → Heap → Prop} (hk : ∀ v h, K v h → K' v h) (hc : optK o h K) : optK o h K' := by
  cases o with | none => exact hc.elim | some v => exact hk _ _ hc
theorem optH_mono {o : Option (Value × Heap)} {K K' : Value → Heap → Prop} (hk : ∀ v h, K v h → K' v h) (hc : optH o K) : optH o K' := by
  cases o with | none => exact hc.elim | some v => exact hk _ _ hc
theorem builtinV_mono {b : Builtin} {ts : Array TypeId} {args : List Value} {K K' : Value → Heap → Prop} (hk : ∀ v h, K v h → K' v h) (hc : builtinV P b ts args h K) : builtinV P b ts args h K' := by
  unfold builtinV at hc ⊢
  split at hc
  · exact ⟨hc.1, hk _ _ hc.2⟩
  · exact ⟨hc.1, hk _ _ hc.2⟩
  · refine ⟨hc.1, ?_⟩
    have := hc.2
    split at this
    · exact hk _ _ this
    · exact this.elim
  · split at hc
    · exact hk _ _ hc
    · exact hc.elim
  · split at hc
    · exact hk _ _ hc
    · exact hc.elim
  · split at hc
    · exact hk _ _ hc
    · exact hc.elim
  · exact hc.elim

theorem opV_mono {op : Op} {e : Env} {K K' : Value → Heap → Prop} (hk : ∀ v h, K v h → K' v h) (hc : opV P op e h K) : opV P op e h K' := by
  cases op <;> simp only [opV] at hc ⊢ <;> try first | exact hc | exact hk _ _ hc | exact optK_mono hk hc | exact optH_mono hk hc
  case pick c a b =>
    split at hc
    · exact hk _ _ hc
    · exact hk _ _ hc
    · exact hc.elim
  case alloc t =>
    split at hc
    · exact hk _ _ hc
    · exact hc.elim
  case box t x =>
    split at hc
    · exact ⟨hc.1, hk _ _ hc.2⟩
    · exact hc.elim
  case store t a x =>
    split at hc
    · exact hk _ _ hc
    · exact hc.elim
  case binOp op t x y t2 =>
    split at hc
    · exact hk _ _ hc
    · obtain ⟨h1, h2, v, h3, h4, h5⟩ := hc
      exact ⟨h1, h2, v, h3, h4, hk _ _ h5⟩
  case makeFunc fn a b => exact ⟨hc.1, hk _ _ hc.2⟩
  case slice t x lo hi mx =>
    cases mx with
    | none => exact optK_mono hk hc
    | some _ => exact hc.elim
  case call c =>
    split at hc
    · exact builtinV_mono hk hc
    · exact callDyn_mono hk hc
    · exact hc.elim

/-- Only the operands' values count. -/
theorem opV_congr {op : Op} {e e' : Env} {K : Value → Heap → Prop} (he : ∀ x ∈ op.operands.toList, evO e x = evO e' x) (hc : opV P op e h K) : opV P op e' h K := by
  have hmap : ∀ l : List Operand, (∀ x ∈ l, x ∈ op.operands.toList) → l.map (evO e) = l.map (evO e') := fun l hl => List.map_congr_left fun x hx => he x (hl x hx)
  have hparts : ∀ l : List (Nat × Operand), (∀ x ∈ l, x.2 ∈ op.operands.toList) → (l.map fun (i, x) => (i, evO e x)) = l.map fun (i, x) => (i, evO e' x) := fun l hl => List.map_congr_left fun x hx => by simp only [he x.2 (hl x hx)]
  cases op <;> simp only [opV] at hc ⊢ <;> try first
    | exact hc
    | (rename_i x; rw [← he x (by simp [Op.operands])]; exact hc)
    | (rename_i t x; rw [← he x (by simp [Op.operands])]; exact hc)
    | (rename_i t x y; rw [← he x (by simp [Op.operands]), ← he y (by simp [Op.operands])]; exact hc)
  case pick c a b => rw [← he c (by simp [Op.operands]), ← he a (by simp [Op.operands]), ← he b (by simp [Op.operands])]; exact hc
  case build t ps => rw [← hparts ps.toList (fun x hx => by simp [Op.operands]; exact ⟨x.1, by simpa using hx⟩)]; exact hc
  case buildSlice t n ps => rw [← hparts ps.toList (fun x hx => by simp [Op.operands]; exact ⟨x.1, by simpa using hx⟩)]; exact hc
  case binOp op t x y t2 => rw [← he x (by simp [Op.operands]), ← he y (by simp [Op.operands])]; exact hc
  case makeFunc fn a b =>
    rw [← hmap a.toList (fun x hx => by simp [Op.operands]; exact .inl (by simpa using hx)), ← hmap b.toList (fun x hx => by simp [Op.operands]; exact .inr (by simpa using hx))]
    refine ⟨?_, hc.2⟩
    have := hc.1
    simp only [Bool.and_eq_true, List.all_eq_true] at this ⊢
    exact ⟨fun x hx => by rw [← he x (by simp [Op.operands]; exact .inl (by simpa using hx))]; exact this.1 x hx, fun x hx => by rw [← he x (by simp [Op.operands]; exact .inr (by simpa using hx))]; exact this.2 x hx⟩
  case slice t x lo hi mx =>
    cases mx with
    | some _ => exact hc
    | none =>
      rw [← he x (by simp [Op.operands])]
      have : sliceV P t e (evO e x) lo hi = sliceV P t e' (evO e x) lo hi := by
        have h1 : ∀ m, loV e lo m = loV e' lo m := by
          intro m
          cases lo with
          | none => rfl
          | some y => simp only [loV]; rw [he y (by simp [Op.operands])]
        have h2 : ∀ c d, hiV e hi c d = hiV e' hi c d := by
          intro c d
          cases hi with
          | none => rfl
          | some y => simp only [hiV]; rw [he y (by simp [Op.operands])]
        unfold sliceV
        simp only [h1, h2]
      rw [← this]; exact hc
  case fieldAddr t x f => rw [← he x (by simp [Op.operands])]; exact hc
  case field t x f => rw [← he x (by simp [Op.operands])]; exact hc
  case extract x i => rw [← he x (by simp [Op.operands])]; exact hc
  case call c =>
    obtain ⟨callee, args, ats⟩ := c
    cases callee with
    | builtin b =>
      simp only [] at hc ⊢
      rw [← hmap args.toList (fun x hx => by simp [Op.operands, Call.operands]; simpa using hx)]; exact hc
    | value f =>
      simp only [] at hc ⊢
      rw [← hmap args.toList (fun x hx => by simp [Op.operands, Call.operands]; right; simpa using hx), ← he f (by simp [Op.operands, Call.operands])]; exact hc
    | invoke x m => exact hc

def isLoad : Op → Bool | .load _ _ => true | _ => false

theorem tInt_kind {t : TypeId} (h : (tInt P t).isNone = false) : (tk P t).map (·.kind) ≠ some 3 ∧ tElem P t = none := by
  cases hh : tInt P t with
  | none => simp [hh] at h
  | some k =>
    have hu := tInt_some hh
    refine ⟨fun h3 => ?_, ?_⟩
    · have := kind_str h3
      rw [hu] at this; simp at this
    · unfold tElem; rw [hu]

/-- What only reckons. -/
theorem opV_pure {op : Op} {e : Env} {K : Value → Heap → Prop} (h1 : effectful P op = false) (h2 : isLoad op = false) (hc : opV P op e h K) : ∃ v, K v h ∧ ∀ h2 K2, K2 v h2 → opV P op e h2 K2 := by
  have hopt : ∀ {o : Option Value}, optK o h K → ∃ v, K v h ∧ ∀ h2 K2, K2 v h2 → optK o h2 K2 := by
    intro o ho
    cases o with
    | none => exact ho.elim
    | some v => exact ⟨v, ho, fun _ _ hk => hk⟩
  cases op <;> simp only [opV] at hc ⊢ <;> try first | exact hc.elim | exact ⟨_, hc, fun _ _ hk => hk⟩ | exact hopt hc | (simp [effectful] at h1; done) | (simp [isLoad] at h2; done)
  case pick c a b =>
    split at hc
    · exact ⟨_, hc, fun _ _ hk => hk⟩
    · exact ⟨_, hc, fun _ _ hk => hk⟩
    · exact hc.elim
  case binOp op t x y t2 =>
    split at hc
    · exact ⟨_, hc, fun _ _ hk => hk⟩
    · obtain ⟨g1, g2, v, g3, g4, g5⟩ := hc
      exact ⟨v, g5, fun _ _ hk => ⟨g1, g2, v, g3, g4, hk⟩⟩
  case makeFunc fn a b => exact ⟨_, hc.2, fun _ _ hk => ⟨hc.1, hk⟩⟩
  case slice t x lo hi mx =>
    cases mx with
    | none => exact hopt hc
    | some _ => exact hc.elim
  case convert s t x =>
    obtain ⟨n1, n2⟩ := tInt_kind (by simpa [effectful] using h1)
    obtain ⟨v, h', hv, hk⟩ := optH_some hc
    unfold convV at hv
    split at hv
    · rename_i k n heq
      simp only [Option.bind_eq_some_iff, Option.map_eq_some_iff, Prod.mk.injEq] at hv
      obtain ⟨ks, hks, kt, hkt, rfl, rfl⟩ := hv
      refine ⟨_, hk, fun h2 K2 hk2 => ?_⟩
      simp only [convV, hks, hkt, heq, Option.bind_some, Option.map_some, optH]
      exact hk2
    · split at hv
      · rename_i hcc; exact absurd hcc.2 n1
      · rw [n2] at hv; simp at hv
    · simp only [Option.bind_eq_some_iff] at hv
      obtain ⟨el, _, hv⟩ := hv
      split at hv
      · rename_i hcc; exact absurd hcc.2.2 n1
      · simp at hv
    · simp at hv
  case call c =>
    obtain ⟨callee, args, ats⟩ := c
    cases callee with
    | builtin b =>
      simp only [effectful, Bool.or_eq_false_iff, beq_eq_false_iff_ne] at h1
      simp only [] at hc ⊢
      unfold builtinV at hc ⊢
      split at hc
      · exact ⟨_, hc.2, fun _ _ hk => ⟨hc.1, hk⟩⟩
      · exact ⟨_, hc.2, fun _ _ hk => ⟨hc.1, hk⟩⟩
      · exact absurd rfl h1.1
      · exact absurd rfl h1.2
      · split at hc
        · exact ⟨_, hc, fun _ _ hk => hk⟩
        · exact hc.elim
      · split at hc
        · exact ⟨_, hc, fun _ _ hk => hk⟩
        · exact hc.elim
      · exact hc.elim
    | value f => simp [effectful] at h1
    | invoke x m => exact hc.elim


/-! ### one operation out of its turn -/
theorem putV_comm {e : Env} {x y : Option Tmp} {v u : Value} (h : ∀ d, x = some d → y ≠ some d) : putV (putV e x v) y u = putV (putV e y u) x v := by
  cases x with
  | none => rfl
  | some d =>
    cases y with
    | none => rfl
    | some d' =>
      have hne : d' ≠ d := fun he => h d rfl (by rw [he])
      funext s
      simp only [putV, upd]
      by_cases h1 : s = d' <;> by_cases h2 : s = d <;> simp_all

structure Apart (all : Array Oper) (x y : Oper) : Prop where
  rd : ∀ d, x.dst = some d → d ∉ looks all y
  wr : ∀ d, x.dst = some d → y.dst ≠ some d
  dr : ∀ d, y.dst = some d → d ∉ looks all x

theorem apartO_spec {all : Array Oper} {x y : Oper} (h : apartO all x y = true) : Apart all x y := by
  unfold apartO at h
  simp only [Bool.and_eq_true] at h
  obtain ⟨h1, h2⟩ := h
  refine ⟨fun d hd => ?_, fun d hd => ?_, fun d hd => ?_⟩
  · rw [hd] at h1; simp at h1; exact h1.1
  · rw [hd] at h1; simp at h1; exact h1.2
  · rw [hd] at h2; simp at h2; exact h2

theorem evO_put {e : Env} {d : Option Tmp} {v : Value} {x : Operand} (h : ∀ t, d = some t → x ≠ .tmp t) : evO (putV e d v) x = evO e x := by
  cases d with
  | none => rfl
  | some t =>
    cases x with
    | tmp s =>
      have : s ≠ t := fun hs => h t rfl (by rw [hs])
      simp [evO, putV, upd, this]
    | _ => rfl

theorem looks_op {all : Array Oper} {o : Oper} {d : Option Tmp} (h : ∀ t, d = some t → t ∉ looks all o) : ∀ x ∈ o.op.operands.toList, ∀ t, d = some t → x ≠ .tmp t := by
  intro x hx t ht hxt
  subst hxt
  refine h t ht ?_
  unfold looks
  refine List.mem_append_left _ ?_
  rw [List.mem_flatMap]
  exact ⟨_, hx, by simp [slotOf]⟩

theorem guardV_put {all : Array Oper} {o : Oper} {e : Env} {d : Option Tmp} {v : Value} (h : ∀ t, d = some t → t ∉ looks all o) : guardV all o (putV e d v) = guardV all o e := by
  unfold guardV
  split
  · rfl
  · rename_i j want hg
    split
    · rename_i t ht
      have hne : putV e d v t = e t := by
        cases d with
        | none => rfl
        | some s =>
          have : t ≠ s := by
            rintro rfl
            refine h t rfl ?_
            unfold looks
            refine List.mem_append_right _ ?_
            rw [hg]; simp [ht]
          simp [putV, upd, this]
      rw [hne]
    · rfl

theorem opV_put {h' : Heap} {all : Array Oper} {o : Oper} {e : Env} {d : Option Tmp} {v : Value} {K : Value → Heap → Prop} (h : ∀ t, d = some t → t ∉ looks all o) : opV P o.op (putV e d v) h' K ↔ opV P o.op e h' K :=
  ⟨opV_congr fun x hx => evO_put (looks_op h x hx), opV_congr fun x hx => (evO_put (looks_op h x hx)).symm⟩

/-- An operation now, and what then holds. -/
def stepD (P : Program) [Laid P] (all : Array Oper) (o : Oper) (e : Env) (h : Heap) (held : Held) (C : Env → Heap → Prop) : Prop :=
  match guardV all o e with
  | some true =>
    match o.op with
    | .load t a => ∃ v, loadV P t (evO e a) h = some v ∧ C (putV e o.dst v) h
    | op => if effectful P op then opV P op e h (fun v h' => heldOk P held h' ∧ C (putV e o.dst v) h') else ∃ v, (∀ h2 K2, K2 v h2 → opV P op e h2 K2) ∧ C (putV e o.dst v) h
  | some false => C (putV e o.dst SK) h
  | none => False

theorem opsE_cons {all : Array Oper} {o : Oper} {os : List Oper} {e : Env} {held : Held} {K : Env → Heap → Held → Prop} : opsE P all (o :: os) e h held K =
    (match guardV all o e with
    | some true =>
      match o.op with
      | .load t a => match loadV P t (evO e a) h with
        | some v => opsE P all os (putV e o.dst v) h ((t, evO e a, v) :: held) K
        | none => False
      | op => opV P op e h fun v h' =>
          if effectful P op then heldOk P held h' ∧ opsE P all os (putV e o.dst v) h' held K
          else opsE P all os (putV e o.dst v) h' held K
    | some false => opsE P all os (putV e o.dst SK) h held K
    | none => False) := rfl

theorem opsE_cons_load {all : Array Oper} {o : Oper} {os : List Oper} {e : Env} {held : Held} {K : Env → Heap → Held → Prop} {t : TypeId} {a : Operand} (hg : guardV all o e = some true) (ho : o.op = .load t a) :
    opsE P all (o :: os) e h held K ↔ ∃ v, loadV P t (evO e a) h = some v ∧ opsE P all os (putV e o.dst v) h ((t, evO e a, v) :: held) K := by
  rw [opsE_cons, hg, ho]
  simp only []
  cases loadV P t (evO e a) h with
  | none => simp
  | some v => simp

theorem opsE_cons_op {all : Array Oper} {o : Oper} {os : List Oper} {e : Env} {held : Held} {K : Env → Heap → Held → Prop} (hg : guardV all o e = some true) (ho : isLoad o.op = false) :
    opsE P all (o :: os) e h held K ↔ opV P o.op e h fun v h' => if effectful P o.op then heldOk P held h' ∧ opsE P all os (putV e o.dst v) h' held K else opsE P all os (putV e o.dst v) h' held K := by
  rw [opsE_cons, hg]
  simp only []
  split
  · rename_i t a heq; rw [heq] at ho; simp [isLoad] at ho
  · exact Iff.rfl

theorem opsE_cons_off {all : Array Oper} {o : Oper} {os : List Oper} {e : Env} {held : Held} {K : Env → Heap → Held → Prop} (hg : guardV all o e = some false) :
    opsE P all (o :: os) e h held K ↔ opsE P all os (putV e o.dst SK) h held K := by
  rw [opsE_cons, hg]

theorem opsE_cons_none {all : Array Oper} {o : Oper} {os : List Oper} {e : Env} {held : Held} {K : Env → Heap → Held → Prop} (hg : guardV all o e = none) : ¬ opsE P all (o :: os) e h held K := by
  rw [opsE_cons, hg]
  exact id

theorem isLoad_cases (op : Op) : (∃ t a, op = .load t a) ∨ isLoad op = false := by
  cases op with
  | load t a => exact .inl ⟨t, a, rfl⟩
  | _ => exact .inr rfl

theorem opsE_weaken {all : Array Oper} {K : Env → Heap → Held → Prop} (hK : ∀ e h held held', (∀ x ∈ held', x ∈ held) → K e h held → K e h held') : ∀ (os : List Oper) (e : Env) (h : Heap) (held held' : Held), (∀ x ∈ held', x ∈ held) → opsE P all os e h held K → opsE P all os e h held' K := by
  intro os
  induction os with
  | nil => intro e h held held' hs hd; exact hK _ _ _ _ hs hd
  | cons o os ih =>
    intro e h held held' hsub hd
    cases hg : guardV all o e with
    | none => exact (opsE_cons_none hg hd).elim
    | some b =>
      cases b with
      | false => exact (opsE_cons_off hg).2 (ih _ _ _ _ hsub ((opsE_cons_off hg).1 hd))
      | true =>
        rcases isLoad_cases o.op with ⟨t, a, ho⟩ | ho
        · obtain ⟨v, hl, hd⟩ := (opsE_cons_load hg ho).1 hd
          refine (opsE_cons_load hg ho).2 ⟨v, hl, ih _ _ _ _ (fun x hx => ?_) hd⟩
          rcases List.mem_cons.1 hx with rfl | hx
          · exact List.mem_cons_self
          · exact List.mem_cons_of_mem _ (hsub x hx)
        · refine (opsE_cons_op hg ho).2 (opV_mono (fun v h' hv => ?_) ((opsE_cons_op hg ho).1 hd))
          split at hv
          · rename_i he
            rw [if_pos he]
            exact ⟨fun x hx => hv.1 x (hsub x hx), ih _ _ _ _ hsub hv.2⟩
          · rename_i he
            rw [if_neg he]
            exact ih _ _ _ _ hsub hv

/-- stepD, by the operation's form. -/
theorem stepD_load {all : Array Oper} {o : Oper} {e : Env} {held : Held} {C : Env → Heap → Prop} {t : TypeId} {a : Operand} (hg : guardV all o e = some true) (ho : o.op = .load t a) :
    stepD P all o e h held C ↔ ∃ v, loadV P t (evO e a) h = some v ∧ C (putV e o.dst v) h := by
  unfold stepD; rw [hg, ho]
theorem stepD_eff {all : Array Oper} {o : Oper} {e : Env} {held : Held} {C : Env → Heap → Prop} (hg : guardV all o e = some true) (ho : isLoad o.op = false) (he : effectful P o.op = true) :
    stepD P all o e h held C ↔ opV P o.op e h (fun v h' => heldOk P held h' ∧ C (putV e o.dst v) h') := by
  unfold stepD; rw [hg]; simp only []
  split
  · rename_i t a heq; rw [heq] at ho; simp [isLoad] at ho
  · rw [if_pos he]
theorem stepD_pure {all : Array Oper} {o : Oper} {e : Env} {held : Held} {C : Env → Heap → Prop} (hg : guardV all o e = some true) (ho : isLoad o.op = false) (he : effectful P o.op = false) :
    stepD P all o e h held C ↔ ∃ v, (∀ h2 K2, K2 v h2 → opV P o.op e h2 K2) ∧ C (putV e o.dst v) h := by
  unfold stepD; rw [hg]; simp only []
  split
  · rename_i t a heq; rw [heq] at ho; simp [isLoad] at ho
  · rw [if_neg (by simp [he])]
theorem stepD_off {all : Array Oper} {o : Oper} {e : Env} {held : Held} {C : Env → Heap → Prop} (hg : guardV all o e = some false) : stepD P all o e h held C ↔ C (putV e o.dst SK) h := by
  unfold stepD; rw [hg]
theorem stepD_none {all : Array Oper} {o : Oper} {e : Env} {held : Held} {C : Env → Heap → Prop} (hg : guardV all o e = none) : ¬ stepD P all o e h held C := by
  unfold stepD; rw [hg]; exact id

/-- From a step behind another operation's slot to a step now. -/
theorem stepD_back {all : Array Oper} {o : Oper} {e : Env} {held held' : Held} {d : Option Tmp} {u : Value} {C1 C : Env → Heap → Prop} (hd : ∀ t, d = some t → t ∉ looks all o) (hw : ∀ t, d = some t → o.dst ≠ some t) (hsub : ∀ x ∈ held', x ∈ held)
    (hC : ∀ v h', (h' = h ∨ heldOk P held h') → C1 (putV (putV e o.dst v) d u) h' → C (putV e o.dst v) h') (hs : stepD P all o (putV e d u) h held C1) : stepD P all o e h held' C := by
  have hcomm : ∀ v, putV (putV e d u) o.dst v = putV (putV e o.dst v) d u := fun v => putV_comm fun t ht => hw t ht
  have hge := guardV_put (all := all) (o := o) (e := e) (v := u) hd
  cases hg : guardV all o e with
  | none => rw [hg] at hge; exact (stepD_none hge hs).elim
  | some b =>
    rw [hg] at hge
    cases b with
    | false =>
      have := (stepD_off hge).1 hs
      rw [hcomm] at this
      exact (stepD_off hg).2 (hC _ _ (.inl rfl) this)
    | true =>
      rcases isLoad_cases o.op with ⟨t, a, ho⟩ | ho
      · obtain ⟨v, hl, hc⟩ := (stepD_load hge ho).1 hs
        rw [hcomm] at hc
        have ha : evO (putV e d u) a = evO e a := evO_put (looks_op hd a (by rw [ho]; simp [Op.operands]))
        rw [ha] at hl
        exact (stepD_load hg ho).2 ⟨v, hl, hC _ _ (.inl rfl) hc⟩
      · cases he : effectful P o.op with
        | true =>
          have := (opV_put (v := u) hd).1 ((stepD_eff hge ho he).1 hs)
          refine (stepD_eff hg ho he).2 (opV_mono (fun v h' hv => ?_) this)
          obtain ⟨h1, h2⟩ := hv
          rw [hcomm] at h2
          exact ⟨fun x hx => h1 x (hsub x hx), hC _ _ (.inr h1) h2⟩
        | false =>
          obtain ⟨v, hp, hc⟩ := (stepD_pure hge ho he).1 hs
          rw [hcomm] at hc
          exact (stepD_pure hg ho he).2 ⟨v, fun h2 K2 hk => (opV_put (v := u) hd).1 (hp h2 K2 hk), hC _ _ (.inl rfl) hc⟩

/-- An operation that nothing ahead of it holds back, taken out of its turn. -/
theorem remove {all : Array Oper} {K : Env → Heap → Held → Prop} (hK : ∀ e h held held', (∀ x ∈ held', x ∈ held) → K e h held → K e h held') {o : Oper} {l2 : List Oper} : ∀ (l1 : List Oper) (e : Env) (h : Heap) (held : Held), (∀ x ∈ l1, effectful P x.op = false ∧ Apart all x o) → opsE P all (l1 ++ o :: l2) e h held K →
    stepD P all o e h held fun e' h' => opsE P all (l1 ++ l2) e' h' held K := by
  intro l1
  induction l1 with
  | nil =>
    intro e h held _ hd
    simp only [List.nil_append] at hd ⊢
    cases hg : guardV all o e with
    | none => exact (opsE_cons_none hg hd).elim
    | some b =>
      cases b with
      | false => exact (stepD_off hg).2 ((opsE_cons_off hg).1 hd)
      | true =>
        rcases isLoad_cases o.op with ⟨t, a, ho⟩ | ho
        · obtain ⟨v, hl, hd⟩ := (opsE_cons_load hg ho).1 hd
          exact (stepD_load hg ho).2 ⟨v, hl, opsE_weaken hK _ _ _ _ _ (fun x hx => List.mem_cons_of_mem _ hx) hd⟩
        · have hd := (opsE_cons_op hg ho).1 hd
          cases he : effectful P o.op with
          | true =>
            simp only [he, if_true] at hd
            exact (stepD_eff hg ho he).2 hd
          | false =>
            simp only [he, if_false, Bool.false_eq_true] at hd
            obtain ⟨v, hk, hp⟩ := opV_pure he ho hd
            exact (stepD_pure hg ho he).2 ⟨v, hp, hk⟩
  | cons x l1 ih =>
    intro e h held hall hd
    obtain ⟨hxe, hxa⟩ := hall x (by simp)
    have hall' : ∀ y ∈ l1, effectful P y.op = false ∧ Apart all y o := fun y hy => hall y (by simp [hy])
    simp only [List.cons_append] at hd ⊢
    have hxput : ∀ v, guardV all x (putV e o.dst v) = guardV all x e := fun v => guardV_put hxa.dr
    cases hg : guardV all x e with
    | none => exact (opsE_cons_none hg hd).elim
    | some b =>
      cases b with
      | false =>
        have hd := (opsE_cons_off hg).1 hd
        refine stepD_back hxa.rd hxa.wr (fun _ hx => hx) ?_ (ih _ _ _ hall' hd)
        intro v h' _ hc
        exact (opsE_cons_off (by rw [hxput, hg])).2 hc
      | true =>
        rcases isLoad_cases x.op with ⟨t, a, ho⟩ | ho
        · obtain ⟨vx, hl, hd⟩ := (opsE_cons_load hg ho).1 hd
          have hst := ih _ _ _ hall' hd
          refine stepD_back (held' := held) hxa.rd hxa.wr (fun _ hx => List.mem_cons_of_mem _ hx) ?_ hst
          intro v h' hh hc
          have ha : evO (putV e o.dst v) a = evO e a := evO_put (looks_op hxa.dr a (by rw [ho]; simp [Op.operands]))
          have hl' : loadV P t (evO e a) h' = some vx := by
            rcases hh with rfl | hh
            · exact hl
            · exact hh (t, evO e a, vx) List.mem_cons_self
          refine (opsE_cons_load (by rw [hxput, hg]) ho).2 ⟨vx, by rw [ha]; exact hl', ?_⟩
          rw [ha]; exact hc
        · have hd := (opsE_cons_op hg ho).1 hd
          simp only [hxe, if_false, Bool.false_eq_true] at hd
          obtain ⟨vx, hk, hp⟩ := opV_pure hxe ho hd
          have hst := ih _ _ _ hall' hk
          refine stepD_back hxa.rd hxa.wr (fun _ hx => hx) ?_ hst
          intro v h' _ hc
          refine (opsE_cons_op (by rw [hxput, hg]) ho).2 ?_
          simp only [hxe, if_false, Bool.false_eq_true]
          exact (opV_put hxa.dr).2 (hp h' _ hc)

end Go.V
