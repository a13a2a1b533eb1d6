/- The layer V, part 14: whatever order a region draws. -/
import Derived.Test.YtheliocfcjkbhaaDoorV13
set_option linter.all false
namespace Go.V
open Go Go.RowKit
variable {P : Program} [Laid P] {B0 : Nat} {ι : List Place} {h : Heap} {w : World}

/-- A step now, in the machine. -/
theorem stepD_sound (r : Rel P B0 ι h w) {n : Nat} {e : Env} {a : Act} {all : Array Oper} {o : Oper} {held : Held} {C : Env → Heap → Prop} (hall : ∀ o ∈ all.toList, opsIn n o) (hE : EnvR ι n e a) (hok : opsIn n o) (hs : stepD P all o e h held C)
    {next : Act → World → Prop} {Q : Go.Exit → Act → World → Prop} (hn : ∀ e' h' ι' a' w', C e' h' → EnvR ι' n e' a' → Rel P B0 ι' h' w' → ι <+: ι' → Below B0 w w' → next a' w') :
    if Region.wanted o (yielded all a.tmps) then o.wp P a w next Q ∨ (o.asks P a w ∧ LetsOut Q) else next (a.put o.dst undef) w := by
  cases hg : guardV all o e with
  | none => exact (stepD_none hg hs).elim
  | some b =>
    cases b with
    | false =>
      rw [if_neg (by rw [guard_sound hE hall hg]; simp)]
      exact hn _ _ ι _ w ((stepD_off hg).1 hs) (hE.put hok.2 (.one .skip)) r List.prefix_rfl (Below.refl _ _)
    | true =>
      rw [if_pos (guard_sound hE hall hg)]
      left
      have fin : ∀ {K : Value → Heap → Prop}, opV P o.op e h K → (∀ v h', K v h' → C (putV e o.dst v) h') → o.wp P a w next Q := by
        intro K hv hk
        refine op_sound r hE hok hv ?_
        intro v u h' ι' w' hkv hvr hR hp hB
        exact hn _ _ ι' _ w' (hk v h' hkv) ((hE.pre hp).put hok.2 hvr) hR hp hB
      rcases isLoad_cases o.op with ⟨t, x, ho⟩ | ho
      · obtain ⟨v, hl, hc⟩ := (stepD_load hg ho).1 hs
        refine fin (K := fun v' h' => v' = v ∧ h' = h) ?_ (by rintro v' h' ⟨rfl, rfl⟩; exact hc)
        rw [ho]
        simp [opV, hl, optK]
      · cases he : effectful P o.op with
        | true => exact fin ((stepD_eff hg ho he).1 hs) (fun v h' hk => hk.2)
        | false =>
          obtain ⟨v, hp, hc⟩ := (stepD_pure hg ho he).1 hs
          refine fin (K := fun v' h' => v' = v ∧ h' = h) (hp h _ ⟨rfl, rfl⟩) (by rintro v' h' ⟨rfl, rfl⟩; exact hc)

/-! ### the masks -/
theorem fold_bits (g : Nat → Nat) (S : Nat → Prop) (hS : ∀ d, S d → ∀ k, (g d).testBit k = true → S k) : ∀ (l : List Go.Edge) (s : Nat), (∀ k, s.testBit k = true → S k) → (∀ x ∈ l, S x.on) →
    ∀ k, (l.foldl (fun s x => s ||| 2 ^ x.on ||| g x.on) s).testBit k = true → S k := by
  intro l
  induction l with
  | nil => intro s hs _ k hk; exact hs k hk
  | cons x l ih =>
    intro s hs hl k hk
    simp only [List.foldl_cons] at hk
    refine ih _ ?_ (fun y hy => hl y (by simp [hy])) k hk
    intro k hk
    simp only [Nat.testBit_or, Bool.or_eq_true, Nat.testBit_two_pow] at hk
    rcases hk with (hk | hk) | hk
    · exact hs k hk
    · have : x.on = k := by simpa using hk
      subst this
      exact hl x (by simp)
    · exact hS x.on (hl x (by simp)) k hk

/-- What a mask names lies in whatever holds the operation's own edges and is closed. -/
theorem masks_closed {ops : List Oper} (S : Nat → Prop) (hS : ∀ j o, ops[j]? = some o → S j → ∀ x ∈ bnd o, S x.on) : ∀ (os : List Oper) (acc : List Nat), (∀ i o, os[i]? = some o → ops[acc.length + i]? = some o) →
    (∀ d, S d → ∀ k, (acc.getD d 0).testBit k = true → S k) → ∀ (j : Nat) o, ops[j]? = some o → j < acc.length + os.length → (∀ x ∈ bnd o, S x.on) →
    (∀ j o, j < acc.length → ops[j]? = some o → (∀ x ∈ bnd o, S x.on) → ∀ k, (acc.getD j 0).testBit k = true → S k) → ∀ k, ((masks acc os).getD j 0).testBit k = true → S k := by
  intro os
  induction os with
  | nil =>
    intro acc _ hacc j o ho hj hdeps hall k hk
    simp only [masks] at hk
    exact hall j o (by simpa using hj) ho hdeps k hk
  | cons o1 os ih =>
    intro acc hos hacc j o ho hj hdeps hall k hk
    simp only [masks] at hk
    have hm : ∀ (_ : ∀ x ∈ bnd o1, S x.on), ∀ k, ((bnd o1).foldl (fun s x => s ||| 2 ^ x.on ||| acc.getD x.on 0) 0).testBit k = true → S k := fun h1 => fold_bits (fun d => acc.getD d 0) S hacc (bnd o1) 0 (by simp) h1
    have ho1 : ops[acc.length]? = some o1 := by simpa using hos 0 o1 rfl
    refine ih (acc ++ [(bnd o1).foldl (fun s x => s ||| 2 ^ x.on ||| acc.getD x.on 0) 0]) (fun i o hi => ?_) ?_ j o ho (by simp at hj ⊢; omega) hdeps ?_ k hk
    · have := hos (i + 1) o (by simpa using hi)
      rw [← this]; congr 1; simp; omega
    · intro d hd k hk
      rcases Nat.lt_or_ge d acc.length with hlt | hge
      · exact hacc d hd k (by simpa [List.getD, List.getElem?_append_left hlt] using hk)
      · by_cases hde : d = acc.length
        · subst hde
          exact hm (hS _ _ ho1 hd) k (by simpa [List.getD] using hk)
        · have : ∀ X : Nat, (acc ++ [X])[d]? = none := fun X => List.getElem?_eq_none (by simp; omega)
          simp only [List.getD, this, Option.getD_none, Nat.zero_testBit, Bool.false_eq_true] at hk
    · intro j' o' hj' ho' hd' k hk
      simp at hj'
      rcases Nat.lt_or_ge j' acc.length with hlt | hge
      · exact hall j' o' hlt ho' hd' k (by simpa [List.getD, List.getElem?_append_left hlt] using hk)
      · have : j' = acc.length := by omega
        subst this
        rw [ho1] at ho'
        simp only [Option.some.injEq] at ho'; subst ho'
        exact hm hd' k (by simpa [List.getD] using hk)


theorem pairsOk_mem {ops : Array Oper} {ms : List Nat} : ∀ {r1 : List Nat} {i : Nat} {r2 : List Nat}, pairsOk P ops ms (r1 ++ i :: r2) = true → (∀ x ∈ r1, pairOk P ops ms x i = true) ∧ pairsOk P ops ms (r1 ++ r2) = true := by
  intro r1
  induction r1 with
  | nil =>
    intro i r2 h
    simp only [List.nil_append, pairsOk, Bool.and_eq_true] at h ⊢
    exact ⟨fun x hx => by simp at hx, h.2⟩
  | cons y r1 ih =>
    intro i r2 h
    simp only [List.cons_append, pairsOk, Bool.and_eq_true] at h ⊢
    obtain ⟨h1, h2⟩ := h
    obtain ⟨h3, h4⟩ := ih h2
    have h1' := List.all_eq_true.1 h1
    refine ⟨fun x hx => ?_, List.all_eq_true.2 fun z hz => h1' z (by simp at hz ⊢; rcases hz with hz | hz <;> simp [hz]), h4⟩
    rcases List.mem_cons.1 hx with rfl | hx
    · exact h1' i (by simp)
    · exact h3 x hx

theorem nodupB_spec : ∀ {l : List Nat}, nodupB l = true → l.Nodup := by
  intro l
  induction l with
  | nil => intro _; exact List.nodup_nil
  | cons x l ih =>
    intro h
    simp only [nodupB, Bool.and_eq_true, Bool.not_eq_true'] at h
    exact List.nodup_cons.2 ⟨by simpa using h.1, ih h.2⟩

theorem tailK_weaken {all : Array Oper} {ms : List Nat} {K : Env → Heap → Prop} : ∀ (n : Nat) (rem : List Nat) (e : Env) (h : Heap) (held held' : Held), (∀ x ∈ held', x ∈ held) → tailK P all ms K n rem e h held → tailK P all ms K n rem e h held' := by
  intro n
  induction n with
  | zero => intro rem e h held held' _ ht; exact ht
  | succ n ih =>
    intro rem e h held held' hs ht i hi hm
    obtain ⟨o, ho, hd⟩ := ht i hi hm
    exact ⟨o, ho, opsE_weaken (fun e h held held' hs => ih _ e h held held' hs) _ _ _ _ _ hs hd⟩
theorem opsE_mono {all : Array Oper} {K1 K2 : Env → Heap → Held → Prop} (hk : ∀ e h held, K1 e h held → K2 e h held) : ∀ (os : List Oper) (e : Env) (h : Heap) (held : Held), opsE P all os e h held K1 → opsE P all os e h held K2 := by
  intro os
  induction os with
  | nil => intro e h held hd; exact hk _ _ _ hd
  | cons o os ih =>
    intro e h held hd
    cases hg : guardV all o e with
    | none => exact (opsE_cons_none hg hd).elim
    | some b =>
      cases b with
      | false => exact (opsE_cons_off hg).2 (ih _ _ _ ((opsE_cons_off hg).1 hd))
      | true =>
        rcases isLoad_cases o.op with ⟨t, a, ho⟩ | ho
        · obtain ⟨v, hl, hd⟩ := (opsE_cons_load hg ho).1 hd
          exact (opsE_cons_load hg ho).2 ⟨v, hl, ih _ _ _ hd⟩
        · refine (opsE_cons_op hg ho).2 (opV_mono (fun v h' hv => ?_) ((opsE_cons_op hg ho).1 hd))
          split at hv
          · rename_i he
            rw [if_pos he]
            exact ⟨hv.1, ih _ _ _ hv.2⟩
          · rename_i he
            rw [if_neg he]
            exact ih _ _ _ hv
theorem tailK_mono {all : Array Oper} {ms : List Nat} {K K' : Env → Heap → Prop} (hk : ∀ e h, K e h → K' e h) : ∀ (n : Nat) (rem : List Nat) (e : Env) (h : Heap) (held : Held), tailK P all ms K n rem e h held → tailK P all ms K' n rem e h held := by
  intro n
  induction n with
  | zero => intro rem e h held ht; exact hk _ _ ht
  | succ n ih =>
    intro rem e h held ht i hi hm
    obtain ⟨o, ho, hd⟩ := ht i hi hm
    exact ⟨o, ho, opsE_mono (fun e h held hd => ih _ e h held hd) _ _ _ _ hd⟩
theorem opsE_append {all : Array Oper} {K : Env → Heap → Held → Prop} {l2 : List Oper} : ∀ (l1 : List Oper) (e : Env) (h : Heap) (held : Held), opsE P all l1 e h held (fun e h held => opsE P all l2 e h held K) → opsE P all (l1 ++ l2) e h held K := by
  intro l1
  induction l1 with
  | nil => intro e h held hd; exact hd
  | cons o os ih =>
    intro e h held hd
    rw [List.cons_append]
    cases hg : guardV all o e with
    | none => exact (opsE_cons_none hg hd).elim
    | some b =>
      cases b with
      | false => exact (opsE_cons_off hg).2 (ih _ _ _ ((opsE_cons_off hg).1 hd))
      | true =>
        rcases isLoad_cases o.op with ⟨t, a, ho⟩ | ho
        · obtain ⟨v, hl, hd⟩ := (opsE_cons_load hg ho).1 hd
          exact (opsE_cons_load hg ho).2 ⟨v, hl, ih _ _ _ hd⟩
        · refine (opsE_cons_op hg ho).2 (opV_mono (fun v h' hv => ?_) ((opsE_cons_op hg ho).1 hd))
          split at hv
          · rename_i he
            rw [if_pos he]
            exact ⟨hv.1, ih _ _ _ hv.2⟩
          · rename_i he
            rw [if_neg he]
            exact ih _ _ _ hv

theorem drawSound (P : Program) [Laid P] : DrawSound P := by
  intro B0 n id ops e h ι a w K Q hall hdraw hE r hn
  obtain ⟨pre, tail, hok, hd⟩ : ∃ pre tail : List Nat, drawOk2 P ops pre tail = true ∧ opsE P ops (pre.filterMap (ops[·]?)) e h [] fun e h held => tailK P ops (masks [] ops.toList) K tail.length tail e h held := by
    rcases hdraw with ⟨order, hok, hd⟩ | hd
    · refine ⟨order, [], ?_, hd⟩
      unfold drawOk at hok
      unfold drawOk2
      simp only [List.append_nil, Bool.and_eq_true] at hok ⊢
      exact ⟨hok, by simp⟩
    · exact hd
  unfold drawOk2 at hok
  simp only [Bool.and_eq_true] at hok
  obtain ⟨⟨⟨⟨⟨⟨⟨hm, hlenO⟩, hlt⟩, hin⟩, hbound⟩, hnd⟩, hpairs⟩, hcross⟩ := hok
  have hlenO := of_decide_eq_true hlenO
  have hedges : ∀ j o, ops[j]? = some o → ∀ x ∈ bnd o, x.on < j ∧ Region.binds .any x = true := by
    intro j o ho x hx
    have hj : j < ops.size := (Array.getElem?_eq_some_iff.1 ho).1
    constructor
    · have := List.all_eq_true.1 hlt (o, j) (by
        rw [List.mem_zipIdx_iff_getElem?]
        simpa using ho)
      have := List.all_eq_true.1 this x hx
      simpa using this
    · exact (List.mem_filter.1 hx).2
  refine wp_region_any hm ?_
  have key : ∀ (m : Nat) (rp rt : List Nat) (listed : Array Bool) (e : Env) (h : Heap) (ι' : List Place) (a : Act) (w' : World), (rp ++ rt).length = m → listed.size = ops.size → (∀ i, i ∈ rp ++ rt ↔ i < ops.size ∧ listed.getD i true = false) → (rp ++ rt).Nodup → pairsOk P ops (masks [] ops.toList) rp = true →
      (∀ x ∈ rp, ∀ y ∈ rt, pairOk P ops (masks [] ops.toList) x y = true) →
      (∀ j o, ops[j]? = some o → listed.getD j false = true → ∀ x ∈ bnd o, listed.getD x.on false = true) → opsE P ops (rp.filterMap (ops[·]?)) e h [] (fun e h held => tailK P ops (masks [] ops.toList) K rt.length rt e h held) → EnvR ι' n e a → Rel P B0 ι' h w' → ι <+: ι' → Below B0 w w' →
      wpAny P .any ops Q m listed a w' := by
    intro m
    induction m with
    | zero =>
      intro rp rt listed e h ι' a w' hlen hsz hrem _ _ _ _ hd hE r hp hB
      have h0 : rp ++ rt = [] := by simpa using hlen
      obtain ⟨rfl, rfl⟩ := List.append_eq_nil_iff.1 h0
      simp only [wpAny]
      refine ⟨?_, hn e h ι' a w' hd hE r hp hB⟩
      unfold Region.ready
      rw [List.filter_eq_nil_iff]
      intro i hi
      have hi' : i < ops.size := by simpa using hi
      have : ¬ (listed.getD i true = false) := fun hf => by have := (hrem i).2 ⟨hi', hf⟩; simp at this
      simp only [Bool.not_eq_false] at this
      simp [this]
    | succ m ih =>
      intro rp rt listed e h ι' a w' hlen hsz hrem hndp hpr hcr hcl hd hE r hp hB
      have hdT : ∀ i b, i < ops.size → listed.getD i b = listed.getD i true := by
        intro i b hi
        have : i < listed.size := by omega
        simp [this]
      simp only [wpAny]
      constructor
      · intro hnil
        exfalso
        have hex : ∀ i, i < ops.size → listed.getD i true = false → False := by
          intro i
          induction i using Nat.strongRecOn with
          | _ i ihi =>
            intro hi hf
            have hmem : i ∈ Region.ready .any ops listed := by
              unfold Region.ready
              rw [List.mem_filter]
              refine ⟨by simpa using hi, ?_⟩
              rw [hf]
              simp only [Bool.not_false, Bool.true_and]
              have ho := Array.getElem?_eq_getElem hi
              rw [ho]
              simp only [Option.map_some, Option.getD_some, Array.all_eq_true']
              intro x hx
              cases hbx : Region.binds .any x with
              | false => rfl
              | true =>
              have hx' : x ∈ bnd ops[i] := List.mem_filter.2 ⟨by simpa using hx, hbx⟩
              obtain ⟨h1, h2⟩ := hedges i _ ho x hx'
              simp only [Bool.not_true, Bool.false_or]
              have hxn : x.on < ops.size := by omega
              rw [hdT _ _ hxn]
              cases hc : listed.getD x.on true with
              | true => rfl
              | false => exact (ihi x.on h1 hxn hc).elim
            rw [hnil] at hmem; simp at hmem
        match hq : rp ++ rt, hlen with
        | i :: _, _ =>
          obtain ⟨h1, h2⟩ := (hrem i).1 (by rw [hq]; simp)
          exact hex i h1 h2
      · intro i hi
        unfold Region.ready at hi
        rw [List.mem_filter] at hi
        obtain ⟨hi1, hi2⟩ := hi
        have hin' : i < ops.size := by simpa using hi1
        simp only [Bool.and_eq_true, Bool.not_eq_true'] at hi2
        obtain ⟨hunl, hdeps⟩ := hi2
        have ho := Array.getElem?_eq_getElem hin'
        generalize hoo : ops[i] = o at ho
        rw [ho] at hdeps
        simp only [Option.map_some, Option.getD_some, Array.all_eq_true'] at hdeps
        have hdeps' : ∀ x ∈ bnd o, listed.getD x.on false = true := by
          intro x hx
          have h2 := (hedges i o ho x hx).2
          have := hdeps x (by simpa using (List.mem_filter.1 hx).1)
          simpa [h2] using this
        have himem : i ∈ rp ++ rt := (hrem i).2 ⟨hin', hunl⟩
        have hoi : opsIn n o := hall o (by simpa using Array.mem_of_getElem? ho)
        -- what a bit of the mask would mean
        have hbitno : ∀ j, j ∈ rp ++ rt → ((masks [] ops.toList).getD i 0).testBit j = true → False := by
          intro j hj hbit
          have hS := masks_closed (ops := ops.toList) (fun k => listed.getD k false = true) (fun j o ho hl => hcl j o (by simpa using ho) hl) ops.toList [] (fun i o h => by simpa using h) (fun d _ k hk => by simp at hk) i o (by simpa using ho) (by simpa using hin') hdeps' (fun j o hj => by simp at hj) j hbit
          have := (hrem j).1 hj
          rw [hdT _ _ this.1] at hS
          rw [this.2] at hS
          simp at hS
        have hapartOf : ∀ j, j ∈ rp ++ rt → pairOk P ops (masks [] ops.toList) j i = true → ∀ x, ops[j]? = some x → effectful P x.op = false ∧ Apart ops x o := by
          intro j hj hpo x hjx
          unfold pairOk at hpo
          simp only [Bool.and_eq_true, Bool.or_eq_true] at hpo
          rcases hpo.2 with hbit | hrest
          · exact (hbitno j hj hbit).elim
          · rw [hjx, ho] at hrest
            simp only [Bool.and_eq_true, Bool.not_eq_true'] at hrest
            exact ⟨hrest.1, apartO_spec hrest.2⟩
        -- what follows, however the operation is found
        have fin : ∀ (rp' rt' : List Nat), (∀ j, j ∈ rp' ++ rt' ↔ j ∈ rp ++ rt ∧ j ≠ i) → (rp' ++ rt').length = m → (rp' ++ rt').Nodup → pairsOk P ops (masks [] ops.toList) rp' = true → (∀ x ∈ rp', ∀ y ∈ rt', pairOk P ops (masks [] ops.toList) x y = true) →
            stepD P ops o e h [] (fun e' h' => opsE P ops (rp'.filterMap (ops[·]?)) e' h' [] fun e h held => tailK P ops (masks [] ops.toList) K rt'.length rt' e h held) → wpOp P ops Q i (wpAny P .any ops Q m (listed.setIfInBounds i true)) a w' := by
          intro rp' rt' hmem hl' hnd' hpr' hcr' hst
          have hstep := stepD_sound r hall hE hoi hst (next := wpAny P .any ops Q m (listed.setIfInBounds i true)) (Q := Q) (by
            intro e2 h2 ι2 a2 w2 hc hE2 hR2 hp2 hB2
            refine ih rp' rt' (listed.setIfInBounds i true) e2 h2 ι2 a2 w2 hl' (by simpa using hsz) ?_ hnd' hpr' hcr' ?_ hc hE2 hR2 (hp.trans hp2) (hB.trans hB2)
            · intro j
              rw [hmem j]
              by_cases hji : j = i
              · subst hji
                constructor
                · rintro ⟨_, hj⟩; exact (hj rfl).elim
                · rintro ⟨_, hj⟩
                  have : j < listed.size := by omega
                  simp [this] at hj
              · have e1 : (listed.setIfInBounds i true).getD j true = listed.getD j true := by
                  simp [Array.getElem?_setIfInBounds, Ne.symm hji]
                rw [e1, ← hrem j]
                simp [hji]
            · intro j o' ho' hl x hx
              have hxo := (hedges j o' ho' x hx).1
              have hjn : j < ops.size := (Array.getElem?_eq_some_iff.1 ho').1
              by_cases hxi : x.on = i
              · rw [hxi]
                have : i < listed.size := by omega
                simp [this]
              · have e1 : (listed.setIfInBounds i true).getD x.on false = listed.getD x.on false := by
                  simp [Array.getElem?_setIfInBounds, Ne.symm hxi]
                rw [e1]
                by_cases hji : j = i
                · subst hji
                  rw [ho] at ho'
                  simp only [Option.some.injEq] at ho'; subst ho'
                  exact hdeps' x hx
                · have e2 : (listed.setIfInBounds i true).getD j false = listed.getD j false := by
                    simp [Array.getElem?_setIfInBounds, Ne.symm hji]
                  rw [e2] at hl
                  exact hcl j o' ho' hl x hx)
          unfold wpOp
          rw [ho]
          exact hstep
        by_cases hip : i ∈ rp
        · obtain ⟨r1, r2, hr⟩ := List.append_of_mem hip
          subst hr
          obtain ⟨hp1, hpr2⟩ := pairsOk_mem hpr
          have hnd2 : (r1 ++ (r2 ++ rt)).Nodup ∧ i ∉ r1 ++ (r2 ++ rt) := by
            have hh : (r1 ++ i :: (r2 ++ rt)).Nodup := by simpa using hndp
            obtain ⟨n1, n2, n3⟩ := List.nodup_append.1 hh
            obtain ⟨n4, n5⟩ := List.nodup_cons.1 n2
            refine ⟨List.nodup_append.2 ⟨n1, n5, fun x hx y hy => n3 x hx y (by simp [hy])⟩, fun hmm => ?_⟩
            rcases List.mem_append.1 hmm with h1 | h1
            · exact n3 i h1 i (by simp) rfl
            · exact n4 h1
          have hsplit : (r1 ++ i :: r2).filterMap (ops[·]?) = r1.filterMap (ops[·]?) ++ o :: r2.filterMap (ops[·]?) := by
            rw [List.filterMap_append, List.filterMap_cons, ho]
          rw [hsplit] at hd
          have hst := remove (K := fun e h held => tailK P ops (masks [] ops.toList) K rt.length rt e h held) (fun _ _ _ _ hs ht => tailK_weaken _ _ _ _ _ _ hs ht) _ _ _ _ (by
            intro x hx
            rw [List.mem_filterMap] at hx
            obtain ⟨j, hj, hjx⟩ := hx
            exact hapartOf j (by simp [hj]) (hp1 j hj) x hjx) hd
          refine fin (r1 ++ r2) rt ?_ (by simp at hlen ⊢; omega) (by simpa using hnd2.1) hpr2 (fun x hx y hy => hcr x (by simp at hx ⊢; rcases hx with hx | hx <;> simp [hx]) y hy) (by rw [List.filterMap_append]; exact hst)
          intro j
          have hni := hnd2.2
          constructor
          · intro hj
            refine ⟨by simp at hj ⊢; rcases hj with hj | hj | hj <;> simp [hj], fun e => hni (by subst e; simpa using hj)⟩
          · rintro ⟨hj, hne⟩
            simp at hj ⊢
            rcases hj with hj | hj | hj | hj
            · simp [hj]
            · exact (hne hj).elim
            · simp [hj]
            · simp [hj]
        · have hit : i ∈ rt := by
            rcases List.mem_append.1 himem with h1 | h1
            · exact (hip h1).elim
            · exact h1
          obtain ⟨n1, n2, n3⟩ := List.nodup_append.1 hndp
          have hef : rt.erase i = rt.filter (· != i) := n2.erase_eq_filter i
          have hel : (rt.filter (· != i)).length = rt.length - 1 := by rw [← hef]; exact List.length_erase_of_mem hit
          have hpos : 0 < rt.length := List.length_pos_of_mem hit
          obtain ⟨nt, hnt⟩ : ∃ nt, rt.length = nt + 1 := ⟨rt.length - 1, by omega⟩
          have hmin : (rt.all fun y => !((masks [] ops.toList).getD i 0).testBit y) = true := by
            rw [List.all_eq_true]
            intro y hy
            rw [Bool.not_eq_true']
            cases hb : ((masks [] ops.toList).getD i 0).testBit y with
            | false => rfl
            | true => exact (hbitno y (by simp [hy]) hb).elim
          have hd2 := opsE_append _ _ _ _ (opsE_mono (K2 := fun e h held => opsE P ops [o] e h held fun e h held => tailK P ops (masks [] ops.toList) K nt (rt.filter (· != i)) e h held) (by
            intro e h held ht
            rw [hnt] at ht
            obtain ⟨o', ho', hh⟩ := ht i hit hmin
            rw [ho] at ho'
            simp only [Option.some.injEq] at ho'; subst ho'
            exact hh) _ _ _ _ hd)
          have hst := remove (K := fun e h held => tailK P ops (masks [] ops.toList) K nt (rt.filter (· != i)) e h held) (fun _ _ _ _ hs ht => tailK_weaken _ _ _ _ _ _ hs ht) _ _ _ _ (by
            intro x hx
            rw [List.mem_filterMap] at hx
            obtain ⟨j, hj, hjx⟩ := hx
            exact hapartOf j (by simp [hj]) (hcr j hj i hit) x hjx) hd2
          rw [List.append_nil] at hst
          have hlf : (rt.filter (· != i)).length = nt := by omega
          refine fin rp (rt.filter (· != i)) ?_ (by rw [List.length_append, hlf]; rw [List.length_append] at hlen; omega) ?_ hpr (fun x hx y hy => hcr x hx y ((List.mem_filter.1 hy).1)) (by rw [hlf]; exact hst)
          · intro j
            simp only [List.mem_append, List.mem_filter, bne_iff_ne]
            constructor
            · rintro (hj | ⟨hj, hne⟩)
              · exact ⟨.inl hj, fun e => hip (by rw [← e]; exact hj)⟩
              · exact ⟨.inr hj, hne⟩
            · rintro ⟨hj | hj, hne⟩
              · exact .inl hj
              · exact .inr ⟨hj, hne⟩
          · exact List.nodup_append.2 ⟨n1, n2.sublist (List.filter_sublist), fun x hx y hy => n3 x hx y ((List.mem_filter.1 hy).1)⟩
  have := key (pre ++ tail).length pre tail (Array.replicate ops.size false) e h ι a { w with drawn := w.drawn + 1 } rfl (by simp) (by
    intro i
    constructor
    · intro hi
      have := List.all_eq_true.1 hbound i hi
      have hi' : i < ops.size := by simpa using this
      exact ⟨hi', by simp [hi']⟩
    · rintro ⟨hi, _⟩
      have := List.all_eq_true.1 hin i (by simpa using hi)
      simpa using this) (nodupB_spec hnd) hpairs (fun x hx y hy => List.all_eq_true.1 (List.all_eq_true.1 hcross x hx) y hy) (by
    intro j o ho hl
    have hj : j < ops.size := (Array.getElem?_eq_some_iff.1 ho).1
    simp [hj] at hl) hd hE (r.drew) List.prefix_rfl ⟨rfl, rfl, rfl, Nat.le_refl _, fun _ _ => rfl⟩
  rw [hlenO] at this
  exact this

end Go.V
