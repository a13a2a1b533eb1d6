/- The layer V, part 14: whatever order a region draws. -/
import Derived.Test.YtheliocfcjkbhaaV13
set_option linter.all false
namespace Go.V
open Go Go.RowKit
variable {P : Program} [Laid P] {B0 : Nat} {ι : List Place} {h : Heap} {w : World}

/-- A step now, in the machine. -/
theorem stepD_sound (r : Rel P B0 ι h w) {n : Nat} {e : Env} {a : Act} {all : Array Oper} {o : Oper} {held : Held} {C : Env → Heap → Prop} (hall : ∀ o ∈ all.toList, opsIn n o) (hE : EnvR ι n e a) (hok : opsIn n o) (hs : stepD P all o e h held C)
    {next : Act → World → Prop} {Q : Go.Exit → Act → World → Prop} (hn : ∀ e' h' ι' a' w', C e' h' → EnvR ι' n e' a' → Rel P B0 ι' h' w' → ι <+: ι' → Below B0 w w' → next a' w') :
    if Region.wanted o (yielded all a.tmps) then o.wp P a w next Q ∨ (o.asks P a w ∧ LetsOut Q) else next (a.put o.dst undef) w := by
  cases hg : guardV all o e with
  | none => exact (stepD_none hg hs).elim
  | some b =>
    cases b with
    | false =>
      rw [if_neg (by rw [guard_sound hE hall hg]; simp)]
      exact hn _ _ ι _ w ((stepD_off hg).1 hs) (hE.put hok.2 (.one .skip)) r List.prefix_rfl (Below.refl _ _)
    | true =>
      rw [if_pos (guard_sound hE hall hg)]
      left
      have fin : ∀ {K : Value → Heap → Prop}, opV P o.op e h K → (∀ v h', K v h' → C (putV e o.dst v) h') → o.wp P a w next Q := by
        intro K hv hk
        refine op_sound r hE hok hv ?_
        intro v u h' ι' w' hkv hvr hR hp hB
        exact hn _ _ ι' _ w' (hk v h' hkv) ((hE.pre hp).put hok.2 hvr) hR hp hB
      rcases isLoad_cases o.op with ⟨t, x, ho⟩ | ho
      · obtain ⟨v, hl, hc⟩ := (stepD_load hg ho).1 hs
        refine fin (K := fun v' h' => v' = v ∧ h' = h) ?_ (by rintro v' h' ⟨rfl, rfl⟩; exact hc)
        rw [ho]
        simp [opV, hl, optK]
      · cases he : effectful P o.op with
        | true => exact fin ((stepD_eff hg ho he).1 hs) (fun v h' hk => hk.2)
        | false =>
          obtain ⟨v, hp, hc⟩ := (stepD_pure hg ho he).1 hs
          refine fin (K := fun v' h' => v' = v ∧ h' = h) (hp h _ ⟨rfl, rfl⟩) (by rintro v' h' ⟨rfl, rfl⟩; exact hc)

/-! ### the masks -/
theorem fold_bits (g : Nat → Nat) (S : Nat → Prop) (hS : ∀ d, S d → ∀ k, (g d).testBit k = true → S k) : ∀ (l : List Go.Edge) (s : Nat), (∀ k, s.testBit k = true → S k) → (∀ x ∈ l, S x.on) →
    ∀ k, (l.foldl (fun s x => s ||| 2 ^ x.on ||| g x.on) s).testBit k = true → S k := by
  intro l
  induction l with
  | nil => intro s hs _ k hk; exact hs k hk
  | cons x l ih =>
    intro s hs hl k hk
    simp only [List.foldl_cons] at hk
    refine ih _ ?_ (fun y hy => hl y (by simp [hy])) k hk
    intro k hk
    simp only [Nat.testBit_or, Bool.or_eq_true, Nat.testBit_two_pow] at hk
    rcases hk with (hk | hk) | hk
    · exact hs k hk
    · have : x.on = k := by simpa using hk
      subst this
      exact hl x (by simp)
    · exact hS x.on (hl x (by simp)) k hk

/-- What a mask names lies in whatever holds the operation's own edges and is closed. -/
theorem masks_closed {ops : List Oper} (S : Nat → Prop) (hS : ∀ j o, ops[j]? = some o → S j → ∀ x ∈ bnd o, S x.on) : ∀ (os : List Oper) (acc : List Nat), (∀ i o, os[i]? = some o → ops[acc.length + i]? = some o) →
    (∀ d, S d → ∀ k, (acc.getD d 0).testBit k = true → S k) → ∀ (j : Nat) o, ops[j]? = some o → j < acc.length + os.length → (∀ x ∈ bnd o, S x.on) →
    (∀ j o, j < acc.length → ops[j]? = some o → (∀ x ∈ bnd o, S x.on) → ∀ k, (acc.getD j 0).testBit k = true → S k) → ∀ k, ((masks acc os).getD j 0).testBit k = true → S k := by
  intro os
  induction os with
  | nil =>
    intro acc _ hacc j o ho hj hdeps hall k hk
    simp only [masks] at hk
    exact hall j o (by simpa using hj) ho hdeps k hk
  | cons o1 os ih =>
    intro acc hos hacc j o ho hj hdeps hall k hk
    simp only [masks] at hk
    have hm : ∀ (_ : ∀ x ∈ bnd o1, S x.on), ∀ k, ((bnd o1).foldl (fun s x => s ||| 2 ^ x.on ||| acc.getD x.on 0) 0).testBit k = true → S k := fun h1 => fold_bits (fun d => acc.getD d 0) S hacc (bnd o1) 0 (by simp) h1
    have ho1 : ops[acc.length]? = some o1 := by simpa using hos 0 o1 rfl
    refine ih (acc ++ [(bnd o1).foldl (fun s x => s ||| 2 ^ x.on ||| acc.getD x.on 0) 0]) (fun i o hi => ?_) ?_ j o ho (by simp at hj ⊢; omega) hdeps ?_ k hk
    · have := hos (i + 1) o (by simpa using hi)
      rw [← this]; congr 1; simp; omega
    · intro d hd k hk
      rcases Nat.lt_or_ge d acc.length with hlt | hge
      · exact hacc d hd k (by simpa [List.getD, List.getElem?_append_left hlt] using hk)
      · by_cases hde : d = acc.length
        · subst hde
          exact hm (hS _ _ ho1 hd) k (by simpa [List.getD] using hk)
        · have : ∀ X : Nat, (acc ++ [X])[d]? = none := fun X => List.getElem?_eq_none (by simp; omega)
          simp only [List.getD, this, Option.getD_none, Nat.zero_testBit, Bool.false_eq_true] at hk
    · intro j' o' hj' ho' hd' k hk
      simp at hj'
      rcases Nat.lt_or_ge j' acc.length with hlt | hge
      · exact hall j' o' hlt ho' hd' k (by simpa [List.getD, List.getElem?_append_left hlt] using hk)
      · have : j' = acc.length := by omega
        subst this
        rw [ho1] at ho'
        simp only [Option.some.injEq] at ho'; subst ho'
        exact hm hd' k (by simpa [List.getD] using hk)


theorem pairsOk_mem {ops : Array Oper} {ms : List Nat} : ∀ {r1 : List Nat} {i : Nat} {r2 : List Nat}, pairsOk P ops ms (r1 ++ i :: r2) = true → (∀ x ∈ r1, pairOk P ops ms x i = true) ∧ pairsOk P ops ms (r1 ++ r2) = true := by
  intro r1
  induction r1 with
  | nil =>
    intro i r2 h
    simp only [List.nil_append, pairsOk, Bool.and_eq_true] at h ⊢
    exact ⟨fun x hx => by simp at hx, h.2⟩
  | cons y r1 ih =>
    intro i r2 h
    simp only [List.cons_append, pairsOk, Bool.and_eq_true] at h ⊢
    obtain ⟨h1, h2⟩ := h
    obtain ⟨h3, h4⟩ := ih h2
    have h1' := List.all_eq_true.1 h1
    refine ⟨fun x hx => ?_, List.all_eq_true.2 fun z hz => h1' z (by simp at hz ⊢; rcases hz with hz | hz <;> simp [hz]), h4⟩
    rcases List.mem_cons.1 hx with rfl | hx
    · exact h1' i (by simp)
    · exact h3 x hx

theorem nodupB_spec : ∀ {l : List Nat}, nodupB l = true → l.Nodup := by
  intro l
  induction l with
  | nil => intro _; exact List.nodup_nil
  | cons x l ih =>
    intro h
    simp only [nodupB, Bool.and_eq_true, Bool.not_eq_true'] at h
    exact List.nodup_cons.2 ⟨by simpa using h.1, ih h.2⟩

theorem drawSound (P : Program) [Laid P] : DrawSound P := by
  intro B0 n id ops e h ι a w K Q hall ⟨order, hok, hd⟩ hE r hn
  unfold drawOk at hok
  simp only [Bool.and_eq_true] at hok
  obtain ⟨⟨⟨⟨⟨⟨hm, hlenO⟩, hlt⟩, hin⟩, hbound⟩, hnd⟩, hpairs⟩ := hok
  have hlenO := of_decide_eq_true hlenO
  have hedges : ∀ j o, ops[j]? = some o → ∀ x ∈ bnd o, x.on < j ∧ Region.binds .any x = true := by
    intro j o ho x hx
    have hj : j < ops.size := (Array.getElem?_eq_some_iff.1 ho).1
    constructor
    · have := List.all_eq_true.1 hlt (o, j) (by
        rw [List.mem_zipIdx_iff_getElem?]
        simpa using ho)
      have := List.all_eq_true.1 this x hx
      simpa using this
    · exact (List.mem_filter.1 hx).2
  refine wp_region_any hm ?_
  have key : ∀ (rem : List Nat) (listed : Array Bool) (e : Env) (h : Heap) (ι' : List Place) (a : Act) (w' : World), listed.size = ops.size → (∀ i, i ∈ rem ↔ i < ops.size ∧ listed.getD i true = false) → rem.Nodup → pairsOk P ops (masks [] ops.toList) rem = true →
      (∀ j o, ops[j]? = some o → listed.getD j false = true → ∀ x ∈ bnd o, listed.getD x.on false = true) → opsD P ops (rem.filterMap (ops[·]?)) e h [] K → EnvR ι' n e a → Rel P B0 ι' h w' → ι <+: ι' → Below B0 w w' →
      wpAny P .any ops Q rem.length listed a w' := by
    intro rem
    generalize hlen : rem.length = m
    induction m generalizing rem with
    | zero =>
      intro listed e h ι' a w' hsz hrem _ _ _ hd hE r hp hB
      have : rem = [] := by simpa using hlen
      subst this
      simp only [wpAny]
      refine ⟨?_, hn e h ι' a w' hd hE r hp hB⟩
      unfold Region.ready
      rw [List.filter_eq_nil_iff]
      intro i hi
      have hi' : i < ops.size := by simpa using hi
      have : ¬ (listed.getD i true = false) := fun hf => by have := (hrem i).2 ⟨hi', hf⟩; simp at this
      simp only [Bool.not_eq_false] at this
      simp [this]
    | succ m ih =>
      intro listed e h ι' a w' hsz hrem hndp hpr hcl hd hE r hp hB
      have hdT : ∀ i b, i < ops.size → listed.getD i b = listed.getD i true := by
        intro i b hi
        have : i < listed.size := by omega
        simp [this]
      simp only [wpAny]
      constructor
      · intro hnil
        exfalso
        -- the least operation that is not listed is ready
        have hex : ∀ i, i < ops.size → listed.getD i true = false → False := by
          intro i
          induction i using Nat.strongRecOn with
          | _ i ihi =>
            intro hi hf
            have hmem : i ∈ Region.ready .any ops listed := by
              unfold Region.ready
              rw [List.mem_filter]
              refine ⟨by simpa using hi, ?_⟩
              rw [hf]
              simp only [Bool.not_false, Bool.true_and]
              have ho := Array.getElem?_eq_getElem hi
              rw [ho]
              simp only [Option.map_some, Option.getD_some, Array.all_eq_true']
              intro x hx
              cases hbx : Region.binds .any x with
              | false => rfl
              | true =>
              have hx' : x ∈ bnd ops[i] := List.mem_filter.2 ⟨by simpa using hx, hbx⟩
              obtain ⟨h1, h2⟩ := hedges i _ ho x hx'
              simp only [Bool.not_true, Bool.false_or]
              have hxn : x.on < ops.size := by omega
              rw [hdT _ _ hxn]
              cases hc : listed.getD x.on true with
              | true => rfl
              | false => exact (ihi x.on h1 hxn hc).elim
            rw [hnil] at hmem; simp at hmem
        match rem, hlen with
        | i :: _, _ =>
          obtain ⟨h1, h2⟩ := (hrem i).1 (by simp)
          exact hex i h1 h2
      · intro i hi
        unfold Region.ready at hi
        rw [List.mem_filter] at hi
        obtain ⟨hi1, hi2⟩ := hi
        have hin' : i < ops.size := by simpa using hi1
        simp only [Bool.and_eq_true, Bool.not_eq_true'] at hi2
        obtain ⟨hunl, hdeps⟩ := hi2
        have ho := Array.getElem?_eq_getElem hin'
        generalize hoo : ops[i] = o at ho
        rw [ho] at hdeps
        simp only [Option.map_some, Option.getD_some, Array.all_eq_true'] at hdeps
        have hdeps' : ∀ x ∈ bnd o, listed.getD x.on false = true := by
          intro x hx
          have h2 := (hedges i o ho x hx).2
          have := hdeps x (by simpa using (List.mem_filter.1 hx).1)
          simpa [h2] using this
        have himem : i ∈ rem := (hrem i).2 ⟨hin', hunl⟩
        obtain ⟨r1, r2, hr⟩ := List.append_of_mem himem
        subst hr
        obtain ⟨hp1, hpr2⟩ := pairsOk_mem hpr
        have hlen' : (r1 ++ r2).length = m := by simp at hlen ⊢; omega
        have hndp' : (r1 ++ r2).Nodup ∧ i ∉ r1 ++ r2 := by
          have := List.nodup_append.1 hndp
          obtain ⟨n1, n2, n3⟩ := this
          obtain ⟨n4, n5⟩ := List.nodup_cons.1 n2
          refine ⟨List.nodup_append.2 ⟨n1, n5, fun x hx y hy => n3 x hx y (by simp [hy])⟩, fun hmm => ?_⟩
          rcases List.mem_append.1 hmm with h1 | h1
          · exact n3 i h1 i (by simp) rfl
          · exact n4 h1
        have hapart : ∀ x ∈ r1.filterMap (ops[·]?), effectful P x.op = false ∧ Apart ops x o := by
          intro x hx
          rw [List.mem_filterMap] at hx
          obtain ⟨j, hj, hjx⟩ := hx
          have hpo := hp1 j hj
          unfold pairOk at hpo
          simp only [Bool.and_eq_true, Bool.or_eq_true] at hpo
          rcases hpo.2 with hbit | hrest
          · exfalso
            have hS := masks_closed (ops := ops.toList) (fun k => listed.getD k false = true) (fun j o ho hl => hcl j o (by simpa using ho) hl) ops.toList [] (fun i o h => by simpa using h) (fun d _ k hk => by simp at hk) i o (by simpa using ho) (by simpa using hin') hdeps' (fun j o hj => by simp at hj) j hbit
            have := (hrem j).1 (by simp [hj])
            rw [hdT _ _ this.1] at hS
            rw [this.2] at hS
            simp at hS
          · rw [hjx, ho] at hrest
            simp only [Bool.and_eq_true, Bool.not_eq_true'] at hrest
            exact ⟨hrest.1, apartO_spec hrest.2⟩
        have hsplit : (r1 ++ i :: r2).filterMap (ops[·]?) = r1.filterMap (ops[·]?) ++ o :: r2.filterMap (ops[·]?) := by
          rw [List.filterMap_append, List.filterMap_cons, ho]
        rw [hsplit] at hd
        have hst := remove _ _ _ _ hapart hd
        have hoi : opsIn n o := hall o (by simpa using Array.mem_of_getElem? ho)
        have hstep := stepD_sound r hall hE hoi hst (next := wpAny P .any ops Q m (listed.setIfInBounds i true)) (Q := Q) (by
          intro e2 h2 ι2 a2 w2 hc hE2 hR2 hp2 hB2
          refine ih (r1 ++ r2) hlen' (listed.setIfInBounds i true) e2 h2 ι2 a2 w2 (by simpa using hsz) ?_ hndp'.1 hpr2 ?_ ?_ hE2 hR2 (hp.trans hp2) (hB.trans hB2)
          · intro j
            by_cases hji : j = i
            · subst hji
              constructor
              · intro hj; exact (hndp'.2 hj).elim
              · rintro ⟨_, hj⟩
                have : j < listed.size := by omega
                simp [this] at hj
            · have e1 : (listed.setIfInBounds i true).getD j true = listed.getD j true := by
                simp [Array.getElem?_setIfInBounds, Ne.symm hji]
              rw [e1, ← hrem j]
              simp [hji]
          · intro j o' ho' hl x hx
            have hxo := (hedges j o' ho' x hx).1
            have hjn : j < ops.size := (Array.getElem?_eq_some_iff.1 ho').1
            by_cases hxi : x.on = i
            · rw [hxi]
              have : i < listed.size := by omega
              simp [this]
            · have e1 : (listed.setIfInBounds i true).getD x.on false = listed.getD x.on false := by
                simp [Array.getElem?_setIfInBounds, Ne.symm hxi]
              rw [e1]
              by_cases hji : j = i
              · subst hji
                rw [ho] at ho'
                simp only [Option.some.injEq] at ho'; subst ho'
                exact hdeps' x hx
              · have e2 : (listed.setIfInBounds i true).getD j false = listed.getD j false := by
                  simp [Array.getElem?_setIfInBounds, Ne.symm hji]
                rw [e2] at hl
                exact hcl j o' ho' hl x hx
          · rw [List.filterMap_append]; exact hc)
        unfold wpOp
        rw [ho]
        exact hstep
  have := key order (Array.replicate ops.size false) e h ι a { w with drawn := w.drawn + 1 } (by simp) (by
    intro i
    constructor
    · intro hi
      have := List.all_eq_true.1 hbound i hi
      have hi' : i < ops.size := by simpa using this
      exact ⟨hi', by simp [hi']⟩
    · rintro ⟨hi, _⟩
      have := List.all_eq_true.1 hin i (by simpa using hi)
      simpa using this) (nodupB_spec hnd) hpairs (by
    intro j o ho hl
    have hj : j < ops.size := (Array.getElem?_eq_some_iff.1 ho).1
    simp [hj] at hl) hd hE (r.drew) List.prefix_rfl ⟨rfl, rfl, rfl, Nat.le_refl _, fun _ _ => rfl⟩
  rw [hlenO] at this
  exact this

end Go.V
