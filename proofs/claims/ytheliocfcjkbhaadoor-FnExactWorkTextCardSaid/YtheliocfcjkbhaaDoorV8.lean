/- The layer V, part 8: slicing, operators, conversions, copy, max, min. -/
import Derived.Test.YtheliocfcjkbhaaDoorV7
set_option linter.all false
namespace Go.V
open Go Go.RowKit
variable {P : Program} [Laid P] {B0 : Nat} {ι : List Place} {h : Heap} {w : World}

theorem bound_sound {x ux : Value} {hi m : Nat} {code : BoundsCode} (hx : VR ι x ux) (hb : boundV x hi = some m) : m ≤ hi ∧ ∀ w : World, (Instr.sliceBound ux hi code).run P w = .ok m w := by
  unfold boundV at hb
  split at hb
  · rename_i k i
    have := hx.int_eq; subst this
    split at hb
    · rename_i hc
      simp only [Option.some.injEq] at hb; subst hb
      exact ⟨by omega, fun w => by simp [Instr.sliceBound, asIntOf, hc]⟩
    · simp at hb
  · simp at hb

/-- Both bounds. -/
theorem bounds_sound {e : Env} {ρ : Operand → Value} {lo hi : Option Operand} {cap len m l capM : Nat} {isS : Bool} (hρ : ∀ x, (lo = some x ∨ hi = some x) → VR ι (evO e x) (ρ x)) (h1 : hiV e hi cap len = some m) (h2 : loV e lo m = some l)
    (hcap : cap ≤ capM) : l ≤ m ∧ (hi = none → m = len) ∧ (m ≤ cap ∨ m = len) ∧ ∀ w : World, (Instr.sliceBounds isS len capM (lo.map ρ) (hi.map ρ) none).run P w = .ok (l, m, capM) w := by
  have hH : (hi = none → m = len) ∧ (m ≤ cap ∨ m = len) ∧ ∀ w : World, (match hi.map ρ with | some v => Instr.sliceBound v capM (if isS then .sliceAcap else .sliceAlen) | none => pure len : Sem Nat).run P w = .ok m w := by
    cases hi with
    | none => simp [hiV] at h1; subst h1; exact ⟨fun _ => rfl, .inr rfl, fun w => by simp⟩
    | some x =>
      simp only [hiV] at h1
      unfold boundV at h1
      have hv := hρ x (.inr rfl)
      split at h1
      · rename_i k i he
        rw [he] at hv
        have := hv.int_eq
        split at h1
        · rename_i hc
          simp only [Option.some.injEq] at h1
          refine ⟨by simp, .inl (by omega), fun w => ?_⟩
          have hc' : 0 ≤ i ∧ i ≤ capM := ⟨hc.1, by omega⟩
          simp [this, Instr.sliceBound, asIntOf, hc', h1]
        · simp at h1
      · simp at h1
  obtain ⟨ha, hb, hr⟩ := hH
  cases lo with
  | none =>
    simp [loV] at h2; subst h2
    refine ⟨Nat.zero_le _, ha, hb, fun w => ?_⟩
    unfold Instr.sliceBounds
    cases hi <;> simp at hr ⊢ <;> simp [hr]
  | some x =>
    simp only [loV] at h2
    obtain ⟨h3, h4⟩ := bound_sound (P := P) (code := .sliceB) (hρ x (.inl rfl)) h2
    refine ⟨h3, ha, hb, fun w => ?_⟩
    unfold Instr.sliceBounds
    cases hi <;> simp at hr ⊢ <;> simp [hr, h4]

theorem run_slice_gen {t el : TypeId} {k : TK} (ht : P.underlying t = some (.slice el)) (hk : tk P el = some k) {A : Option Addr} {len cap l m M : Nat} {lo hi : Option Value} (w : World)
    (hb : (Instr.sliceBounds true len cap lo hi none).run P w = .ok (l, m, M) w) :
    (Instr.sliceAt t (.slice A len cap) lo hi none).run P w = .ok (.slice (if M = l then A else A.map (·.add (l * k.size))) (m - l) (M - l)) w := by
  simp [Instr.sliceAt, Instr.slice, run_underlying ht, hb, run_sizeOf hk]

theorem slice_sound {e : Env} {ρ : Operand → Value} {t : TypeId} {x ux v : Value} {lo hi : Option Operand} (hx : VR ι x ux) (hρ : ∀ y, (lo = some y ∨ hi = some y) → VR ι (evO e y) (ρ y)) (hv : sliceV P t e x lo hi = some v) :
    ∃ u, (∀ w : World, (Instr.sliceAt t ux (lo.map ρ) (hi.map ρ) none).run P w = .ok u w) ∧ VR ι v u := by
  unfold sliceV at hv
  split at hv
  · rename_i s
    have := hx.string_eq; subst this
    split at hv
    · rename_i hk
      have ht := kind_str hk
      simp only [Option.bind_eq_some_iff, Option.map_eq_some_iff] at hv
      obtain ⟨m, h1, l, h2, rfl⟩ := hv
      obtain ⟨_, _, _, hb⟩ := bounds_sound (P := P) (isS := false) hρ h1 h2 (Nat.le_refl _)
      exact ⟨.string (s.extract l m), fun w => by simp [Instr.sliceAt, Instr.slice, run_underlying ht, hb], .closed rfl⟩
    · simp at hv
  · rename_i A len cap
    simp only [Option.bind_eq_some_iff] at hv
    obtain ⟨el, hel, k, hk, m, h1, l, h2, hv⟩ := hv
    by_cases hmc : m ≤ cap
    case neg => rw [if_neg hmc] at hv; simp at hv
    rw [if_pos hmc] at hv
    simp only [Option.some.injEq] at hv; subst hv
    have ht := tElem_some hel
    have hs0 : 0 < k.size := by obtain ⟨_, _, _, _, _, _, _, _, _, _, _, hs0, _⟩ := tk_info hk; exact hs0
    have hf := hx.flat_inv trivial
    cases hf with
    | base hb =>
      cases hb with
      | nils =>
        obtain ⟨g1, g2, g3, hb⟩ := bounds_sound (P := P) (isS := true) hρ h1 h2 (Nat.le_refl 0)
        have : m = 0 := by omega
        subst this
        have : l = 0 := by omega
        subst this
        exact ⟨.slice none 0 0, fun w => by rw [run_slice_gen ht hk w (hb w)]; rfl, hx⟩
      | @slice b off _ _ p hp hc =>
        obtain ⟨g1, g2, g3, hb⟩ := bounds_sound (P := P) (isS := true) hρ h1 h2 (Nat.le_add_right cap p.slack)
        by_cases hcl : l < cap
        · refine ⟨.slice (some ⟨p.blk, p.base + off + l * k.size, none⟩) (m - l) (cap + p.slack - l), fun w => ?_, .one (.flat (.base ?_))⟩
          · have hne : ¬ (cap + p.slack = l) := by omega
            rw [run_slice_gen ht hk w (hb w), if_neg hne]; simp [addr_add]
          · have := BR.slice (ι := ι) (off := off + l * k.size) (len := m - l) (cap := cap - l) hp (by omega)
            have e1 : cap - l + p.slack = cap + p.slack - l := by omega
            rw [e1, ← Nat.add_assoc] at this
            exact this
        · have : l = cap := by omega
          subst this
          have : m = l := by omega
          subst this
          have e0 : m - m = 0 := by omega
          rw [e0]
          by_cases hsl : p.slack = 0
          · refine ⟨.slice (some ⟨p.blk, p.base + off, none⟩) 0 0, fun w => ?_, .one (.flat (.base (.slice0 hp (.inl rfl))))⟩
            rw [run_slice_gen ht hk w (hb w), if_pos (by omega)]; simp [hsl]
          · refine ⟨.slice (some ⟨p.blk, p.base + (off + m * k.size), none⟩) 0 p.slack, fun w => ?_, .one (.flat (.base (.slice0 hp (.inr ⟨rfl, rfl⟩))))⟩
            have hne : ¬ (m + p.slack = m) := by omega
            rw [run_slice_gen ht hk w (hb w), if_neg hne]; simp [addr_add, Nat.add_assoc]
      | @slice0 b off a c p hp hc =>
        obtain ⟨g1, g2, g3, hb⟩ := bounds_sound (P := P) (isS := true) hρ h1 h2 (Nat.zero_le c)
        have : m = 0 := by omega
        subst this
        have : l = 0 := by omega
        subst this
        refine ⟨.slice (some a) 0 c, fun w => ?_, by simpa using hx⟩
        have e : a.add 0 = a := by simp [Addr.add]
        by_cases hc0 : c = 0
        · rw [run_slice_gen ht hk w (hb w), if_pos hc0]; simp
        · rw [run_slice_gen ht hk w (hb w), if_neg hc0]; simp [e]
  · simp at hv
end Go.V
