/- The layer V, part 6: loads, stores, parts, slices, operators. -/
import Derived.Test.YtheliocfcjkbhaaDoorV5
set_option linter.all false
namespace Go.V
open Go Go.RowKit
variable {P : Program} [Laid P] {B0 : Nat} {ι : List Place} {h : Heap} {w : World}

theorem tField_some {t f : Nat} {x : Nat × Nat} (hf : tField P t f = some x) : ∃ fs fl, P.underlying t = some (.struct fs) ∧ fs[f]? = some fl ∧ x = (fl.offset, fl.type) := by
  unfold tField at hf
  split at hf
  · rename_i fs hfs
    simp only [Option.map_eq_some_iff] at hf
    obtain ⟨fl, h1, h2⟩ := hf
    exact ⟨fs, fl, hfs, h1, h2.symm⟩
  · simp at hf
theorem tArr_some {t : Nat} {x : Nat × Nat} (hf : tArr P t = some x) : P.underlying t = some (.array x.1 x.2) := by
  unfold tArr at hf
  split at hf
  · rename_i n e he; simp at hf; subst hf; exact he
  · simp at hf
theorem tInt_some {t : Nat} {k : IntKind} (hf : tInt P t = some k) : P.underlying t = some (.int k) := by
  unfold tInt at hf
  split at hf
  · rename_i n he; simp at hf; subst hf; exact he
  · simp at hf
theorem kind_str {t : Nat} (hk : (tk P t).map (·.kind) = some 3) : P.underlying t = some .string := by
  cases hh : tk P t with
  | none => simp [hh] at hk
  | some k =>
    simp [hh] at hk
    obtain ⟨i, z, d, hi, hd, hz, hzc, hsz, hby, hcl, hzl, hs0, hb0, hkd, _, _⟩ := tk_info hh
    rw [hkd] at hk
    rw [hd]
    cases d <;> simp_all [kindOf]

theorem run_isAgg {t : Nat} {k : TK} (hk : tk P t = some k) (w : World) : (isAgg t).run P w = .ok k.agg w := by
  obtain ⟨i, z, d, hi, hd, hz, hzc, hsz, hby, hcl, hzl, hs0, hb0, hkd, hag, hfok⟩ := tk_info hk
  unfold isAgg
  rw [Sem.run_bind, run_underlying hd w, hag]
  cases d <;> simp [kindOf]

theorem run_sizeOf {t : Nat} {k : TK} (hk : tk P t = some k) (w : World) : (sizeOf t).run P w = .ok k.size w := by
  obtain ⟨i, z, d, hi, hd, hz, hzc, hsz, hby, hcl, hzl, hs0, hb0, hkd, hag, hfok⟩ := tk_info hk
  simp [sizeOf, typeInfo, hi, hsz]

theorem run_zeroValue {t : Nat} {k : TK} (hk : tk P t = some k) : ∃ z, z.cells.toList = k.zero ∧ ∀ w : World, (zeroValue t).run P w = .ok z w := by
  obtain ⟨i, z, d, hi, hd, hz, hzc, hsz, hby, hcl, hzl, hs0, hb0, hkd, hag, hfok⟩ := tk_info hk
  exact ⟨z, hzc, fun w => by simp [zeroValue, typeInfo, hi, hz]⟩

theorem load_sound (r : Rel P B0 ι h w) {t : TypeId} {a ua v : Value} (ha : VR ι a ua) (hv : loadV P t a h = some v) : ∃ u, (Instr.loadAt t ua).run P w = .ok u w ∧ VR ι v u := by
  unfold loadV at hv
  split at hv
  · rename_i b off k hk
    have hf := ha.flat_inv trivial
    cases hf with
    | base hb =>
      cases hb with
      | @ptr _ _ p hp =>
        split at hv
        · rename_i hag
          simp only [Option.map_eq_some_iff] at hv
          obtain ⟨cs, hcs, rfl⟩ := hv
          obtain ⟨us, h1, h2, h3⟩ := r.cells hcs hp
          have hl : us.length = k.size := by rw [← h1.length]; exact h2
          refine ⟨.agg us.toArray, ?_, .one (.agg h1)⟩
          have hrun := run_loadCells_list (P := P) w ⟨p.blk, p.base + off, none⟩ us h3
          rw [hl] at hrun
          simp [Instr.loadAt, Instr.sureAddr, loadVar, run_isAgg hk, run_sizeOf hk, hag, hrun]
        · rename_i hag
          simp only [Option.bind_eq_some_iff] at hv
          obtain ⟨blk, hb, hc⟩ := hv
          obtain ⟨u, hu, hr⟩ := r.cell hb hc hp
          refine ⟨u, ?_, .one (.flat hr)⟩
          simp [Instr.loadAt, Instr.sureAddr, loadVar, run_isAgg hk, hag, hu]
  · simp at hv

theorem store_sound (r : Rel P B0 ι h w) {t : TypeId} {a ua x ux : Value} {h' : Heap} (ha : VR ι a ua) (hx : VR ι x ux) (hv : storeV P t a x h = some h') :
    ∃ w', (Instr.storeAt t ua ux).run P w = .ok () w' ∧ Rel P B0 ι h' w' ∧ Below B0 w w' := by
  unfold storeV at hv
  split at hv
  · rename_i b off k cs hk hcs
    have hf := ha.flat_inv trivial
    cases hf with
    | base hb =>
      cases hb with
      | @ptr _ _ p hp =>
        split at hv
        · rename_i hlen
          obtain ⟨h1, h2⟩ := cellsV_inv hx hcs
          obtain ⟨w', hr, hR, hB⟩ := r.write hv hp h1
          refine ⟨w', ?_, hR, hB⟩
          have hsz : ux.cells.size = k.size := by omega
          simp [Instr.storeAt, Instr.sureAddr, storeVar, run_sizeOf hk, hsz, hr]
        · simp at hv
  · simp at hv

theorem part_sound {t : TypeId} {cs : List Value} {us : Array Value} {off : Nat} {v : Value} (hc : L2 (FR ι) cs us.toList) (hv : partV P t cs off = some v) : ∃ u, (∀ w : World, (part t us off).run P w = .ok u w) ∧ VR ι v u := by
  unfold partV at hv
  simp only [Option.bind_eq_some_iff] at hv
  obtain ⟨k, hk, hv⟩ := hv
  split at hv
  · rename_i hag
    simp only [Option.some.injEq] at hv; subst hv
    refine ⟨.agg (us.extract off (off + k.size)), fun w => by simp [part, run_isAgg hk, run_sizeOf hk, hag], ?_⟩
    have := VR.one (AR.agg ((hc.drop off).take k.size))
    have e : us.extract off (off + k.size) = ((us.toList.drop off).take k.size).toArray := by
      apply Array.ext'
      simp [Array.toList_extract, List.extract]
    rw [e]; exact this
  · rename_i hag
    obtain ⟨u, hu, hr⟩ := hc.get off v hv
    refine ⟨u, fun w => ?_, .one (.flat hr)⟩
    have hu' : us[off]? = some u := by simpa using hu
    simp [part, run_isAgg hk, hag, hu']

theorem field_sound {t f : Nat} {x ux v : Value} (hx : VR ι x ux) (hv : fieldV P t x f = some v) : ∃ u, (∀ w : World, (Instr.field t ux f).run P w = .ok u w) ∧ VR ι v u := by
  unfold fieldV at hv
  split at hv
  · rename_i cs
    simp only [Option.bind_eq_some_iff] at hv
    obtain ⟨⟨off, ft⟩, hf, hv⟩ := hv
    obtain ⟨fs, fl, h1, h2, h3⟩ := tField_some hf
    simp only [Prod.mk.injEq] at h3
    obtain ⟨rfl, rfl⟩ := h3
    obtain ⟨us, rfl, hl⟩ := hx.agg_inv
    obtain ⟨u, hu, hr⟩ := part_sound hl hv
    exact ⟨u, fun w => by simp [Instr.field, run_underlying h1, h2, asAgg, hu], hr⟩
  · simp at hv

theorem fieldAddr_sound {t f : Nat} {x ux v : Value} (hx : VR ι x ux) (hv : fieldAddrV P t x f = some v) : ∃ u, (∀ w : World, (Instr.fieldAt t ux f).run P w = .ok u w) ∧ VR ι v u := by
  unfold fieldAddrV at hv
  split at hv
  · rename_i b off
    simp only [Option.bind_eq_some_iff, Option.map_eq_some_iff] at hv
    obtain ⟨⟨o, ft⟩, hf, k, hk, rfl⟩ := hv
    obtain ⟨fs, fl, h1, h2, h3⟩ := tField_some hf
    simp only [Prod.mk.injEq] at h3
    obtain ⟨rfl, rfl⟩ := h3
    have hs0 : 0 < k.size := by obtain ⟨_, _, _, _, _, _, _, _, _, _, _, hs0, _⟩ := tk_info hk; exact hs0
    have hfl := hx.flat_inv trivial
    cases hfl with
    | base hb =>
      cases hb with
      | @ptr _ _ p hp =>
        refine ⟨.pointer (some ⟨p.blk, p.base + off + fl.offset, none⟩), fun w => ?_, .one (.flat (.base (by rw [Nat.add_assoc]; exact .ptr hp)))⟩
        have hne : k.size ≠ 0 := by omega
        simp [Instr.fieldAt, Instr.sureAddr, run_underlying h1, h2, fieldPlace, run_sizeOf hk, hne, addr_add]
  · simp at hv

theorem indexAddr_sound {t : Nat} {x ux i ui v : Value} (hx : VR ι x ux) (hi : VR ι i ui) (hv : indexAddrV P t x i = some v) : ∃ u, (∀ w : World, (Instr.indexAt t ux ui).run P w = .ok u w) ∧ VR ι v u := by
  unfold indexAddrV at hv
  split at hv
  · rename_i b off len cap k i
    have := hi.int_eq; subst this
    simp only [Option.bind_eq_some_iff] at hv
    obtain ⟨el, hel, k, hk, hv⟩ := hv
    have ht := tElem_some hel
    split at hv
    · rename_i hc
      simp only [Option.some.injEq] at hv; subst hv
      have hf := hx.flat_inv trivial
      cases hf with
      | base hb =>
        cases hb with
        | @slice _ _ _ _ p hp hcap =>
          refine ⟨.pointer (some ⟨p.blk, p.base + off + i.toNat * k.size, none⟩), fun w => ?_, .one (.flat (.base (by rw [Nat.add_assoc]; exact .ptr hp)))⟩
          simp [Instr.indexAt, asIntOf, run_underlying ht, hc, run_sizeOf hk, addr_add]
        | slice0 hp hc2 => simp at hc; omega
    · simp at hv
  · rename_i b off k i
    have := hi.int_eq; subst this
    simp only [Option.bind_eq_some_iff] at hv
    obtain ⟨⟨n, el⟩, hel, k, hk, hv⟩ := hv
    have ht := tArr_some hel
    split at hv
    · rename_i hc
      simp only [Option.some.injEq] at hv; subst hv
      have hf := hx.flat_inv trivial
      cases hf with
      | base hb =>
        cases hb with
        | @ptr _ _ p hp =>
          refine ⟨.pointer (some ⟨p.blk, p.base + off + i.toNat * k.size, none⟩), fun w => ?_, .one (.flat (.base (by rw [Nat.add_assoc]; exact .ptr hp)))⟩
          simp [Instr.indexAt, asIntOf, run_underlying ht, hc, run_sizeOf hk, addr_add, Instr.sureAddr]
    · simp at hv
  · simp at hv

theorem index_sound {t : Nat} {x ux i ui v : Value} (hx : VR ι x ux) (hi : VR ι i ui) (hv : indexV P t x i = some v) : ∃ u, (∀ w : World, (Instr.index t ux ui).run P w = .ok u w) ∧ VR ι v u := by
  unfold indexV at hv
  split at hv
  · rename_i s k i
    have := hi.int_eq; subst this
    have := hx.string_eq; subst this
    split at hv
    · rename_i hk
      have ht := kind_str hk
      simp only [Option.map_eq_some_iff] at hv
      obtain ⟨b, hb, rfl⟩ := hv
      exact ⟨.int .u8 b.toNat, fun w => by simp [Instr.index, asIntOf, run_underlying ht, hb], .closed rfl⟩
    · simp at hv
  · rename_i cs k i
    have := hi.int_eq; subst this
    simp only [Option.bind_eq_some_iff] at hv
    obtain ⟨⟨n, el⟩, hel, k, hk, hv⟩ := hv
    have ht := tArr_some hel
    split at hv
    · rename_i hc
      obtain ⟨us, rfl, hl⟩ := hx.agg_inv
      obtain ⟨u, hu, hr⟩ := part_sound hl hv
      exact ⟨u, fun w => by simp [Instr.index, asIntOf, run_underlying ht, hc, run_sizeOf hk, hu], hr⟩
    · simp at hv
  · simp at hv

theorem extract_sound {x ux v : Value} {i : Nat} (hx : VR ι x ux) (hv : extractV x i = some v) : ∃ u, (∀ w : World, (Instr.extract ux i).run P w = .ok u w) ∧ VR ι v u := by
  unfold extractV at hv
  split at hv
  · rename_i vs
    obtain ⟨us, rfl, hl⟩ := hx.tuple_inv (by rintro rfl; simp at hv)
    obtain ⟨u, hu, hr⟩ := hl.get i v hv
    have hu' : us[i]? = some u := by simpa using hu
    exact ⟨u, fun w => by simp [Instr.extract, hu'], .one hr⟩
  · simp at hv

theorem nilCheck_sound {x ux v : Value} (hx : VR ι x ux) (hv : nilCheckV x = some v) : x = v ∧ ((∃ a, ux = .pointer (some a)) ∨ ∃ f a b, ux = .func (.func f) a b) := by
  unfold nilCheckV at hv
  split at hv
  · simp at hv; subst hv
    have hf := hx.flat_inv trivial
    cases hf with
    | base hb => cases hb; exact ⟨rfl, .inl ⟨_, rfl⟩⟩
  · rename_i f a b
    simp at hv; subst hv
    have hf := hx.flat_inv trivial
    refine ⟨rfl, .inr ?_⟩
    generalize hg : Value.func (.func f) a b = g at hf
    cases hf with
    | base hb => subst hg; cases hb
    | func fn h1 h2 => simp at hg; obtain ⟨rfl, _, _⟩ := hg; exact ⟨_, _, _, rfl⟩
  · simp at hv
end Go.V
