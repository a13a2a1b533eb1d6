/- The layer V, part 9: operators, conversions, copy, max, min. -/
import Derived.Test.YtheliocfcjkbhaaDoorV8
set_option linter.all false
namespace Go.V
open Go Go.RowKit
variable {P : Program} [Laid P] {B0 : Nat} {ι : List Place} {h : Heap} {w : World}

theorem intV_sound {op : BinOp} {k : IntKind} {a b : Int} {v : Value} (hv : intV op k a b = some v) (hns : op ≠ .shl ∧ op ≠ .shr) (t : TypeId) : closed1 v = true ∧ ∀ w : World, (binOp op t (.int k a) (.int k b)).run P w = .ok v w := by
  cases op with
  | shl => simp at hns
  | shr => simp at hns
  | add => simp only [intV, Option.some.injEq] at hv; subst hv; exact ⟨rfl, fun w => by simp [binOp, Op.intArith]⟩
  | sub => simp only [intV, Option.some.injEq] at hv; subst hv; exact ⟨rfl, fun w => by simp [binOp, Op.intArith]⟩
  | mul => simp only [intV, Option.some.injEq] at hv; subst hv; exact ⟨rfl, fun w => by simp [binOp, Op.intArith]⟩
  | quo => simp [intV] at hv; obtain ⟨h0, rfl⟩ := hv; exact ⟨rfl, fun w => by simp [binOp, Op.intDiv, h0]⟩
  | rem => simp [intV] at hv; obtain ⟨h0, rfl⟩ := hv; exact ⟨rfl, fun w => by simp [binOp, Op.intDiv, h0]⟩
  | and => simp only [intV, bitsV, Option.some.injEq] at hv; subst hv; exact ⟨rfl, fun w => by simp only [binOp, ne_eq, not_true_eq_false, if_false, Op.intBits, Sem.run_pure]⟩
  | or => simp only [intV, bitsV, Option.some.injEq] at hv; subst hv; exact ⟨rfl, fun w => by simp only [binOp, ne_eq, not_true_eq_false, if_false, Op.intBits, Sem.run_pure]⟩
  | xor => simp only [intV, bitsV, Option.some.injEq] at hv; subst hv; exact ⟨rfl, fun w => by simp only [binOp, ne_eq, not_true_eq_false, if_false, Op.intBits, Sem.run_pure]⟩
  | andNot => simp only [intV, bitsV, Option.some.injEq] at hv; subst hv; exact ⟨rfl, fun w => by simp only [binOp, ne_eq, not_true_eq_false, if_false, Op.intBits, Sem.run_pure]⟩
  | eql => simp only [intV, Option.some.injEq] at hv; subst hv; exact ⟨rfl, fun w => by simp only [binOp, ne_eq, not_true_eq_false, if_false, Op.intCmp, Sem.run_pure]; rfl⟩
  | neq => simp only [intV, Option.some.injEq] at hv; subst hv; exact ⟨rfl, fun w => by simp only [binOp, ne_eq, not_true_eq_false, if_false, Op.intCmp, Sem.run_pure]; rfl⟩
  | lss => simp only [intV, Option.some.injEq] at hv; subst hv; exact ⟨rfl, fun w => by simp only [binOp, ne_eq, not_true_eq_false, if_false, Op.intCmp, Sem.run_pure]⟩
  | leq => simp only [intV, Option.some.injEq] at hv; subst hv; exact ⟨rfl, fun w => by simp only [binOp, ne_eq, not_true_eq_false, if_false, Op.intCmp, Sem.run_pure]⟩
  | gtr => simp only [intV, Option.some.injEq] at hv; subst hv; exact ⟨rfl, fun w => by simp only [binOp, ne_eq, not_true_eq_false, if_false, Op.intCmp, Sem.run_pure, gt_iff_lt]⟩
  | geq => simp only [intV, Option.some.injEq] at hv; subst hv; exact ⟨rfl, fun w => by simp only [binOp, ne_eq, not_true_eq_false, if_false, Op.intCmp, Sem.run_pure, ge_iff_le]⟩

theorem shiftV_sound {op : BinOp} {k k' : IntKind} {a b : Int} {v : Value} (hv : shiftV op k a b = some v) (t : TypeId) : closed1 v = true ∧ ∀ w : World, (binOp op t (.int k a) (.int k' b)).run P w = .ok v w := by
  unfold shiftV at hv
  split at hv
  · simp at hv
  · rename_i hb
    cases op <;> simp at hv <;> (subst hv; exact ⟨rfl, fun w => by simp [binOp, Op.shift, hb]⟩)

theorem strV_sound {op : BinOp} {a b : ByteArray} {v : Value} (hv : strV op a b = some v) (t : TypeId) : closed1 v = true ∧ ∀ w : World, (binOp op t (.string a) (.string b)).run P w = .ok v w := by
  cases op <;> simp only [strV] at hv <;> first
    | (simp at hv; done)
    | (simp only [Option.some.injEq] at hv; subst hv; exact ⟨rfl, fun w => by simp [binOp, Op.stringOp]⟩)
    | (split at hv
       · simp at hv
       · rename_i hc
         simp only [Option.some.injEq] at hv; subst hv
         exact ⟨rfl, fun w => by simp only [binOp, Op.stringOp, if_neg hc, Sem.run_pure]⟩)

theorem eqGuard_flat {op : BinOp} {t : TypeId} {x y : Operand} {a b : Value} (h1 : ¬ (a = .nilIface ∧ b = .nilIface)) (h2 : ¬ ((∃ c, a = .agg c) ∧ ∃ c, b = .agg c)) (w : World) : (eqGuard op t x y a b).run P w = .ok () w := by
  cases op <;> simp [eqGuard]
  all_goals
    cases a <;> try rfl
    · cases b <;> first | rfl | exact absurd ⟨rfl, rfl⟩ h1
    · cases b <;> first | rfl | exact absurd ⟨⟨_, rfl⟩, ⟨_, rfl⟩⟩ h2

theorem tk_kind {t : TypeId} {n : Nat} (hk : ((tk P t).map (·.kind)).getD 0 = n) (h0 : n ≠ 0) : ∃ d, P.underlying t = some d ∧ kindOf d = n := by
  cases hh : tk P t with
  | none => simp [hh] at hk; omega
  | some k =>
    obtain ⟨i, z, d, hi, hd, hz, hzc, hsz, hby, hcl, hzl, hs0, hb0, hkd, _⟩ := tk_info hh
    exact ⟨d, hd, by simp [hh] at hk; rw [← hkd]; exact hk⟩

theorem FR.junk_not {ι : List Place} {v u : Value} (r : FR ι v u) : u ≠ undef := by
  cases r with
  | base r => cases r <;> simp [undef]
  | func => simp [undef]

theorem BR.of_flat {v u : Value} (r : FR ι v u) (h : ∀ fn a b, v ≠ .func fn a b) : BR ι v u := by
  cases r with
  | base r => exact r
  | func fn h1 h2 => exact absurd rfl (h _ _ _)

theorem equalIn_sound {kind : Nat} {t : TypeId} {x y ux uy : Value} {b : Bool} (hk : ((tk P t).map (·.kind)).getD 0 = kind) (hx : VR ι x ux) (hy : VR ι y uy) (hv : eqV kind x y = some b) (d : Nat) (w : World) :
    (Op.equalIn (d + 1) t ux uy).run P w = .ok b w := by
  unfold eqV at hv
  split at hv
  · rename_i a c
    obtain ⟨d, hd, hkd⟩ := tk_kind hk (by decide)
    obtain rfl : d = .bool := by cases d <;> simp_all [kindOf]
    have := hx.bool_eq; subst this
    have := hy.bool_eq; subst this
    simp at hv; subst hv
    simp [Op.equalIn, run_underlying hd]
  · rename_i b'
    obtain ⟨d, hd, hkd⟩ := tk_kind hk (by decide)
    obtain ⟨e, rfl⟩ : ∃ e, d = .pointer e := by cases d <;> simp_all [kindOf]
    simp at hv; subst hv
    replace hx := BR.of_flat (hx.flat_inv trivial) (by simp)
    cases hx
    have hy := hy.flat_inv trivial
    cases hy with | base hy => cases hy <;> simp [Op.equalIn, run_underlying hd]
  · obtain ⟨d, hd, hkd⟩ := tk_kind hk (by decide)
    obtain ⟨e, rfl⟩ : ∃ e, d = .pointer e := by cases d <;> simp_all [kindOf]
    simp at hv; subst hv
    replace hx := BR.of_flat (hx.flat_inv trivial) (by simp)
    cases hx
    have hy := hy.flat_inv trivial
    cases hy with | base hy => cases hy <;> simp [Op.equalIn, run_underlying hd]
  · obtain ⟨d, hd, hkd⟩ := tk_kind hk (by decide)
    obtain ⟨e, rfl⟩ : ∃ e, d = .slice e := by cases d <;> simp_all [kindOf]
    simp at hv; subst hv
    replace hx := BR.of_flat (hx.flat_inv trivial) (by simp)
    cases hx
    have hy := hy.flat_inv trivial
    cases hy with | base hy => cases hy <;> simp [Op.equalIn, run_underlying hd]
  · obtain ⟨d, hd, hkd⟩ := tk_kind hk (by decide)
    obtain ⟨e, rfl⟩ : ∃ e, d = .slice e := by cases d <;> simp_all [kindOf]
    simp at hv; subst hv
    replace hy := BR.of_flat (hy.flat_inv trivial) (by simp)
    cases hy
    have hx := hx.flat_inv trivial
    cases hx with | base hx => cases hx <;> simp [Op.equalIn, run_underlying hd]
  · obtain ⟨d, hd, hkd⟩ := tk_kind hk (by decide)
    obtain ⟨e, rfl⟩ : ∃ e, d = .interface e := by cases d <;> simp_all [kindOf]
    simp at hv; subst hv
    replace hx := BR.of_flat (hx.flat_inv trivial) (by simp)
    cases hx
    have hy := hy.flat_inv trivial
    cases hy with | base hy => cases hy <;> simp [Op.equalIn, run_underlying hd]
  · obtain ⟨d, hd, hkd⟩ := tk_kind hk (by decide)
    obtain ⟨e, rfl⟩ : ∃ e, d = .interface e := by cases d <;> simp_all [kindOf]
    simp at hv; subst hv
    replace hy := BR.of_flat (hy.flat_inv trivial) (by simp)
    cases hy
    have hx := hx.flat_inv trivial
    cases hx with | base hx => cases hx <;> simp [Op.equalIn, run_underlying hd]
  · obtain ⟨d, hd, hkd⟩ := tk_kind hk (by decide)
    obtain ⟨e1, e2, e3, rfl⟩ : ∃ e1 e2 e3, d = .func e1 e2 e3 := by cases d <;> simp_all [kindOf]
    simp at hv; subst hv
    replace hx := BR.of_flat (hx.flat_inv trivial) (by simp)
    cases hx
    have hy := hy.flat_inv trivial
    cases hy with | base hy => cases hy <;> simp [Op.equalIn, run_underlying hd]
  · obtain ⟨d, hd, hkd⟩ := tk_kind hk (by decide)
    obtain ⟨e1, e2, e3, rfl⟩ : ∃ e1 e2 e3, d = .func e1 e2 e3 := by cases d <;> simp_all [kindOf]
    simp at hv; subst hv
    replace hx := BR.of_flat (hx.flat_inv trivial) (by simp)
    cases hx
    have hy := hy.flat_inv trivial
    generalize hg : Value.func _ _ _ = g at hy
    cases hy with
    | base hy => subst hg; cases hy
    | func fn h1 h2 => simp [Op.equalIn, run_underlying hd]
  · obtain ⟨d, hd, hkd⟩ := tk_kind hk (by decide)
    obtain ⟨e1, e2, e3, rfl⟩ : ∃ e1 e2 e3, d = .func e1 e2 e3 := by cases d <;> simp_all [kindOf]
    simp at hv; subst hv
    replace hy := BR.of_flat (hy.flat_inv trivial) (by simp)
    cases hy
    have hx := hx.flat_inv trivial
    generalize hg : Value.func _ _ _ = g at hx
    cases hx with
    | base hx => subst hg; cases hx
    | func fn h1 h2 => simp [Op.equalIn, run_underlying hd]
  · simp at hv

def eqForm : Value → Bool
  | .bool _ | .pointer _ | .slice _ _ _ | .nilIface | .iface _ _ | .nilFunc | .func _ _ _ => true
  | _ => false

theorem eqForm_VR {v u : Value} (r : VR ι v u) (h : eqForm v = true) : eqForm u = true ∧ (u = .nilIface → v = .nilIface) := by
  have r := r.flat_inv (by cases v <;> simp_all [eqForm])
  cases r with
  | base r => cases r <;> simp_all [eqForm]
  | func => simp_all [eqForm]

theorem eqV_form {kind : Nat} {x y : Value} {b : Bool} (hv : eqV kind x y = some b) : eqForm x = true ∧ eqForm y = true ∧ ¬ (x = .nilIface ∧ y = .nilIface) := by
  unfold eqV at hv
  split at hv <;> simp_all [eqForm]

/-- What eqV asks of the operands' forms. -/
theorem eqV_forms {kind : Nat} {x y ux uy : Value} {b : Bool} (hx : VR ι x ux) (hy : VR ι y uy) (hv : eqV kind x y = some b) :
    ¬ (ux = .nilIface ∧ uy = .nilIface) ∧ ¬ ((∃ c, ux = .agg c) ∧ ∃ c, uy = .agg c) ∧
      (∀ t, binOp .eql t ux uy = (do pure (.bool (← Op.equal t ux uy)))) ∧ (∀ t, binOp .neq t ux uy = (do pure (.bool (!(← Op.equal t ux uy))))) := by
  obtain ⟨k1, k2, k3⟩ := eqV_form hv
  obtain ⟨f1, f2⟩ := eqForm_VR hx k1
  obtain ⟨g1, g2⟩ := eqForm_VR hy k2
  refine ⟨fun ⟨a, b⟩ => k3 ⟨f2 a, g2 b⟩, ?_, ?_, ?_⟩
  · rintro ⟨⟨c, rfl⟩, _⟩; simp [eqForm] at f1
  · intro t; cases ux <;> simp [eqForm] at f1 <;> cases uy <;> simp [eqForm] at g1 <;> rfl
  · intro t; cases ux <;> simp [eqForm] at f1 <;> cases uy <;> simp [eqForm] at g1 <;> rfl

theorem bin_sound {op : BinOp} {t : TypeId} {x y ux uy v : Value} {xo yo : Operand} (hx : VR ι x ux) (hy : VR ι y uy) (hv : binV op (((tk P t).map (·.kind)).getD 0) x y = some v) :
    closed1 v = true ∧ ∀ w : World, ((do eqGuard op t xo yo ux uy; binOp op t ux uy : Sem Value)).run P w = .ok v w := by
  unfold binV at hv
  split at hv
  · rename_i k a k' b
    have := hx.int_eq; subst this
    have := hy.int_eq; subst this
    have hg := fun w => eqGuard_flat (P := P) (op := op) (t := t) (x := xo) (y := yo) (a := .int k a) (b := .int k' b) (by simp) (by simp) w
    suffices hh : closed1 v = true ∧ ∀ w : World, (binOp op t (.int k a) (.int k' b)).run P w = .ok v w from ⟨hh.1, fun w => by rw [Sem.run_bind, hg]; exact hh.2 w⟩
    split at hv
    · exact shiftV_sound hv t
    · exact shiftV_sound hv t
    · rename_i h1 h2
      split at hv
      · rename_i hkk; subst hkk
        exact intV_sound hv ⟨h1, h2⟩ t
      · simp at hv
  · rename_i a b
    have := hx.string_eq; subst this
    have := hy.string_eq; subst this
    have hg := fun w => eqGuard_flat (P := P) (op := op) (t := t) (x := xo) (y := yo) (a := .string a) (b := .string b) (by simp) (by simp) w
    obtain ⟨h1, h2⟩ := strV_sound (P := P) hv t
    exact ⟨h1, fun w => by rw [Sem.run_bind, hg]; exact h2 w⟩
  · split at hv
    · simp only [Option.map_eq_some_iff] at hv
      obtain ⟨b, hb, rfl⟩ := hv
      obtain ⟨f1, f2, f3, f4⟩ := eqV_forms hx hy hb
      refine ⟨rfl, fun w => ?_⟩
      rw [Sem.run_bind, eqGuard_flat f1 f2, Result.andThen_ok, f3]
      have : (Op.equal t ux uy).run P w = .ok b w := equalIn_sound rfl hx hy hb 9999 w
      simp [this]
    · simp only [Option.map_eq_some_iff] at hv
      obtain ⟨b, hb, rfl⟩ := hv
      obtain ⟨f1, f2, f3, f4⟩ := eqV_forms hx hy hb
      refine ⟨rfl, fun w => ?_⟩
      rw [Sem.run_bind, eqGuard_flat f1 f2, Result.andThen_ok, f4]
      have : (Op.equal t ux uy).run P w = .ok b w := equalIn_sound rfl hx hy hb 9999 w
      simp [this]
    · simp at hv

theorem un_sound {op : UnOp} {x ux v : Value} (hx : VR ι x ux) (hv : unV op x = some v) : closed1 v = true ∧ ∀ w : World, (Op.unary op ux).run P w = .ok v w := by
  unfold unV at hv
  split at hv
  · have := hx.int_eq; subst this
    simp only [Option.some.injEq] at hv; subst hv
    exact ⟨rfl, fun w => by simp [Op.unary, Op.intArith]⟩
  · have := hx.bool_eq; subst this
    simp only [Option.some.injEq] at hv; subst hv
    exact ⟨rfl, fun w => by simp [Op.unary]⟩
  · have := hx.int_eq; subst this
    simp only [bitsV, Option.some.injEq] at hv; subst hv
    exact ⟨rfl, fun w => by simp only [Op.unary, Op.intBits, Sem.run_pure]⟩
  · simp at hv

end Go.V
