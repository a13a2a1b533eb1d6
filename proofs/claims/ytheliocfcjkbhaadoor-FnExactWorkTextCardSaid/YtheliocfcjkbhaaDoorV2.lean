/- The layer V, part 2: lists place by place, values under a longer telling of places, plain values. -/
import Derived.Test.YtheliocfcjkbhaaDoorV1
set_option linter.all false
namespace Go.V
open Go Go.RowKit

namespace L2
variable {α β γ : Type} {R S : α → β → Prop}
theorem imp {l : List α} {m : List β} (h : ∀ a b, R a b → S a b) (hl : L2 R l m) : L2 S l m := by
  induction hl with
  | nil => exact .nil
  | cons ha _ ih => exact .cons (h _ _ ha) ih
theorem length {l : List α} {m : List β} (h : L2 R l m) : l.length = m.length := by
  induction h with
  | nil => rfl
  | cons _ _ ih => simp [ih]
theorem get {l : List α} {m : List β} (h : L2 R l m) : ∀ (i : Nat) (a : α), l[i]? = some a → ∃ b, m[i]? = some b ∧ R a b := by
  induction h with
  | nil => intro i a h; simp at h
  | cons hr _ ih =>
    intro i a hi
    cases i with
    | zero => simp at hi; subst hi; exact ⟨_, rfl, hr⟩
    | succ i => simpa using ih i a (by simpa using hi)
theorem of_get {l : List α} : ∀ {m : List β}, l.length = m.length → (∀ (i : Nat) a, l[i]? = some a → ∃ b, m[i]? = some b ∧ R a b) → L2 R l m := by
  induction l with
  | nil => intro m h _; cases m with | nil => exact .nil | cons => simp at h
  | cons a l ih =>
    intro m h hg
    cases m with
    | nil => simp at h
    | cons b m =>
      obtain ⟨b', hb, hr⟩ := hg 0 a rfl
      simp at hb; subst hb
      exact .cons hr (ih (by simpa using h) fun i a' ha => by simpa using hg (i + 1) a' (by simpa using ha))
theorem append {l l' : List α} {m m' : List β} (h : L2 R l m) (h' : L2 R l' m') : L2 R (l ++ l') (m ++ m') := by
  induction h with
  | nil => exact h'
  | cons hr _ ih => exact .cons hr ih
theorem take {l : List α} {m : List β} (h : L2 R l m) : ∀ n : Nat, L2 R (l.take n) (m.take n) := by
  induction h with
  | nil => intro n; simp; exact .nil
  | cons hr _ ih => intro n; cases n with | zero => exact .nil | succ n => exact .cons hr (ih n)
theorem drop {l : List α} {m : List β} (h : L2 R l m) : ∀ n : Nat, L2 R (l.drop n) (m.drop n) := by
  induction h with
  | nil => intro n; simp; exact .nil
  | cons hr hl ih => intro n; cases n with | zero => exact .cons hr hl | succ n => exact ih n
theorem map {δ : Type} {T : γ → δ → Prop} {f : α → γ} {g : β → δ} (hf : ∀ a b, R a b → T (f a) (g b)) {l : List α} {m : List β} (h : L2 R l m) : L2 T (l.map f) (m.map g) := by
  induction h with
  | nil => exact .nil
  | cons hr _ ih => exact .cons (hf _ _ hr) ih
theorem refl {R : α → α → Prop} {l : List α} (h : ∀ a ∈ l, R a a) : L2 R l l := by
  induction l with
  | nil => exact .nil
  | cons a l ih => exact .cons (h a (by simp)) (ih fun b hb => h b (by simp [hb]))
end L2

/-! ### a longer telling -/
theorem getElem?_pre {α : Type} {l m : List α} (h : l <+: m) {i : Nat} {a : α} (hi : l[i]? = some a) : m[i]? = some a := by
  obtain ⟨t, rfl⟩ := h
  rw [List.getElem?_append_left (by have := List.getElem?_eq_some_iff.1 hi; exact this.1)]; exact hi

theorem BR.pre {ι ι' : List Place} (h : ι <+: ι') {v u : Value} (r : BR ι v u) : BR ι' v u := by
  cases r with
  | int => exact .int _ _
  | bool => exact .bool _
  | string => exact .string _
  | nilp => exact .nilp
  | ptr h1 => exact .ptr (getElem?_pre h h1)
  | nils => exact .nils
  | slice h1 h2 => exact .slice (getElem?_pre h h1) h2
  | slice0 h1 h2 => exact .slice0 (getElem?_pre h h1) h2
  | nilI => exact .nilI
  | nilF => exact .nilF
  | tok => exact .tok _ _
theorem FR.pre {ι ι' : List Place} (h : ι <+: ι') {v u : Value} (r : FR ι v u) : FR ι' v u := by
  cases r with
  | base r => exact .base (r.pre h)
  | func fn a b => exact .func fn (a.imp fun _ _ => BR.pre h) (b.imp fun _ _ => BR.pre h)
theorem AR.pre {ι ι' : List Place} (h : ι <+: ι') {v u : Value} (r : AR ι v u) : AR ι' v u := by
  cases r with
  | junk => exact .junk _
  | skip => exact .skip
  | flat r => exact .flat (r.pre h)
  | agg r => exact .agg (r.imp fun _ _ => FR.pre h)
theorem VR.pre {ι ι' : List Place} (h : ι <+: ι') {v u : Value} (r : VR ι v u) : VR ι' v u := by
  cases r with
  | one r => exact .one (r.pre h)
  | tup r => exact .tup (r.imp fun _ _ => AR.pre h)

/-! ### values -/
theorem FR.flat {ι : List Place} {v u : Value} (r : FR ι v u) : u.cells = #[u] ∧ cellsV v = some [v] ∧ u.oneCell' = true := by
  cases r with
  | base r => cases r <;> simp [Value.cells, cellsV, Value.oneCell']
  | func => simp [Value.cells, cellsV, Value.oneCell']

theorem BR.closed {ι : List Place} {v : Value} (h : closed1 v = true) : BR ι v v := by
  cases v with
  | int => exact .int _ _
  | bool => exact .bool _
  | string => exact .string _
  | pointer a => cases a with | none => exact .nilp | some => simp [closed1] at h
  | slice a l c => cases a with
    | none => simp [closed1] at h; obtain ⟨rfl, rfl⟩ := h; exact .nils
    | some => simp [closed1] at h
  | nilIface => exact .nilI
  | nilFunc => exact .nilF
  | _ => simp [closed1] at h
theorem FR.closed {ι : List Place} {v : Value} (h : closed1 v = true) : FR ι v v := .base (.closed h)
theorem FR.closed_eq {ι : List Place} {v u : Value} (h : closed1 v = true) (r : FR ι v u) : u = v := by
  cases r with
  | base r => cases r <;> simp_all [closed1]
  | func => simp [closed1] at h
theorem L2.closed {ι : List Place} {l : List Value} (h : l.all closed1 = true) : L2 (FR ι) l l :=
  L2.refl fun a ha => .closed (by simpa using List.all_eq_true.1 h a ha)
theorem L2.closed_eq {ι : List Place} {l m : List Value} (r : L2 (FR ι) l m) (h : l.all closed1 = true) : m = l := by
  induction r with
  | nil => rfl
  | cons hr _ ih => simp at h; rw [FR.closed_eq h.1 hr, ih (by simpa using h.2)]
theorem closed1_cases {v : Value} (h : closed1 v = true) : v ≠ UN ∧ v ≠ SK ∧ (∀ a, v ≠ .agg a) ∧ (∀ a, v ≠ .tuple a) := by
  cases v <;> simp_all [closed1]
theorem AR.closed {ι : List Place} {v : Value} (h : closedA v = true) : AR ι v v := by
  cases v with
  | agg cs =>
    have : AR ι (.agg cs.toList.toArray) (.agg cs.toList.toArray) := .agg (L2.closed h)
    simpa using this
  | _ => exact .flat (.closed h)
theorem AR.closed_eq {ι : List Place} {v u : Value} (h : closedA v = true) (r : AR ι v u) : u = v := by
  cases r with
  | junk => simp [closedA, closed1] at h
  | skip => simp [closedA, closed1] at h
  | flat r =>
    refine FR.closed_eq ?_ r
    cases r with
    | base r => cases r <;> simpa [closedA] using h
    | func => simpa [closedA] using h
  | agg r =>
    have := L2.closed_eq r (by simpa [closedA] using h)
    rw [this]
theorem VR.closed_eq {ι : List Place} {v u : Value} (h : closedA v = true) (r : VR ι v u) : u = v := by
  cases r with
  | one r => exact r.closed_eq h
  | tup r => simp [closedA, closed1] at h
theorem VR.closed {ι : List Place} {v : Value} (h : closedA v = true) : VR ι v v := .one (.closed h)

/-- A known number, bool or string is that in the machine. -/
theorem VR.int_eq {ι : List Place} {k : IntKind} {n : Int} {u : Value} (r : VR ι (.int k n) u) : u = .int k n := r.closed_eq rfl
theorem VR.bool_eq {ι : List Place} {b : Bool} {u : Value} (r : VR ι (.bool b) u) : u = .bool b := r.closed_eq rfl
theorem VR.string_eq {ι : List Place} {s : ByteArray} {u : Value} (r : VR ι (.string s) u) : u = .string s := r.closed_eq rfl
theorem VR.skip_eq {ι : List Place} {u : Value} (r : VR ι SK u) : u = undef := by
  cases r with
  | one r =>
    cases r with
    | skip => rfl
    | flat r => cases r with | base r => cases r
theorem VR.tuple_inv {ι : List Place} {vs : Array Value} {u : Value} (h : vs ≠ #[]) (r : VR ι (.tuple vs) u) : ∃ us, u = .tuple us ∧ L2 (AR ι) vs.toList us.toList := by
  generalize hv : Value.tuple vs = v at r
  cases r with
  | one r =>
    cases r with
    | junk => simp at hv; exact absurd hv h
    | skip => cases hv
    | flat r => subst hv; cases r with | base r => cases r
    | agg r => cases hv
  | tup r =>
    rename_i a b
    simp at hv; subst hv
    exact ⟨b.toArray, rfl, by simpa using r⟩
theorem VR.agg_inv {ι : List Place} {cs : Array Value} {u : Value} (r : VR ι (.agg cs) u) : ∃ us, u = .agg us ∧ L2 (FR ι) cs.toList us.toList := by
  generalize hv : Value.agg cs = v at r
  cases r with
  | one r =>
    cases r with
    | junk => cases hv
    | skip => cases hv
    | flat r => subst hv; cases r with | base r => cases r
    | agg r =>
      rename_i a b
      simp at hv; subst hv
      exact ⟨b.toArray, rfl, by simpa using r⟩
  | tup r => cases hv
theorem VR.flat_inv {ι : List Place} {v u : Value} (r : VR ι v u) (h : match v with | .agg _ | .tuple _ | .float _ _ => False | _ => True) : FR ι v u := by
  cases r with
  | one r =>
    cases r with
    | junk => exact h.elim
    | skip => exact h.elim
    | flat r => exact r
    | agg r => exact h.elim
  | tup r => exact h.elim
theorem cellsV_inv {ι : List Place} {v u : Value} {cs : List Value} (r : VR ι v u) (h : cellsV v = some cs) : L2 (FR ι) cs u.cells.toList ∧ (cs.length = u.cells.size) := by
  suffices hh : L2 (FR ι) cs u.cells.toList from ⟨hh, by simpa using hh.length⟩
  cases v with
  | agg a =>
    obtain ⟨us, rfl, r'⟩ := r.agg_inv
    simp [cellsV] at h; subst h
    exact r'
  | tuple a => simp [cellsV] at h
  | float k n => simp [cellsV] at h
  | _ =>
    have r := r.flat_inv trivial
    simp [cellsV] at h; subst h
    rw [r.flat.1]
    exact .cons r .nil

/-! ### slots -/
/-- The machine's slots, and the abstract ones. -/
structure EnvR (ι : List Place) (n : Nat) (e : Env) (a : Act) : Prop where
  size : a.tmps.size = n
  defers : a.defers = []
  at_ : ∀ t, t < n → VR ι (e t) (a.tmps.getD t undef)

theorem EnvR.pre {ι ι' : List Place} {n : Nat} {e : Env} {a : Act} (h : ι <+: ι') (r : EnvR ι n e a) : EnvR ι' n e a := ⟨r.size, r.defers, fun t ht => (r.at_ t ht).pre h⟩

theorem EnvR.put {ι : List Place} {n : Nat} {e : Env} {a : Act} (r : EnvR ι n e a) {d : Option Tmp} (hd : ∀ t, d = some t → t < n) {v u : Value} (h : VR ι v u) : EnvR ι n (putV e d v) (a.put d u) := by
  cases d with
  | none => exact r
  | some t =>
    refine ⟨by simpa [Act.put] using r.size, r.defers, fun s hs => ?_⟩
    have hz := r.size
    by_cases hst : s = t
    · subst hst
      simpa [putV, upd, Act.put, hz, hs] using h
    · have := r.at_ s hs
      simpa [putV, upd, hst, Act.put, Array.getElem?_setIfInBounds, Ne.symm hst] using this

theorem closeV_VR (ι : List Place) (v : Value) : VR ι (closeV v) v := by
  unfold closeV
  split
  · rename_i h
    exact .one (.flat (.closed h))
  · split
    · rename_i cs
      split
      · rename_i h; exact .closed h
      · exact .one (.junk _)
    · exact .one (.junk _)

theorem EnvR.eval {ι : List Place} {n : Nat} {e : Env} {a : Act} (r : EnvR ι n e a) {x : Operand} (hx : ∀ t, x = .tmp t → t < n) : VR ι (evO e x) (a.eval x) := by
  cases x with
  | tmp t => exact r.at_ t (hx t rfl)
  | const v => exact closeV_VR ι v
  | global g => exact .one (.junk _)
  | func f =>
    refine .one (.flat ?_)
    have : FR ι (.func (.func f) (List.toArray []) (List.toArray [])) (.func (.func f) (List.toArray []) (List.toArray [])) := .func _ .nil .nil
    exact this

end Go.V
