/- Contracts of functions, facts of types, or the plain law behind one statement (own work): DS. Conditions: those told in each theorem. -/
import Derived.Test.YtkapgaajomaheaaGreatDoorTF
set_option linter.all false
set_option linter.unusedSimpArgs false
set_option linter.unusedVariables false
set_option maxRecDepth 4000
namespace Go.V
open Go Go.RowKit
/- Large regions that draw: their operations without what only the order needs. -/
abbrev Slim := Option Tmp × Op × Option (Option Tmp × Bool)
def slimO (all : Array Oper) (o : Oper) : Slim := (o.dst, o.op, match o.guard with | none => none | some (j, w) => some ((all[j]?).bind (·.dst), w))
section
variable (P : Program) [Laid P]
def opsS : List Slim → Env → Heap → Held → (Env → Heap → Held → Prop) → Prop
  | [], e, h, held, K => K e h held
  | (d, op, none) :: os, e, h, held, K => opD P op e h held fun v h held => opsS os (putV e d v) h held K
  | (d, op, some (some s, w)) :: os, e, h, held, K => match e s with
    | .bool b => if b = w then opD P op e h held fun v h held => opsS os (putV e d v) h held K else opsS os (putV e d SK) h held K
    | .float _ _ => opsS os (putV e d SK) h held K
    | _ => False
  | (_, _, some (none, _)) :: _, _, _, _, _ => False
def SLK (os : List Slim) (d : Option Tmp) (e : Env) (K : Env → Heap → Held → Prop) : Value → Heap → Held → Prop := fun v h held => opsS P os (putV e d v) h held K
def guardS (g : Value) (w : Bool) (op : Op) (d : Option Tmp) (os : List Slim) (e : Env) (h : Heap) (held : Held) (K : Env → Heap → Held → Prop) : Prop := match g with
  | .bool b => if b = w then opD P op e h held (SLK P os d e K) else opsS P os (putV e d SK) h held K
  | .float _ _ => opsS P os (putV e d SK) h held K
  | _ => False
variable (e : Env) (h : Heap)
theorem sl_nil (held : Held) (K : Env → Heap → Held → Prop) : opsS P [] e h held K = K e h held := propext Iff.rfl
theorem sl_cons (held : Held) (K : Env → Heap → Held → Prop) (d : Option Tmp) (op : Op) (os : List Slim) : opsS P ((d, op, none) :: os) e h held K = opD P op e h held (SLK P os d e K) := propext Iff.rfl
theorem sl_guard (held : Held) (K : Env → Heap → Held → Prop) (d : Option Tmp) (op : Op) (s : Tmp) (w : Bool) (os : List Slim) : opsS P ((d, op, some (some s, w)) :: os) e h held K = guardS P (e s) w op d os e h held K := propext Iff.rfl
theorem sl_K (os : List Slim) (d : Option Tmp) (K : Env → Heap → Held → Prop) (v : Value) (held : Held) : SLK P os d e K v h held = opsS P os (putV e d v) h held K := propext Iff.rfl
theorem sl_bool (b w : Bool) (op : Op) (d : Option Tmp) (os : List Slim) (held : Held) (K : Env → Heap → Held → Prop) : guardS P (.bool b) w op d os e h held K = if b = w then opD P op e h held (SLK P os d e K) else opsS P os (putV e d SK) h held K := propext Iff.rfl
theorem sl_tt (op : Op) (d : Option Tmp) (os : List Slim) (held : Held) (K : Env → Heap → Held → Prop) : guardS P (.bool true) true op d os e h held K = opD P op e h held (SLK P os d e K) := propext Iff.rfl
theorem sl_ff (op : Op) (d : Option Tmp) (os : List Slim) (held : Held) (K : Env → Heap → Held → Prop) : guardS P (.bool false) false op d os e h held K = opD P op e h held (SLK P os d e K) := propext Iff.rfl
theorem sl_tf (op : Op) (d : Option Tmp) (os : List Slim) (held : Held) (K : Env → Heap → Held → Prop) : guardS P (.bool true) false op d os e h held K = opsS P os (putV e d SK) h held K := propext Iff.rfl
theorem sl_ft (op : Op) (d : Option Tmp) (os : List Slim) (held : Held) (K : Env → Heap → Held → Prop) : guardS P (.bool false) true op d os e h held K = opsS P os (putV e d SK) h held K := propext Iff.rfl
theorem sl_skip (w : Bool) (op : Op) (d : Option Tmp) (os : List Slim) (held : Held) (K : Env → Heap → Held → Prop) : guardS P SK w op d os e h held K = opsS P os (putV e d SK) h held K := propext Iff.rfl
end
theorem opsE_slim {P : Program} [Laid P] {all : Array Oper} : ∀ {os : List Oper} {e : Env} {h : Heap} {held : Held} {K : Env → Heap → Held → Prop}, opsS P (os.map (slimO all)) e h held K → opsE P all os e h held K := by
  intro os
  induction os with
  | nil => intro e h held K hs; exact hs
  | cons o os ih =>
    intro e h held K hs
    have run : opD P o.op e h held (fun v h held => opsS P (os.map (slimO all)) (putV e o.dst v) h held K) → guardV all o e = some true → opsE P all (o :: os) e h held K := by
      intro hs hg
      unfold opsE
      simp only [hg]
      unfold opD loadD at hs
      revert hs
      cases o.op with
      | load t a =>
        simp only []
        cases loadV P t (evO e a) h with
        | none => exact id
        | some v => exact ih
      | _ =>
        simp only []
        refine fun hs => opV_mono (fun v h' hv => ?_) hs
        unfold HK at hv
        split at hv
        · rename_i he
          rw [if_pos he]
          exact ⟨hv.1, ih hv.2⟩
        · rename_i he
          rw [if_neg he]
          exact ih hv
    rw [List.map_cons] at hs
    have off : opsS P (os.map (slimO all)) (putV e o.dst SK) h held K → guardV all o e = some false → opsE P all (o :: os) e h held K := by
      intro hs hg
      unfold opsE
      simp only [hg]
      exact ih hs
    cases hg : o.guard with
    | none =>
      have e1 : slimO all o = (o.dst, o.op, none) := by unfold slimO; rw [hg]
      rw [e1] at hs
      exact run hs (by unfold guardV; rw [hg])
    | some jw =>
      obtain ⟨j, w⟩ := jw
      cases hd : (all[j]?).bind (·.dst) with
      | none =>
        have e1 : slimO all o = (o.dst, o.op, some (none, w)) := by unfold slimO; rw [hg]; simp only [hd]
        rw [e1] at hs
        exact hs.elim
      | some s =>
        have e1 : slimO all o = (o.dst, o.op, some (some s, w)) := by unfold slimO; rw [hg]; simp only [hd]
        rw [e1, sl_guard] at hs
        have gv : guardV all o e = match e s with | .bool b => some (b == w) | .float _ _ => some false | _ => none := by
          unfold guardV
          rw [hg]
          simp only [hd]
          cases e s <;> rfl
        unfold guardS at hs
        cases hes : e s with
        | bool b =>
          rw [hes] at hs gv
          simp only [] at hs gv
          by_cases hb : b = w
          · rw [if_pos hb] at hs
            exact run hs (by rw [gv, hb, beq_self_eq_true])
          · rw [if_neg hb] at hs
            exact off hs (by rw [gv]; simpa using hb)
        | float k n =>
          rw [hes] at hs gv
          exact off hs gv
        | _ => rw [hes] at hs; exact hs.elim
theorem draw_slim {P : Program} [Laid P] {l : List Oper} {l' : List Slim} {e : Env} {h : Heap} {K : Env → Heap → Prop} (order : List Nat) (hok : drawOk P l.toArray order = true) (hl : (order.filterMap (l[·]?)).map (slimO l.toArray) = l')
    (hd : opsS P l' e h [] fun e h _ => K e h) : drawK P l e h K := draw_ord order hok rfl (opsE_slim (by rw [hl]; exact hd))
end Go.V
