/- The layer V, part 29: regions whose last operations may stand in any order. -/
import Derived.Test.YtheliocfcjkbhaaDoorV28
set_option linter.all false
namespace Go.V
open Go Go.RowKit

/-- Which operations may come next, and what is left behind each. -/
def planOf (ms : List Nat) (rem : List Nat) : List (Nat × List Nat) := (rem.filter fun i => rem.all fun y => !(ms.getD i 0).testBit y).map fun i => (i, rem.filter (· != i))
def altK (P : Program) [Laid P] (all : Array Oper) (ms : List Nat) (K : Env → Heap → Prop) (n : Nat) (e : Env) (h : Heap) (held : Held) : List (Nat × List Nat) → Prop
  | [] => True
  | x :: l => (match all[x.1]? with | some o => opsE P all [o] e h held fun e h held => tailK P all ms K n x.2 e h held | none => False) ∧ altK P all ms K n e h held l
theorem altK_mem {P : Program} [Laid P] {all : Array Oper} {ms : List Nat} {K : Env → Heap → Prop} {n : Nat} {e : Env} {h : Heap} {held : Held} {l : List (Nat × List Nat)} (ha : altK P all ms K n e h held l) {x : Nat × List Nat} (hx : x ∈ l) :
    ∃ o, all[x.1]? = some o ∧ opsE P all [o] e h held fun e h held => tailK P all ms K n x.2 e h held := by
  induction l with
  | nil => simp at hx
  | cons y l ih =>
    obtain ⟨h1, h2⟩ := ha
    rcases List.mem_cons.1 hx with rfl | hx
    · split at h1
      · rename_i o ho; exact ⟨o, ho, h1⟩
      · exact h1.elim
    · exact ih h2 hx
theorem tail_step {P : Program} [Laid P] {all : Array Oper} {ms : List Nat} {K : Env → Heap → Prop} {n : Nat} {rem : List Nat} {e : Env} {h : Heap} {held : Held} (plan : List (Nat × List Nat)) (hp : planOf ms rem = plan)
    (ha : altK P all ms K n e h held plan) : tailK P all ms K (n + 1) rem e h held := by
  intro i hi hm
  refine altK_mem ha (x := (i, rem.filter (· != i))) ?_
  rw [← hp]
  exact List.mem_map.2 ⟨i, List.mem_filter.2 ⟨hi, hm⟩, rfl⟩
theorem draw_tail {P : Program} [Laid P] {l lp : List Oper} {e : Env} {h : Heap} {K : Env → Heap → Prop} (pre tail : List Nat) (hok : drawOk2 P l.toArray pre tail = true) (hl : pre.filterMap (l[·]?) = lp)
    (hd : opsE P l.toArray lp e h [] fun e h held => tailK P l.toArray (masks [] l.toArray.toList) K tail.length tail e h held) : drawK P l e h K := by
  refine .inr ⟨pre, tail, hok, ?_⟩
  have : (fun x : Nat => l.toArray[x]?) = (fun x : Nat => l[x]?) := by funext x; simp
  rw [this, hl]; exact hd
theorem a_nil (P : Program) [Laid P] (all : Array Oper) (ms : List Nat) (K : Env → Heap → Prop) (n : Nat) (e : Env) (h : Heap) (held : Held) : altK P all ms K n e h held [] = True := rfl
theorem a_cons (P : Program) [Laid P] (l : List Oper) (ms : List Nat) (K : Env → Heap → Prop) (n : Nat) (e : Env) (h : Heap) (held : Held) (i : Nat) (r : List Nat) (q : List (Nat × List Nat)) :
    altK P l.toArray ms K n e h held ((i, r) :: q) = ((match l[i]? with | some o => opsE P l.toArray [o] e h held fun e h held => tailK P l.toArray ms K n r e h held | none => False) ∧ altK P l.toArray ms K n e h held q) := by
  simp only [altK, List.getElem?_toArray]
theorem tail_zero (P : Program) [Laid P] (all : Array Oper) (ms : List Nat) (K : Env → Heap → Prop) (r : List Nat) (e : Env) (h : Heap) (held : Held) : tailK P all ms K 0 r e h held = K e h := rfl
def VC := And.intro @a_nil (And.intro @a_cons @tail_zero)
end Go.V
