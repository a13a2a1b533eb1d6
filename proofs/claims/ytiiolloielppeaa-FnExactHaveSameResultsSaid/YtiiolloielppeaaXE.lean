/- Contracts of functions, facts of types, or the plain law behind one statement (own work): XE. Conditions: those told in each theorem. -/
import Derived.Test.YtiiolloielppeaaXB
set_option linter.all false
set_option linter.unusedSimpArgs false
set_option linter.unusedVariables false
set_option maxRecDepth 4000
namespace Go.Proofs
open Go Go.V
/- Three cells as they are: a box that is moved about without being looked into. -/
structure Raw3 where
  c : List Value
  hc : c.length = 3
instance : Rep Raw3 where
  sz := 3
  rep := fun _ x cs fp => cs = x.c ∧ fp = []
  len := fun {_ x _ _} h => by rw [h.1]; exact x.hc
  frame := fun h _ => h
  live := fun h b hb => by rw [h.2] at hb; simp at hb
instance : FlatT Raw3 := ⟨fun h => h.2⟩
def RelB (h : Heap) : List Bx → List Raw3 → Prop
  | [], [] => True
  | x :: l, r :: m => Here h x r.c ∧ RelB h l m
  | _, _ => False
theorem RelB.mono {h h' : Heap} (E : Ext h h') : ∀ {l : List Bx} {m : List Raw3}, RelB h l m → RelB h' l m
  | [], [], _ => trivial
  | x :: l, r :: m, ⟨h1, h2⟩ => ⟨h1.mono E, h2.mono E⟩
  | [], _ :: _, h => h.elim
  | _ :: _, [], h => h.elim
theorem RelB.app {h : Heap} : ∀ {l : List Bx} {m : List Raw3} {l' : List Bx} {m' : List Raw3}, RelB h l m → RelB h l' m' → RelB h (l ++ l') (m ++ m')
  | [], [], _, _, _, k => k
  | x :: l, r :: m, _, _, ⟨h1, h2⟩, k => ⟨h1, h2.app k⟩
  | [], _ :: _, _, _, h, _ => h.elim
  | _ :: _, [], _, _, h, _ => h.elim
theorem RelB.len {h : Heap} : ∀ {l : List Bx} {m : List Raw3}, RelB h l m → m.length = l.length
  | [], [], _ => rfl
  | x :: l, r :: m, ⟨h1, h2⟩ => by rw [List.length_cons, List.length_cons, h2.len]
  | [], _ :: _, h => h.elim
  | _ :: _, [], h => h.elim
theorem Cells.raw {h : Heap} : ∀ {l : List Bx} {cs : List Value} {fps : List (List Nat)}, Cells h l cs fps → ∃ m : List Raw3, RelB h l m ∧ ∃ fps', Cells h m cs fps' ∧ fps'.flatten = []
  | [], cs, fps, hc => ⟨[], trivial, [], ⟨hc.1, rfl⟩, rfl⟩
  | x :: l, cs, fps, ⟨c, f, cs', fps', e1, e2, hr, hc⟩ => by
    obtain ⟨m, h1, fq, h2, h3⟩ := Cells.raw hc
    exact ⟨⟨c, Rep.len hr⟩ :: m, ⟨⟨f, hr⟩, h1⟩, [] :: fq, ⟨c, [], cs', fq, e1, rfl, ⟨rfl, rfl⟩, h2⟩, by simpa using h3⟩
theorem Cells.unraw {h : Heap} : ∀ {l : List Bx} {m : List Raw3} {cs : List Value} {fps : List (List Nat)}, RelB h l m → Cells h m cs fps → ∃ fps', Cells h l cs fps'
  | [], [], cs, fps, _, hc => ⟨[], hc.1, rfl⟩
  | x :: l, r :: m, cs, fps, ⟨⟨f0, h1⟩, h2⟩, ⟨c, f, cs', fps', e1, e2, hr, hc⟩ => by
    obtain ⟨fq, hq⟩ := Cells.unraw h2 hc
    obtain ⟨rfl, rfl⟩ := hr
    exact ⟨f0 :: fq, r.c, f0, cs', fq, e1, rfl, h1, hq⟩
  | [], _ :: _, _, _, h, _ => h.elim
  | _ :: _, [], _, _, h, _ => h.elim
theorem Row.raw {h : Heap} {l : List Bx} {v : Value} (r : Row h l v) : ∃ m : List Raw3, RelB h l m ∧ Row h m v := by
  obtain ⟨fp, h1, h2, h3⟩ := r
  rcases h3 with ⟨rfl, rfl⟩ | ⟨cs, fps, g1, g2, rfl, hc⟩
  · exact ⟨[], trivial, [], h1, by simp, .inl ⟨rfl, rfl⟩⟩
  · obtain ⟨m, k1, fq, k2, k3⟩ := Cells.raw hc
    have hl := k1.len
    exact ⟨m, k1, rowB v :: fq.flatten, by rw [hl]; exact h1, by rw [hl]; exact h2, .inr ⟨cs, fq, g1, by rw [hl]; exact g2, rfl, k2⟩⟩
theorem Row.unraw {h : Heap} {l : List Bx} {m : List Raw3} {v : Value} (k : RelB h l m) (r : Row h m v) : Row h l v := by
  have hl := k.len
  obtain ⟨fp, h1, h2, h3⟩ := r
  rcases h3 with ⟨rfl, rfl⟩ | ⟨cs, fps, g1, g2, rfl, hc⟩
  · cases l with
    | nil => exact ⟨[], h1, by simp, .inl ⟨rfl, rfl⟩⟩
    | cons x l => simp at hl
  · obtain ⟨fq, hq⟩ := Cells.unraw k hc
    exact ⟨rowB v :: fq.flatten, by rw [← hl]; exact h1, by rw [← hl]; exact h2, .inr ⟨cs, fq, g1, by rw [← hl]; exact g2, rfl, hq⟩⟩
end Go.Proofs
