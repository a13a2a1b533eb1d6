/- Contracts of functions, facts of types, or the plain law behind one statement (own work): ZD. Conditions: those told in each theorem. -/
import Derived.Test.YtiiolloielppeaaZC
set_option linter.all false
set_option linter.unusedSimpArgs false
set_option linter.unusedVariables false
set_option maxRecDepth 4000
namespace Go.Proofs
open Go Go.V
/- Two places change. -/
theorem sw_get {α : Type} (P M T : List α) (u w : α) {i j : Nat} (hi : P.length = i) (hj : P.length + 1 + M.length = j) : (P ++ u :: (M ++ w :: T))[i]? = some u ∧ (P ++ u :: (M ++ w :: T))[j]? = some w := by
  subst hi hj
  refine ⟨by simp, ?_⟩
  rw [List.getElem?_append_right (by omega), show P.length + 1 + M.length - P.length = M.length + 1 by omega, List.getElem?_cons_succ, List.getElem?_append_right (by omega), Nat.sub_self]
  rfl
theorem set_at {α : Type} (P T : List α) (u w : α) {i : Nat} (hi : P.length = i) : (P ++ u :: T).set i w = P ++ w :: T := by
  subst hi
  rw [List.set_append_right _ _ (Nat.le_refl _), Nat.sub_self, List.set_cons_zero]
theorem sw_set {α : Type} (P M T : List α) (u w : α) {i j : Nat} (hi : P.length = i) (hj : P.length + 1 + M.length = j) : ((P ++ u :: (M ++ w :: T)).set i w).set j u = P ++ w :: (M ++ u :: T) ∧ ((P ++ u :: (M ++ w :: T)).set j u).set i w = P ++ w :: (M ++ u :: T) := by
  have e : ∀ (a b : α), P ++ a :: (M ++ b :: T) = (P ++ a :: M) ++ b :: T := fun a b => by simp
  have hl : ∀ a : α, (P ++ a :: M).length = j := fun a => by simp; omega
  constructor
  · rw [set_at _ _ _ _ hi, e, set_at _ _ _ _ (hl w), ← e]
  · rw [e, set_at _ _ _ _ (hl u), ← e, set_at _ _ _ _ hi]
theorem sw_perm {α : Type} (P M T : List α) (u w : α) : (P ++ u :: (M ++ w :: T)).Perm (P ++ w :: (M ++ u :: T)) := by
  refine List.Perm.append_left P ?_
  have e : ∀ a b : α, (a :: (M ++ b :: T)).Perm (a :: b :: (M ++ T)) := fun a b => List.Perm.cons a List.perm_middle
  exact (e u w).trans ((List.Perm.swap w u _).trans (e w u).symm)
theorem raws_set (z : List El) (i : Nat) (p : El) : (raws z).set i p.2 = raws (z.set i p) := by
  unfold raws; rw [List.map_set]
theorem raw_rep {h : Heap} (r : Raw3) : Rep.rep h r r.c [] := ⟨rfl, rfl⟩
/-- Two elements change places: from the first store to the second. -/
theorem St.swap2 {a h : Heap} {L : List Asr} {P M T : List El} {u w : El} {v : Value} {i j : Nat} {K : Value → Heap → Prop}
    (s : St a h (P ++ u :: (M ++ w :: T)) v L) (hi : P.length = i) (hj : P.length + 1 + M.length = j)
    (next : ∀ h', Sep a h' (ownA (α := Raw3) 42 ((raws (P ++ u :: (M ++ w :: T))).set j u.2) v :: inA (P ++ u :: (M ++ w :: T)) :: L) → K UN h') : stK (writeB h (rowB v) (rowO v + j * 3) u.2.c) K := by
  have sp : Sep a h (ownA (α := Raw3) 42 (raws (P ++ u :: (M ++ w :: T))) v :: repA u.2 u.2.c :: inA (P ++ u :: (M ++ w :: T)) :: L) := (Sep.rep0 (x := u.2) (cs := u.2.c) s (raw_rep u.2)).swap
  exact sep_set (i := j) sp (by simp; omega) next
theorem St.swap1 {a h : Heap} {L : List Asr} {P M T : List El} {u w : El} {v : Value} {i j : Nat} {K : Value → Heap → Prop}
    (s : St a h (P ++ u :: (M ++ w :: T)) v L) (hi : P.length = i) (hj : P.length + 1 + M.length = j)
    (next : ∀ h', Sep a h' (ownA (α := Raw3) 42 ((raws (P ++ u :: (M ++ w :: T))).set i w.2) v :: inA (P ++ u :: (M ++ w :: T)) :: L) → K UN h') : stK (writeB h (rowB v) (rowO v + i * 3) w.2.c) K := by
  have sp : Sep a h (ownA (α := Raw3) 42 (raws (P ++ u :: (M ++ w :: T))) v :: repA w.2 w.2.c :: inA (P ++ u :: (M ++ w :: T)) :: L) := (Sep.rep0 (x := w.2) (cs := w.2.c) s (raw_rep w.2)).swap
  exact sep_set (i := i) sp (by simp; omega) next
theorem St.swap22 {a h : Heap} {L : List Asr} {P M T : List El} {u w : El} {v : Value} {i j : Nat} {K : Value → Heap → Prop}
    (s : Sep a h (ownA (α := Raw3) 42 ((raws (P ++ u :: (M ++ w :: T))).set j u.2) v :: inA (P ++ u :: (M ++ w :: T)) :: L)) (hi : P.length = i) (hj : P.length + 1 + M.length = j)
    (next : ∀ h', St a h' (P ++ w :: (M ++ u :: T)) v L → K UN h') : stK (writeB h (rowB v) (rowO v + i * 3) w.2.c) K := by
  have sp : Sep a h (ownA (α := Raw3) 42 ((raws (P ++ u :: (M ++ w :: T))).set j u.2) v :: repA w.2 w.2.c :: inA (P ++ u :: (M ++ w :: T)) :: L) := (Sep.rep0 (x := w.2) (cs := w.2.c) s (raw_rep w.2)).swap
  refine sep_set (i := i) sp (by simp; omega) fun h' s => next h' (St.done s (sw_perm P M T u w) ?_)
  rw [raws_set, raws_set, (sw_set P M T u w hi hj).2]
theorem St.swap11 {a h : Heap} {L : List Asr} {P M T : List El} {u w : El} {v : Value} {i j : Nat} {K : Value → Heap → Prop}
    (s : Sep a h (ownA (α := Raw3) 42 ((raws (P ++ u :: (M ++ w :: T))).set i w.2) v :: inA (P ++ u :: (M ++ w :: T)) :: L)) (hi : P.length = i) (hj : P.length + 1 + M.length = j)
    (next : ∀ h', St a h' (P ++ w :: (M ++ u :: T)) v L → K UN h') : stK (writeB h (rowB v) (rowO v + j * 3) u.2.c) K := by
  have sp : Sep a h (ownA (α := Raw3) 42 ((raws (P ++ u :: (M ++ w :: T))).set i w.2) v :: repA u.2 u.2.c :: inA (P ++ u :: (M ++ w :: T)) :: L) := (Sep.rep0 (x := u.2) (cs := u.2.c) s (raw_rep u.2)).swap
  refine sep_set (i := j) sp (by simp; omega) fun h' s => next h' (St.done s (sw_perm P M T u w) ?_)
  rw [raws_set, raws_set, (sw_set P M T u w hi hj).1]
theorem Raw3.lit (r : Raw3) : ∃ c0 c1 c2, r.c = [c0, c1, c2] := by
  obtain ⟨c, hc⟩ := r
  match c, hc with
  | [c0, c1, c2], _ => exact ⟨_, _, _, rfl⟩
/-- What the order is: of elements. -/
def leP (p q : El) : Prop := leB p.1 q.1
theorem leP_trans {p q r : El} (h1 : leP p q) (h2 : leP q r) : leP p r := leB_trans h1 h2
theorem insert_sorted {S1 S2 : List El} {x : El} (h : (S1 ++ S2).Pairwise leP) (h1 : ∀ y ∈ S2, leP x y) (h2 : S1 = [] ∨ ∃ S0 y, S1 = S0 ++ [y] ∧ leP y x) : (S1 ++ x :: S2).Pairwise leP := by
  obtain ⟨a1, a2, a3⟩ := List.pairwise_append.1 h
  refine List.pairwise_append.2 ⟨a1, List.pairwise_cons.2 ⟨h1, a2⟩, fun p hp q hq => ?_⟩
  rcases List.mem_cons.1 hq with rfl | hq
  · rcases h2 with rfl | ⟨S0, y, rfl, hy⟩
    · simp at hp
    · rcases List.mem_append.1 hp with hp | hp
      · obtain ⟨_, _, b3⟩ := List.pairwise_append.1 a1
        exact leP_trans (b3 p hp y (by simp)) hy
      · rw [List.mem_singleton.1 hp]; exact hy
  · exact a3 p hp q hq
end Go.Proofs
