/- Contracts of functions, facts of types, or the plain law behind one statement (own work): JO. Conditions: those told in each theorem. -/
import Derived.Test.YtkapgaajomaheaaGreatDoorJZ
import Derived.Lib.SlicesCompact
import Derived.Sort.Walk0
set_option linter.all false
set_option linter.unusedSimpArgs false
set_option linter.unusedVariables false
set_option maxRecDepth 4000
namespace Go.Proofs
open Go Go.V
/- Texts in order: the plain law. -/
abbrev BL := List UInt8
def ltS (a b : ByteArray) : Bool := Op.bytesLess a.toList b.toList
theorem ltS_iff {a b : ByteArray} : ltS a b = true ↔ a.data.toList < b.data.toList := by
  unfold ltS
  rw [ByteArray.toList_eq, ByteArray.toList_eq, bytesLess_eq, decide_eq_true_iff]
/-- A text put in its place, once. -/
def putS (s : ByteArray) : List ByteArray → List ByteArray
  | [] => [s]
  | x :: l => if ltS x s = true then x :: putS s l else if x = s then x :: l else s :: x :: l
def srt (l : List ByteArray) : Prop := l.Pairwise fun a b => a.data.toList < b.data.toList
theorem putS_mem {s y : ByteArray} : ∀ {l : List ByteArray}, y ∈ putS s l ↔ y = s ∨ y ∈ l
  | [] => by simp [putS]
  | x :: l => by
    have ih := putS_mem (s := s) (y := y) (l := l)
    simp only [putS]
    split
    · rw [List.mem_cons, ih, List.mem_cons]
      constructor
      · rintro (h | h | h) <;> simp [h]
      · rintro (h | h | h) <;> simp [h]
    · split
      · rename_i h; subst h
        rw [List.mem_cons]
        constructor
        · intro h; exact .inr h
        · rintro (h | h)
          · exact .inl h
          · exact h
      · rw [List.mem_cons]
theorem putS_srt {s : ByteArray} : ∀ {l : List ByteArray}, srt l → srt (putS s l)
  | [], _ => List.pairwise_singleton _ _
  | x :: l, h => by
    have hx := List.pairwise_cons.1 h
    simp only [putS]
    split
    · rename_i c
      refine List.pairwise_cons.2 ⟨fun y hy => ?_, putS_srt hx.2⟩
      rcases putS_mem.1 hy with rfl | hy
      · exact ltS_iff.1 c
      · exact hx.1 y hy
    · rename_i c
      split
      · exact h
      · rename_i c2
        have hle : s.data.toList < x.data.toList := by
          have h1 : ¬ x.data.toList < s.data.toList := fun hh => c (ltS_iff.2 hh)
          rcases List.le_iff_lt_or_eq.1 (List.not_lt.1 h1) with h2 | h2
          · exact h2
          · exact absurd (bytes_inj h2).symm c2
        refine List.pairwise_cons.2 ⟨fun y hy => ?_, h⟩
        rcases List.mem_cons.1 hy with rfl | hy
        · exact hle
        · exact List.lt_trans hle (hx.1 y hy)
theorem srt_nodup {l : List ByteArray} (h : srt l) : l.Nodup := h.imp fun {a b} hab e => by subst e; exact List.lt_irrefl _ hab
theorem srt_ext {l m : List ByteArray} (h1 : srt l) (h2 : srt m) (h : ∀ x, x ∈ l ↔ x ∈ m) : l = m := by
  have hp : l.Perm m := (List.perm_ext_iff_of_nodup (srt_nodup h1) (srt_nodup h2)).2 h
  unfold srt at h1 h2
  refine List.Perm.eq_of_pairwise (le := fun a b => a.data.toList < b.data.toList) (fun a b _ _ h1 h2 => ?_) h1 h2 hp
  exact absurd (List.lt_trans h1 h2) (List.lt_irrefl _)
/-- Sorted and compact, as Go's library does it. -/
def sortC (l : List ByteArray) : List ByteArray := (Lib.compact ((l.map (·.data.toList)).mergeSort fun x y => decide (x ≤ y))).map fun x => ⟨x.toArray⟩
def sortO (l : List ByteArray) : List ByteArray := (((l.map (·.data.toList)).mergeSort fun x y => decide (x ≤ y))).map fun x => ⟨x.toArray⟩
theorem compact_spec (zs : List BL) (h : zs.Pairwise fun x y => x ≤ y) : (Lib.compact zs).Pairwise (fun x y => x < y) ∧ ∀ x, x ∈ Lib.compact zs ↔ x ∈ zs := by
  have get : ∀ j, j < zs.length → zs.toArray[j]! = zs.getD j [] := by
    intro j hj
    rw [getElem!_pos _ _ (by simpa using hj)]
    simp [List.getD, hj]
  have key : ∀ m, m ≤ zs.length → (Lib.compactUpTo zs.toArray m).Pairwise (fun x y => x < y) ∧ ∀ x, x ∈ Lib.compactUpTo zs.toArray m ↔ x ∈ zs.take m := by
    intro m
    induction m with
    | zero => intro _; simp [Lib.compactUpTo]
    | succ m ih =>
      intro hm
      obtain ⟨h1, h2⟩ := ih (by omega)
      obtain ⟨z, hz⟩ := get_some (show m < zs.length by omega)
      have hzm : zs.toArray[m]! = z := by rw [get m (by omega)]; simp [List.getD, hz]
      have ht : zs.take (m + 1) = zs.take m ++ [z] := by rw [List.take_add_one, hz]; rfl
      have hle : ∀ x ∈ zs.take m, x ≤ z := by
        intro x hx
        have hp : (zs.take m ++ [z]).Pairwise fun x y => x ≤ y := by rw [← ht]; exact h.sublist (List.take_sublist _ _)
        exact (List.pairwise_append.1 hp).2.2 x hx z (by simp)
      rw [Lib.compactUpTo_succ, hzm, ht]
      cases hk : Lib.keeps zs.toArray m with
      | true =>
        rw [if_pos rfl]
        have hne : ∀ x ∈ zs.take m, x ≠ z := by
          intro x hx e
          subst e
          have hk2 := of_decide_eq_true hk
          rcases hk2 with h0 | h0
          · subst h0; simp at hx
          · by_cases h00 : m = 0
            · subst h00; simp at hx
            · obtain ⟨y, hy⟩ := get_some (show m - 1 < zs.length by omega)
              have hy' : zs.toArray[m - 1]! = y := by rw [get _ (by omega)]; simp [List.getD, hy]
              rw [hzm, hy'] at h0
              have hyt : zs.take m = zs.take (m - 1) ++ [y] := by
                have := List.take_add_one (l := zs) (i := m - 1)
                rw [hy, show m - 1 + 1 = m by omega] at this
                exact this
              have hyx : y ≤ x := hle y (by rw [hyt]; simp)
              rw [hyt] at hx
              rcases List.mem_append.1 hx with hx | hx
              · have hp : (zs.take (m - 1) ++ [y]).Pairwise fun x y => x ≤ y := by rw [← hyt]; exact h.sublist (List.take_sublist _ _)
                have hxy := (List.pairwise_append.1 hp).2.2 x hx y (by simp)
                exact h0 (List.le_antisymm hxy hyx)
              · exact h0 (by simpa using hx)
        refine ⟨List.pairwise_append.2 ⟨h1, List.pairwise_singleton _ _, fun x hx y hy => ?_⟩, fun x => ?_⟩
        · simp only [List.mem_singleton] at hy; subst hy
          have hx' := (h2 x).1 hx
          rcases List.le_iff_lt_or_eq.1 (hle x hx') with h3 | h3
          · exact h3
          · exact absurd h3 (hne x hx')
        · rw [List.mem_append, List.mem_append, h2 x]
      | false =>
        rw [if_neg (by decide), List.append_nil]
        refine ⟨h1, fun x => ?_⟩
        rw [h2 x, List.mem_append]
        constructor
        · exact .inl
        · rintro (hx | hx)
          · exact hx
          · simp only [List.mem_singleton] at hx; subst hx
            have hk2 := of_decide_eq_false hk
            have h00 : m ≠ 0 := fun e => hk2 (.inl e)
            have h0 : zs.toArray[m]! = zs.toArray[m - 1]! := Decidable.not_not.1 fun e => hk2 (.inr e)
            obtain ⟨y, hy⟩ := get_some (show m - 1 < zs.length by omega)
            have hy' : zs.toArray[m - 1]! = y := by rw [get _ (by omega)]; simp [List.getD, hy]
            rw [hzm, hy'] at h0
            subst h0
            exact List.mem_iff_getElem?.2 ⟨m - 1, by rw [List.getElem?_take, if_pos (by omega)]; exact hy⟩
  have := key zs.length (Nat.le_refl _)
  rw [List.take_length] at this
  exact this
theorem sort_spec (l : List BL) : (l.mergeSort fun x y => decide (x ≤ y)).Pairwise (fun x y => x ≤ y) ∧ ∀ x, x ∈ (l.mergeSort fun x y => decide (x ≤ y)) ↔ x ∈ l := by
  have tr : ∀ a b c : BL, decide (a ≤ b) = true → decide (b ≤ c) = true → decide (a ≤ c) = true := fun a b c h1 h2 => by simp only [decide_eq_true_eq] at *; exact List.le_trans h1 h2
  have to : ∀ a b : BL, (decide (a ≤ b) || decide (b ≤ a)) = true := fun a b => by simp only [Bool.or_eq_true, decide_eq_true_eq]; exact List.le_total a b
  refine ⟨(List.pairwise_mergeSort tr to l).imp fun h => of_decide_eq_true h, fun x => (List.mergeSort_perm l _).mem_iff⟩
theorem sortC_spec (l : List ByteArray) : srt (sortC l) ∧ ∀ x, x ∈ sortC l ↔ x ∈ l := by
  obtain ⟨h1, h2⟩ := sort_spec (l.map (·.data.toList))
  obtain ⟨h3, h4⟩ := compact_spec _ h1
  refine ⟨?_, fun x => ?_⟩
  · unfold srt sortC
    rw [List.pairwise_map]
    exact h3
  · unfold sortC
    rw [List.mem_map]
    constructor
    · rintro ⟨y, hy, rfl⟩
      rw [h4, h2, List.mem_map] at hy
      obtain ⟨z, hz, rfl⟩ := hy
      exact hz
    · intro hx
      exact ⟨x.data.toList, by rw [h4, h2, List.mem_map]; exact ⟨x, hx, rfl⟩, rfl⟩
theorem sortO_spec (l : List ByteArray) (hn : l.Nodup) : srt (sortO l) ∧ ∀ x, x ∈ sortO l ↔ x ∈ l := by
  obtain ⟨h1, h2⟩ := sort_spec (l.map (·.data.toList))
  have hnd : ((l.map (·.data.toList)).mergeSort fun x y => decide (x ≤ y)).Nodup := by
    rw [(List.mergeSort_perm _ _).nodup_iff]
    refine List.Pairwise.map _ ?_ hn
    intro a b hab e
    exact hab (bytes_inj e)
  refine ⟨?_, fun x => ?_⟩
  · unfold srt sortO
    rw [List.pairwise_map]
    exact (h1.and hnd).imp fun {a b} hab => by
      rcases List.le_iff_lt_or_eq.1 hab.1 with h3 | h3
      · exact h3
      · exact absurd h3 hab.2
  · unfold sortO
    rw [List.mem_map]
    constructor
    · rintro ⟨y, hy, rfl⟩
      rw [h2, List.mem_map] at hy
      obtain ⟨z, hz, rfl⟩ := hy
      exact hz
    · intro hx
      exact ⟨x.data.toList, by rw [h2, List.mem_map]; exact ⟨x, hx, rfl⟩, rfl⟩
/-- A part lies in another one. -/
def inS (p o : ByteArray) : Bool := decide (o.size ≤ p.size) && decide (p.extract 0 o.size = o)
/-- The contradictions, as the program gathers them. -/
def contrL (l : List Mk) : List ByteArray := (l.filter fun m => decide (m.kind = 2) && l.any fun n => decide (n.kind = 1) && inS m.path n.path).map (·.path)
/-- .. and as the reference puts them in place. -/
def hitC (m n : Mk) : Bool := decide (m.kind = 2) && decide (n.kind = 1) && inS m.path n.path
def contrR (all : List Mk) (m : Mk) (out : List ByteArray) : List Mk → List ByteArray
  | [] => out
  | n :: r => contrR all m (if hitC m n = true then putS m.path out else out) r
def contrP (all : List Mk) (out : List ByteArray) : List Mk → List ByteArray
  | [] => out
  | m :: r => contrP all (contrR all m out all) r
theorem contrR_spec {all : List Mk} {m : Mk} : ∀ (r : List Mk) (out : List ByteArray), srt out → srt (contrR all m out r) ∧ ∀ x, x ∈ contrR all m out r ↔ x ∈ out ∨ (x = m.path ∧ r.any (hitC m) = true)
  | [], out, h => ⟨h, fun x => by simp [contrR]⟩
  | n :: r, out, h => by
    simp only [contrR, List.any_cons]
    by_cases c : hitC m n = true
    · rw [if_pos c, c, Bool.true_or]
      obtain ⟨h1, h2⟩ := contrR_spec (all := all) (m := m) r (putS m.path out) (putS_srt h)
      refine ⟨h1, fun x => ?_⟩
      rw [h2, putS_mem]
      constructor
      · rintro ((h | h) | h)
        · exact .inr ⟨h, rfl⟩
        · exact .inl h
        · exact .inr ⟨h.1, rfl⟩
      · rintro (h | h)
        · exact .inl (.inr h)
        · exact .inl (.inl h.1)
    · have c' : hitC m n = false := by simpa using c
      rw [if_neg c, c', Bool.false_or]
      exact contrR_spec r out h
theorem contrP_spec {all : List Mk} : ∀ (r : List Mk) (out : List ByteArray), srt out → srt (contrP all out r) ∧ ∀ x, x ∈ contrP all out r ↔ x ∈ out ∨ ∃ m ∈ r, x = m.path ∧ all.any (hitC m) = true
  | [], out, h => ⟨h, fun x => by simp [contrP]⟩
  | m :: r, out, h => by
    simp only [contrP]
    obtain ⟨h1, h2⟩ := contrR_spec (all := all) (m := m) all out h
    obtain ⟨h3, h4⟩ := contrP_spec (all := all) r _ h1
    refine ⟨h3, fun x => ?_⟩
    rw [h4, h2]
    constructor
    · rintro ((h | h) | ⟨n, hn, h⟩)
      · exact .inl h
      · exact .inr ⟨m, by simp, h⟩
      · exact .inr ⟨n, by simp [hn], h⟩
    · rintro (h | ⟨n, hn, h⟩)
      · exact .inl (.inl h)
      · rcases List.mem_cons.1 hn with rfl | hn
        · exact .inl (.inr h)
        · exact .inr ⟨n, hn, h⟩
theorem any_hit (m : Mk) (l : List Mk) : l.any (hitC m) = (decide (m.kind = 2) && l.any fun n => decide (n.kind = 1) && inS m.path n.path) := by
  induction l with
  | nil => simp
  | cons n l ih =>
    rw [List.any_cons, List.any_cons, ih]
    unfold hitC
    cases decide (m.kind = 2) <;> simp
theorem contr_eq (l : List Mk) : contrP l [] l = sortC (contrL l) := by
  obtain ⟨h1, h2⟩ := contrP_spec (all := l) l [] List.Pairwise.nil
  obtain ⟨h3, h4⟩ := sortC_spec (contrL l)
  refine srt_ext h1 h3 fun x => ?_
  rw [h2, h4]
  unfold contrL
  rw [List.mem_map]
  constructor
  · rintro (h | ⟨m, hm, rfl, h⟩)
    · cases h
    · exact ⟨m, List.mem_filter.2 ⟨hm, by rw [← any_hit]; exact h⟩, rfl⟩
  · rintro ⟨m, hm, rfl⟩
    obtain ⟨hm, h⟩ := List.mem_filter.1 hm
    exact .inr ⟨m, hm, rfl, by rw [any_hit]; exact h⟩
end Go.Proofs
