/- The layer V, part 27: marks that the harness writes into what it was given, and one element of a list that is written in place. -/
import Derived.Test.YtheliocfcjkbhaaDoorV26
set_option linter.all false
namespace Go.V
open Go Go.RowKit

/-- A list in memory, but for what element i holds besides its own cells (cs). -/
def holeH {α : Type} [Rep α] (l : List α) (v : Value) (i : Nat) (cs : List Value) (h : Heap) (fp : List Nat) : Prop :=
  ∃ (pre post : List Value) (f1 f2 : List (List Nat)), IsRow v l.length ∧ l.length ≤ 9223372036854775807 ∧ i < l.length ∧ v ≠ .slice none 0 0 ∧ cs.length = Rep.sz α ∧
    cellsAt h (rowB v) (rowO v) (l.length * Rep.sz α) = some (pre ++ cs ++ post) ∧ Cells h (l.take i) pre f1 ∧ Cells h (l.drop (i + 1)) post f2 ∧ fp = rowB v :: (f1.flatten ++ f2.flatten)
def holeA {α : Type} [Rep α] (l : List α) (v : Value) (i : Nat) (cs : List Value) : Asr := ⟨holeH l v i cs,
  fun {h h' fp} hh hf => by
    obtain ⟨pre, post, f1, f2, h1, h2, h3, h4, h5, h6, h7, h8, rfl⟩ := hh
    exact ⟨pre, post, f1, f2, h1, h2, h3, h4, h5, (cellsAt_congr (hf _ (by simp))).trans h6, h7.frame fun b hb => hf b (by simp [hb]), h8.frame fun b hb => hf b (by simp [hb]), rfl⟩,
  fun {h fp} hh b hb => by
    obtain ⟨pre, post, f1, f2, h1, h2, h3, h4, h5, h6, h7, h8, rfl⟩ := hh
    simp only [List.mem_cons, List.mem_append] at hb
    rcases hb with rfl | hb | hb
    · obtain ⟨k, hk, _⟩ := cellsAt_getB h6; exact getB_lt hk
    · exact h7.live b hb
    · exact h8.live b hb⟩

section
variable {α : Type} [Rep α] {a h h' : Heap} {L : List Asr} {l : List α} {v : Value} {x y : α} {cs ds : List Value} {i : Nat}
theorem list_three {l : List α} {i : Nat} {x : α} (hx : l[i]? = some x) : l = l.take i ++ [x] ++ l.drop (i + 1) := by
  conv => lhs; rw [← List.take_append_drop i l, drop_cons hx]
  simp
/-- One element comes out. -/
theorem Sep.focus (s : Sep a h (repA l [v] :: L)) (hx : l[i]? = some x) : ∃ cs, cellsAt h (rowB v) (rowO v + i * Rep.sz α) (Rep.sz α) = some cs ∧ Sep a h (repA x cs :: holeA l v i cs :: L) := by
  have hi := (List.getElem?_eq_some_iff.1 hx).1
  obtain ⟨fp0, ⟨v', e, hr⟩, _⟩ := s.get
  obtain rfl : v = v' := by simpa using e
  obtain ⟨xs, f, hc, hrep, _, hv⟩ := hr.at hx
  refine ⟨xs, hc, (s.to (y := bothA (repA x xs) (holeA l v i xs)) ?_).unboth⟩
  rintro fp ⟨v', e, hr⟩ hd
  obtain rfl : v = v' := by simpa using e
  obtain ⟨h1, h2, h3⟩ := hr
  rcases h3 with ⟨rfl, _⟩ | ⟨ks, fps, hne, hk, rfl, hcs⟩
  · simp at hi
  · have hl3 := list_three hx
    have hcs' := hcs
    rw [hl3, List.append_assoc] at hcs'
    obtain ⟨c1, c2⟩ := hcs'.split
    obtain ⟨c3, c4⟩ := c2.split
    have li : (l.take i).length = i := by simp; omega
    rw [li] at c1 c3 c4
    obtain ⟨c, f, cs', fps', e1, e2, e3, e4, e5⟩ := c3
    have hlen := hcs.length.1
    have hxs : (ks.drop (i * Rep.sz α)).take (Rep.sz α) = xs := by
      obtain ⟨kk, hkk, hle, rfl⟩ := cellsAt_getB hk
      have hm : i * Rep.sz α + Rep.sz α ≤ l.length * Rep.sz α := by rw [← Nat.succ_mul]; exact Nat.mul_le_mul_right _ hi
      rw [cellsAt_of hkk (by omega)] at hc
      rw [List.drop_take, List.drop_drop, List.take_take, Nat.min_eq_left (by omega)]
      simpa using hc
    simp only [List.length_cons, List.length_nil, Nat.zero_add, Nat.one_mul] at e1 e2 c4
    subst e4; subst e5
    rw [List.append_nil] at e1
    have ec : c = xs := by rw [← e1, hxs]
    subst ec
    have hfps : fps = fps.take i ++ [f] ++ (fps.drop i).drop 1 := by
      conv => lhs; rw [← List.take_append_drop i fps, ← List.take_append_drop 1 (fps.drop i), e2]
      simp
    have hks : ks = ks.take (i * Rep.sz α) ++ c ++ (ks.drop (i * Rep.sz α)).drop (Rep.sz α) := by
      conv => lhs; rw [← List.take_append_drop (i * Rep.sz α) ks, ← List.take_append_drop (Rep.sz α) (ks.drop (i * Rep.sz α)), hxs]
      simp
    have hfl : fps.flatten = (fps.take i).flatten ++ (f ++ ((fps.drop i).drop 1).flatten) := by
      conv => lhs; rw [hfps]
      simp
    have hperm : ∀ (_ : List (List Nat)) (_ : List Nat), (f ++ (rowB v :: ((fps.take i).flatten ++ ((fps.drop i).drop 1).flatten))).Perm (rowB v :: fps.flatten) := fun _ _ => by
      rw [hfl]
      refine List.perm_middle.trans (List.Perm.cons _ ?_)
      rw [← List.append_assoc, ← List.append_assoc]
      exact List.Perm.append_right _ List.perm_append_comm
    refine ⟨f ++ (rowB v :: ((fps.take i).flatten ++ ((fps.drop i).drop 1).flatten)), ⟨f, _, rfl, e3, _, _, fps.take i, (fps.drop i).drop 1, h1, h2, hi, hne, Rep.len e3, by rw [← hks]; exact hk, c1, c4, rfl⟩, ?_, fun b hb => ?_⟩
    · exact (hperm fps f).nodup_iff.2 hd
    · exact (hperm fps f).mem_iff.1 hb
/-- And goes in again. -/
theorem Sep.close (s : Sep a h (repA y cs :: holeA l v i cs :: L)) : Sep a h (repA (l.set i y) [v] :: L) := by
  refine s.both.to ?_
  rintro fp ⟨f, g, rfl, hy, pre, post, f1, f2, h1, h2, h3, h4, h5, h6, h7, h8, rfl⟩ hd
  have hset : l.set i y = l.take i ++ [y] ++ l.drop (i + 1) := by rw [List.set_eq_take_append_cons_drop, if_pos h3]; simp
  have hll : (l.set i y).length = l.length := by simp
  have hcc := (h7.append (Cells.one hy)).append h8
  rw [← hset] at hcc
  refine ⟨rowB v :: (f1 ++ [f] ++ f2).flatten, ⟨v, rfl, by rw [hll]; exact h1, by rw [hll]; exact h2, .inr ⟨_, _, h4, by rw [hll]; exact h6, rfl, hcc⟩⟩, ?_, fun b hb => ?_⟩
  · have hp : (rowB v :: (f1 ++ [f] ++ f2).flatten).Perm (f ++ (rowB v :: (f1.flatten ++ f2.flatten))) := by
      refine List.Perm.symm (List.perm_middle.trans (List.Perm.cons _ ?_))
      simp only [List.flatten_append, List.flatten_cons, List.flatten_nil, List.append_nil]
      rw [← List.append_assoc]
      exact List.Perm.append_right _ List.perm_append_comm
    exact hp.nodup_iff.2 hd
  · simp only [List.flatten_append, List.flatten_cons, List.flatten_nil, List.append_nil, List.mem_cons, List.mem_append] at hb ⊢
    rcases hb with hb | (hb | hb) | hb <;> simp [hb]
/-- Cells of the element itself are written. -/
theorem sep_hole {j o : Nat} {K : Value → Heap → Prop} (s : Sep a h (holeA l v i cs :: L)) (ho : o = rowO v + i * Rep.sz α + j) (hj : j + ds.length ≤ cs.length)
    (next : ∀ h', Sep a h' (holeA l v i (putCells cs j ds) :: L) → K UN h') : stK (writeB h (rowB v) o ds) K := by
  subst ho
  obtain ⟨fp0, ⟨pre, post, f1, f2, h1, h2, h3, h4, h5, h6, h7, h8, rfl⟩, hd0, hrw0⟩ := s.get
  have hpl := h7.length.1
  have li : (l.take i).length = i := by simp; omega
  rw [li] at hpl
  obtain ⟨k, hk, hle, hks⟩ := cellsAt_getB h6
  obtain ⟨k0, hk0, hro⟩ := (hrw0 (rowB v) (by simp)).2
  obtain rfl : k = k0 := by rw [hk] at hk0; simpa using hk0
  obtain ⟨kc, kty, kro, kex⟩ := k
  simp only at hro hle hks
  subst hro
  have hll : (pre ++ cs ++ post).length = l.length * Rep.sz α := by rw [hks]; simp; omega
  have him : i * Rep.sz α + Rep.sz α ≤ l.length * Rep.sz α := by rw [← Nat.succ_mul]; exact Nat.mul_le_mul_right _ h3
  have hwl : rowO v + i * Rep.sz α + j + ds.length ≤ kc.length := by omega
  have hw : writeB h (rowB v) (rowO v + i * Rep.sz α + j) ds = some (h.set (rowB v) (some ⟨putCells kc (rowO v + i * Rep.sz α + j) ds, kty, false, kex⟩)) := by
    simp only [writeB, hk, Bool.not_false, Bool.true_and, decide_eq_true hwl, if_true]
  have hg : getB (h.set (rowB v) (some ⟨putCells kc (rowO v + i * Rep.sz α + j) ds, kty, false, kex⟩)) (rowB v) = some ⟨putCells kc (rowO v + i * Rep.sz α + j) ds, kty, false, kex⟩ := by rw [getB_set (getB_lt hk), if_pos rfl]
  have hframe : ∀ c, c ≠ rowB v → getB (h.set (rowB v) (some ⟨putCells kc (rowO v + i * Rep.sz α + j) ds, kty, false, kex⟩)) c = getB h c := fun c hc => by rw [getB_set (getB_lt hk), if_neg hc]
  rw [hw]
  refine next _ (s.put ?_)
  rintro fp ⟨pre', post', g1, g2, _, _, _, _, _, k6, k7, k8, rfl⟩ hd hrw
  have e6 : pre' ++ cs ++ post' = pre ++ cs ++ post := by rw [h6] at k6; simpa using k6.symm
  have hpl' := k7.length.1
  rw [li] at hpl'
  have hnd := List.nodup_cons.1 hd
  refine ⟨_, ⟨pre', post', g1, g2, h1, h2, h3, h4, ?_, ?_, k7.frame fun b hb => hframe b fun e => hnd.1 (by rw [← e]; simp [hb]), k8.frame fun b hb => hframe b fun e => hnd.1 (by rw [← e]; simp [hb]), rfl⟩, hd, ⟨by simp, fun c _ hc => hframe c fun e => hc (by rw [e]; simp)⟩, fun b hb => ⟨.inl hb, ?_⟩⟩
  · rw [putCells_length hj]; exact h5
  · have hpcl := putCells_length hwl
    rw [cellsAt_of hg (by simp only []; omega)]
    congr 1
    rw [e6] at k6
    apply List.ext_getElem?
    intro m
    have hq : ∀ m, m < l.length * Rep.sz α → kc[rowO v + m]? = (pre' ++ cs ++ post')[m]? := fun m hm => by
      rw [e6, hks, List.getElem?_take, if_pos hm, List.getElem?_drop]
    rw [List.getElem?_take]
    split
    · rename_i hm
      rw [List.getElem?_drop]
      simp only []
      by_cases hin : i * Rep.sz α + j ≤ m ∧ m < i * Rep.sz α + j + ds.length
      · rw [putCells_in hwl (by omega) (by omega), List.getElem?_append_left (by rw [List.length_append, putCells_length hj]; omega), List.getElem?_append_right (by omega), putCells_in hj (by omega) (by omega)]
        congr 1; omega
      · rw [putCells_out hwl (by omega), hq m hm]
        by_cases hlo : m < pre'.length
        · rw [List.getElem?_append_left (by rw [List.length_append]; omega), List.getElem?_append_left hlo, List.getElem?_append_left (by rw [List.length_append]; omega), List.getElem?_append_left hlo]
        · by_cases hmid : m < pre'.length + cs.length
          · rw [List.getElem?_append_left (by rw [List.length_append]; omega), List.getElem?_append_right (by omega), List.getElem?_append_left (by rw [List.length_append, putCells_length hj]; omega), List.getElem?_append_right (by omega), putCells_out hj (by omega)]
          · rw [List.getElem?_append_right (by rw [List.length_append]; omega), List.getElem?_append_right (by rw [List.length_append, putCells_length hj]; omega), List.length_append, List.length_append, putCells_length hj]
    · rename_i hm
      symm
      rw [List.getElem?_eq_none_iff, List.length_append, List.length_append, putCells_length hj]
      have : (pre' ++ cs ++ post').length = l.length * Rep.sz α := by rw [e6]; exact hll
      rw [List.length_append, List.length_append] at this
      omega
  · by_cases hb1 : b = rowB v
    · subst hb1; exact ⟨_, hg, rfl⟩
    · exact (hrw b hb).of (hframe b hb1)
theorem Sep.hcs (s : Sep a h (holeA l v i cs :: L)) (e : cs = ds) : Sep a h (holeA l v i ds :: L) := e ▸ s
theorem Sep.holeRow (s : Sep a h (holeA l v i cs :: L)) : IsRow v l.length := by
  obtain ⟨fp0, ⟨pre, post, f1, f2, h1, _⟩, _⟩ := s.get; exact h1
theorem Sep.hrd (s : Sep a h (holeA l v i cs :: L)) (j : Nat) (hj : j < cs.length) {o : Nat} (ho : o = rowO v + i * Rep.sz α + j) : getC h (rowB v) o = cs[j]? := by
  subst ho
  obtain ⟨fp0, ⟨pre, post, f1, f2, h1, h2, h3, h4, h5, h6, h7, h8, rfl⟩, _⟩ := s.get
  have hpl := h7.length.1
  have li : (l.take i).length = i := by simp; omega
  rw [li] at hpl
  have him : i * Rep.sz α + Rep.sz α ≤ l.length * Rep.sz α := by rw [← Nat.succ_mul]; exact Nat.mul_le_mul_right _ h3
  have := cellsAt_getC h6 (i * Rep.sz α + j) (by omega)
  rw [← Nat.add_assoc] at this
  rw [this, List.getElem?_append_left (by rw [List.length_append]; omega), List.getElem?_append_right (by omega)]
  congr 1; omega
end

/-- How the harness marks: as handed over by value (bmk: its ints stay), and as an element of a list (emk). -/
class Mrk (α : Type) where
  bmk : α → Int → α
  cnt : α → Nat
  emk : α → Int → α
  ecnt : α → Nat
instance : Mrk Int := ⟨fun x _ => x, fun _ => 0, fun _ k => k, fun _ => 1⟩
section
variable {α : Type} [Mrk α]
def mkL : List α → Int → List α
  | [], _ => []
  | x :: l, k => Mrk.emk x k :: mkL l (k + (Mrk.ecnt x : Nat))
def cntL (l : List α) : Nat := (l.map Mrk.ecnt).sum
instance : Mrk (List α) := ⟨mkL, cntL, mkL, cntL⟩
theorem cntL_take {l : List α} {i : Nat} {x : α} (hx : l[i]? = some x) : cntL (l.take (i + 1)) = cntL (l.take i) + Mrk.ecnt x := by
  unfold cntL; rw [List.take_add_one, hx]; simp
theorem cntL_take_le (l : List α) (i : Nat) : cntL (l.take i) ≤ cntL l := by
  have : cntL l = cntL (l.take i) + cntL (l.drop i) := by
    unfold cntL
    rw [← List.sum_append, ← List.map_append, List.take_append_drop]
  omega
theorem mkL_length (l : List α) (k : Int) : (mkL l k).length = l.length := by
  induction l generalizing k with
  | nil => rfl
  | cons x l ih => simp [mkL, ih]
theorem mkL_append (l m : List α) (k : Int) : mkL (l ++ m) k = mkL l k ++ mkL m (k + (cntL l : Nat)) := by
  induction l generalizing k with
  | nil => simp [mkL, cntL]
  | cons x l ih =>
    simp only [List.cons_append, mkL, ih]
    have : k + (Mrk.ecnt x : Nat) + (cntL l : Nat) = k + (cntL (x :: l) : Nat) := by simp [cntL]; omega
    rw [this]
theorem mkL_get {l : List α} {i : Nat} {x : α} (hx : l[i]? = some x) (k : Int) : (mkL l k)[i]? = some (Mrk.emk x (k + (cntL (l.take i) : Nat))) := by
  have hi := (List.getElem?_eq_some_iff.1 hx).1
  conv => lhs; rw [← List.take_append_drop i l, drop_cons hx]
  rw [mkL_append, List.getElem?_append_right (by rw [mkL_length]; simp; omega), mkL_length, List.length_take, Nat.min_eq_left (by omega), Nat.sub_self]
  rfl
theorem mkP_length (l : List α) (k : Int) {i : Nat} (hi : i ≤ l.length) : (mkL (l.take i) k ++ l.drop i).length = l.length := by
  rw [List.length_append, mkL_length]; simp; omega
theorem mkP_get {l : List α} {i : Nat} {x : α} (hx : l[i]? = some x) (k : Int) : (mkL (l.take i) k ++ l.drop i)[i]? = some x := by
  have hi := (List.getElem?_eq_some_iff.1 hx).1
  rw [List.getElem?_append_right (by rw [mkL_length]; simp; omega), mkL_length, List.length_take, Nat.min_eq_left (by omega), Nat.sub_self, List.getElem?_drop]
  simpa using hx
theorem mkP_set {l : List α} {i : Nat} {x : α} (hx : l[i]? = some x) (k : Int) : (mkL (l.take i) k ++ l.drop i).set i (Mrk.emk x (k + (cntL (l.take i) : Nat))) = mkL (l.take (i + 1)) k ++ l.drop (i + 1) := by
  have hi := (List.getElem?_eq_some_iff.1 hx).1
  have hl : (mkL (l.take i) k).length = i := by rw [mkL_length]; simp; omega
  rw [List.set_append_right _ _ (by omega), hl, Nat.sub_self, drop_cons hx, List.set_cons_zero, List.take_add_one, hx, mkL_append]
  simp [mkL]
end
end Go.V
