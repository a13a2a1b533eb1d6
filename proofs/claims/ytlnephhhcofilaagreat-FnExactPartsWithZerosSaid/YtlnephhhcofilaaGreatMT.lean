/- The layer V and contracts of functions over it, or plain laws behind one statement (own work): MT=UN,UO. Conditions: those told in each theorem. -/
import Derived.Test.YtlnephhhcofilaaGreatMR
set_option linter.all false
section
set_option linter.unusedSimpArgs false
set_option linter.unusedVariables false
set_option maxRecDepth 4000
namespace Go.Proofs
open Go Go.V
open Nat renaming reduceEqDiff → jA, reduceAdd → jB, reduceMul → jD, reduceSub → jE, reduceLeDiff → jF
open Int renaming reduceLT → jG, reduceLE → jH, reduceNeg → jI, reduceEq → jJ
/- The parts of a box with a multiplicity. -/
def zL (S : List (List Tm)) : Nat → List Bx → List Int
  | _, [] => []
  | k, b :: l => if (boxDeg S b).1 = 0 then zL S (k + 1) l else (k : Int) :: zL S (k + 1) l
theorem zL_take {S : List (List Tm)} : ∀ {l : List Bx} {k i : Nat} {b : Bx}, l[i]? = some b → zL S k (l.take (i + 1)) = zL S k (l.take i) ++ (if (boxDeg S b).1 = 0 then [] else [((k + i : Nat) : Int)])
  | x :: l, k, 0, b, h => by
    obtain rfl : x = b := by simpa using h
    rw [List.take_zero, List.take_succ_cons, List.take_zero]
    simp only [zL, Nat.add_zero, List.nil_append]
  | x :: l, k, i + 1, b, h => by
    have ih := zL_take (S := S) (k := k + 1) (show l[i]? = some b by simpa using h)
    have e : k + 1 + i = k + (i + 1) := by omega
    rw [e] at ih
    rw [List.take_succ_cons, List.take_succ_cons]
    show (if _ then _ else _) = (if _ then _ else _) ++ _
    rw [ih]
    by_cases c : (boxDeg S x).1 = 0
    · rw [if_pos c, if_pos c]
    · rw [if_neg c, if_neg c, List.cons_append]
  | [], _, _, _, h => by simp at h
theorem zL_len (S : List (List Tm)) : ∀ (l : List Bx) (k : Nat), (zL S k l).length ≤ l.length
  | [], _ => by simp [zL]
  | x :: l, k => by
    have ih := zL_len S l (k + 1)
    unfold zL
    split <;> simp <;> omega
def quartsOf (b : Bx) : List Bx := quarts b.k.toNat (b.low.getD 0 0) (b.high.getD 0 0) (b.low.getD 1 0) (b.high.getD 1 0)
theorem quartsOf_G {b : Bx} {k : Nat} {x y z w : Int} (g : PlG b k x y z w) : quartsOf b = quarts k x y z w := by
  unfold quartsOf
  rw [g.bk, g.low, g.high]; rfl
def pzM (S : List (List Tm)) (b : Bx) : List Int × Bool :=
  if twoB S && planeB b then
    if (quartsOf b).all (fun x => (boxDeg S x).2) then (zL S 0 (quartsOf b), true) else ([], false)
  else ([], false)
theorem pz_cnt (S : List (List Tm)) (b : Bx) : cntL (pzM S b).1 ≤ 4 := by
  have c1 : ∀ l : List Int, cntL l = l.length := fun l => by
    induction l with
    | nil => rfl
    | cons y l ih => have : cntL (y :: l) = 1 + cntL l := rfl; simp [this, ih]; omega
  rw [c1]
  unfold pzM
  split
  · split
    · exact zL_len S (quartsOf b) 0
    · simp
  · simp
theorem pz_bad {S : List (List Tm)} {l : List Bx} {i : Nat} {b : Bx} (h : l[i]? = some b) (hb : (boxDeg S b).2 = false) : l.all (fun x => (boxDeg S x).2) = false := all_false h hb
theorem PartsWithZeros_s {S : List (List Tm)} {b : Bx} {v : Value} {cs : List Value} {h : Heap} {Q : Value → Heap → Prop} (rS : Row h S v) (hb : Here h b cs)
    (hQ : ∀ w h', Sep h h' [repA (pzM S b).1 [w]] → Q (.tuple #[w, .bool (pzM S b).2]) h') : CallsV Tryz.prog 22 [v, .agg cs.toArray] h Q := by
  obtain ⟨v1, v2, rfl, _⟩ := here_Bx hb
  refine CallsV.start Tryz.func22 rfl (by rw [Tryz.results22]) (by kernel_rfl) (by rw [Tryz.ntmps22]; simp) ?_
  have s := Sep.blk1 h [.int .i64 b.k, v1, v2] 32 true
  have ga := s.rdAll (n := 3) rfl
  unfold pzM at hQ
  simp (disch := omega) only [WA, ↓reduceIte, jA, jB, jD, jE, jF, jG, jH, jI, jJ, ga]
  refine .inl ⟨by kernel_rfl, ?_⟩; refine imGood_c (rS.mono s.ext) (hb.mono s.ext) fun h1 E1 => ?_
  have s := s.mono E1
  have ga := s.rdAll (n := 3) rfl
  have nil_ok : ∀ h', Ext h h' → Sep h h' [repA ([] : List Int) [.slice none 0 0]] := fun h' E => ((Sep.nil E).nilA (α := Int) 3).toRep
  cases hg : twoB S && planeB b with
  | false =>
    rw [hg] at hQ
    simp only [Bool.false_eq_true, reduceIte] at hQ
    simp (disch := omega) only [WA, ↓reduceIte, jA, jB, jD, jE, jF, jG, jH, jI, jJ]
    exact hQ _ _ (nil_ok _ s.ext)
  | true =>
    obtain ⟨hS, hpb⟩ := Bool.and_eq_true_iff.1 hg
    obtain ⟨gb, hl2⟩ := plane_box hpb
    obtain ⟨k, x, y, z, w, g⟩ := planeB_G hpb
    rw [hg, quartsOf_G g] at hQ
    simp only [reduceIte] at hQ
    simp (disch := omega) only [WA, ↓reduceIte, jA, jB, jD, jE, jF, jG, jH, jI, jJ, ga]
    refine .inl ⟨by kernel_rfl, ?_⟩; refine PartsOf_c (hb.mono s.ext) g gb fun vl h2 zl hz st => ?_
    have s := s.add st
    have lz : zl.length = 4 := by have := congrArg List.length hz; simpa [quarts] using this
    have rl := (s.pull 0 rfl).row
    have isr := rl.isRow
    have lr : (raws zl).length = 4 := by simp [lz]
    rw [lr] at isr
    simp (disch := omega) only [WA, ↓reduceIte, jA, jB, jD, jE, jF, jG, jH, jI, jJ, isr.len]
    have u0 : Sep h h2 (ownA (α := Int) 3 (zL S 0 ((quarts k x y z w).take 0)) (.slice none 0 0) :: _) := s.nilA 3
    refine loop_rule (fun n e h' => ∃ (i : Nat) (vo : Value), e 0 = v ∧ e 8 = vo ∧ e 24 = vl ∧ e 25 = .int .i64 ((4 : Nat) : Int) ∧ e 26 = .int .i64 i ∧ i ≤ 4 ∧ n = 4 - i ∧ ((quarts k x y z w).take i).all (fun x => (boxDeg S x).2) = true ∧
      Sep h h' [ownA 3 (zL S 0 ((quarts k x y z w).take i)) vo, ownA (α := Raw3) 32 (raws zl) vl, inA zl]) ?_ 4 _ _
      ⟨0, _, rfl, rfl, rfl, rfl, rfl, by omega, by omega, by simp, Sep.keep (L := [ownA 3 (zL S 0 ((quarts k x y z w).take 0)) _, ownA (α := Raw3) 32 (raws zl) vl, inA zl]) u0⟩
    rintro n e h5 ⟨i, vo, e0, e8, e24, e25, e26, hi, rfl, hall, s5⟩
    simp (disch := omega) only [WA, ↓reduceIte, jA, jB, jD, jE, jF, jG, jH, jI, jJ, e25, e26]
    by_cases ci : i < 4
    · have c1 : (i : Int) < ((4 : Nat) : Int) := by omega
      obtain ⟨⟨X, rX⟩, hp⟩ := get_some (show i < zl.length by omega)
      obtain ⟨a0, a1, a2, hrX⟩ := rX.lit2
      have r2l := (s5.pull 1 rfl).row
      have isr2 := r2l.isRow
      rw [lr] at isr2
      have X1 := row_cells r2l (raws_get hp)
      rw [show ((X, rX) : El).2.c = [a0, a1, a2] from hrX] at X1
      have hX := Sep.inHere (s5.pull 2 rfl) (List.mem_of_getElem? hp)
      rw [show ((X, rX) : El).2.c = [a0, a1, a2] from hrX] at hX
      have hX : Here h5 X [a0, a1, a2] := hX
      have bX : (quarts k x y z w)[i]? = some X := by rw [← hz]; show (zl.map Prod.fst)[i]? = _; rw [List.getElem?_map, hp]; rfl
      have s6 := s5.newBlk [a0, a1, a2] 32 true
      have gx := s6.rdAll (n := 3) rfl
      simp (disch := omega) only [WA, ↓reduceIte, jA, jB, jD, jE, jF, jG, jH, jI, jJ, c1, e24, e26, isr2.ix, X1, e0, gx]
      refine .inl ⟨by kernel_rfl, ?_⟩; refine muBox_c (rS.mono s6.ext) (hX.mono (Ext.one h5 _)) fun h7 E7 => ?_
      have s7 := s6.mono E7
      cases hd : (boxDeg S X).2 with
      | false =>
        rw [pz_bad bX hd] at hQ
        simp only [Bool.false_eq_true, reduceIte] at hQ
        simp (disch := omega) only [WA, ↓reduceIte, jA, jB, jD, jE, jF, jG, jH, jI, jJ]
        exact hQ _ _ (nil_ok _ s7.ext)
      | true =>
        have w9 := wrap_in ((i : Int) + 1) (by omega)
        have ht := zL_take (S := S) (k := 0) bX
        have hl := zL_len S ((quarts k x y z w).take i) 0
        rw [List.length_take] at hl
        have hall2 : ((quarts k x y z w).take (i + 1)).all (fun x => (boxDeg S x).2) = true := by rw [all_take _ bX, hall, hd]; rfl
        by_cases cz : (boxDeg S X).1 = 0
        · rw [if_pos cz, List.append_nil] at ht
          simp (disch := omega) only [WA, ↓reduceIte, jA, jB, jD, jE, jF, jG, jH, jI, jJ, cz, e0, e8, e24, e25, e26, w9]
          exact ⟨_, by omega, i + 1, vo, rfl, by simp, by omega, rfl, hall2, by rw [ht]; exact s7.tail⟩
        · rw [if_neg cz, Nat.zero_add] at ht
          have s8 := (Sep.rep0 (x := (i : Int)) (s7.pull 1 rfl) (rep_int ⟨by omega, by omega⟩)).swap
          simp (disch := omega) only [WA, ↓reduceIte, jA, jB, jD, jE, jF, jG, jH, jI, jJ, cz, e8, e26]
          refine sep_append (y := (i : Int)) s8 rfl rfl te23 tk3 rfl (by decide) (by simp only []; omega) fun w4 h8 s9 => ?_
          simp (disch := omega) only [WA, ↓reduceIte, jA, jB, jD, jE, jF, jG, jH, jI, jJ, e0, e24, e25, e26, w9]
          exact ⟨_, by omega, i + 1, w4, rfl, by simp, by omega, rfl, hall2, by rw [ht]; exact Sep.keep (L := [ownA 3 _ w4, ownA (α := Raw3) 32 (raws zl) vl, inA zl]) (((s9.pull 3 rfl).pull 3 rfl).pull 2 rfl)⟩
    · obtain rfl : i = 4 := by omega
      have c1 : ¬ ((4 : Nat) : Int) < ((4 : Nat) : Int) := by omega
      rw [List.take_of_length_le (by exact Nat.le_refl _)] at s5 hall
      rw [hall] at hQ
      simp only [reduceIte] at hQ
      have pl := (s5.pull 0 rfl).row.isRow.plain
      simp (disch := omega) only [WA, ↓reduceIte, jA, jB, jD, jE, jF, jG, jH, jI, jJ, c1, e8, pl]
      exact hQ _ _ s5.toRep.head
end Go.Proofs
end

section
set_option linter.unusedSimpArgs false
set_option linter.unusedVariables false
set_option maxRecDepth 4000
namespace Go.Proofs
open Go Go.V
open Nat renaming reduceEqDiff → jA, reduceAdd → jB, reduceMul → jD, reduceSub → jE, reduceLeDiff → jF
open Int renaming reduceLT → jG, reduceLE → jH, reduceNeg → jI, reduceEq → jJ
/- Parts of a box (the program). -/
def cutP (i : Nat) (len p : Int) (X : Bx) : Bx := ⟨0, X.low.set i (X.low.getD i 0 + p * len), X.high.set i (X.low.getD i 0 + p * len + len)⟩
def cut2 (i : Nat) (len : Int) (X : Bx) : List Bx := [cutP i len 0 X, cutP i len 1 X]
def lenI (x y z w : Int) (i : Nat) : Int := if i = 0 then y - x else w - z
def lev (x y z w : Int) : Nat → List Bx
  | 0 => [⟨0, [2 * x, 2 * z], [2 * y, 2 * w]⟩]
  | i + 1 => (lev x y z w i).flatMap (cut2 i (lenI x y z w i))
structure FitB (c : Int) (X : Bx) : Prop where
  k : X.k = 0
  l2 : X.low.length = 2
  h2 : X.high.length = 2
  lb : InB c X.low
  hb : InB c X.high
theorem gd_in {c : Int} {l : List Int} {i : Nat} (h : InB c l) (hi : i < l.length) : -c ≤ l.getD i 0 ∧ l.getD i 0 ≤ c := by
  rw [List.getD_eq_getElem?_getD, List.getElem?_eq_getElem hi]
  exact h _ (List.getElem_mem hi)
theorem set_inB {c d : Int} {l : List Int} {i : Nat} {m : Int} (h : InB c l) (hc : c ≤ d) (hm : -d ≤ m ∧ m ≤ d) : InB d (l.set i m) := by
  intro n hn
  rcases List.mem_or_eq_of_mem_set hn with hn | rfl
  · have := h n hn; omega
  · exact hm
theorem cut_fit {c : Int} {X : Bx} {i : Nat} {len p : Int} (f : FitB c X) (hi : i < 2) (hp : p = 0 ∨ p = 1) (hl : 0 ≤ len ∧ len ≤ 128) : FitB (c + 256) (cutP i len p X) := by
  have := gd_in f.lb (i := i) (by have := f.l2; omega)
  have hpl : 0 ≤ p * len ∧ p * len ≤ 128 := by rcases hp with rfl | rfl <;> omega
  exact ⟨rfl, by show (X.low.set _ _).length = 2; rw [List.length_set]; exact f.l2, by show (X.high.set _ _).length = 2; rw [List.length_set]; exact f.h2, set_inB f.lb (by omega) (by omega), set_inB f.hb (by omega) (by omega)⟩
theorem lenI_in {b : Bx} {k : Nat} {x y z w : Int} (g : PlG b k x y z w) (i : Nat) : 0 ≤ lenI x y z w i ∧ lenI x y z w i ≤ 128 := by
  have h1 := g.xy; have h2 := g.zw; have h3 := g.x0; have h4 := g.y0; have h5 := g.z0; have h6 := g.w0
  unfold lenI; split <;> omega
theorem lev_fit {b : Bx} {k : Nat} {x y z w : Int} (g : PlG b k x y z w) : ∀ i, i ≤ 2 → ∀ X ∈ lev x y z w i, FitB (128 + 256 * (i : Int)) X
  | 0, _, X, hX => by
    have h1 := g.xy; have h2 := g.zw; have h3 := g.x0; have h4 := g.y0; have h5 := g.z0; have h6 := g.w0
    rw [show X = _ from List.mem_singleton.1 hX]
    refine ⟨rfl, rfl, rfl, ?_, ?_⟩
    · intro n hn
      rcases List.mem_cons.1 hn with rfl | hn
      · omega
      · rcases List.mem_singleton.1 hn with rfl; omega
    · intro n hn
      rcases List.mem_cons.1 hn with rfl | hn
      · omega
      · rcases List.mem_singleton.1 hn with rfl; omega
  | i + 1, hi, X, hX => by
    obtain ⟨Y, hY, hX⟩ := List.mem_flatMap.1 hX
    have f := lev_fit g i (by omega) Y hY
    have hl := lenI_in g i
    have e : 128 + 256 * ((i + 1 : Nat) : Int) = 128 + 256 * (i : Int) + 256 := by omega
    rw [e]
    simp only [cut2, List.mem_cons, List.not_mem_nil, or_false] at hX
    rcases hX with rfl | rfl
    · exact cut_fit f (by omega) (.inl rfl) hl
    · exact cut_fit f (by omega) (.inr rfl) hl
theorem flat_take_step {α β : Type} (f : α → List β) {l : List α} {j : Nat} {x : α} (h : l[j]? = some x) : (l.take (j + 1)).flatMap f = (l.take j).flatMap f ++ f x := by
  rw [List.take_add_one, h, List.flatMap_append]; simp
theorem lev_len (x y z w : Int) : (lev x y z w 0).length = 1 ∧ (lev x y z w 1).length = 2 ∧ (lev x y z w 2).length = 4 := ⟨rfl, rfl, rfl⟩
def nrmX (k : Nat) (X : Bx) : Bx := nrmB (k + 1) X.low X.high
theorem lev_quarts (k : Nat) (x y z w : Int) : (lev x y z w 2).map (nrmX k) = quarts k x y z w := by
  have e : lev x y z w 2 = [⟨0, [2 * x + 0 * (y - x), 2 * z + 0 * (w - z)], [2 * x + 0 * (y - x) + (y - x), 2 * z + 0 * (w - z) + (w - z)]⟩, ⟨0, [2 * x + 0 * (y - x), 2 * z + 1 * (w - z)], [2 * x + 0 * (y - x) + (y - x), 2 * z + 1 * (w - z) + (w - z)]⟩,
    ⟨0, [2 * x + 1 * (y - x), 2 * z + 0 * (w - z)], [2 * x + 1 * (y - x) + (y - x), 2 * z + 0 * (w - z) + (w - z)]⟩, ⟨0, [2 * x + 1 * (y - x), 2 * z + 1 * (w - z)], [2 * x + 1 * (y - x) + (y - x), 2 * z + 1 * (w - z) + (w - z)]⟩] := rfl
  rw [e]
  have e1 : 2 * x + 0 * (y - x) = 2 * x := by omega
  have e2 : 2 * z + 0 * (w - z) = 2 * z := by omega
  have e3 : 2 * x + 1 * (y - x) = x + y := by omega
  have e4 : 2 * z + 1 * (w - z) = z + w := by omega
  have e5 : 2 * x + (y - x) = x + y := by omega
  have e6 : 2 * z + (w - z) = z + w := by omega
  have e7 : x + y + (y - x) = 2 * y := by omega
  have e8 : z + w + (w - z) = 2 * w := by omega
  simp only [e1, e2, e3, e4, e5, e6, e7, e8]
  rfl
theorem set_mid {α : Type} {l r : List α} {x y : α} {i : Nat} (h : l.length = i) : (l ++ x :: r).set i y = l ++ y :: r := by
  subst h
  rw [List.set_append_right _ _ (Nat.le_refl _), Nat.sub_self, List.set_cons_zero]
theorem Sep.blkOne {α : Type} [Rep α] {a h : Heap} {L : List Asr} {x : α} {c1 : List Value} {b : Nat} {ty : TypeId} (s : Sep a h (repA x c1 :: blkA b c1 ty :: L)) :
    Sep a h (ownA ty [x] (.slice (some ⟨b, 0, none⟩) 1 1) :: L) := by
  refine s.both.to fun fp ⟨f, g, e, h1, e2, ex, o⟩ hd => ?_
  have hc : Cells h [x] c1 [f] := Cells.one h1
  have hl := hc.length.1
  subst e; subst e2
  have hcells : (c1.drop 0).take ([x].length * Rep.sz α) = c1 := by rw [List.drop_zero, List.take_of_length_le (Nat.le_of_eq hl)]
  have hp : (b :: f).Nodup := by
    have := List.nodup_append.1 hd
    refine List.nodup_cons.2 ⟨fun hm => this.2.2 b hm b (by simp) rfl, this.1⟩
  refine ⟨b :: [f].flatten, Own.mk' (α := α) (l := [x]) (b := b) (off := 0) (cap := 1) (fps := [f]) (Nat.le_refl _) (show 1 ≤ 9223372036854775807 by decide) o rfl rfl (by simp only []; rw [hl]; simp) (by rw [hcells]; exact hc) (by simpa using hp), by simpa using hp, ?_⟩
  intro z hz
  simp only [List.flatten_cons, List.flatten_nil, List.append_nil, List.mem_cons] at hz ⊢
  rcases hz with rfl | hz
  · simp
  · simp [hz]
theorem here_rows {h : Heap} {X : Bx} {w1 w2 : Value} (hx : Here h X [.int .i64 X.k, w1, w2]) : Row h X.low w1 ∧ Row h X.high w2 := by
  obtain ⟨v1, v2, e, _, h1, h2⟩ := here_Bx hx
  obtain ⟨rfl, rfl⟩ : w1 = v1 ∧ w2 = v2 := by simpa using e
  exact ⟨h1, h2⟩
set_option maxHeartbeats 1600000 in
theorem parts_c {b : Bx} {bb off : Nat} {k : Nat} {x y z w : Int} {h : Heap} {Q : Value → Heap → Prop} (hp : At h bb off b) (g : PlG b k x y z w) (gb : boxM b = true)
    (hQ : ∀ v h', Sep h h' [ownA 32 (quarts k x y z w) v] → Q (.tuple #[v, .bool true]) h') : CallsV Tryz.prog 51 [.pointer (some ⟨bb, off, none⟩), .int .i64 (1 : Int)] h Q := by
  have hlt := hp.lt
  obtain ⟨v1, v2, g0, gl, gh, f1, r1, r2, _⟩ := at_Bx hp
  obtain ⟨hk, hl1, hl3, hlh, hs1, hs2⟩ := box_k gb
  have hl2 : b.low.length = 2 := by rw [g.low]; rfl
  have hh2 : b.high.length = 2 := by rw [g.high]; rfl
  refine CallsV.start Tryz.func51 rfl (by rw [Tryz.results51]) (by kernel_rfl) (by rw [Tryz.ntmps51]; simp) ?_
  simp (disch := omega) only [WA, ↓reduceIte, jA, jB, jD, jE, jF, jG, jH, jI, jJ]
  refine draw_ord [0, 1, 2, 3, 4, 6, 7, 8, 9, 10, 5, 11, 12, 13, 14] (by kernel_rfl) (by simp only [WLF]; rfl) ?_
  simp (disch := omega) only [WA, ↓reduceIte, jA, jB, jD, jE, jF, jG, jH, jI, jJ, gl, gh]
  refine .inl ⟨by kernel_rfl, ?_⟩; refine scaled_c (k := 1) r1 (by omega) hs1 hl3 fun u1 h1 t1 => ?_
  have s := t1
  have gl1 := s.ext.keepC gl
  have gh1 := s.ext.keepC gh
  simp (disch := omega) only [WA, ↓reduceIte, jA, jB, jD, jE, jF, jG, jH, jI, jJ, gl1, gh1]
  refine .inl ⟨by kernel_rfl, ?_⟩; refine scaled_c (k := 1) (r2.mono s.ext) (by omega) hs2 (by omega) fun u2 h2 t2 => ?_
  have s := s.add t2
  rw [dbl_up, dbl_up] at s
  have gl1 := s.ext.keepC gl
  have gh1 := s.ext.keepC gh
  have p1 := (s.pull 1 rfl).row.isRow.cells
  have p2 := (s.pull 0 rfl).row.isRow.cells
  have c2 : (b.low.length : Int) = ((2 : Nat) : Int) := by omega
  simp (disch := omega) only [WA, ↓reduceIte, jA, jB, jD, jE, jF, jG, jH, jI, jJ, gl1, gh1, p1, p2]
  have gl2 := (s.ext.trans (Ext.one h2 (some ⟨[.int .i64 0, u1, u2], 32, false, true⟩))).keepC gl
  have gh2 := (s.ext.trans (Ext.one h2 (some ⟨[.int .i64 0, u1, u2], 32, false, true⟩))).keepC gh
  have rr1 := r1.mono (s.ext.trans (Ext.one h2 (some ⟨[.int .i64 0, u1, u2], 32, false, true⟩)))
  simp (disch := omega) only [WA, ↓reduceIte, jA, jB, jD, jE, jF, jG, jH, jI, jJ, gl2, gh2, r1.isRow.len, c2]
  have u0 : Sep h (h2 ++ [some ⟨[.int .i64 0, u1, u2], 32, false, true⟩]) [ownA 32 (lev x y z w 0) (.slice (some ⟨h2.length, 0, none⟩) 1 1)] := by
    have q := sep_box (x := (⟨0, [2 * x, 2 * z], [2 * y, 2 * w]⟩ : Bx)) (ul := u1) (uh := u2) (L := []) (by have := s.swap; rw [g.low, g.high] at this; exact this) (show inI64 (0 : Int) from ⟨by decide, by decide⟩)
    have q := (q.newBlk [.int .i64 0, u1, u2] 32 true).swap
    exact Sep.blkOne q
  refine loop_rule (fun n e h' => ∃ (i : Nat) (vo : Value), e 0 = .pointer (some ⟨bb, off, none⟩) ∧ e 1 = .int .i64 1 ∧ e 6 = vo ∧ e 35 = .int .i64 ((2 : Nat) : Int) ∧ e 36 = .int .i64 (i : Int) ∧ i ≤ 2 ∧ n = 2 - i ∧ Sep h h' [ownA 32 (lev x y z w i) vo]) ?_ 2 _ _
    ⟨0, _, rfl, rfl, rfl, rfl, rfl, by omega, by omega, u0⟩
  clear u0 s t1 t2 gl1 gh1 gl2 gh2 rr1 p1 p2
  rintro n e h3 ⟨i, vo, e0, e1, e6, e35, e36, hi, rfl, s⟩
  simp (disch := omega) only [WA, ↓reduceIte, jA, jB, jD, jE, jF, jG, jH, jI, jJ, e35, e36]
  by_cases ci : i < 2
  · have c1 : (i : Int) < ((2 : Nat) : Int) := by omega
    obtain ⟨lo, hlo⟩ := get_some (show i < b.low.length by omega)
    obtain ⟨hi', hhi⟩ := get_some (show i < b.high.length by omega)
    have hlen : hi' - lo = lenI x y z w i := by
      rw [g.low] at hlo
      rw [g.high] at hhi
      have hc : i = 0 ∨ i = 1 := by omega
      rcases hc with rfl | rfl
      · simp at hlo hhi; subst hlo; subst hhi; rfl
      · simp at hlo hhi; subst hlo; subst hhi; rfl
    have hbd : -64 ≤ lo ∧ lo ≤ 64 ∧ -64 ≤ hi' ∧ hi' ≤ 64 := by
      have h1 := g.xy; have h2 := g.zw; have h3 := g.x0; have h4 := g.y0; have h5 := g.z0; have h6 := g.w0
      rw [g.low] at hlo
      rw [g.high] at hhi
      have hc : i = 0 ∨ i = 1 := by omega
      rcases hc with rfl | rfl
      · simp at hlo hhi; subst hlo; subst hhi; omega
      · simp at hlo hhi; subst hlo; subst hhi; omega
    have hLI := lenI_in g i
    generalize hLd : lenI x y z w i = len at hlen hLI
    obtain ⟨zl, hz, st⟩ := Sep.parts s
    have lz : zl.length ≤ 2 := by
      have e1 : zl.length = (lev x y z w i).length := by rw [← hz]; simp
      have hc : i = 0 ∨ i = 1 := by omega
      rcases hc with rfl | rfl
      · rw [e1, (lev_len x y z w).1]; decide
      · rw [e1, (lev_len x y z w).2.1]; decide
    have isr := (st.pull 0 rfl).row.isRow
    have lr : (raws zl).length = zl.length := by simp
    rw [lr] at isr
    have fit : ∀ X ∈ bxs zl, FitB 640 X := fun X hX => by
      have := lev_fit g i (by omega) X (by rw [← hz]; exact hX)
      have hc : i = 0 ∨ i = 1 := by omega
      exact ⟨this.k, this.l2, this.h2, fun n hn => by have := this.lb n hn; rcases hc with rfl | rfl <;> omega, fun n hn => by have := this.hb n hn; rcases hc with rfl | rfl <;> omega⟩
    simp (disch := omega) only [WA, ↓reduceIte, jA, jB, jD, jE, jF, jG, jH, jI, jJ, c1, e6, e36, isr.len]
    refine loop_rule (fun n e h' => ∃ (j : Nat) (vn : Value), e 0 = .pointer (some ⟨bb, off, none⟩) ∧ e 1 = .int .i64 1 ∧ e 7 = .int .i64 (i : Int) ∧ e 8 = vn ∧ e 35 = .int .i64 ((2 : Nat) : Int) ∧ e 36 = .int .i64 (i : Int) ∧ e 39 = vo ∧ e 40 = .int .i64 (zl.length : Int) ∧ e 41 = .int .i64 (j : Int) ∧ j ≤ zl.length ∧ n = zl.length - j ∧
      Sep h h' [ownA 32 (((bxs zl).take j).flatMap (cut2 i len)) vn, ownA (α := Raw3) 32 (raws zl) vo, inA zl]) ?_ zl.length _ _
      ⟨0, _, e0, e1, rfl, rfl, e35, e36, rfl, rfl, rfl, by omega, by omega, st.nilA 32⟩
    clear st isr s e0 e1 e6 e35 e36
    rintro n e h4 ⟨j, vn, e0, e1, e7, e8, e35, e36, e39, e40, e41, hj, rfl, s⟩
    simp (disch := omega) only [WA, ↓reduceIte, jA, jB, jD, jE, jF, jG, jH, jI, jJ, e40, e41]
    by_cases cj : j < zl.length
    · have c1 : (j : Int) < (zl.length : Int) := by omega
      obtain ⟨⟨X, rX⟩, hpj⟩ := get_some cj
      obtain ⟨a0, a1, a2, hrX⟩ := rX.lit2
      have bX : (bxs zl)[j]? = some X := by show (zl.map Prod.fst)[j]? = _; rw [List.getElem?_map, hpj]; rfl
      have fX := fit X (List.mem_of_getElem? bX)
      have r2l := (s.pull 1 rfl).row
      have isr2 := r2l.isRow
      rw [lr] at isr2
      have X1 := row_cells r2l (raws_get hpj)
      rw [show ((X, rX) : El).2.c = [a0, a1, a2] from hrX] at X1
      have hXi : ∀ {H : Heap} {L : List Asr}, Sep h H (inA zl :: L) → Here H X [a0, a1, a2] := fun s => by
        have := Sep.inHere s (List.mem_of_getElem? hpj)
        rw [show ((X, rX) : El).2.c = [a0, a1, a2] from hrX] at this
        exact this
      obtain ⟨xl, hxl⟩ := get_some (show i < X.low.length by rw [fX.l2]; omega)
      have gxl : X.low.getD i 0 = xl := by rw [List.getD_eq_getElem?_getD, hxl]; rfl
      have bxl := gd_in fX.lb (i := i) (by rw [fX.l2]; omega)
      rw [gxl] at bxl
      have s := s.newBlk [a0, a1, a2] 32 true
      simp (disch := omega) only [WA, ↓reduceIte, jA, jB, jD, jE, jF, jG, jH, jI, jJ, c1, e39, e41, isr2.ix, X1, e1]
      have hB : ∃ B, B = h4.length := ⟨_, rfl⟩
      obtain ⟨B, hB⟩ := hB
      rw [← hB] at s ⊢
      generalize h4 ++ [some ⟨[a0, a1, a2], 32, false, true⟩] = H4 at *
      refine loop_rule (fun n e h' => ∃ (p : Nat) (vn : Value), e 0 = .pointer (some ⟨bb, off, none⟩) ∧ e 1 = .int .i64 1 ∧ e 7 = .int .i64 (i : Int) ∧ e 8 = vn ∧ e 10 = .pointer (some ⟨B, 0, none⟩) ∧ e 35 = .int .i64 ((2 : Nat) : Int) ∧ e 36 = .int .i64 (i : Int) ∧ e 39 = vo ∧ e 40 = .int .i64 (zl.length : Int) ∧ e 41 = .int .i64 (j : Int) ∧ e 46 = .int .i64 2 ∧ e 47 = .int .i64 (p : Int) ∧ p ≤ 2 ∧ n = 2 - p ∧
        Sep h h' [blkA B [a0, a1, a2] 32, ownA 32 (((bxs zl).take j).flatMap (cut2 i len) ++ (cut2 i len X).take p) vn, ownA (α := Raw3) 32 (raws zl) vo, inA zl]) ?_ 2 _ _
        ⟨0, vn, e0, e1, e7, e8, rfl, e35, e36, e39, e40, e41, rfl, rfl, by omega, by omega, by rw [List.take_zero, List.append_nil]; exact s⟩
      clear X1 r2l isr2 s e0 e1 e7 e8 e35 e36 e39 e40 e41
      rintro n e h5 ⟨p, vn, e0, e1, e7, e8, e10, e35, e36, e39, e40, e41, e46, e47, hp2, rfl, s⟩
      simp (disch := omega) only [WA, ↓reduceIte, jA, jB, jD, jE, jF, jG, jH, jI, jJ, e46, e47]
      by_cases cp : p < 2
      · have c1 : (p : Int) < 2 := by omega
        have hXh := hXi (s.pull 3 rfl)
        obtain ⟨w1, w2, ew, fk, rw1, rw2⟩ := here_Bx hXh
        obtain ⟨rfl, rfl, rfl⟩ : a0 = .int .i64 X.k ∧ a1 = w1 ∧ a2 = w2 := by simpa using ew
        clear ew
        have gx := (s.pull 0 rfl).rd
        have rr1 := rw1
        simp (disch := omega) only [WA, ↓reduceIte, jA, jB, jD, jE, jF, jG, jH, jI, jJ, c1, e47]
        refine draw_tail [0, 1, 3, 4] [2, 5, 6, 7, 8] (by kernel_rfl) (by simp only [WLF]; rfl) ?_
        simp (disch := omega) only [WA, ↓reduceIte, jA, jB, jD, jE, jF, jG, jH, jI, jJ, e10, gx]
        refine tail_step [(2, [], [5, 6, 7, 8], false), (7, [], [2, 5, 6, 8], false)] (by kernel_rfl) (by kernel_rfl) (a_cons (by simp only [WLF]; rfl) (by kernel_rfl) ?_ (a_cons (by simp only [WLF]; rfl) (by kernel_rfl) ?_ trivial))
        · simp (disch := omega) only [WA, ↓reduceIte, jA, jB, jD, jE, jF, jG, jH, jI, jJ, gx]
          refine .inl ⟨by kernel_rfl, ?_⟩; refine cloneInt_c rw1 (by rw [fX.l2]; omega) fun yl h6 t1 => ?_
          have s := s.add t1
          have gx := (s.pull 1 rfl).rd
          have p1 := (s.pull 0 rfl).row.isRow.cells
          have rw2 := (here_rows (hXi (s.pull 4 rfl))).2
          simp (disch := omega) only [WA, ↓reduceIte, jA, jB, jD, jE, jF, jG, jH, jI, jJ, gx]
          refine tail_step [(5, [6], [7, 8], true), (7, [], [5, 6, 8], false)] (by kernel_rfl) (by kernel_rfl) (a_cut (by simp only [WLF]; rfl) (by kernel_rfl) ?_ (a_cons (by simp only [WLF]; rfl) (by kernel_rfl) ?_ trivial))
          · simp (disch := omega) only [WA, ↓reduceIte, jA, jB, jD, jE, jF, jG, jH, jI, jJ, gx]
            refine .inl ⟨by kernel_rfl, ?_⟩; refine cloneInt_c rw2 (by rw [fX.h2]; omega) fun yh h7 t2 => ?_
            have s := s.add t2
            have gx := (s.pull 2 rfl).rd
            have p2 := (s.pull 0 rfl).row.isRow.cells
            simp (disch := omega) only [WA, ↓reduceIte, jA, jB, jD, jE, jF, jG, jH, jI, jJ, gx, p1, p2]
            refine tail_step [(7, [], [8], false)] (by kernel_rfl) (by kernel_rfl) (a_cons (by simp only [WLF]; rfl) (by kernel_rfl) ?_ trivial)
            have s0 : Sep h h7 [ownA 3 X.high yh, ownA 3 X.low yl, blkA B [.int .i64 X.k, a1, a2] 32, ownA 32 (((bxs zl).take j).flatMap (cut2 i len) ++ (cut2 i len X).take p) vn, ownA (α := Raw3) 32 (raws zl) vo, inA zl] := s
            have s := s.newBlk [.int .i64 0, .slice none 0 0, .slice none 0 0] 32 true
            have gx := (s.pull 3 rfl).rd
            simp (disch := omega) only [WA, ↓reduceIte, jA, jB, jD, jE, jF, jG, jH, jI, jJ, gx]
            refine tail_step [(8, [], [], true)] (by kernel_rfl) (by kernel_rfl) (a_cut (by simp only [WLF]; rfl) (by kernel_rfl) ?_ trivial)
            simp (disch := omega) only [WA, ↓reduceIte, jA, jB, jD, jE, jF, jG, jH, jI, jJ, gx]
            have s := (s0.swap.newBlk [.int .i64 0, yl, yh] 32 true)
            generalize h7 ++ [some ⟨[.int .i64 0, yl, yh], 32, false, true⟩] = H8 at s ⊢
            generalize h7.length = C at s ⊢
            -- REST
            have cq : (i : Int) < (X.low.length : Int) := by rw [fX.l2]; omega
            have gy := (s.pull 0 rfl).rd
            have gx := (s.pull 3 rfl).rd
            have rr1 := (here_rows (hXi (s.pull 6 rfl))).1
            have X1 := (row_int rr1 hxl).1
            have wm := wrap_in ((p : Int) * len) (by rcases (show p = 0 ∨ p = 1 by omega) with rfl | rfl <;> omega)
            have wb : -128 ≤ (p : Int) * len ∧ (p : Int) * len ≤ 128 := by rcases (show p = 0 ∨ p = 1 by omega) with rfl | rfl <;> omega
            have wa := wrap_in (xl + (p : Int) * len) (by omega)
            have rl := (s.pull 1 rfl).row
            refine draw_ord [0, 1, 2, 3, 4, 5, 6, 7, 8, 9, 10, 11, 12, 13, 14, 15] (by kernel_rfl) (by simp only [WLF]; rfl) ?_
            simp (disch := omega) only [WA, ↓reduceIte, jA, jB, jD, jE, jF, jG, jH, jI, jJ, gy, gx, e0, e7, e10, rr1.isRow.ix, X1, cq]
            refine .inl ⟨by kernel_rfl, ?_⟩; refine length_c (hp.mono hlt s.ext) hbd hlo hhi ?_
            rw [hlen]
            simp (disch := omega) only [WA, ↓reduceIte, jA, jB, jD, jE, jF, jG, jH, jI, jJ, gy, gx, e0, e7, e10, rl.isRow.ix, X1, cq, wm, wa]
            refine sep_set1 (i := i) (y := xl + (p : Int) * len) (((s.pull 1 rfl).rep0 (x := xl + (p : Int) * len) (rep_int ⟨by omega, by omega⟩)).swap) rfl (by rw [fX.l2]; omega) fun h8 s => ?_
            have gy := (s.pull 1 rfl).rd
            have gx := (s.pull 3 rfl).rd
            have rr1 := (here_rows (hXi (s.pull 6 rfl))).1
            have X1 := (row_int rr1 hxl).1
            have rl := (s.pull 0 rfl).row
            have cl : (i : Int) < ((X.low.set i (xl + (p : Int) * len)).length : Int) := by rw [List.length_set]; exact cq
            have Z1 := (row_int rl (show (X.low.set i (xl + (p : Int) * len))[i]? = some (xl + (p : Int) * len) by rw [List.getElem?_set_self (by rw [fX.l2]; omega)])).1
            have ch : (i : Int) < (X.high.length : Int) := by rw [fX.h2]; omega
            have rh := (s.pull 2 rfl).row
            have wc := wrap_in (xl + (p : Int) * len + len) (by omega)
            simp (disch := omega) only [WA, ↓reduceIte, jA, jB, jD, jE, jF, jG, jH, jI, jJ, gy, gx, X1]
            refine draw_ord [0, 1, 2, 3, 4, 5, 6, 7, 8, 9, 10, 11, 12, 13] (by kernel_rfl) (by simp only [WLF]; rfl) ?_
            simp (disch := omega) only [WA, ↓reduceIte, jA, jB, jD, jE, jF, jG, jH, jI, jJ, gy, e0, e7, rl.isRow.ix, Z1, cl]
            refine .inl ⟨by kernel_rfl, ?_⟩; refine length_c (hp.mono hlt s.ext) hbd hlo hhi ?_
            rw [hlen]
            simp (disch := omega) only [WA, ↓reduceIte, jA, jB, jD, jE, jF, jG, jH, jI, jJ, gy, e0, e7, rl.isRow.ix, rh.isRow.ix, Z1, cl, ch, wc]
            refine sep_set1 (i := i) (y := xl + (p : Int) * len + len) (((s.pull 2 rfl).rep0 (x := xl + (p : Int) * len + len) (rep_int ⟨by omega, by omega⟩)).swap) rfl (by rw [fX.h2]; omega) fun h9 s => ?_
            have gy := (s.pull 2 rfl).rd
            have ga := (s.pull 2 rfl).rdAll (n := 3) rfl
            have rl := (s.pull 1 rfl).row
            have Z1 := (row_int rl (show (X.low.set i (xl + (p : Int) * len))[i]? = some (xl + (p : Int) * len) by rw [List.getElem?_set_self (by rw [fX.l2]; omega)])).1
            simp (disch := omega) only [WA, ↓reduceIte, jA, jB, jD, jE, jF, jG, jH, jI, jJ, gy, Z1, e8, ga]
            have hcl : (((bxs zl).take j).flatMap (cut2 i len) ++ (cut2 i len X).take p).length ≤ 100 := by
              have h1 : (((bxs zl).take j).flatMap (cut2 i len)).length = 2 * ((bxs zl).take j).length := by
                generalize (bxs zl).take j = l
                induction l with
                | nil => rfl
                | cons a l ih => rw [List.flatMap_cons, List.length_append, ih]; show 2 + _ = 2 * (_ + 1); omega
              have h2 : ((bxs zl).take j).length ≤ zl.length := by rw [List.length_take]; simp; omega
              have h3 : ((cut2 i len X).take p).length ≤ 2 := by rw [List.length_take]; show min p 2 ≤ 2; omega
              rw [List.length_append]; omega
            have sb := sep_box (x := (⟨0, X.low.set i (xl + (p : Int) * len), X.high.set i (xl + (p : Int) * len + len)⟩ : Bx)) (s.pull 1 rfl) (show inI64 (0 : Int) from ⟨by decide, by decide⟩)
            refine sep_append (sb.pull 3 rfl) rfl rfl te40 tk32 rfl (by decide) (by simp only []; omega) fun vm h10 s => ?_
            have w9 := wrap_in ((p : Int) + 1) (by omega)
            simp (disch := omega) only [WA, ↓reduceIte, jA, jB, jD, jE, jF, jG, jH, jI, jJ, e0, e1, e7, e10, e35, e36, e39, e40, e41, e46, e47, w9]
            refine ⟨_, by omega, p + 1, vm, rfl, by simp, by omega, rfl, ?_⟩
            have et : (cut2 i len X).take (p + 1) = (cut2 i len X).take p ++ [(⟨0, X.low.set i (xl + (p : Int) * len), X.high.set i (xl + (p : Int) * len + len)⟩ : Bx)] := by
              rw [← gxl]
              rcases (show p = 0 ∨ p = 1 by omega) with rfl | rfl <;> rfl
            rw [et, ← List.append_assoc]
            exact ((s.pull 2 rfl).pull 2 rfl).tail
          · have s := s.newBlk [.int .i64 0, .slice none 0 0, .slice none 0 0] 32 true
            have gx := (s.pull 2 rfl).rd
            have rw2 := (here_rows (hXi (s.pull 5 rfl))).2
            simp (disch := omega) only [WA, ↓reduceIte, jA, jB, jD, jE, jF, jG, jH, jI, jJ, gx]
            refine tail_step [(5, [6], [8], false)] (by kernel_rfl) (by kernel_rfl) (a_cons (by simp only [WLF]; rfl) (by kernel_rfl) ?_ trivial)
            simp (disch := omega) only [WA, ↓reduceIte, jA, jB, jD, jE, jF, jG, jH, jI, jJ, gx]
            refine .inl ⟨by kernel_rfl, ?_⟩; refine cloneInt_c rw2 (by rw [fX.h2]; omega) fun yh h7 t2 => ?_
            have s := s.add t2
            have gx := (s.pull 3 rfl).rd
            have p2 := (s.pull 0 rfl).row.isRow.cells
            simp (disch := omega) only [WA, ↓reduceIte, jA, jB, jD, jE, jF, jG, jH, jI, jJ, gx, p1, p2]
            refine tail_step [(8, [], [], true)] (by kernel_rfl) (by kernel_rfl) (a_cut (by simp only [WLF]; rfl) (by kernel_rfl) ?_ trivial)
            simp (disch := omega) only [WA, ↓reduceIte, jA, jB, jD, jE, jF, jG, jH, jI, jJ, gx]
            refine sep_store (s.pull 1 rfl) (by simp) fun h8 s => ?_
            have s := s.as (ds := [.int .i64 0, yl, yh]) (by simp [t_put])
            have s := (s.pull 2 rfl).pull 1 rfl
            have gx := (s.pull 3 rfl).rd
            simp (disch := omega) only [WA, ↓reduceIte, jA, jB, jD, jE, jF, jG, jH, jI, jJ, gx]
            -- REST
            have cq : (i : Int) < (X.low.length : Int) := by rw [fX.l2]; omega
            have gy := (s.pull 0 rfl).rd
            have gx := (s.pull 3 rfl).rd
            have rr1 := (here_rows (hXi (s.pull 6 rfl))).1
            have X1 := (row_int rr1 hxl).1
            have wm := wrap_in ((p : Int) * len) (by rcases (show p = 0 ∨ p = 1 by omega) with rfl | rfl <;> omega)
            have wb : -128 ≤ (p : Int) * len ∧ (p : Int) * len ≤ 128 := by rcases (show p = 0 ∨ p = 1 by omega) with rfl | rfl <;> omega
            have wa := wrap_in (xl + (p : Int) * len) (by omega)
            have rl := (s.pull 1 rfl).row
            refine draw_ord [0, 1, 2, 3, 4, 5, 6, 7, 8, 9, 10, 11, 12, 13, 14, 15] (by kernel_rfl) (by simp only [WLF]; rfl) ?_
            simp (disch := omega) only [WA, ↓reduceIte, jA, jB, jD, jE, jF, jG, jH, jI, jJ, gy, gx, e0, e7, e10, rr1.isRow.ix, X1, cq]
            refine .inl ⟨by kernel_rfl, ?_⟩; refine length_c (hp.mono hlt s.ext) hbd hlo hhi ?_
            rw [hlen]
            simp (disch := omega) only [WA, ↓reduceIte, jA, jB, jD, jE, jF, jG, jH, jI, jJ, gy, gx, e0, e7, e10, rl.isRow.ix, X1, cq, wm, wa]
            refine sep_set1 (i := i) (y := xl + (p : Int) * len) (((s.pull 1 rfl).rep0 (x := xl + (p : Int) * len) (rep_int ⟨by omega, by omega⟩)).swap) rfl (by rw [fX.l2]; omega) fun h8 s => ?_
            have gy := (s.pull 1 rfl).rd
            have gx := (s.pull 3 rfl).rd
            have rr1 := (here_rows (hXi (s.pull 6 rfl))).1
            have X1 := (row_int rr1 hxl).1
            have rl := (s.pull 0 rfl).row
            have cl : (i : Int) < ((X.low.set i (xl + (p : Int) * len)).length : Int) := by rw [List.length_set]; exact cq
            have Z1 := (row_int rl (show (X.low.set i (xl + (p : Int) * len))[i]? = some (xl + (p : Int) * len) by rw [List.getElem?_set_self (by rw [fX.l2]; omega)])).1
            have ch : (i : Int) < (X.high.length : Int) := by rw [fX.h2]; omega
            have rh := (s.pull 2 rfl).row
            have wc := wrap_in (xl + (p : Int) * len + len) (by omega)
            simp (disch := omega) only [WA, ↓reduceIte, jA, jB, jD, jE, jF, jG, jH, jI, jJ, gy, gx, X1]
            refine draw_ord [0, 1, 2, 3, 4, 5, 6, 7, 8, 9, 10, 11, 12, 13] (by kernel_rfl) (by simp only [WLF]; rfl) ?_
            simp (disch := omega) only [WA, ↓reduceIte, jA, jB, jD, jE, jF, jG, jH, jI, jJ, gy, e0, e7, rl.isRow.ix, Z1, cl]
            refine .inl ⟨by kernel_rfl, ?_⟩; refine length_c (hp.mono hlt s.ext) hbd hlo hhi ?_
            rw [hlen]
            simp (disch := omega) only [WA, ↓reduceIte, jA, jB, jD, jE, jF, jG, jH, jI, jJ, gy, e0, e7, rl.isRow.ix, rh.isRow.ix, Z1, cl, ch, wc]
            refine sep_set1 (i := i) (y := xl + (p : Int) * len + len) (((s.pull 2 rfl).rep0 (x := xl + (p : Int) * len + len) (rep_int ⟨by omega, by omega⟩)).swap) rfl (by rw [fX.h2]; omega) fun h9 s => ?_
            have gy := (s.pull 2 rfl).rd
            have ga := (s.pull 2 rfl).rdAll (n := 3) rfl
            have rl := (s.pull 1 rfl).row
            have Z1 := (row_int rl (show (X.low.set i (xl + (p : Int) * len))[i]? = some (xl + (p : Int) * len) by rw [List.getElem?_set_self (by rw [fX.l2]; omega)])).1
            simp (disch := omega) only [WA, ↓reduceIte, jA, jB, jD, jE, jF, jG, jH, jI, jJ, gy, Z1, e8, ga]
            have hcl : (((bxs zl).take j).flatMap (cut2 i len) ++ (cut2 i len X).take p).length ≤ 100 := by
              have h1 : (((bxs zl).take j).flatMap (cut2 i len)).length = 2 * ((bxs zl).take j).length := by
                generalize (bxs zl).take j = l
                induction l with
                | nil => rfl
                | cons a l ih => rw [List.flatMap_cons, List.length_append, ih]; show 2 + _ = 2 * (_ + 1); omega
              have h2 : ((bxs zl).take j).length ≤ zl.length := by rw [List.length_take]; simp; omega
              have h3 : ((cut2 i len X).take p).length ≤ 2 := by rw [List.length_take]; show min p 2 ≤ 2; omega
              rw [List.length_append]; omega
            have sb := sep_box (x := (⟨0, X.low.set i (xl + (p : Int) * len), X.high.set i (xl + (p : Int) * len + len)⟩ : Bx)) (s.pull 1 rfl) (show inI64 (0 : Int) from ⟨by decide, by decide⟩)
            refine sep_append (sb.pull 3 rfl) rfl rfl te40 tk32 rfl (by decide) (by simp only []; omega) fun vm h10 s => ?_
            have w9 := wrap_in ((p : Int) + 1) (by omega)
            simp (disch := omega) only [WA, ↓reduceIte, jA, jB, jD, jE, jF, jG, jH, jI, jJ, e0, e1, e7, e10, e35, e36, e39, e40, e41, e46, e47, w9]
            refine ⟨_, by omega, p + 1, vm, rfl, by simp, by omega, rfl, ?_⟩
            have et : (cut2 i len X).take (p + 1) = (cut2 i len X).take p ++ [(⟨0, X.low.set i (xl + (p : Int) * len), X.high.set i (xl + (p : Int) * len + len)⟩ : Bx)] := by
              rw [← gxl]
              rcases (show p = 0 ∨ p = 1 by omega) with rfl | rfl <;> rfl
            rw [et, ← List.append_assoc]
            exact ((s.pull 2 rfl).pull 2 rfl).tail
        · have s := s.newBlk [.int .i64 0, .slice none 0 0, .slice none 0 0] 32 true
          have gx := (s.pull 1 rfl).rd
          have rw1 := (here_rows (hXi (s.pull 4 rfl))).1
          simp (disch := omega) only [WA, ↓reduceIte, jA, jB, jD, jE, jF, jG, jH, jI, jJ, gx]
          refine tail_step [(2, [], [5, 6, 8], false)] (by kernel_rfl) (by kernel_rfl) (a_cons (by simp only [WLF]; rfl) (by kernel_rfl) ?_ trivial)
          simp (disch := omega) only [WA, ↓reduceIte, jA, jB, jD, jE, jF, jG, jH, jI, jJ, gx]
          refine .inl ⟨by kernel_rfl, ?_⟩; refine cloneInt_c rw1 (by rw [fX.l2]; omega) fun yl h6 t1 => ?_
          have s := s.add t1
          have gx := (s.pull 2 rfl).rd
          have p1 := (s.pull 0 rfl).row.isRow.cells
          have rw2 := (here_rows (hXi (s.pull 5 rfl))).2
          simp (disch := omega) only [WA, ↓reduceIte, jA, jB, jD, jE, jF, jG, jH, jI, jJ, gx]
          refine tail_step [(5, [6], [8], false)] (by kernel_rfl) (by kernel_rfl) (a_cons (by simp only [WLF]; rfl) (by kernel_rfl) ?_ trivial)
          simp (disch := omega) only [WA, ↓reduceIte, jA, jB, jD, jE, jF, jG, jH, jI, jJ, gx]
          refine .inl ⟨by kernel_rfl, ?_⟩; refine cloneInt_c rw2 (by rw [fX.h2]; omega) fun yh h7 t2 => ?_
          have s := s.add t2
          have gx := (s.pull 3 rfl).rd
          have p2 := (s.pull 0 rfl).row.isRow.cells
          simp (disch := omega) only [WA, ↓reduceIte, jA, jB, jD, jE, jF, jG, jH, jI, jJ, gx, p1, p2]
          refine tail_step [(8, [], [], true)] (by kernel_rfl) (by kernel_rfl) (a_cut (by simp only [WLF]; rfl) (by kernel_rfl) ?_ trivial)
          simp (disch := omega) only [WA, ↓reduceIte, jA, jB, jD, jE, jF, jG, jH, jI, jJ, gx]
          refine sep_store (s.pull 2 rfl) (by simp) fun h8 s => ?_
          have s := s.as (ds := [.int .i64 0, yl, yh]) (by simp [t_put])
          have s := (s.pull 2 rfl).pull 1 rfl
          have gx := (s.pull 3 rfl).rd
          simp (disch := omega) only [WA, ↓reduceIte, jA, jB, jD, jE, jF, jG, jH, jI, jJ, gx]
          -- REST
          have cq : (i : Int) < (X.low.length : Int) := by rw [fX.l2]; omega
          have gy := (s.pull 0 rfl).rd
          have gx := (s.pull 3 rfl).rd
          have rr1 := (here_rows (hXi (s.pull 6 rfl))).1
          have X1 := (row_int rr1 hxl).1
          have wm := wrap_in ((p : Int) * len) (by rcases (show p = 0 ∨ p = 1 by omega) with rfl | rfl <;> omega)
          have wb : -128 ≤ (p : Int) * len ∧ (p : Int) * len ≤ 128 := by rcases (show p = 0 ∨ p = 1 by omega) with rfl | rfl <;> omega
          have wa := wrap_in (xl + (p : Int) * len) (by omega)
          have rl := (s.pull 1 rfl).row
          refine draw_ord [0, 1, 2, 3, 4, 5, 6, 7, 8, 9, 10, 11, 12, 13, 14, 15] (by kernel_rfl) (by simp only [WLF]; rfl) ?_
          simp (disch := omega) only [WA, ↓reduceIte, jA, jB, jD, jE, jF, jG, jH, jI, jJ, gy, gx, e0, e7, e10, rr1.isRow.ix, X1, cq]
          refine .inl ⟨by kernel_rfl, ?_⟩; refine length_c (hp.mono hlt s.ext) hbd hlo hhi ?_
          rw [hlen]
          simp (disch := omega) only [WA, ↓reduceIte, jA, jB, jD, jE, jF, jG, jH, jI, jJ, gy, gx, e0, e7, e10, rl.isRow.ix, X1, cq, wm, wa]
          refine sep_set1 (i := i) (y := xl + (p : Int) * len) (((s.pull 1 rfl).rep0 (x := xl + (p : Int) * len) (rep_int ⟨by omega, by omega⟩)).swap) rfl (by rw [fX.l2]; omega) fun h8 s => ?_
          have gy := (s.pull 1 rfl).rd
          have gx := (s.pull 3 rfl).rd
          have rr1 := (here_rows (hXi (s.pull 6 rfl))).1
          have X1 := (row_int rr1 hxl).1
          have rl := (s.pull 0 rfl).row
          have cl : (i : Int) < ((X.low.set i (xl + (p : Int) * len)).length : Int) := by rw [List.length_set]; exact cq
          have Z1 := (row_int rl (show (X.low.set i (xl + (p : Int) * len))[i]? = some (xl + (p : Int) * len) by rw [List.getElem?_set_self (by rw [fX.l2]; omega)])).1
          have ch : (i : Int) < (X.high.length : Int) := by rw [fX.h2]; omega
          have rh := (s.pull 2 rfl).row
          have wc := wrap_in (xl + (p : Int) * len + len) (by omega)
          simp (disch := omega) only [WA, ↓reduceIte, jA, jB, jD, jE, jF, jG, jH, jI, jJ, gy, gx, X1]
          refine draw_ord [0, 1, 2, 3, 4, 5, 6, 7, 8, 9, 10, 11, 12, 13] (by kernel_rfl) (by simp only [WLF]; rfl) ?_
          simp (disch := omega) only [WA, ↓reduceIte, jA, jB, jD, jE, jF, jG, jH, jI, jJ, gy, e0, e7, rl.isRow.ix, Z1, cl]
          refine .inl ⟨by kernel_rfl, ?_⟩; refine length_c (hp.mono hlt s.ext) hbd hlo hhi ?_
          rw [hlen]
          simp (disch := omega) only [WA, ↓reduceIte, jA, jB, jD, jE, jF, jG, jH, jI, jJ, gy, e0, e7, rl.isRow.ix, rh.isRow.ix, Z1, cl, ch, wc]
          refine sep_set1 (i := i) (y := xl + (p : Int) * len + len) (((s.pull 2 rfl).rep0 (x := xl + (p : Int) * len + len) (rep_int ⟨by omega, by omega⟩)).swap) rfl (by rw [fX.h2]; omega) fun h9 s => ?_
          have gy := (s.pull 2 rfl).rd
          have ga := (s.pull 2 rfl).rdAll (n := 3) rfl
          have rl := (s.pull 1 rfl).row
          have Z1 := (row_int rl (show (X.low.set i (xl + (p : Int) * len))[i]? = some (xl + (p : Int) * len) by rw [List.getElem?_set_self (by rw [fX.l2]; omega)])).1
          simp (disch := omega) only [WA, ↓reduceIte, jA, jB, jD, jE, jF, jG, jH, jI, jJ, gy, Z1, e8, ga]
          have hcl : (((bxs zl).take j).flatMap (cut2 i len) ++ (cut2 i len X).take p).length ≤ 100 := by
            have h1 : (((bxs zl).take j).flatMap (cut2 i len)).length = 2 * ((bxs zl).take j).length := by
              generalize (bxs zl).take j = l
              induction l with
              | nil => rfl
              | cons a l ih => rw [List.flatMap_cons, List.length_append, ih]; show 2 + _ = 2 * (_ + 1); omega
            have h2 : ((bxs zl).take j).length ≤ zl.length := by rw [List.length_take]; simp; omega
            have h3 : ((cut2 i len X).take p).length ≤ 2 := by rw [List.length_take]; show min p 2 ≤ 2; omega
            rw [List.length_append]; omega
          have sb := sep_box (x := (⟨0, X.low.set i (xl + (p : Int) * len), X.high.set i (xl + (p : Int) * len + len)⟩ : Bx)) (s.pull 1 rfl) (show inI64 (0 : Int) from ⟨by decide, by decide⟩)
          refine sep_append (sb.pull 3 rfl) rfl rfl te40 tk32 rfl (by decide) (by simp only []; omega) fun vm h10 s => ?_
          have w9 := wrap_in ((p : Int) + 1) (by omega)
          simp (disch := omega) only [WA, ↓reduceIte, jA, jB, jD, jE, jF, jG, jH, jI, jJ, e0, e1, e7, e10, e35, e36, e39, e40, e41, e46, e47, w9]
          refine ⟨_, by omega, p + 1, vm, rfl, by simp, by omega, rfl, ?_⟩
          have et : (cut2 i len X).take (p + 1) = (cut2 i len X).take p ++ [(⟨0, X.low.set i (xl + (p : Int) * len), X.high.set i (xl + (p : Int) * len + len)⟩ : Bx)] := by
            rw [← gxl]
            rcases (show p = 0 ∨ p = 1 by omega) with rfl | rfl <;> rfl
          rw [et, ← List.append_assoc]
          exact ((s.pull 2 rfl).pull 2 rfl).tail
      · obtain rfl : p = 2 := by omega
        have c1 : ¬ ((2 : Nat) : Int) < 2 := by decide
        have w9 := wrap_in ((j : Int) + 1) (by omega)
        have et : (cut2 i len X).take 2 = cut2 i len X := rfl
        rw [et] at s
        simp (disch := omega) only [WA, ↓reduceIte, jA, jB, jD, jE, jF, jG, jH, jI, jJ, c1, e0, e1, e7, e8, e35, e36, e39, e40, e41, w9]
        refine ⟨_, by omega, j + 1, vn, rfl, by simp, by omega, rfl, ?_⟩
        rw [flat_take_step _ bX]
        exact s.tail
    · obtain rfl : j = zl.length := by omega
      have c1 : ¬ (zl.length : Int) < (zl.length : Int) := by omega
      have w9 := wrap_in ((i : Int) + 1) (by omega)
      rw [List.take_of_length_le (by simp), hz] at s
      simp (disch := omega) only [WA, ↓reduceIte, jA, jB, jD, jE, jF, jG, jH, jI, jJ, c1, e0, e1, e7, e8, e35, e36, w9]
      refine ⟨_, by omega, i + 1, vn, rfl, by simp, by omega, rfl, ?_⟩
      show Sep h h4 [ownA 32 ((lev x y z w i).flatMap (cut2 i (lenI x y z w i))) vn]
      rw [hLd]
      exact s.head
  · obtain rfl : i = 2 := by omega
    have c1 : ¬ ((2 : Nat) : Int) < ((2 : Nat) : Int) := by decide
    have isr := (s.pull 0 rfl).row.isRow
    rw [(lev_len x y z w).2.2] at isr
    simp (disch := omega) only [WA, ↓reduceIte, jA, jB, jD, jE, jF, jG, jH, jI, jJ, c1, e6, isr.len]
    have gk0 : getC h bb off = some (.int .i64 (k : Int)) := by rw [← g.bk]; exact g0
    refine loop_rule (fun n e h' => ∃ (i : Nat), e 0 = .pointer (some ⟨bb, off, none⟩) ∧ e 1 = .int .i64 1 ∧ e 6 = vo ∧ e 93 = vo ∧ e 94 = .int .i64 ((4 : Nat) : Int) ∧ e 95 = .int .i64 (i : Int) ∧ i ≤ 4 ∧ n = 4 - i ∧ Sep h h' [ownA 32 (((lev x y z w 2).take i).map (nrmX k) ++ (lev x y z w 2).drop i) vo]) ?_ 4 _ _
      ⟨0, e0, e1, e6, rfl, rfl, rfl, by omega, by omega, s⟩
    clear e0 e1 e6 e35 e36 s isr
    rintro n e h4 ⟨i, e0, e1, e6, e93, e94, e95, hi, rfl, s⟩
    have hL4 : (lev x y z w 2).length = 4 := (lev_len x y z w).2.2
    simp (disch := omega) only [WA, ↓reduceIte, jA, jB, jD, jE, jF, jG, jH, jI, jJ, e94, e95]
    by_cases ci : i < 4
    · have c1 : (i : Int) < ((4 : Nat) : Int) := by omega
      obtain ⟨X, hX⟩ := get_some (show i < (lev x y z w 2).length by omega)
      have hLl : (((lev x y z w 2).take i).map (nrmX k) ++ (lev x y z w 2).drop i).length = 4 := by rw [List.length_append, List.length_map, List.length_take, List.length_drop]; omega
      have hLX : (((lev x y z w 2).take i).map (nrmX k) ++ (lev x y z w 2).drop i)[i]? = some X := by
        rw [List.getElem?_append_right (by rw [List.length_map, List.length_take]; omega), List.length_map, List.length_take, Nat.min_eq_left (by omega), Nat.sub_self, List.getElem?_drop, Nat.add_zero]; exact hX
      have hset : (((lev x y z w 2).take i).map (nrmX k) ++ (lev x y z w 2).drop i).set i (nrmX k X) = ((lev x y z w 2).take (i + 1)).map (nrmX k) ++ (lev x y z w 2).drop (i + 1) := by
        rw [drop_cons hX, set_mid (by rw [List.length_map, List.length_take]; omega), List.take_add_one, hX, List.map_append, List.append_assoc]; rfl
      have fX := lev_fit g 2 (by omega) X (List.mem_of_getElem? hX)
      have hgood : boxM (nrmX k X) = true := by
        have : nrmX k X ∈ quarts k x y z w := by rw [← lev_quarts]; exact List.mem_map.2 ⟨X, List.mem_of_getElem? hX, rfl⟩
        exact (quart_fit g gb _ this).1
      have hmk : mkB (k + 1) X.low X.high = some (nrmX k X) := mkB_ok hgood
      have row := (s.pull 0 rfl).row
      have isr3 := row.isRow
      rw [hLl] at isr3
      obtain ⟨xs, X1, X2⟩ := row.at hLX
      obtain ⟨a1, a2, rfl, fk, _, _⟩ := here_Bx X2
      have X1 : cellsAt h4 (rowB vo) (rowO vo + i * 3) 3 = some [.int .i64 X.k, a1, a2] := X1
      have s := s.newBlk [.int .i64 X.k, a1, a2] 32 true
      have gx := (s.pull 0 rfl).rd
      have gk := s.ext.keepC gk0
      have gk' := (s.head).ext.keepC gk0
      have X2 := X2.mono (Ext.one h4 (some ⟨[.int .i64 X.k, a1, a2], 32, false, true⟩))
      have k3 := g.k3
      have wk := wrap_in ((k + 1 : Nat) : Int) (by omega)
      have ck : (k : Int) + 1 = ((k + 1 : Nat) : Int) := by omega
      have b1 : InB 1000000000 X.low := fun n hn => by have := fX.lb n hn; omega
      have b2 : InB 1000000000 X.high := fun n hn => by have := fX.hb n hn; omega
      simp (disch := omega) only [WA, ↓reduceIte, jA, jB, jD, jE, jF, jG, jH, jI, jJ, c1, e93, e95, isr3.ix, X1]
      generalize hB : h4.length = B at s gx ⊢
      generalize h4 ++ [some ⟨[.int .i64 X.k, a1, a2], 32, false, true⟩] = H4 at s gx gk gk' X2 ⊢
      obtain ⟨rl, rh⟩ := here_rows X2
      refine draw_tail [0, 1, 2, 3, 4, 5, 6, 7, 8, 9] [10, 11, 12, 13, 14, 15, 16] (by kernel_rfl) (by simp only [WLF]; rfl) ?_
      simp (disch := omega) only [WA, ↓reduceIte, jA, jB, jD, jE, jF, jG, jH, jI, jJ, e0, e1, gx, gk, wk, ck]
      refine tail_step [(10, [11, 12, 13], [14, 15, 16], true), (14, [], [10, 11, 12, 13, 15, 16], false)] (by kernel_rfl) (by kernel_rfl) (a_cut (by simp only [WLF]; rfl) (by kernel_rfl) ?_ (a_cons (by simp only [WLF]; rfl) (by kernel_rfl) ?_ trivial))
      · simp (disch := omega) only [WA, ↓reduceIte, jA, jB, jD, jE, jF, jG, jH, jI, jJ, gx, gk]
        refine .inl ⟨by kernel_rfl, ?_⟩; refine boxOfB_c (k := k + 1) rl rh (by omega) (by rw [fX.l2]; omega) (by rw [fX.l2]; omega) (by rw [fX.l2, fX.h2]) b1 b2 fun cs h6 l6 t6 => ?_
        obtain ⟨m1, m2, m3, rfl⟩ := len3 l6
        rw [hmk] at t6 ⊢
        rw [Option.getD_some] at t6
        have s := s.add t6
        have gx := (s.pull 1 rfl).rd
        have gk := t6.ext.keepC gk
        simp (disch := omega) only [WA, ↓reduceIte, jA, jB, jD, jE, jF, jG, jH, jI, jJ, gx, gk, Option.isSome_some]
        refine tail_step [(14, [], [15, 16], false)] (by kernel_rfl) (by kernel_rfl) (a_cons (by simp only [WLF]; rfl) (by kernel_rfl) ?_ trivial)
        have s1 := s.newBlk [.int .i64 0, .slice none 0 0, .slice none 0 0] 32 true
        have gx1 := (s1.pull 2 rfl).rd
        have gk1 := s1.ext.keepC gk0
        simp (disch := omega) only [WA, ↓reduceIte, jA, jB, jD, jE, jF, jG, jH, jI, jJ, gx1, gk1]
        refine tail_step [(15, [16], [], false)] (by kernel_rfl) (by kernel_rfl) (a_cons (by simp only [WLF]; rfl) (by kernel_rfl) ?_ trivial)
        have s := s.newBlk [m1, m2, m3] 32 true
        have gx := (s.pull 2 rfl).rd
        have gk := s.ext.keepC gk0
        simp (disch := omega) only [WA, ↓reduceIte, jA, jB, jD, jE, jF, jG, jH, jI, jJ, gx, gk]
        generalize h6 ++ [some ⟨[m1, m2, m3], 32, false, true⟩] = H8 at s ⊢
        generalize h6.length = C at s ⊢
        have s := s.swap
        have gb2 := (s.pull 1 rfl).rdAll (n := 3) rfl
        have isr4 := (s.pull 3 rfl).row.isRow
        rw [hLl] at isr4
        simp (disch := omega) only [WA, ↓reduceIte, jA, jB, jD, jE, jF, jG, jH, jI, jJ, gb2, e6, isr4.ix, c1]
        refine sep_set (s.pull 0 rfl |> fun s => (s.pull 3 rfl)) (by rw [hLl]; exact ci) fun h9 s => ?_
        have w9 := wrap_in ((i : Int) + 1) (by omega)
        simp (disch := omega) only [WA, ↓reduceIte, jA, jB, jD, jE, jF, jG, jH, jI, jJ, e0, e1, e6, e93, e94, e95, w9]
        refine ⟨_, by omega, i + 1, by simp, by omega, rfl, ?_⟩
        rw [hset] at s
        exact s.head
      · have s := s.newBlk [.int .i64 0, .slice none 0 0, .slice none 0 0] 32 true
        have gx := (s.pull 1 rfl).rd
        have gk := s.ext.keepC gk0
        have E4 := Ext.one H4 (some ⟨[.int .i64 0, .slice none 0 0, .slice none 0 0], 32, false, true⟩)
        simp (disch := omega) only [WA, ↓reduceIte, jA, jB, jD, jE, jF, jG, jH, jI, jJ, gx, gk]
        refine tail_step [(10, [11, 12, 13], [15, 16], false)] (by kernel_rfl) (by kernel_rfl) (a_cons (by simp only [WLF]; rfl) (by kernel_rfl) ?_ trivial)
        simp (disch := omega) only [WA, ↓reduceIte, jA, jB, jD, jE, jF, jG, jH, jI, jJ, gx, gk]
        refine .inl ⟨by kernel_rfl, ?_⟩; refine boxOfB_c (k := k + 1) (rl.mono E4) (rh.mono E4) (by omega) (by rw [fX.l2]; omega) (by rw [fX.l2]; omega) (by rw [fX.l2, fX.h2]) b1 b2 fun cs h6 l6 t6 => ?_
        obtain ⟨m1, m2, m3, rfl⟩ := len3 l6
        rw [hmk] at t6 ⊢
        rw [Option.getD_some] at t6
        have s := s.add t6
        have gx := (s.pull 2 rfl).rd
        have gk := t6.ext.keepC gk
        simp (disch := omega) only [WA, ↓reduceIte, jA, jB, jD, jE, jF, jG, jH, jI, jJ, gx, gk, Option.isSome_some]
        refine tail_step [(15, [16], [], false)] (by kernel_rfl) (by kernel_rfl) (a_cons (by simp only [WLF]; rfl) (by kernel_rfl) ?_ trivial)
        simp (disch := omega) only [WA, ↓reduceIte, jA, jB, jD, jE, jF, jG, jH, jI, jJ, gx, gk]
        refine sep_store (s.pull 1 rfl) (by simp) fun h8 s => ?_
        have s := s.as (ds := [m1, m2, m3]) (by simp [t_put])
        have gx := (s.pull 2 rfl).rd
        have gk := s.ext.keepC gk0
        simp (disch := omega) only [WA, ↓reduceIte, jA, jB, jD, jE, jF, jG, jH, jI, jJ, gx, gk]
        have s := s.swap
        have gb2 := (s.pull 1 rfl).rdAll (n := 3) rfl
        have isr4 := (s.pull 3 rfl).row.isRow
        rw [hLl] at isr4
        simp (disch := omega) only [WA, ↓reduceIte, jA, jB, jD, jE, jF, jG, jH, jI, jJ, gb2, e6, isr4.ix, c1]
        refine sep_set (s.pull 0 rfl |> fun s => (s.pull 3 rfl)) (by rw [hLl]; exact ci) fun h9 s => ?_
        have w9 := wrap_in ((i : Int) + 1) (by omega)
        simp (disch := omega) only [WA, ↓reduceIte, jA, jB, jD, jE, jF, jG, jH, jI, jJ, e0, e1, e6, e93, e94, e95, w9]
        refine ⟨_, by omega, i + 1, by simp, by omega, rfl, ?_⟩
        rw [hset] at s
        exact s.head
    · obtain rfl : i = 4 := by omega
      have c1 : ¬ ((4 : Nat) : Int) < ((4 : Nat) : Int) := by decide
      rw [List.take_of_length_le (by omega), List.drop_of_length_le (by omega), List.append_nil, lev_quarts] at s
      have pl := (s.pull 0 rfl).row.isRow.plain
      simp (disch := omega) only [WA, ↓reduceIte, jA, jB, jD, jE, jF, jG, jH, jI, jJ, c1, e6, pl]
      exact hQ _ _ s
end Go.Proofs
end
