/- The layer V and contracts of functions over it, or plain laws behind one statement (own work): MI=UI,UJ. Conditions: those told in each theorem. -/
import Derived.Test.YtlnephhhcofilaaGreatMP
import Derived.Test.YtlnephhhcofilaaGreatUH
set_option linter.all false
section
set_option linter.unusedSimpArgs false
set_option linter.unusedVariables false
set_option maxRecDepth 4000
namespace Go.Proofs
open Go Go.V
open Nat renaming reduceEqDiff → jA, reduceAdd → jB, reduceMul → jD, reduceSub → jE, reduceLeDiff → jF
open Int renaming reduceLT → jG, reduceLE → jH, reduceNeg → jI, reduceEq → jJ
/- Halves of a box. -/
def dblL (l : List Int) : List Int := l.map (2 * ·)
theorem dbl_up (l : List Int) : upL l 1 = dblL l := by unfold upL dblL; exact List.map_congr_left fun x _ => by show x * 2 ^ 1 = 2 * x; omega
theorem dbl_len (l : List Int) : (dblL l).length = l.length := by unfold dblL; simp
theorem dbl_in {l : List Int} (h : ∀ n ∈ l, -2048 ≤ n ∧ n ≤ 2048) : InB 1000000000 (dblL l) := by
  intro n hn
  unfold dblL at hn
  obtain ⟨x, hx, rfl⟩ := List.mem_map.1 hn
  have := h x hx
  constructor <;> omega
theorem set_in {l : List Int} {i : Nat} {m : Int} (h : InB 1000000000 l) (hm : -1000000000 ≤ m ∧ m ≤ 1000000000) : InB 1000000000 (l.set i m) := by
  intro n hn
  rcases List.mem_or_eq_of_mem_set hn with hn | rfl
  · exact h n hn
  · exact hm
def half1 (b : Bx) (side : Nat) : Option Bx := mkB (b.k.toNat + 1) (dblL b.low) ((dblL b.high).set side (b.low.getD side 0 + b.high.getD side 0))
def half2 (b : Bx) (side : Nat) : Option Bx := mkB (b.k.toNat + 1) ((dblL b.low).set side (b.low.getD side 0 + b.high.getD side 0)) (dblL b.high)
def halvesM (b : Bx) (side : Nat) : Option (List Bx) := (half1 b side).bind fun x => (half2 b side).map fun y => [x, y]
theorem halvesM_none {b : Bx} {side : Nat} (h : ((half1 b side).isSome && (half2 b side).isSome) = false) : halvesM b side = none := by
  unfold halvesM
  cases h1 : half1 b side with
  | none => rfl
  | some x => cases h2 : half2 b side with
    | none => rfl
    | some y => rw [h1, h2] at h; simp at h
theorem len3 {l : List Value} (h : l.length = 3) : ∃ a b c, l = [a, b, c] := by
  match l, h with
  | [a, b, c], _ => exact ⟨a, b, c, rfl⟩
/-- Two things that have been told, in one list. -/
theorem Sep.blkTwo {α : Type} [Rep α] {a h : Heap} {L : List Asr} {x y : α} {c1 c2 : List Value} {b : Nat} {ty : TypeId} (s : Sep a h (repA x c1 :: repA y c2 :: blkA b (c1 ++ c2) ty :: L)) :
    Sep a h (ownA ty [x, y] (.slice (some ⟨b, 0, none⟩) 2 2) :: L) := by
  refine s.both.both.to fun fp ⟨f, g, e, ⟨f1, f2, e1, h1, h2⟩, e2, ex, o⟩ hd => ?_
  have hc : Cells h [x, y] (c1 ++ c2) [f1, f2] := (Cells.one h1).append (Cells.one h2)
  have hl := hc.length.1
  subst e; subst e1; subst e2
  have hcells : ((c1 ++ c2).drop 0).take ([x, y].length * Rep.sz α) = c1 ++ c2 := by rw [List.drop_zero, List.take_of_length_le (Nat.le_of_eq hl)]
  have hp : (b :: (f1 ++ f2)).Nodup := by
    have := List.nodup_append.1 hd
    refine List.nodup_cons.2 ⟨fun hm => this.2.2 b hm b (by simp) rfl, this.1⟩
  refine ⟨b :: [f1, f2].flatten, Own.mk' (α := α) (l := [x, y]) (b := b) (off := 0) (cap := 2) (fps := [f1, f2]) (Nat.le_refl _) (show 2 ≤ 9223372036854775807 by decide) o rfl rfl (by simp only []; rw [hl]; simp) (by rw [hcells]; exact hc) (by simpa using hp), by simpa using hp, ?_⟩
  intro z hz
  simp only [List.flatten_cons, List.flatten_nil, List.append_nil, List.mem_cons, List.mem_append] at hz ⊢
  rcases hz with rfl | hz | hz
  · simp
  · simp [hz]
  · simp [hz]
theorem bxFine_c {b : Bx} {cs : List Value} {h : Heap} {Q : Value → Heap → Prop} (hb : Here h b cs) (gb : boxM b = true)
    (hQ : ∀ v w h', Sep h h' [ownA 3 (dblL b.low) v, ownA 3 (dblL b.high) w] → Q (.tuple #[v, w]) h') : CallsV Tryz.prog 64 [.agg cs.toArray] h Q := by
  obtain ⟨v1, v2, rfl, f1, r1, r2⟩ := here_Bx hb
  obtain ⟨hk, hl1, hl3, hlh, hs1, hs2⟩ := box_k gb
  refine CallsV.start Tryz.func64 rfl (by rw [Tryz.results64]) (by kernel_rfl) (by rw [Tryz.ntmps64]; simp) ?_
  have s := Sep.blk1 h [.int .i64 b.k, v1, v2] 32 true
  have g := s.rd
  simp (disch := omega) only [WA, ↓reduceIte, jA, jB, jD, jE, jF, jG, jH, jI, jJ, g, r1.isRow.len]
  have s := (s.nilA (α := Int) 3).nilA (α := Int) 3
  generalize h ++ [some ⟨[.int .i64 b.k, v1, v2], 32, false, true⟩] = H0 at s ⊢
  refine loop_rule (fun m e h' => ∃ (i : Nat) (vl vh : Value), e 1 = .pointer (some ⟨h.length, 0, none⟩) ∧ e 4 = vl ∧ e 5 = vh ∧ e 9 = v1 ∧ e 10 = .int .i64 b.low.length ∧ e 11 = .int .i64 i ∧ i ≤ b.low.length ∧ m = b.low.length - i ∧
    Sep h h' [ownA 3 (dblL (b.low.take i)) vl, ownA 3 (dblL (b.high.take i)) vh, blkA h.length [.int .i64 b.k, v1, v2] 32]) ?_ b.low.length _ _ ⟨0, _, _, rfl, rfl, rfl, rfl, rfl, rfl, by omega, by omega, s⟩
  clear s g
  rintro m e h3 ⟨i, vl, vh, e1, e4, e5, e9, e10, e11, hi, rfl, s⟩
  simp (disch := omega) only [WA, ↓reduceIte, jA, jB, jD, jE, jF, jG, jH, jI, jJ, e10, e11]
  by_cases c : i < b.low.length
  · have c1 : (i : Int) < (b.low.length : Int) := by omega
    have c2 : (i : Int) < (b.high.length : Int) := by omega
    obtain ⟨x, hx⟩ := get_some c
    obtain ⟨y, hy⟩ := get_some (show i < b.high.length by omega)
    have rr1 := r1.mono s.ext
    obtain ⟨X1, X2⟩ := row_int rr1 hx
    have hxb := hs1 x (List.mem_of_getElem? hx)
    have hyb := hs2 y (List.mem_of_getElem? hy)
    have w1 := wrap_in (2 * x) (by omega)
    have w2 := wrap_in (2 * y) (by omega)
    have w3 := wrap_in ((i : Int) + 1) (by omega)
    have hl4 : (dblL (b.low.take i)).length = i := by rw [dbl_len, List.length_take]; omega
    have hl5 : (dblL (b.high.take i)).length = i := by rw [dbl_len, List.length_take]; omega
    simp (disch := omega) only [WA, ↓reduceIte, jA, jB, jD, jE, jF, jG, jH, jI, jJ, c1, e4, e9, e11, rr1.isRow.ix, X1, w1]
    have s := (s.rep0 (x := 2 * x) (rep_int ⟨by omega, by omega⟩)).swap
    refine sep_append (y := 2 * x) s rfl rfl te23 tk3 rfl (by decide) (by rw [hl4]; simp only []; omega) fun w4 h4 s => ?_
    have rr2 := r2.mono s.ext
    obtain ⟨Y1, Y2⟩ := row_int rr2 hy
    have g := (s.pull 2 rfl).rd
    simp (disch := omega) only [WA, ↓reduceIte, jA, jB, jD, jE, jF, jG, jH, jI, jJ, e1, e5, c2, g, rr2.isRow.ix, Y1, w2]
    have s := ((s.pull 1 rfl).rep0 (x := 2 * y) (rep_int ⟨by omega, by omega⟩)).swap
    refine sep_append (y := 2 * y) s rfl rfl te23 tk3 rfl (by decide) (by rw [hl5]; simp only []; omega) fun w5 h5 s => ?_
    simp (disch := omega) only [WA, ↓reduceIte, jA, jB, jD, jE, jF, jG, jH, jI, jJ, e11, w3]
    refine ⟨_, by omega, i + 1, w4, w5, e1, rfl, rfl, e9, e10, by simp, by omega, rfl, ?_⟩
    have t1 : dblL (b.low.take (i + 1)) = dblL (b.low.take i) ++ [2 * x] := by unfold dblL; rw [List.take_add_one, hx, List.map_append]; rfl
    have t2 : dblL (b.high.take (i + 1)) = dblL (b.high.take i) ++ [2 * y] := by unfold dblL; rw [List.take_add_one, hy, List.map_append]; rfl
    rw [t1, t2]
    exact s.swap
  · obtain rfl : i = b.low.length := by omega
    have c1 : ¬ (b.low.length : Int) < (b.low.length : Int) := by omega
    rw [List.take_length, List.take_of_length_le (by omega)] at s
    have p1 := (s.pull 0 rfl).row.isRow.plain
    have p2 := (s.pull 1 rfl).row.isRow.plain
    simp (disch := omega) only [WA, ↓reduceIte, jA, jB, jD, jE, jF, jG, jH, jI, jJ, c1, e4, e5, p1, p2]
    exact hQ _ _ _ (s.pull 2 rfl).tail
theorem bxHalves_c {b : Bx} {cs : List Value} {side : Nat} {h : Heap} {Q : Value → Heap → Prop} (hb : Here h b cs) (gb : boxM b = true) (hsd : side < b.low.length)
    (hQ : ∀ v h', Sep h h' [repA ((halvesM b side).getD []) [v]] → Q (.tuple #[v, .bool (halvesM b side).isSome]) h') : CallsV Tryz.prog 47 [.agg cs.toArray, .int .i64 side] h Q := by
  obtain ⟨v1, v2, rfl, f1, r1, r2⟩ := here_Bx hb
  obtain ⟨hk, hl1, hl3, hlh, hs1, hs2⟩ := box_k gb
  obtain ⟨x, hx⟩ := get_some hsd
  obtain ⟨y, hy⟩ := get_some (show side < b.high.length by omega)
  have hxb := hs1 x (List.mem_of_getElem? hx)
  have hyb := hs2 y (List.mem_of_getElem? hy)
  have gx : b.low.getD side 0 = x := by rw [List.getD_eq_getElem?_getD, hx]; rfl
  have gy : b.high.getD side 0 = y := by rw [List.getD_eq_getElem?_getD, hy]; rfl
  obtain ⟨k, hk'⟩ := Int.eq_ofNat_of_zero_le hk.1
  have c1 : (side : Int) < (b.low.length : Int) := by omega
  have c2 : (side : Int) < (b.high.length : Int) := by omega
  have wk := wrap_in ((k + 1 : Nat) : Int) (by omega)
  have ck : (k : Int) + 1 = ((k + 1 : Nat) : Int) := by omega
  have w1 := wrap_in (x + y) (by omega)
  have hn1 : half1 b side = mkB (k + 1) (dblL b.low) ((dblL b.high).set side (x + y)) := by unfold half1; rw [gx, gy, hk']; rfl
  have hn2 : half2 b side = mkB (k + 1) ((dblL b.low).set side (x + y)) (dblL b.high) := by unfold half2; rw [gx, gy, hk']; rfl
  have q1 : (side : Int) < ((dblL b.low).length : Int) := by rw [dbl_len]; omega
  have q2 : (side : Int) < ((dblL b.high).length : Int) := by rw [dbl_len]; omega
  have i1 := dbl_in hs1
  have i2 := dbl_in hs2
  refine CallsV.start Tryz.func47 rfl (by rw [Tryz.results47]) (by kernel_rfl) (by rw [Tryz.ntmps47]; simp) ?_
  have s := Sep.blk1 h [.int .i64 b.k, v1, v2] 32 true
  have ga := s.rdAll (n := 3) rfl
  simp (disch := omega) only [WA, ↓reduceIte, jA, jB, jD, jE, jF, jG, jH, jI, jJ, ga]
  refine .inl ⟨by kernel_rfl, ?_⟩; refine bxFine_c (hb.mono s.ext) gb fun vl vh h1 t1 => ?_
  have s := s.add t1
  have rr1 := r1.mono s.ext
  have rr2 := r2.mono s.ext
  have X1 := (row_int rr1 hx).1
  have Y1 := (row_int rr2 hy).1
  have g := (s.pull 2 rfl).rd
  simp (disch := omega) only [WA, ↓reduceIte, jA, jB, jD, jE, jF, jG, jH, jI, jJ]
  refine draw_ord [0, 1, 2, 3, 4, 5, 6, 7, 8, 9, 10, 11] (by kernel_rfl) (by simp only [WLF]; rfl) ?_
  simp (disch := omega) only [WA, ↓reduceIte, jA, jB, jD, jE, jF, jG, jH, jI, jJ, g, rr1.isRow.ix, rr2.isRow.ix, c1, c2, X1, Y1, w1]
  have rl := (s.pull 0 rfl).row
  have rh := (s.pull 1 rfl).row
  refine .inl ⟨by kernel_rfl, ?_⟩; refine l1Own_c rl (by rw [dbl_len]; omega) fun vu h2 t2 => ?_
  have s := s.add t2
  simp (disch := omega) only [WA, ↓reduceIte, jA, jB, jD, jE, jF, jG, jH, jI, jJ]
  refine .inl ⟨by kernel_rfl, ?_⟩; refine l1Own_c (s.pull 2 rfl).row (by rw [dbl_len]; omega) fun vd h3 t3 => ?_
  have s := s.add t3
  have ru := (s.pull 1 rfl).row
  have rd := (s.pull 0 rfl).row
  simp (disch := omega) only [WA, ↓reduceIte, jA, jB, jD, jE, jF, jG, jH, jI, jJ, ru.isRow.ix, q1]
  refine sep_set1 (i := side) (y := x + y) (((s.pull 1 rfl).rep0 (x := x + y) (rep_int ⟨by omega, by omega⟩)).swap) rfl (by rw [dbl_len]; omega) fun h4 s => ?_
  have rd := (s.pull 1 rfl).row
  simp (disch := omega) only [WA, ↓reduceIte, jA, jB, jD, jE, jF, jG, jH, jI, jJ, rd.isRow.ix, q2]
  refine sep_set1 (i := side) (y := x + y) (((s.pull 1 rfl).rep0 (x := x + y) (rep_int ⟨by omega, by omega⟩)).swap) rfl (by rw [dbl_len]; omega) fun h5 s => ?_
  have g := (s.pull 4 rfl).rd
  have rl := (s.pull 2 rfl).row
  have rd := (s.pull 0 rfl).row
  simp (disch := omega) only [WA, ↓reduceIte, jA, jB, jD, jE, jF, jG, jH, jI, jJ, g, hk', wk, ck]
  refine .inl ⟨by kernel_rfl, ?_⟩; refine bxMakeB_c (k := k + 1) rl rd (by omega) (by rw [dbl_len]; omega) (by rw [dbl_len]; omega) (by rw [List.length_set, dbl_len, dbl_len]; omega) i1 (set_in i2 (by omega)) fun c1s h6 l6 t6 => ?_
  obtain ⟨m1, m2, m3, rfl⟩ := len3 l6
  have s := s.add t6
  rw [← hn1] at s ⊢
  have s := s.newBlk [m1, m2, m3] 32 true
  have g := (s.pull 6 rfl).rd
  have ru := (s.pull 3 rfl).row
  have rh := (s.pull 5 rfl).row
  simp (disch := omega) only [WA, ↓reduceIte, jA, jB, jD, jE, jF, jG, jH, jI, jJ, g, hk', wk, ck]
  generalize h6 ++ [some ⟨[m1, m2, m3], 32, false, true⟩] = H6 at s g ru rh ⊢
  refine .inl ⟨by kernel_rfl, ?_⟩; refine bxMakeB_c (k := k + 1) ru rh (by omega) (by rw [List.length_set, dbl_len]; omega) (by rw [List.length_set, dbl_len]; omega) (by rw [List.length_set, dbl_len, dbl_len]; omega) (set_in i1 (by omega)) i2 fun c2s h7 l7 t7 => ?_
  obtain ⟨n1, n2, n3, rfl⟩ := len3 l7
  have s := s.add t7
  rw [← hn2] at s ⊢
  have s := s.newBlk [n1, n2, n3] 32 true
  simp (disch := omega) only [WA, ↓reduceIte, jA, jB, jD, jE, jF, jG, jH, jI, jJ]
  cases ho : (half1 b side).isSome && (half2 b side).isSome with
  | false =>
    rw [halvesM_none ho] at hQ
    have hr := hQ (.slice none 0 0)
    have ok := ((Sep.nilA (Sep.nil s.ext) (α := Bx) 32).toRep)
    cases h1' : (half1 b side).isSome with
    | false =>
      simp (disch := omega) only [WA, ↓reduceIte, jA, jB, jD, jE, jF, jG, jH, jI, jJ]
      exact hr _ ok
    | true =>
      rw [h1', Bool.true_and] at ho
      simp (disch := omega) only [WA, ↓reduceIte, jA, jB, jD, jE, jF, jG, jH, jI, jJ, ho]
      exact hr _ ok
  | true =>
    obtain ⟨o1, o2⟩ := Bool.and_eq_true_iff.1 ho
    obtain ⟨x1, hx1⟩ := Option.isSome_iff_exists.1 o1
    obtain ⟨x2, hx2⟩ := Option.isSome_iff_exists.1 o2
    have hm : halvesM b side = some [x1, x2] := by unfold halvesM; rw [hx1, hx2]; rfl
    rw [hx1] at s
    rw [hx2] at s
    rw [hm] at hQ
    have ga := (s.pull 0 rfl).rdAll (n := 3) rfl
    have gb := (s.pull 2 rfl).rdAll (n := 3) rfl
    have s := s.newBlk [m1, m2, m3, n1, n2, n3] 32 true
    have s := Sep.blkTwo (c1 := [m1, m2, m3]) (c2 := [n1, n2, n3]) ((s.pull 2 rfl).pull 4 rfl |> fun s => s)
    simp (disch := omega) only [WA, ↓reduceIte, jA, jB, jD, jE, jF, jG, jH, jI, jJ, o1, o2, ga, gb]
    have s := s.toRep.head
    simp only [List.append_assoc, List.cons_append, List.nil_append, List.length_append, List.length_cons, List.length_nil, Nat.reduceAdd] at s
    exact hQ _ _ s
end Go.Proofs
end

section
set_option linter.unusedSimpArgs false
set_option linter.unusedVariables false
set_option maxRecDepth 4000
namespace Go.Proofs
open Go Go.V
open Nat renaming reduceEqDiff → jA, reduceAdd → jB, reduceMul → jD, reduceSub → jE, reduceLeDiff → jF
open Int renaming reduceLT → jG, reduceLE → jH, reduceNeg → jI, reduceEq → jJ
/- Multiplicities of halves. -/
theorem plane_box {b : Bx} (h : planeB b = true) : boxM b = true ∧ b.low.length = 2 := by
  unfold planeB at h
  simp only [Bool.and_eq_true, decide_eq_true_eq] at h
  exact h.1
end Go.Proofs
end
