/- The layer V and contracts of functions over it, or plain laws behind one statement (own work): MP=UF,UG. Conditions: those told in each theorem. -/
import Derived.Test.YtlnephhhcofilaaGreatMN
set_option linter.all false
section
set_option linter.unusedSimpArgs false
set_option linter.unusedVariables false
set_option maxRecDepth 4000
namespace Go.Proofs
open Go Go.V
open Nat renaming reduceEqDiff → jA, reduceAdd → jB, reduceMul → jD, reduceSub → jE, reduceLeDiff → jF
open Int renaming reduceLT → jG, reduceLE → jH, reduceNeg → jI, reduceEq → jJ
theorem box_k {x : Bx} (h : boxM x = true) : (0 ≤ x.k ∧ x.k ≤ 8) ∧ 1 ≤ x.low.length ∧ x.low.length ≤ 3 ∧ x.high.length = x.low.length ∧ (∀ n ∈ x.low, -2048 ≤ n ∧ n ≤ 2048) ∧ (∀ n ∈ x.high, -2048 ≤ n ∧ n ≤ 2048) := by
  unfold boxM at h
  simp only [Bool.and_eq_true, decide_eq_true_eq] at h
  obtain ⟨⟨⟨h1, h2⟩, h3⟩, h4, _⟩ := h
  have hm := mostM_le h1
  have key : ∀ (i : Nat) (a b : Int), x.low[i]? = some a → x.high[i]? = some b → (-2048 ≤ a ∧ a ≤ 2048) ∧ (-2048 ≤ b ∧ b ≤ 2048) := fun i a b ha hb => by
    have := List.all_eq_true.1 h4 (a, b) (List.mem_of_getElem? (zip_get ha hb))
    simp only [pairOk, decide_eq_true_eq] at this
    omega
  refine ⟨h1, by omega, by omega, h3, fun n hn => ?_, fun n hn => ?_⟩
  · obtain ⟨i, hi, rfl⟩ := List.mem_iff_getElem.1 hn
    obtain ⟨b, hb⟩ := get_some (show i < x.high.length by omega)
    exact (key i _ b (List.getElem?_eq_getElem hi) hb).1
  · obtain ⟨i, hi, rfl⟩ := List.mem_iff_getElem.1 hn
    obtain ⟨a, ha⟩ := get_some (show i < x.low.length by omega)
    exact (key i a _ ha (List.getElem?_eq_getElem hi)).2
def hfL (l : List Int) : List Int := l.map (Int.tdiv · 2)
theorem hfL_len (l : List Int) : (hfL l).length = l.length := by unfold hfL; simp
def InB (b : Int) (l : List Int) : Prop := ∀ n ∈ l, -b ≤ n ∧ n ≤ b
theorem zip_odd {l m : List Int} (hm : m.length = l.length) (h : (l ++ m).any oddI = false) : (l.zip m).any pairOdd = false ∧ (∀ n ∈ l, oddI n = false) ∧ ∀ n ∈ m, oddI n = false := by
  refine ⟨by rw [← any_pair l m hm]; exact h, fun n hn => ?_, fun n hn => ?_⟩
  · have := List.any_eq_false.1 h n (List.mem_append_left _ hn); simpa using this
  · have := List.any_eq_false.1 h n (List.mem_append_right _ hn); simpa using this
theorem tdiv_small {x : Int} (h : -1000000000 ≤ x ∧ x ≤ 1000000000) : -1000000000 ≤ Int.tdiv x 2 ∧ Int.tdiv x 2 ≤ 1000000000 := by
  have := Int.mul_tdiv_add_tmod x 2
  have h1 := Int.emod_nonneg x (show (2 : Int) ≠ 0 by decide)
  have h2 : -2 < Int.tmod x 2 ∧ Int.tmod x 2 < 2 := by
    rw [Int.tmod_eq_emod]
    split <;> constructor <;> omega
  omega
/-- Halved as long as all numbers are even. -/
def nrmB : Nat → List Int → List Int → Bx
  | 0, l, m => ⟨0, l, m⟩
  | k + 1, l, m => if (l.zip m).any pairOdd then ⟨((k + 1 : Nat) : Int), l, m⟩ else nrmB k (hfL l) (hfL m)
/-- The box of numbers over 2^k, if it is valid. -/
def mkB (k : Nat) (l m : List Int) : Option Bx := if boxM (nrmB k l m) then some (nrmB k l m) else none
theorem nrmB_stop {m : Nat} {l h : List Int} (hs : m = 0 ∨ (l.zip h).any pairOdd = true) : nrmB m l h = ⟨(m : Int), l, h⟩ := by
  cases m with
  | zero => rfl
  | succ m =>
    have := hs.resolve_left (by omega)
    unfold nrmB
    rw [if_pos this]
theorem nrmB_next {q : Nat} {l h : List Int} (hs : (l.zip h).any pairOdd = false) : nrmB (q + 1) l h = nrmB q (hfL l) (hfL h) := by
  conv => lhs; unfold nrmB
  rw [hs]
  rfl
theorem hfL_in {l : List Int} (h : InB 1000000000 l) : InB 1000000000 (hfL l) := by
  intro n hn
  unfold hfL at hn
  obtain ⟨x, hx, rfl⟩ := List.mem_map.1 hn
  exact tdiv_small (h x hx)
theorem sep_box {x : Bx} {a h : Heap} {L : List Asr} {ul uh : Value} (s : Sep a h (ownA 3 x.low ul :: ownA 3 x.high uh :: L)) (hk : inI64 x.k) : Sep a h (repA x [.int .i64 x.k, ul, uh] :: L) := by
  have s := s.toRep.swap.toRep.swap.pair
  have s := (s.rep0 (x := x.k) (rep_int hk)).pair
  exact s
theorem boxOfB_c {k : Nat} {lo hi : List Int} {vl vh : Value} {h : Heap} {Q : Value → Heap → Prop} (rl : Row h lo vl) (rh : Row h hi vh) (hk : k ≤ 40) (h1 : 1 ≤ lo.length) (h3 : lo.length ≤ 3) (hm : hi.length = lo.length)
    (b1 : InB 1000000000 lo) (b2 : InB 1000000000 hi)
    (hQ : ∀ (cs : List Value) h', cs.length = 3 → Sep h h' [repA ((mkB k lo hi).getD ⟨0, [], []⟩) cs] → Q (.tuple #[.agg cs.toArray, .bool (mkB k lo hi).isSome]) h') :
    CallsV Tryz.prog 69 [.int .i64 (k : Int), vl, vh] h Q := by
  refine CallsV.start Tryz.func69 rfl (by rw [Tryz.results69]) (by kernel_rfl) (by rw [Tryz.ntmps69]; simp) ?_
  have u := Sep.blk1 h [.int .i64 0, .slice none 0 0, .slice none 0 0] 32 true
  simp (disch := omega) only [WA, ↓reduceIte, jA, jB, jD, jE, jF, jG, jH, jI, jJ]
  refine .inl ⟨by kernel_rfl, ?_⟩; refine cloneInt_c (rl.mono u.ext) (by omega) fun ul hA sA => ?_
  have u := u.add sA
  simp (disch := omega) only [WA, ↓reduceIte, jA, jB, jD, jE, jF, jG, jH, jI, jJ]
  refine .inl ⟨by kernel_rfl, ?_⟩; refine cloneInt_c (rh.mono u.ext) (by omega) fun uh hB sB => ?_
  have u := u.add sB
  have cu1 := sA.row.isRow.cells
  have cu2 := sB.row.isRow.cells
  have u : Sep h hB [ownA 3 hi uh, ownA 3 lo ul, blkA h.length [.int .i64 0, .slice none 0 0, .slice none 0 0] 32] := u
  have u := u.newBlk [.int .i64 (k : Int), ul, uh] 32 true
  simp (disch := omega) only [WA, ↓reduceIte, jA, jB, jD, jE, jF, jG, jH, jI, jJ, cu1, cu2]
  refine loop_rule (fun n e h' => ∃ (m : Nat) (cl ch : List Int), e 6 = .pointer (some ⟨h.length, 0, none⟩) ∧ e 8 = .pointer (some ⟨hB.length, 0, none⟩) ∧ m ≤ 40 ∧ m = n ∧ cl.length = lo.length ∧ ch.length = lo.length ∧ InB 1000000000 cl ∧ InB 1000000000 ch ∧ nrmB m cl ch = nrmB k lo hi ∧
    Sep h h' [blkA hB.length [.int .i64 (m : Int), ul, uh] 32, ownA 3 cl ul, ownA 3 ch uh, blkA h.length [.int .i64 0, .slice none 0 0, .slice none 0 0] 32]) ?_ k _ _
    ⟨k, lo, hi, rfl, rfl, hk, rfl, rfl, hm, b1, b2, rfl, (u.pull 2 rfl).pull 1 rfl⟩
  rintro n e h' ⟨m, cl, ch, e6, e8, hm8, rfl, hcl, hch, ib1, ib2, hT, u⟩
  have gb := u.rd
  have c1 := (u.pull 1 rfl).row.isRow.cells
  have c2 := (u.pull 2 rfl).row.isRow.cells
  have p1 := (u.pull 1 rfl).row.isRow.plain
  have p2 := (u.pull 2 rfl).row.isRow.plain
  rcases Nat.eq_zero_or_pos m with hm0 | hm0
  · have z0 : ¬ (0 : Int) < (m : Int) := by omega
    simp (disch := omega) only [WA, ↓reduceIte, jA, jB, jD, jE, jF, jG, jH, jI, jJ, e8, gb, z0]
    have pb : At _ hB.length 0 (⟨(m : Int), cl, ch⟩ : Bx) := ⟨_, u.rdAll (n := 3) rfl, mk_Bx (x := ⟨(m : Int), cl, ch⟩) (show inI64 (m : Int) from ⟨by omega, by omega⟩) (u.pull 1 rfl).row (u.pull 2 rfl).row⟩
    have hfin : nrmB k lo hi = (⟨(m : Int), cl, ch⟩ : Bx) := by rw [← hT]; exact nrmB_stop (.inl (by omega))
    try simp (disch := omega) only [WA, ↓reduceIte, jA, jB, jD, jE, jF, jG, jH, jI, jJ, e8]
    refine .inl ⟨by kernel_rfl, ?_⟩; refine isBox_c pb ?_
    cases hres : boxM (⟨(m : Int), cl, ch⟩ : Bx) with
    | false =>
      have hm2 : mkB k lo hi = none := by unfold mkB; rw [hfin]; simp [hres]
      rw [hm2] at hQ
      simp (disch := omega) only [WA, ↓reduceIte, jA, jB, jD, jE, jF, jG, jH, jI, jJ, e6]
      refine sep_store (u.pull 3 rfl) (by simp) fun h9 u => ?_
      have u := u.as (ds := [.int .i64 0, .slice none 0 0, .slice none 0 0]) (by simp [t_put])
      have gz := u.rdAll (n := 3) rfl
      simp (disch := omega) only [WA, ↓reduceIte, jA, jB, jD, jE, jF, jG, jH, jI, jJ, gz, e6]
      exact hQ _ _ rfl ((Sep.nil u.ext).rep0 (x := (⟨0, [], []⟩ : Bx)) (zero_Bx _))
    | true =>
      have hm2 : mkB k lo hi = some (⟨(m : Int), cl, ch⟩ : Bx) := by unfold mkB; rw [hfin]; simp [hres]
      rw [hm2] at hQ
      have ga := u.rdAll (n := 3) rfl
      simp (disch := omega) only [WA, ↓reduceIte, jA, jB, jD, jE, jF, jG, jH, jI, jJ, e6, e8, ga]
      refine sep_store (u.pull 3 rfl) (by simp) fun h9 u => ?_
      have u := u.as (ds := [.int .i64 (m : Int), ul, uh]) (by simp [t_put])
      have gz := u.rdAll (n := 3) rfl
      simp (disch := omega) only [WA, ↓reduceIte, jA, jB, jD, jE, jF, jG, jH, jI, jJ, gz, e6, p1, p2]
      exact hQ _ _ rfl (sep_box (x := (⟨(m : Int), cl, ch⟩ : Bx)) u.tail.tail (show inI64 (m : Int) from ⟨by omega, by omega⟩))
  · have z0 : (0 : Int) < (m : Int) := by omega
    obtain ⟨q, hq⟩ : ∃ q, m = q + 1 := ⟨m - 1, by omega⟩
    have rl2 : ∀ H, Ext h' H → cellsAt H h'.length 0 2 = some [ul, uh] → Row H [cl, ch] (.slice (some ⟨h'.length, 0, none⟩) 2 2) := fun H E hc =>
      Row.ofBlk (cs := [ul, uh]) hc (.cons (mk_list ((u.pull 1 rfl).row.mono E)) (.cons (mk_list ((u.pull 2 rfl).row.mono E)) .nil)) rfl (by decide)
    have u1 := u.newBlk [ul, uh] 23 true
    have rc := rl2 _ (Ext.one h' _) (u1.rdAll (n := 2) rfl)
    simp (disch := omega) only [WA, ↓reduceIte, jA, jB, jD, jE, jF, jG, jH, jI, jJ, e8, gb, z0, c1, c2]
    refine .inl ⟨by kernel_rfl, ?_⟩; refine concatI_c rc (by simp) (by simp; omega) fun w h2 s2 => ?_
    have u2 := u1.mono s2.ext
    simp (disch := omega) only [WA, ↓reduceIte, jA, jB, jD, jE, jF, jG, jH, jI, jJ]
    refine .inl ⟨by kernel_rfl, ?_⟩; refine containsOdd_c s2.row ?_
    have hfl : [cl, ch].flatten = cl ++ ch := by simp
    rw [hfl]
    have u := u2.tail
    have gb := u.rd
    cases hodd : (cl ++ ch).any oddI with
    | true =>
      have hpo : (cl.zip ch).any pairOdd = true := by rw [← any_pair cl ch (by omega)]; exact hodd
      simp (disch := omega) only [WA, ↓reduceIte, jA, jB, jD, jE, jF, jG, jH, jI, jJ]
      have pb : At _ hB.length 0 (⟨(m : Int), cl, ch⟩ : Bx) := ⟨_, u.rdAll (n := 3) rfl, mk_Bx (x := ⟨(m : Int), cl, ch⟩) (show inI64 (m : Int) from ⟨by omega, by omega⟩) (u.pull 1 rfl).row (u.pull 2 rfl).row⟩
      have hfin : nrmB k lo hi = (⟨(m : Int), cl, ch⟩ : Bx) := by rw [← hT]; exact nrmB_stop (.inr hpo)
      try simp (disch := omega) only [WA, ↓reduceIte, jA, jB, jD, jE, jF, jG, jH, jI, jJ, e8]
      refine .inl ⟨by kernel_rfl, ?_⟩; refine isBox_c pb ?_
      cases hres : boxM (⟨(m : Int), cl, ch⟩ : Bx) with
      | false =>
        have hm2 : mkB k lo hi = none := by unfold mkB; rw [hfin]; simp [hres]
        rw [hm2] at hQ
        simp (disch := omega) only [WA, ↓reduceIte, jA, jB, jD, jE, jF, jG, jH, jI, jJ, e6]
        refine sep_store (u.pull 3 rfl) (by simp) fun h9 u => ?_
        have u := u.as (ds := [.int .i64 0, .slice none 0 0, .slice none 0 0]) (by simp [t_put])
        have gz := u.rdAll (n := 3) rfl
        simp (disch := omega) only [WA, ↓reduceIte, jA, jB, jD, jE, jF, jG, jH, jI, jJ, gz, e6]
        exact hQ _ _ rfl ((Sep.nil u.ext).rep0 (x := (⟨0, [], []⟩ : Bx)) (zero_Bx _))
      | true =>
        have hm2 : mkB k lo hi = some (⟨(m : Int), cl, ch⟩ : Bx) := by unfold mkB; rw [hfin]; simp [hres]
        rw [hm2] at hQ
        have ga := u.rdAll (n := 3) rfl
        simp (disch := omega) only [WA, ↓reduceIte, jA, jB, jD, jE, jF, jG, jH, jI, jJ, e6, e8, ga]
        refine sep_store (u.pull 3 rfl) (by simp) fun h9 u => ?_
        have u := u.as (ds := [.int .i64 (m : Int), ul, uh]) (by simp [t_put])
        have gz := u.rdAll (n := 3) rfl
        simp (disch := omega) only [WA, ↓reduceIte, jA, jB, jD, jE, jF, jG, jH, jI, jJ, gz, e6, p1, p2]
        exact hQ _ _ rfl (sep_box (x := (⟨(m : Int), cl, ch⟩ : Bx)) u.tail.tail (show inI64 (m : Int) from ⟨by omega, by omega⟩))
    | false =>
      obtain ⟨hpo, hev1, hev2⟩ := zip_odd (by omega) hodd
      have km : IntKind.i64.wrap ((m : Int) - 1) = (q : Int) := by rw [wrap_in _ (by omega)]; omega
      simp (disch := omega) only [WA, ↓reduceIte, jA, jB, jD, jE, jF, jG, jH, jI, jJ, e8, gb, km]
      refine sep_store u (by simp) fun h5 u => ?_
      have u := u.as (ds := [.int .i64 (q : Int), ul, uh]) (by simp [t_put])
      have gb := u.rd
      simp (disch := omega) only [WA, ↓reduceIte, jA, jB, jD, jE, jF, jG, jH, jI, jJ, e8, gb, c1, c2]
      have u := u.newBlk [ul, uh] 23 true
      generalize hhC : h5 = hC at *
      refine loop_rule (fun n e h' => ∃ (j : Nat), e 6 = .pointer (some ⟨h.length, 0, none⟩) ∧ e 8 = .pointer (some ⟨hB.length, 0, none⟩) ∧ e 39 = .slice (some ⟨hC.length, 0, none⟩) 2 2 ∧ e 40 = .int .i64 (2 : Nat) ∧ e 41 = .int .i64 (j : Int) ∧ j ≤ 2 ∧ n = 2 - j ∧
        Sep h h' [blkA hC.length [ul, uh] 23, blkA hB.length [.int .i64 (q : Int), ul, uh] 32, ownA 3 (if 1 ≤ j then hfL cl else cl) ul, ownA 3 (if 2 ≤ j then hfL ch else ch) uh, blkA h.length [.int .i64 0, .slice none 0 0, .slice none 0 0] 32]) ?_ 2 _ _
        ⟨0, e6, e8, rfl, rfl, rfl, by omega, rfl, u⟩
      rintro n e h7 ⟨j, e6, e8, e39, e40, e41, hj, rfl, u⟩
      simp (disch := omega) only [WA, ↓reduceIte, jA, jB, jD, jE, jF, jG, jH, jI, jJ, e40, e41]
      match j, hj with
      | 0, hj =>
        have u : Sep h h7 [blkA hC.length [ul, uh] 23, blkA hB.length [.int .i64 (q : Int), ul, uh] 32, ownA 3 cl ul, ownA 3 ch uh, blkA h.length [.int .i64 0, .slice none 0 0, .slice none 0 0] 32] := u
        have r0 := (u.pull 2 rfl).row
        have gc := u.rd
        have isr : IsRow (.slice (some ⟨hC.length, 0, none⟩) 2 2) 2 := .inr ⟨_, _, _, rfl, Nat.le_refl _⟩
        have rix := isr.ix Tryz.prog
        have rb2 : rowB (.slice (some ⟨hC.length, 0, none⟩) 2 2) = hC.length := rfl
        have ro2 : rowO (.slice (some ⟨hC.length, 0, none⟩) 2 2) = 0 := rfl
        have q1 : ((0 : Nat) : Int) < ((2 : Nat) : Int) := by decide
        have q2 : ((0 : Nat) : Int) < 2 := by decide
        have tj : ((0 : Nat) : Int).toNat = 0 := rfl
        have q0 : (0 : Int) ≤ ((0 : Nat) : Int) := by decide
        simp (disch := omega) only [WA, ↓reduceIte, jA, jB, jD, jE, jF, jG, jH, jI, jJ, e39, e40, e41, rix, rb2, ro2, q0, q1, q2, tj, gc, r0.isRow.len]
        refine loop_rule (fun n e h' => ∃ (i : Nat), e 6 = .pointer (some ⟨h.length, 0, none⟩) ∧ e 8 = .pointer (some ⟨hB.length, 0, none⟩) ∧ e 10 = ul ∧ e 39 = .slice (some ⟨hC.length, 0, none⟩) 2 2 ∧ e 40 = .int .i64 (2 : Nat) ∧ e 41 = .int .i64 ((0 : Nat) : Int) ∧ e 46 = .int .i64 (cl.length : Int) ∧ e 47 = .int .i64 (i : Int) ∧ i ≤ cl.length ∧ n = cl.length - i ∧
          Sep h h' [ownA 3 (hv i cl) ul, blkA hC.length [ul, uh] 23, blkA hB.length [.int .i64 (q : Int), ul, uh] 32, ownA 3 ch uh, blkA h.length [.int .i64 0, .slice none 0 0, .slice none 0 0] 32]) ?_ cl.length _ _
          ⟨0, e6, e8, rfl, e39, e40, e41, rfl, rfl, Nat.zero_le _, rfl, by rw [hv_zero]; exact u.pull 2 rfl⟩
        rintro n e h8 ⟨i, e6, e8, e10, e39, e40, e41, e46, e47, hi, rfl, u⟩
        have ri := u.row
        have hln := hv_len i cl
        have rix2 := ri.isRow.ix Tryz.prog
        rw [hln] at rix2
        simp (disch := omega) only [WA, ↓reduceIte, jA, jB, jD, jE, jF, jG, jH, jI, jJ, e46, e47]
        by_cases hlt : i < cl.length
        · obtain ⟨x, hx⟩ := get_some hlt
          have qi : (i : Int) < (cl.length : Int) := by omega
          obtain ⟨x1, x2⟩ := row_int ri (hv_get hx)
          have hxb := ib1 x (List.mem_of_getElem? hx)
          have htb := tdiv_small (x := x) ⟨by omega, by omega⟩
          have z2 : ¬ (2 : Int) = 0 := by decide
          have wq : IntKind.i64.wrap (Int.tdiv x 2) = Int.tdiv x 2 := wrap_in _ (by omega)
          have sp := u.rep0 (x := Int.tdiv x 2) (rep_int ⟨by omega, by omega⟩)
          simp (disch := omega) only [WA, ↓reduceIte, jA, jB, jD, jE, jF, jG, jH, jI, jJ, e10, e47, qi, rix2, x1, z2, wq]
          refine sep_set1 (i := i) (y := Int.tdiv x 2) (Sep.swap sp) rfl (by omega) fun h9 u => ?_
          simp (disch := omega) only [WA, ↓reduceIte, jA, jB, jD, jE, jF, jG, jH, jI, jJ, e6, e8, e10, e39, e40, e41, e46, e47, wrap_in]
          refine ⟨_, by omega, i + 1, by simp, by omega, rfl, ?_⟩
          rw [hv_set hx] at u
          exact u
        · obtain rfl : i = cl.length := by omega
          have qi : ¬ (cl.length : Int) < (cl.length : Int) := by omega
          rw [hv_full] at u
          simp (disch := omega) only [WA, ↓reduceIte, jA, jB, jD, jE, jF, jG, jH, jI, jJ, qi, e6, e8, e39, e40, e41, wrap_in]
          refine ⟨_, by omega, 1, by simp, by omega, rfl, ?_⟩
          exact ((u.pull 2 rfl).pull 2 rfl)
      | 1, hj =>
        have u : Sep h h7 [blkA hC.length [ul, uh] 23, blkA hB.length [.int .i64 (q : Int), ul, uh] 32, ownA 3 (hfL cl) ul, ownA 3 ch uh, blkA h.length [.int .i64 0, .slice none 0 0, .slice none 0 0] 32] := u
        have r0 := (u.pull 3 rfl).row
        have gc := u.rd
        have isr : IsRow (.slice (some ⟨hC.length, 0, none⟩) 2 2) 2 := .inr ⟨_, _, _, rfl, Nat.le_refl _⟩
        have rix := isr.ix Tryz.prog
        have rb2 : rowB (.slice (some ⟨hC.length, 0, none⟩) 2 2) = hC.length := rfl
        have ro2 : rowO (.slice (some ⟨hC.length, 0, none⟩) 2 2) = 0 := rfl
        have q1 : ((1 : Nat) : Int) < ((2 : Nat) : Int) := by decide
        have q2 : ((1 : Nat) : Int) < 2 := by decide
        have tj : ((1 : Nat) : Int).toNat = 1 := rfl
        have q0 : (0 : Int) ≤ ((1 : Nat) : Int) := by decide
        simp (disch := omega) only [WA, ↓reduceIte, jA, jB, jD, jE, jF, jG, jH, jI, jJ, e39, e40, e41, rix, rb2, ro2, q0, q1, q2, tj, gc, r0.isRow.len]
        refine loop_rule (fun n e h' => ∃ (i : Nat), e 6 = .pointer (some ⟨h.length, 0, none⟩) ∧ e 8 = .pointer (some ⟨hB.length, 0, none⟩) ∧ e 10 = uh ∧ e 39 = .slice (some ⟨hC.length, 0, none⟩) 2 2 ∧ e 40 = .int .i64 (2 : Nat) ∧ e 41 = .int .i64 ((1 : Nat) : Int) ∧ e 46 = .int .i64 (ch.length : Int) ∧ e 47 = .int .i64 (i : Int) ∧ i ≤ ch.length ∧ n = ch.length - i ∧
          Sep h h' [ownA 3 (hv i ch) uh, blkA hC.length [ul, uh] 23, blkA hB.length [.int .i64 (q : Int), ul, uh] 32, ownA 3 (hfL cl) ul, blkA h.length [.int .i64 0, .slice none 0 0, .slice none 0 0] 32]) ?_ ch.length _ _
          ⟨0, e6, e8, rfl, e39, e40, e41, rfl, rfl, Nat.zero_le _, rfl, by rw [hv_zero]; exact u.pull 3 rfl⟩
        rintro n e h8 ⟨i, e6, e8, e10, e39, e40, e41, e46, e47, hi, rfl, u⟩
        have ri := u.row
        have hln := hv_len i ch
        have rix2 := ri.isRow.ix Tryz.prog
        rw [hln] at rix2
        simp (disch := omega) only [WA, ↓reduceIte, jA, jB, jD, jE, jF, jG, jH, jI, jJ, e46, e47]
        by_cases hlt : i < ch.length
        · obtain ⟨x, hx⟩ := get_some hlt
          have qi : (i : Int) < (ch.length : Int) := by omega
          obtain ⟨x1, x2⟩ := row_int ri (hv_get hx)
          have hxb := ib2 x (List.mem_of_getElem? hx)
          have htb := tdiv_small (x := x) ⟨by omega, by omega⟩
          have z2 : ¬ (2 : Int) = 0 := by decide
          have wq : IntKind.i64.wrap (Int.tdiv x 2) = Int.tdiv x 2 := wrap_in _ (by omega)
          have sp := u.rep0 (x := Int.tdiv x 2) (rep_int ⟨by omega, by omega⟩)
          simp (disch := omega) only [WA, ↓reduceIte, jA, jB, jD, jE, jF, jG, jH, jI, jJ, e10, e47, qi, rix2, x1, z2, wq]
          refine sep_set1 (i := i) (y := Int.tdiv x 2) (Sep.swap sp) rfl (by omega) fun h9 u => ?_
          simp (disch := omega) only [WA, ↓reduceIte, jA, jB, jD, jE, jF, jG, jH, jI, jJ, e6, e8, e10, e39, e40, e41, e46, e47, wrap_in]
          refine ⟨_, by omega, i + 1, by simp, by omega, rfl, ?_⟩
          rw [hv_set hx] at u
          exact u
        · obtain rfl : i = ch.length := by omega
          have qi : ¬ (ch.length : Int) < (ch.length : Int) := by omega
          rw [hv_full] at u
          simp (disch := omega) only [WA, ↓reduceIte, jA, jB, jD, jE, jF, jG, jH, jI, jJ, qi, e6, e8, e39, e40, e41, wrap_in]
          refine ⟨_, by omega, 2, by simp, by omega, rfl, ?_⟩
          exact (((u.pull 3 rfl).pull 3 rfl).pull 3 rfl)
      | 2, hj =>
        have u : Sep h h7 [blkA hC.length [ul, uh] 23, blkA hB.length [.int .i64 (q : Int), ul, uh] 32, ownA 3 (hfL cl) ul, ownA 3 (hfL ch) uh, blkA h.length [.int .i64 0, .slice none 0 0, .slice none 0 0] 32] := u
        have q1 : ¬ ((2 : Nat) : Int) < ((2 : Nat) : Int) := by decide
        have q2 : ¬ ((2 : Nat) : Int) < 2 := by decide
        simp (disch := omega) only [WA, ↓reduceIte, jA, jB, jD, jE, jF, jG, jH, jI, jJ, q1, q2, e6, e8]
        refine ⟨q, by omega, q, hfL cl, hfL ch, by omega, rfl, by rw [hfL_len]; exact hcl, by rw [hfL_len]; exact hch, hfL_in ib1, hfL_in ib2, by rw [← hT, hq]; exact (nrmB_next (by rw [← any_pair cl ch (by omega)]; exact hodd)).symm, u.tail⟩
      | j + 3, hj => omega
end Go.Proofs
end

section
set_option linter.unusedSimpArgs false
set_option linter.unusedVariables false
set_option maxRecDepth 4000
namespace Go.Proofs
open Go Go.V
open Nat renaming reduceEqDiff → jA, reduceAdd → jB, reduceMul → jD, reduceSub → jE, reduceLeDiff → jF
open Int renaming reduceLT → jG, reduceLE → jH, reduceNeg → jI, reduceEq → jJ
theorem bxEven_c {x : Bx} {cs : List Value} {h : Heap} {Q : Value → Heap → Prop} (hx : Here h x cs) (hl : x.high.length = x.low.length) (hQ : ∀ h', Ext h h' → Q (.bool (!(x.low.zip x.high).any pairOdd)) h') :
    CallsV Tryz.prog 83 [.agg cs.toArray] h Q := by
  obtain ⟨v1, v2, rfl, f1, r1, r2⟩ := here_Bx hx
  refine CallsV.start Tryz.func83 rfl (by rw [Tryz.results83]) (by kernel_rfl) (by rw [Tryz.ntmps83]; simp) ?_
  have u := Sep.blk1 h [.int .i64 x.k, v1, v2] 32 true
  simp (disch := omega) only [WA, ↓reduceIte, jA, jB, jD, jE, jF, jG, jH, jI, jJ]
  generalize hH : h ++ [some ⟨[.int .i64 x.k, v1, v2], 32, false, true⟩] = H at *
  have E := u.ext
  have r1 := r1.mono E
  have r2 := r2.mono E
  have g := u.rd
  have hle := r1.le
  simp (disch := omega) only [WA, ↓reduceIte, jA, jB, jD, jE, jF, jG, jH, jI, jJ, g, r1.isRow.len]
  have hzl : (x.low.zip x.high).length = x.low.length := by rw [List.length_zip]; omega
  refine loop_rule (fun n e h' => ∃ (i : Nat), e 1 = .pointer (some ⟨h.length, 0, none⟩) ∧ e 6 = v1 ∧ e 7 = .int .i64 x.low.length ∧ e 8 = .int .i64 i ∧ i ≤ x.low.length ∧ n = x.low.length - i ∧ H = h' ∧ ((x.low.zip x.high).take i).any pairOdd = false) ?_ x.low.length _ _
    ⟨0, rfl, rfl, rfl, rfl, Nat.zero_le _, rfl, rfl, by simp⟩
  rintro n e h' ⟨i, e1, e6, e7, e8, hi, rfl, rfl, hany⟩
  simp (disch := omega) only [WA, ↓reduceIte, jA, jB, jD, jE, jF, jG, jH, jI, jJ, e7, e8]
  by_cases hlt : i < x.low.length
  · obtain ⟨y, hy⟩ := get_some hlt
    obtain ⟨z, hz⟩ := get_some (show i < x.high.length by omega)
    have hyz := zip_get hy hz
    obtain ⟨y1, y2⟩ := row_int r1 hy
    obtain ⟨z1, z2⟩ := row_int r2 hz
    have q1 : (i : Int) < (x.low.length : Int) := by omega
    have hany2 := any_take pairOdd hyz
    rw [hany, Bool.false_or] at hany2
    have ne2 : ¬ (2 : Int) = 0 := by decide
    by_cases c7 : Int.tmod y 2 = 0
    · by_cases c8 : Int.tmod z 2 = 0
      · simp (disch := omega) only [WA, ↓reduceIte, jA, jB, jD, jE, jF, jG, jH, jI, jJ, e1, e6, e7, e8, q1, r1.isRow.ix, y1, ne2, c7, g, r2.isRow.ix, z1, c8, wrap_in]
        exact ⟨_, by omega, i + 1, by simp, by omega, rfl, by rw [hany2]; simp [pairOdd, c7, c8]⟩
      · simp (disch := omega) only [WA, ↓reduceIte, jA, jB, jD, jE, jF, jG, jH, jI, jJ, e1, e6, e7, e8, q1, r1.isRow.ix, y1, ne2, c7, g, r2.isRow.ix, z1, c8, wrap_in]
        rw [any_true hyz (by simp [pairOdd, c8])] at hQ
        exact hQ _ E
    · simp (disch := omega) only [WA, ↓reduceIte, jA, jB, jD, jE, jF, jG, jH, jI, jJ, e1, e6, e7, e8, q1, r1.isRow.ix, y1, ne2, c7, g, wrap_in]
      rw [any_true hyz (by simp [pairOdd, c7])] at hQ
      exact hQ _ E
  · obtain rfl : i = x.low.length := by omega
    have q1 : ¬ (x.low.length : Int) < (x.low.length : Int) := by omega
    rw [List.take_of_length_le (by omega)] at hany
    rw [hany] at hQ
    simp (disch := omega) only [WA, ↓reduceIte, jA, jB, jD, jE, jF, jG, jH, jI, jJ, e7, e8, q1]
    exact hQ _ E
theorem any_odd_pair {l m : List Int} (hm : m.length = l.length) (h : (l.zip m).any pairOdd = false) : (∀ n ∈ l, oddI n = false) ∧ ∀ n ∈ m, oddI n = false := by
  rw [← any_pair l m hm] at h
  exact (zip_odd hm h).2
theorem bxMakeB_c {k : Nat} {lo hi : List Int} {vl vh : Value} {h : Heap} {Q : Value → Heap → Prop} (rl : Row h lo vl) (rh : Row h hi vh) (hk : k ≤ 40) (h1 : 1 ≤ lo.length) (h3 : lo.length ≤ 3) (hm : hi.length = lo.length)
    (b1 : InB 1000000000 lo) (b2 : InB 1000000000 hi)
    (hQ : ∀ (cs : List Value) h', cs.length = 3 → Sep h h' [repA ((mkB k lo hi).getD ⟨0, [], []⟩) cs] → Q (.tuple #[.agg cs.toArray, .bool (mkB k lo hi).isSome]) h') :
    CallsV Tryz.prog 66 [.int .i64 (k : Int), vl, vh] h Q := by
  refine CallsV.start Tryz.func66 rfl (by rw [Tryz.results66]) (by kernel_rfl) (by rw [Tryz.ntmps66]; simp) ?_
  have u := Sep.blk1 h [.int .i64 0, .slice none 0 0, .slice none 0 0] 32 true
  simp (disch := omega) only [WA, ↓reduceIte, jA, jB, jD, jE, jF, jG, jH, jI, jJ]
  refine .inl ⟨by kernel_rfl, ?_⟩; refine l1Own_c (rl.mono u.ext) (by omega) fun ul hA sA => ?_
  have u := u.add sA
  simp (disch := omega) only [WA, ↓reduceIte, jA, jB, jD, jE, jF, jG, jH, jI, jJ]
  refine .inl ⟨by kernel_rfl, ?_⟩; refine l1Own_c (rh.mono u.ext) (by omega) fun uh hB sB => ?_
  have u := u.add sB
  have cu1 := sA.row.isRow.cells
  have cu2 := sB.row.isRow.cells
  have u : Sep h hB [ownA 3 hi uh, ownA 3 lo ul, blkA h.length [.int .i64 0, .slice none 0 0, .slice none 0 0] 32] := u
  have u := u.newBlk [.int .i64 (k : Int), ul, uh] 32 true
  simp (disch := omega) only [WA, ↓reduceIte, jA, jB, jD, jE, jF, jG, jH, jI, jJ, cu1, cu2]
  refine loop_rule (fun n e h' => ∃ (m : Nat) (cl ch : List Int), e 6 = .pointer (some ⟨h.length, 0, none⟩) ∧ e 8 = .pointer (some ⟨hB.length, 0, none⟩) ∧ m ≤ 40 ∧ m = n ∧ cl.length = lo.length ∧ ch.length = lo.length ∧ InB 1000000000 cl ∧ InB 1000000000 ch ∧ nrmB m cl ch = nrmB k lo hi ∧
    Sep h h' [blkA hB.length [.int .i64 (m : Int), ul, uh] 32, ownA 3 cl ul, ownA 3 ch uh, blkA h.length [.int .i64 0, .slice none 0 0, .slice none 0 0] 32]) ?_ k _ _
    ⟨k, lo, hi, rfl, rfl, hk, rfl, rfl, hm, b1, b2, rfl, (u.pull 2 rfl).pull 1 rfl⟩
  rintro n e h' ⟨m, cl, ch, e6, e8, hm8, rfl, hcl, hch, ib1, ib2, hT, u⟩
  have gb := u.rd
  have ga := u.rdAll (n := 3) rfl
  have c1 := (u.pull 1 rfl).row.isRow.cells
  have c2 := (u.pull 2 rfl).row.isRow.cells
  have p1 := (u.pull 1 rfl).row.isRow.plain
  have p2 := (u.pull 2 rfl).row.isRow.plain
  have fin : ∀ {H : Heap} {e : Env}, (u : Sep h H [blkA hB.length [.int .i64 (m : Int), ul, uh] 32, ownA 3 cl ul, ownA 3 ch uh, blkA h.length [.int .i64 0, .slice none 0 0, .slice none 0 0] 32]) → (m = 0 ∨ (cl.zip ch).any pairOdd = true) → Here H (⟨(m : Int), cl, ch⟩ : Bx) [.int .i64 (m : Int), ul, uh] ∧ nrmB k lo hi = (⟨(m : Int), cl, ch⟩ : Bx) := fun u ho =>
    ⟨mk_Bx (x := ⟨(m : Int), cl, ch⟩) (show inI64 (m : Int) from ⟨by omega, by omega⟩) (u.pull 1 rfl).row (u.pull 2 rfl).row, by rw [← hT]; exact nrmB_stop (ho.imp (fun h => by omega) id)⟩
  have hev : Here h' (⟨(m : Int), cl, ch⟩ : Bx) [.int .i64 (m : Int), ul, uh] := mk_Bx (x := ⟨(m : Int), cl, ch⟩) (show inI64 (m : Int) from ⟨by omega, by omega⟩) (u.pull 1 rfl).row (u.pull 2 rfl).row
  rcases Nat.eq_zero_or_pos m with hm0 | hm0
  · have z0 : ¬ (0 : Int) < (m : Int) := by omega
    simp (disch := omega) only [WA, ↓reduceIte, jA, jB, jD, jE, jF, jG, jH, jI, jJ, e8, gb, z0]
    obtain ⟨hh, hfin⟩ := fin (e := e) u (.inl hm0)
    simp (disch := omega) only [WA, ↓reduceIte, jA, jB, jD, jE, jF, jG, jH, jI, jJ, e8, ga]
    refine .inl ⟨by kernel_rfl, ?_⟩; refine bxGood_c hh fun h9 E9 => ?_
    have u := u.mono E9
    have ga := u.rdAll (n := 3) rfl
    cases hres : boxM (⟨(m : Int), cl, ch⟩ : Bx) with
    | false =>
      have hm2 : mkB k lo hi = none := by unfold mkB; rw [hfin]; simp [hres]
      rw [hm2] at hQ
      simp (disch := omega) only [WA, ↓reduceIte, jA, jB, jD, jE, jF, jG, jH, jI, jJ, e6]
      refine sep_store (u.pull 3 rfl) (by simp) fun h9 u => ?_
      have u := u.as (ds := [.int .i64 0, .slice none 0 0, .slice none 0 0]) (by simp [t_put])
      have gz := u.rdAll (n := 3) rfl
      simp (disch := omega) only [WA, ↓reduceIte, jA, jB, jD, jE, jF, jG, jH, jI, jJ, gz, e6]
      exact hQ _ _ rfl ((Sep.nil u.ext).rep0 (x := (⟨0, [], []⟩ : Bx)) (zero_Bx _))
    | true =>
      have hm2 : mkB k lo hi = some (⟨(m : Int), cl, ch⟩ : Bx) := by unfold mkB; rw [hfin]; simp [hres]
      rw [hm2] at hQ
      simp (disch := omega) only [WA, ↓reduceIte, jA, jB, jD, jE, jF, jG, jH, jI, jJ, e6, e8, ga]
      refine sep_store (u.pull 3 rfl) (by simp) fun h9 u => ?_
      have u := u.as (ds := [.int .i64 (m : Int), ul, uh]) (by simp [t_put])
      have gz := u.rdAll (n := 3) rfl
      simp (disch := omega) only [WA, ↓reduceIte, jA, jB, jD, jE, jF, jG, jH, jI, jJ, gz, e6, p1, p2]
      exact hQ _ _ rfl (sep_box (x := (⟨(m : Int), cl, ch⟩ : Bx)) u.tail.tail (show inI64 (m : Int) from ⟨by omega, by omega⟩))
  · have z0 : (0 : Int) < (m : Int) := by omega
    obtain ⟨q, hq⟩ : ∃ q, m = q + 1 := ⟨m - 1, by omega⟩
    simp (disch := omega) only [WA, ↓reduceIte, jA, jB, jD, jE, jF, jG, jH, jI, jJ, e8, gb, ga, z0]
    refine .inl ⟨by kernel_rfl, ?_⟩; refine bxEven_c hev (show ch.length = cl.length by omega) fun h9 E9 => ?_
    have u := u.mono E9
    have gb := u.rd
    have ga := u.rdAll (n := 3) rfl
    simp only []
    cases hodd : (cl.zip ch).any pairOdd with
    | true =>
      simp (disch := omega) only [WA, ↓reduceIte, jA, jB, jD, jE, jF, jG, jH, jI, jJ]
      obtain ⟨hh, hfin⟩ := fin (e := e) u (.inr hodd)
      simp (disch := omega) only [WA, ↓reduceIte, jA, jB, jD, jE, jF, jG, jH, jI, jJ, e8, ga]
      refine .inl ⟨by kernel_rfl, ?_⟩; refine bxGood_c hh fun h9 E9 => ?_
      have u := u.mono E9
      have ga := u.rdAll (n := 3) rfl
      cases hres : boxM (⟨(m : Int), cl, ch⟩ : Bx) with
      | false =>
        have hm2 : mkB k lo hi = none := by unfold mkB; rw [hfin]; simp [hres]
        rw [hm2] at hQ
        simp (disch := omega) only [WA, ↓reduceIte, jA, jB, jD, jE, jF, jG, jH, jI, jJ, e6]
        refine sep_store (u.pull 3 rfl) (by simp) fun h9 u => ?_
        have u := u.as (ds := [.int .i64 0, .slice none 0 0, .slice none 0 0]) (by simp [t_put])
        have gz := u.rdAll (n := 3) rfl
        simp (disch := omega) only [WA, ↓reduceIte, jA, jB, jD, jE, jF, jG, jH, jI, jJ, gz, e6]
        exact hQ _ _ rfl ((Sep.nil u.ext).rep0 (x := (⟨0, [], []⟩ : Bx)) (zero_Bx _))
      | true =>
        have hm2 : mkB k lo hi = some (⟨(m : Int), cl, ch⟩ : Bx) := by unfold mkB; rw [hfin]; simp [hres]
        rw [hm2] at hQ
        simp (disch := omega) only [WA, ↓reduceIte, jA, jB, jD, jE, jF, jG, jH, jI, jJ, e6, e8, ga]
        refine sep_store (u.pull 3 rfl) (by simp) fun h9 u => ?_
        have u := u.as (ds := [.int .i64 (m : Int), ul, uh]) (by simp [t_put])
        have gz := u.rdAll (n := 3) rfl
        simp (disch := omega) only [WA, ↓reduceIte, jA, jB, jD, jE, jF, jG, jH, jI, jJ, gz, e6, p1, p2]
        exact hQ _ _ rfl (sep_box (x := (⟨(m : Int), cl, ch⟩ : Bx)) u.tail.tail (show inI64 (m : Int) from ⟨by omega, by omega⟩))
    | false =>
      obtain ⟨hev1, hev2⟩ := any_odd_pair (by omega) hodd
      have km : IntKind.i64.wrap ((m : Int) - 1) = (q : Int) := by rw [wrap_in _ (by omega)]; omega
      simp (disch := omega) only [WA, ↓reduceIte, jA, jB, jD, jE, jF, jG, jH, jI, jJ, e8, gb, km]
      refine sep_store u (by simp) fun h5 u => ?_
      have u := u.as (ds := [.int .i64 (q : Int), ul, uh]) (by simp [t_put])
      have gb := u.rd
      have ilen := (u.pull 1 rfl).row.isRow.len Tryz.prog
      simp (disch := omega) only [WA, ↓reduceIte, jA, jB, jD, jE, jF, jG, jH, jI, jJ, e8, gb, c1, c2, ilen]
      refine loop_rule (fun n e h' => ∃ (i : Nat), e 6 = .pointer (some ⟨h.length, 0, none⟩) ∧ e 8 = .pointer (some ⟨hB.length, 0, none⟩) ∧ e 29 = .int .i64 (cl.length : Int) ∧ e 30 = .int .i64 (i : Int) ∧ i ≤ cl.length ∧ n = cl.length - i ∧
        Sep h h' [ownA 3 (hv i cl) ul, ownA 3 (hv i ch) uh, blkA hB.length [.int .i64 (q : Int), ul, uh] 32, blkA h.length [.int .i64 0, .slice none 0 0, .slice none 0 0] 32]) ?_ cl.length _ _
        ⟨0, e6, e8, rfl, rfl, Nat.zero_le _, rfl, by rw [hv_zero, hv_zero]; exact (u.pull 2 rfl).pull 2 rfl⟩
      rintro n e h8 ⟨i, e6, e8, e29, e30, hi, rfl, u⟩
      have gb := (u.pull 2 rfl).rd
      have ri := u.row
      have hln := hv_len i cl
      have hln2 := hv_len i ch
      have rix := ri.isRow.ix Tryz.prog
      rw [hln] at rix
      simp (disch := omega) only [WA, ↓reduceIte, jA, jB, jD, jE, jF, jG, jH, jI, jJ, e29, e30]
      by_cases hlt : i < cl.length
      · obtain ⟨x, hx⟩ := get_some hlt
        obtain ⟨y, hy⟩ := get_some (show i < ch.length by omega)
        have qi : (i : Int) < (cl.length : Int) := by omega
        obtain ⟨x1, x2⟩ := row_int ri (hv_get hx)
        have hxb := ib1 x (List.mem_of_getElem? hx)
        have hyb := ib2 y (List.mem_of_getElem? hy)
        have htb := tdiv_small (x := x) ⟨by omega, by omega⟩
        have htc := tdiv_small (x := y) ⟨by omega, by omega⟩
        have z2 : ¬ (2 : Int) = 0 := by decide
        have wq : IntKind.i64.wrap (Int.tdiv x 2) = Int.tdiv x 2 := wrap_in _ (by omega)
        have wr : IntKind.i64.wrap (Int.tdiv y 2) = Int.tdiv y 2 := wrap_in _ (by omega)
        have sp := u.rep0 (x := Int.tdiv x 2) (rep_int ⟨by omega, by omega⟩)
        simp (disch := omega) only [WA, ↓reduceIte, jA, jB, jD, jE, jF, jG, jH, jI, jJ, e8, e30, qi, gb, rix, x1, z2, wq]
        refine sep_set1 (i := i) (y := Int.tdiv x 2) (Sep.swap sp) rfl (by omega) fun h9 u => ?_
        rw [hv_set hx] at u
        have gb := (u.pull 2 rfl).rd
        have rj := (u.pull 1 rfl).row
        have rjx := rj.isRow.ix Tryz.prog
        rw [hln2, show ch.length = cl.length by omega] at rjx
        obtain ⟨y1, y2⟩ := row_int rj (hv_get hy)
        have sp := (u.pull 1 rfl).rep0 (x := Int.tdiv y 2) (rep_int ⟨by omega, by omega⟩)
        simp (disch := omega) only [WA, ↓reduceIte, jA, jB, jD, jE, jF, jG, jH, jI, jJ, e8, e30, qi, gb, rjx, y1, z2, wr]
        refine sep_set1 (i := i) (y := Int.tdiv y 2) (Sep.swap sp) rfl (by omega) fun h9 u => ?_
        rw [hv_set hy] at u
        simp (disch := omega) only [WA, ↓reduceIte, jA, jB, jD, jE, jF, jG, jH, jI, jJ, e6, e8, e29, e30, wrap_in]
        exact ⟨_, by omega, i + 1, by simp, by omega, rfl, u.swap⟩
      · obtain rfl : i = cl.length := by omega
        have qi : ¬ (cl.length : Int) < (cl.length : Int) := by omega
        rw [hv_full, show cl.length = ch.length by omega, hv_full] at u
        simp (disch := omega) only [WA, ↓reduceIte, jA, jB, jD, jE, jF, jG, jH, jI, jJ, qi, e6, e8]
        exact ⟨q, by omega, q, hfL cl, hfL ch, by omega, rfl, by rw [hfL_len]; exact hcl, by rw [hfL_len]; exact hch, hfL_in ib1, hfL_in ib2, by rw [← hT, hq]; exact (nrmB_next hodd).symm, u.pull 2 rfl⟩
end Go.Proofs
end
