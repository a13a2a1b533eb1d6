/- The layer V and contracts of functions over it, or plain laws behind one statement (own work): ML=Y2,IW. Conditions: those told in each theorem. -/
import Derived.Test.YtlnephhhcofilaaGreatY1
import Derived.Test.YtlnephhhcofilaaGreatMU
import Derived.Test.YtlnephhhcofilaaGreatIO
set_option linter.all false
section
set_option linter.unusedSimpArgs false
set_option linter.unusedVariables false
set_option maxRecDepth 4000
namespace Go.Proofs
open Go Go.V
structure Ed where
  side : Int
  mid : Dy
  frm : Dy
  tip : Dy
  deriving DecidableEq, Inhabited
instance : Rep Ed := Rep.iso (α := Int × Dy × Dy × Dy) fun x => (x.side, x.mid, x.frm, x.tip)
theorem Ed.sz : Rep.sz Ed = 7 := rfl
instance : Giv Ed := Giv.iso (α := Int × Dy × Dy × Dy) (fun (x : Ed) => (x.side, x.mid, x.frm, x.tip)) (⟨(-7000000000000000101), ⟨(-7000000000000000101), (-7000000000000000101)⟩, ⟨(-7000000000000000101), (-7000000000000000101)⟩, ⟨(-7000000000000000101), (-7000000000000000101)⟩⟩ : Ed)
instance : Siz Ed := ⟨fun x => Siz.siz x.side + Siz.siz x.mid + Siz.siz x.frm + Siz.siz x.tip⟩
theorem here_Ed {h : Heap} {x : Ed} {cs : List Value} (hr : Here h x cs) : cs = [.int .i64 x.side, .int .i64 x.mid.n, .int .i64 x.mid.k, .int .i64 x.frm.n, .int .i64 x.frm.k, .int .i64 x.tip.n, .int .i64 x.tip.k] ∧ inI64 x.side ∧ inI64 x.mid.n ∧ inI64 x.mid.k ∧ inI64 x.frm.n ∧ inI64 x.frm.k ∧ inI64 x.tip.n ∧ inI64 x.tip.k := by
  have hrp : Here (α := Int × Dy × Dy × Dy) h (x.side, x.mid, x.frm, x.tip) _ := hr
  obtain ⟨c1, d1, rfl, q1, r1⟩ := here_pair hrp
  obtain ⟨rfl, f2⟩ := here_int q1
  obtain ⟨c3, d3, rfl, q3, r3⟩ := here_pair r1
  have q3p : Here (α := Int × Int) h (x.mid.n, x.mid.k) _ := q3
  obtain ⟨c4, d4, rfl, q4, r4⟩ := here_pair q3p
  obtain ⟨rfl, f5⟩ := here_int q4
  obtain ⟨rfl, f6⟩ := here_int r4
  obtain ⟨c7, d7, rfl, q7, r7⟩ := here_pair r3
  have q7p : Here (α := Int × Int) h (x.frm.n, x.frm.k) _ := q7
  obtain ⟨c8, d8, rfl, q8, r8⟩ := here_pair q7p
  obtain ⟨rfl, f9⟩ := here_int q8
  obtain ⟨rfl, f10⟩ := here_int r8
  have r7p : Here (α := Int × Int) h (x.tip.n, x.tip.k) _ := r7
  obtain ⟨c11, d11, rfl, q11, r11⟩ := here_pair r7p
  obtain ⟨rfl, f12⟩ := here_int q11
  obtain ⟨rfl, f13⟩ := here_int r11
  exact ⟨rfl, f2, f5, f6, f9, f10, f12, f13⟩
theorem mk_Ed {h : Heap} {x : Ed} (h1 : inI64 x.side) (h2 : inI64 x.mid.n) (h3 : inI64 x.mid.k) (h4 : inI64 x.frm.n) (h5 : inI64 x.frm.k) (h6 : inI64 x.tip.n) (h7 : inI64 x.tip.k) : Here h x [.int .i64 x.side, .int .i64 x.mid.n, .int .i64 x.mid.k, .int .i64 x.frm.n, .int .i64 x.frm.k, .int .i64 x.tip.n, .int .i64 x.tip.k] := (mk_pair (p := (x.side, (x.mid, (x.frm, x.tip)))) (mk_int h1) (mk_pair (p := (x.mid, (x.frm, x.tip))) (mk_pair (p := (x.mid.n, x.mid.k)) (mk_int h2) (mk_int h3)) (mk_pair (p := (x.frm, x.tip)) (mk_pair (p := (x.frm.n, x.frm.k)) (mk_int h4) (mk_int h5)) (mk_pair (p := (x.tip.n, x.tip.k)) (mk_int h6) (mk_int h7)))))
theorem rep_Ed {h : Heap} {x : Ed} (h1 : inI64 x.side) (h2 : inI64 x.mid.n) (h3 : inI64 x.mid.k) (h4 : inI64 x.frm.n) (h5 : inI64 x.frm.k) (h6 : inI64 x.tip.n) (h7 : inI64 x.tip.k) : Rep.rep h x [.int .i64 x.side, .int .i64 x.mid.n, .int .i64 x.mid.k, .int .i64 x.frm.n, .int .i64 x.frm.k, .int .i64 x.tip.n, .int .i64 x.tip.k] [] := by
  obtain ⟨fp, hr⟩ := mk_Ed (h := []) h1 h2 h3 h4 h5 h6 h7
  obtain rfl : fp = [] := List.eq_nil_iff_forall_not_mem.2 fun b hb => by simpa using Rep.live hr b hb
  exact Rep.frame hr (by simp)
end Go.Proofs
end

section
set_option linter.unusedSimpArgs false
set_option linter.unusedVariables false
set_option maxRecDepth 4000
namespace Go.Proofs
open Go Go.V
open Nat renaming reduceEqDiff → jA, reduceAdd → jB, reduceMul → jD, reduceSub → jE, reduceLeDiff → jF
open Int renaming reduceLT → jG, reduceLE → jH, reduceNeg → jI, reduceEq → jJ
/- Edges. -/
def numM (n : Int) (k : Nat) : Dy := (makeM n k).getD ⟨0, 0⟩
theorem numM_good (n : Int) (k : Nat) : DyG (numM n k) := getD_good fun d h => makeM_good h
theorem bxNumber_c {n : Int} {k : Nat} {h : Heap} {Q : Value → Heap → Prop} (hn : inI64 n) (hk : k ≤ 1000) (hQ : ∀ h', Ext h h' → Q (.agg (dyC (numM n k)).toArray) h') :
    CallsV Tryz.prog 88 [.int .i64 n, .int .i64 k] h Q := by
  refine CallsV.start Tryz.func88 rfl (by rw [Tryz.results88]) (by kernel_rfl) (by rw [Tryz.ntmps88]; simp) ?_
  have s := Sep.blk1 h [.int .i64 0, .int .i64 0] 97 true
  simp (disch := omega) only [WA, ↓reduceIte, jA, jB, jD, jE, jF, jG, jH, jI, jJ]
  refine .inl ⟨by kernel_rfl, ?_⟩; refine dyMake_c hn hk fun h1 E1 => ?_
  have s := s.mono E1
  rw [optV_eq]
  have s := s.newBlk (dyC (numM n k)) 97 true
  have hnum : (makeM n k).getD ⟨0, 0⟩ = numM n k := rfl
  rw [hnum]
  simp (disch := omega) only [WA, ↓reduceIte, jA, jB, jD, jE, jF, jG, jH, jI, jJ]
  refine sep_store (s.pull 1 rfl) (by simp) fun h7 s => ?_
  have s := s.as (ds := dyC (numM n k)) (by simp [t_put])
  have gz := (s.pull 0 rfl).rdAll (n := 2) rfl
  simp (disch := omega) only [WA, ↓reduceIte, jA, jB, jD, jE, jF, jG, jH, jI, jJ, gz]
  exact hQ _ s.ext
def edgeM (side : Int) (mid : Dy) (fr to : Int) (k d i : Nat) : Ed := ⟨side, mid, numM (fr * 2 ^ d + (to - fr) * i) (k + d), numM (fr * 2 ^ d + (to - fr) * (i + 1)) (k + d)⟩
def wayM (side : Int) (mid : Dy) (fr to : Int) (k d : Nat) : List Ed := (List.range (2 ^ d)).map (edgeM side mid fr to k d)
theorem wayM_len (side : Int) (mid : Dy) (fr to : Int) (k d : Nat) : (wayM side mid fr to k d).length = 2 ^ d := by unfold wayM; simp
theorem wayM_at {side : Int} {mid : Dy} {fr to : Int} {k d i : Nat} (h : i < 2 ^ d) : (wayM side mid fr to k d)[i]? = some (edgeM side mid fr to k d i) := by
  unfold wayM
  rw [List.getElem?_map, List.getElem?_range h]; rfl
abbrev edC (e : Ed) : List Value := [.int .i64 e.side, .int .i64 e.mid.n, .int .i64 e.mid.k, .int .i64 e.frm.n, .int .i64 e.frm.k, .int .i64 e.tip.n, .int .i64 e.tip.k]
structure EdG (e : Ed) : Prop where
  side : e.side = 0 ∨ e.side = 1
  mid : DyG e.mid
  frm : DyG e.frm
  tip : DyG e.tip
theorem ed_rep {e : Ed} (h : EdG e) (hh : Heap) : Rep.rep hh e (edC e) [] :=
  rep_Ed (by rcases h.side with e | e <;> rw [e] <;> exact ⟨by decide, by decide⟩) (dy_in h.mid).1 (dy_in h.mid).2 (dy_in h.frm).1 (dy_in h.frm).2 (dy_in h.tip).1 (dy_in h.tip).2
theorem mul_bd {a b A B : Int} (hA : 0 ≤ A) (h1 : -A ≤ a) (h2 : a ≤ A) (h3 : 0 ≤ b) (h4 : b ≤ B) : -(A * B) ≤ a * b ∧ a * b ≤ A * B := by
  have e1 : a * b ≤ A * b := Int.mul_le_mul_of_nonneg_right h2 h3
  have e2 : A * b ≤ A * B := Int.mul_le_mul_of_nonneg_left h4 hA
  have e3 : -A * b ≤ a * b := Int.mul_le_mul_of_nonneg_right h1 h3
  rw [Int.neg_mul] at e3
  omega
theorem pow_d {d : Nat} (h : d ≤ 5) : ∃ N : Nat, (2 : Int) ^ d = (N : Int) ∧ 2 ^ d = N ∧ 1 ≤ N ∧ N ≤ 32 := by
  have : d = 0 ∨ d = 1 ∨ d = 2 ∨ d = 3 ∨ d = 4 ∨ d = 5 := by omega
  rcases this with rfl | rfl | rfl | rfl | rfl | rfl
  · exact ⟨1, by decide, by decide, by decide, by decide⟩
  · exact ⟨2, by decide, by decide, by decide, by decide⟩
  · exact ⟨4, by decide, by decide, by decide, by decide⟩
  · exact ⟨8, by decide, by decide, by decide, by decide⟩
  · exact ⟨16, by decide, by decide, by decide, by decide⟩
  · exact ⟨32, by decide, by decide, by decide, by decide⟩
theorem imWay_c {side : Int} {mid : Dy} {fr to : Int} {k d : Nat} {h : Heap} {Q : Value → Heap → Prop} (hs : side = 0 ∨ side = 1) (hm : DyG mid) (h1 : -64 ≤ fr ∧ fr ≤ 64) (h2 : -64 ≤ to ∧ to ≤ 64) (hk : k ≤ 8) (hd : d ≤ 5)
    (hQ : ∀ w h', Sep h h' [ownA 102 (wayM side mid fr to k d) w] → Q w h') :
    CallsV Tryz.prog 106 [.int .i64 side, .agg (dyC mid).toArray, .int .i64 fr, .int .i64 to, .int .i64 k, .int .i64 d] h Q := by
  refine CallsV.start Tryz.func106 rfl (by rw [Tryz.results106]) (by kernel_rfl) (by rw [Tryz.ntmps106]; simp) ?_
  obtain ⟨N, eN, eN', hN1, hN2⟩ := pow_d hd
  have s := (Sep.blk1 h (dyC mid) 97 true).nilA (α := Ed) 102
  simp (disch := omega) only [WA, ↓reduceIte, jA, jB, jD, jE, jF, jG, jH, jI, jJ]
  refine .inl ⟨by kernel_rfl, ?_⟩; refine dyPow_c (by omega) ?_
  simp (disch := omega) only [WA, ↓reduceIte, jA, jB, jD, jE, jF, jG, jH, jI, jJ]
  rw [eN]
  generalize h ++ [some ⟨dyC mid, 97, false, true⟩] = H0 at s ⊢
  have hlen := wayM_len side mid fr to k d
  rw [eN'] at hlen
  refine loop_rule (fun m e h' => ∃ (i : Nat) (vo : Value), e 0 = .int .i64 side ∧ e 2 = .int .i64 fr ∧ e 3 = .int .i64 to ∧ e 4 = .int .i64 k ∧ e 5 = .int .i64 d ∧ e 7 = .pointer (some ⟨h.length, 0, none⟩) ∧ e 13 = vo ∧ e 14 = .int .i64 N ∧ e 15 = .int .i64 i ∧
    i ≤ N ∧ m = N - i ∧ Sep h h' [ownA 102 ((wayM side mid fr to k d).take i) vo, blkA h.length (dyC mid) 97]) ?_ N _ _
    ⟨0, _, rfl, rfl, rfl, rfl, rfl, rfl, rfl, rfl, rfl, by omega, by omega, s⟩
  clear s
  rintro m e h3 ⟨i, vo, e0, e2, e3, e4, e5, e7, e13, e14, e15, hi, rfl, s⟩
  simp (disch := omega) only [WA, ↓reduceIte, jA, jB, jD, jE, jF, jG, jH, jI, jJ, e14, e15]
  by_cases c : i < N
  · have c1 : (i : Int) < (N : Int) := by omega
    have b1 := mul_bd (A := 64) (B := 32) (a := fr) (b := N) (by decide) h1.1 h1.2 (by omega) (by omega)
    have b2 := mul_bd (A := 128) (B := 32) (a := to - fr) (b := i) (by decide) (by omega) (by omega) (by omega) (by omega)
    have b3 := mul_bd (A := 128) (B := 32) (a := to - fr) (b := i + 1) (by decide) (by omega) (by omega) (by omega) (by omega)
    have hw := wayM_at (side := side) (mid := mid) (fr := fr) (to := to) (k := k) (d := d) (i := i) (by omega)
    have kd : (k : Int) + (d : Int) = ((k + d : Nat) : Int) := by omega
    simp (disch := omega) only [WA, ↓reduceIte, jA, jB, jD, jE, jF, jG, jH, jI, jJ, c1, e2, e3, e4, e5, e14, e15, wrap_in, kd]
    refine .inl ⟨by kernel_rfl, ?_⟩; refine bxNumber_c (by unfold inI64; omega) (by omega) fun h4 E4 => ?_
    have s := (s.mono E4).newBlk (dyC (numM (fr * N + (to - fr) * i) (k + d))) 97 true
    simp (disch := omega) only [WA, ↓reduceIte, jA, jB, jD, jE, jF, jG, jH, jI, jJ, c1, e2, e3, e4, e5, e14, e15, wrap_in, kd]
    refine .inl ⟨by kernel_rfl, ?_⟩; refine bxNumber_c (by unfold inI64; omega) (by omega) fun h5 E5 => ?_
    have s := (s.mono E5).newBlk (dyC (numM (fr * N + (to - fr) * (i + 1)) (k + d))) 97 true
    have gm := (s.pull 3 rfl).rdAll (n := 2) rfl
    have ga := (s.pull 1 rfl).rdAll (n := 2) rfl
    have gb := (s.pull 0 rfl).rdAll (n := 2) rfl
    simp (disch := omega) only [WA, ↓reduceIte, jA, jB, jD, jE, jF, jG, jH, jI, jJ, e0, e7, e13, gm, ga, gb]
    have eed : edgeM side mid fr to k d i = ⟨side, mid, numM (fr * N + (to - fr) * i) (k + d), numM (fr * N + (to - fr) * (i + 1)) (k + d)⟩ := by unfold edgeM; rw [eN]
    have gE : EdG (edgeM side mid fr to k d i) := by rw [eed]; exact ⟨hs, hm, numM_good _ _, numM_good _ _⟩
    have s := ((s.tail.tail.rep0 (ed_rep gE _)).swap)
    rw [eed] at s
    refine sep_append (y := (⟨side, mid, numM (fr * N + (to - fr) * i) (k + d), numM (fr * N + (to - fr) * (i + 1)) (k + d)⟩ : Ed)) (ty := 102) (ro := false) (ex := true) s (by simp) (by simp) te99 tk102 rfl (by decide) (by simp only [List.length_take]; omega) fun w5 h6 s => ?_
    simp (disch := omega) only [WA, ↓reduceIte, jA, jB, jD, jE, jF, jG, jH, jI, jJ, e15, wrap_in]
    refine ⟨_, by omega, i + 1, w5, e0, e2, e3, e4, e5, e7, rfl, e14, by simp, by omega, rfl, ?_⟩
    rw [List.take_add_one, hw, eed]
    exact s
  · obtain rfl : i = N := by omega
    have c1 : ¬ (i : Int) < (i : Int) := by omega
    rw [List.take_of_length_le (by omega)] at s
    simp (disch := omega) only [WA, ↓reduceIte, jA, jB, jD, jE, jF, jG, jH, jI, jJ, c1, e13]
    exact hQ _ _ s.head
end Go.Proofs
end
