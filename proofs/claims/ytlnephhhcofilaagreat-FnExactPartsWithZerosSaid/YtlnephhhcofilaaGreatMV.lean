/- The layer V and contracts of functions over it, or plain laws behind one statement (own work): MV=UQ,K6. Conditions: those told in each theorem. -/
import Derived.Test.YtlnephhhcofilaaGreatMT
import Derived.Test.YtlnephhhcofilaaGreatHT
import Derived.Test.YtlnephhhcofilaaGreatMH2
set_option linter.all false
section
set_option linter.unusedSimpArgs false
set_option linter.unusedVariables false
set_option maxRecDepth 4000
namespace Go.Proofs
open Go Go.V
open Nat renaming reduceEqDiff → jA, reduceAdd → jB, reduceMul → jD, reduceSub → jE, reduceLeDiff → jF
open Int renaming reduceLT → jG, reduceLE → jH, reduceNeg → jI, reduceEq → jJ
/- The parts of a box with a multiplicity (the program). -/
theorem count_one {S : List (List Tm)} {b : Bx} : (countM S [b]).2 = (boxDeg S b).2 ∧ ((boxDeg S b).2 = true → (countM S [b]).1 = (boxDeg S b).1) := by
  unfold countM
  cases h : (boxDeg S b).2 with
  | false => simp [h]
  | true => simp [h, sumD]
theorem PartsWithZeros_i {S : List (List Tm)} {b : Bx} {v : Value} {cs : List Value} {h : Heap} {Q : Value → Heap → Prop} (rS : Row h S v) (hb : Here h b cs)
    (hQ : ∀ w h', Sep h h' [repA (pzM S b).1 [w]] → Q (.tuple #[w, .bool (pzM S b).2]) h') : CallsV Tryz.prog 23 [v, .agg cs.toArray] h Q := by
  obtain ⟨v1, v2, rfl, _⟩ := here_Bx hb
  refine CallsV.start Tryz.func23 rfl (by rw [Tryz.results23]) (by kernel_rfl) (by rw [Tryz.ntmps23]; simp) ?_
  have s := Sep.blk1 h [.int .i64 b.k, v1, v2] 32 true
  have hp := s.ptr (hb.mono s.ext)
  have hlt : h.length < (h ++ [some ⟨[.int .i64 b.k, v1, v2], 32, false, true⟩] : Heap).length := by simp
  unfold pzM at hQ
  have nil_ok : ∀ h', Ext h h' → Sep h h' [repA ([] : List Int) [.slice none 0 0]] := fun h' E => ((Sep.nil E).nilA (α := Int) 3).toRep
  simp (disch := omega) only [WA, ↓reduceIte, jA, jB, jD, jE, jF, jG, jH, jI, jJ]
  refine .inl ⟨by kernel_rfl, ?_⟩; refine isPlane_c (rS.mono s.ext) hlt hp fun h1 E1 => ?_
  have hp1 := hp.mono hlt E1
  have s := s.mono E1
  cases hg : twoB S && planeB b with
  | false =>
    rw [hg] at hQ
    simp only [Bool.false_eq_true, reduceIte] at hQ
    simp (disch := omega) only [WA, ↓reduceIte, jA, jB, jD, jE, jF, jG, jH, jI, jJ]
    exact hQ _ _ (nil_ok _ s.ext)
  | true =>
    obtain ⟨hS, hpb⟩ := Bool.and_eq_true_iff.1 hg
    obtain ⟨gb, hl2⟩ := plane_box hpb
    obtain ⟨k, x, y, z, w, g⟩ := planeB_G hpb
    rw [hg, quartsOf_G g] at hQ
    simp only [reduceIte] at hQ
    simp (disch := omega) only [WA, ↓reduceIte, jA, jB, jD, jE, jF, jG, jH, jI, jJ]
    refine .inl ⟨by kernel_rfl, ?_⟩; refine parts_c hp1 g gb fun vl h2 st => ?_
    have s := s.add st
    have lz : (quarts k x y z w).length = 4 := rfl
    have rl := (s.pull 0 rfl).row
    have isr := rl.isRow
    rw [lz] at isr
    simp (disch := omega) only [WA, ↓reduceIte, jA, jB, jD, jE, jF, jG, jH, jI, jJ, isr.len]
    have u0 : Sep h h2 (ownA (α := Int) 3 (zL S 0 ((quarts k x y z w).take 0)) (.slice none 0 0) :: _) := s.nilA 3
    refine loop_rule (fun n e h' => ∃ (i : Nat) (vo : Value), e 0 = v ∧ e 6 = vl ∧ e 8 = vo ∧ e 22 = .int .i64 ((4 : Nat) : Int) ∧ e 23 = .int .i64 i ∧ i ≤ 4 ∧ n = 4 - i ∧ ((quarts k x y z w).take i).all (fun x => (boxDeg S x).2) = true ∧
      Sep h h' [ownA 3 (zL S 0 ((quarts k x y z w).take i)) vo, ownA 32 (quarts k x y z w) vl]) ?_ 4 _ _
      ⟨0, _, rfl, rfl, rfl, rfl, rfl, by omega, by omega, by simp, Sep.keep (L := [ownA 3 (zL S 0 ((quarts k x y z w).take 0)) _, ownA 32 (quarts k x y z w) vl]) u0⟩
    rintro n e h5 ⟨i, vo, e0, e6, e8, e22, e23, hi, rfl, hall, s5⟩
    simp (disch := omega) only [WA, ↓reduceIte, jA, jB, jD, jE, jF, jG, jH, jI, jJ, e22, e23]
    by_cases ci : i < 4
    · have c1 : (i : Int) < ((4 : Nat) : Int) := by omega
      obtain ⟨X, bX⟩ := get_some (show i < (quarts k x y z w).length by omega)
      have r2l := (s5.pull 1 rfl).row
      have isr2 := r2l.isRow
      rw [lz] at isr2
      have cap := isr2.cap
      have w9 := wrap_in ((i : Int) + 1) (by omega)
      have m1 : (0 : Int) ≤ (i : Int) := by omega
      have m2 : (i : Int) ≤ (i : Int) + 1 := by omega
      have m3 : (i : Int) + 1 ≤ (rowC vl : Int) := by omega
      have m4 : (i : Int).toNat = i := rfl
      have m5 : ((i : Int) + 1).toNat = i + 1 := by omega
      have m6 : i ≤ i + 1 := by omega
      have m7 : i + 1 ≤ rowC vl := by omega
      have rc := r2l.cut (lo := i) (m := i + 1) (by omega) (by rw [lz]; omega)
      have ec : ((quarts k x y z w).take (i + 1)).drop i = [X] := by
        rw [List.take_add_one, bX, List.drop_append_of_le_length (by rw [List.length_take]; omega), List.drop_eq_nil_of_le (by rw [List.length_take]; omega)]; rfl
      rw [ec] at rc
      have rc : Row h5 [X] (cutV vl 3 i (i + 1)) := rc
      simp (disch := omega) only [WA, ↓reduceIte, jA, jB, jD, jE, jF, jG, jH, jI, jJ, c1, e0, e6, e23, w9, isr2.sl, m1, m2, m3, m4, m5, m6, m7]
      refine .inl ⟨by kernel_rfl, ?_⟩; refine signedCount_c (rS.mono s5.ext) rc (by simp) fun h7 E7 => ?_
      have s7 := s5.mono E7
      obtain ⟨q1, q2⟩ := count_one (S := S) (b := X)
      rw [q1]
      cases hd : (boxDeg S X).2 with
      | false =>
        rw [pz_bad bX hd] at hQ
        simp only [Bool.false_eq_true, reduceIte] at hQ
        simp (disch := omega) only [WA, ↓reduceIte, jA, jB, jD, jE, jF, jG, jH, jI, jJ]
        exact hQ _ _ (nil_ok _ s7.ext)
      | true =>
        rw [q2 hd]
        have ht := zL_take (S := S) (k := 0) bX
        have hl := zL_len S ((quarts k x y z w).take i) 0
        rw [List.length_take] at hl
        have hall2 : ((quarts k x y z w).take (i + 1)).all (fun x => (boxDeg S x).2) = true := by rw [all_take _ bX, hall, hd]; rfl
        by_cases cz : (boxDeg S X).1 = 0
        · rw [if_pos cz, List.append_nil] at ht
          simp (disch := omega) only [WA, ↓reduceIte, jA, jB, jD, jE, jF, jG, jH, jI, jJ, cz, e0, e6, e8, e22, e23, w9]
          exact ⟨_, by omega, i + 1, vo, rfl, by simp, by omega, rfl, hall2, by rw [ht]; exact s7⟩
        · rw [if_neg cz, Nat.zero_add] at ht
          have s8 := (Sep.rep0 (x := (i : Int)) (s7.pull 0 rfl) (rep_int ⟨by omega, by omega⟩)).swap
          simp (disch := omega) only [WA, ↓reduceIte, jA, jB, jD, jE, jF, jG, jH, jI, jJ, cz, e8, e23]
          refine sep_append (y := (i : Int)) s8 rfl rfl te23 tk3 rfl (by decide) (by simp only []; omega) fun w4 h8 s9 => ?_
          simp (disch := omega) only [WA, ↓reduceIte, jA, jB, jD, jE, jF, jG, jH, jI, jJ, e0, e6, e22, e23, w9]
          exact ⟨_, by omega, i + 1, w4, rfl, by simp, by omega, rfl, hall2, by rw [ht]; exact s9⟩
    · obtain rfl : i = 4 := by omega
      have c1 : ¬ ((4 : Nat) : Int) < ((4 : Nat) : Int) := by omega
      rw [List.take_of_length_le (by exact Nat.le_refl _)] at s5 hall
      rw [hall] at hQ
      simp only [reduceIte] at hQ
      have pl := (s5.pull 0 rfl).row.isRow.plain
      simp (disch := omega) only [WA, ↓reduceIte, jA, jB, jD, jE, jF, jG, jH, jI, jJ, c1, e8, pl]
      exact hQ _ _ s5.toRep.head
end Go.Proofs
end

section
set_option linter.unusedSimpArgs false
set_option linter.unusedVariables false
set_option maxRecDepth 4000
namespace Go.Proofs
open Go Go.V
open Nat renaming reduceEqDiff → jA, reduceAdd → jB, reduceMul → jD, reduceSub → jE, reduceLeDiff → jF
open Int renaming reduceLT → jG, reduceLE → jH, reduceNeg → jI, reduceEq → jJ
theorem markIntS_c {l : List Int} {v : Value} {k : Int} {a h : Heap} {L : List Asr} {Q : Value → Heap → Prop} (s : Sep a h (repA l [v] :: L)) (k0 : 0 ≤ k) (hk : k + (cntL l : Nat) ≤ 1000000000000000)
    (hQ : ∀ h', Sep a h' (repA (mkL l k) [v] :: L) → Q (.int .i64 (k + (cntL l : Nat))) h') : CallsV Tryz.prog 27 [v, .int .i64 k] h Q := by
  refine CallsV.start Tryz.func27 rfl (by rw [Tryz.results27]) (by kernel_rfl) (by rw [Tryz.ntmps27]; simp) ?_
  have hle := s.rowR.le
  simp (disch := omega) only [WA, ↓reduceIte, jA, jB, jD, jE, jF, jG, jH, jI, jJ]
  refine loop_rule (fun n e h' => ∃ (i : Nat), e 0 = v ∧ e 1 = .int .i64 (k + (cntL (l.take i) : Nat)) ∧ e 5 = .int .i64 i ∧ i ≤ l.length ∧ n = l.length - i ∧ Sep a h' (repA (mkL (l.take i) k ++ l.drop i) [v] :: L)) ?_ l.length _ _ ⟨0, rfl, by simp [upd, cntL, startEnv], rfl, Nat.zero_le _, rfl, by simpa [mkL] using s⟩
  rintro n e h1 ⟨i, e0, e1, ei, hi, rfl, s⟩
  have hlen := mkP_length l k hi
  have ro := s.rowR.isRow
  rw [hlen] at ro
  simp (disch := omega) only [WA, ↓reduceIte, jA, jB, jD, jE, jF, jG, jH, jI, jJ, e0, ei, ro.len]
  by_cases hlt : i < l.length
  · obtain ⟨x, hx⟩ := get_some hlt
    have c1 : (i : Int) < (l.length : Int) := by omega
    have ct := cntL_take hx
    have cl := cntL_take_le l (i + 1)
    have hset := mkP_set hx k
    obtain ⟨cs, x3, s⟩ := s.focus (mkP_get hx k)
    have ec : Mrk.ecnt x = 1 := rfl
    generalize hK : k + (cntL (l.take i) : Nat) = K at *
    have kb : 0 ≤ K ∧ K + (Mrk.ecnt x : Nat) ≤ 1000000000000000 := by omega
    have hd : ∀ (hp : Heap) (M : List Asr), Sep a hp (repA (Mrk.emk x K) cs :: holeA (mkL (l.take i) k ++ l.drop i) v i cs :: M) → True := fun _ _ _ => trivial
    clear hd
    obtain ⟨rfl, fe1⟩ := here_int s.here
    have s := s.tail
    simp (disch := omega) only [WA, ↓reduceIte, jA, jB, jD, jE, jF, jG, jH, jI, jJ, e0, e1, ei, c1, ro.ix]
    refine sep_hole (j := 0) s (by simp [show Rep.sz Int = 1 from rfl]) (by simp) fun h10 s => ?_
    have s := Sep.hcs (ds := [.int .i64 (K)]) s rfl
    simp (disch := omega) only [WA, ↓reduceIte, jA, jB, jD, jE, jF, jG, jH, jI, jJ, e0, e1, ei, ro.ix, wrap_in]
    have s := Sep.rep0 (x := K) s (rep_int ⟨by omega, by omega⟩)
    have s := Sep.close (y := Mrk.emk x K) (cs := [.int .i64 (K)]) s
    rw [hset] at s
    try simp (disch := omega) only [WA, ↓reduceIte, jA, jB, jD, jE, jF, jG, jH, jI, jJ, e0, e1, ei, wrap_in]
    exact ⟨_, by omega, i + 1, by congr 1; omega, by simp, by omega, rfl, s⟩
  · obtain rfl : i = l.length := by omega
    have c1 : ¬ (l.length : Int) < (l.length : Int) := by omega
    rw [List.take_length, List.drop_length, List.append_nil] at s
    rw [List.take_length] at e1
    simp (disch := omega) only [WA, ↓reduceIte, jA, jB, jD, jE, jF, jG, jH, jI, jJ, e0, e1, ei, c1]
    exact hQ _ s
theorem heldIntS_c {l : List Int} {v : Value} {k : Int} {h : Heap} {Q : Value → Heap → Prop} (hl : Row h (mkL l k) v) (k0 : 0 ≤ k) (hk : k + (cntL l : Nat) ≤ 1000000000000000)
    (hQ : ∀ h', Ext h h' → Q (.int .i64 (k + (cntL l : Nat))) h') : CallsV Tryz.prog 28 [v, .int .i64 k] h Q := by
  refine CallsV.start Tryz.func28 rfl (by rw [Tryz.results28]) (by kernel_rfl) (by rw [Tryz.ntmps28]; simp) ?_
  have hle := hl.le
  have ro := hl.isRow
  rw [mkL_length] at hle ro
  simp (disch := omega) only [WA, ↓reduceIte, jA, jB, jD, jE, jF, jG, jH, jI, jJ]
  refine loop_rule (fun n e h' => ∃ (i : Nat), e 0 = v ∧ e 1 = .int .i64 (k + (cntL (l.take i) : Nat)) ∧ e 5 = .int .i64 i ∧ i ≤ l.length ∧ n = l.length - i ∧ Ext h h') ?_ l.length _ _ ⟨0, rfl, by simp [upd, cntL, startEnv], rfl, Nat.zero_le _, rfl, .refl _⟩
  rintro n e h1 ⟨i, e0, e1, ei, hi, rfl, E1⟩
  simp (disch := omega) only [WA, ↓reduceIte, jA, jB, jD, jE, jF, jG, jH, jI, jJ, e0, ei, ro.len]
  by_cases hlt : i < l.length
  · obtain ⟨x, hx⟩ := get_some hlt
    have c1 : (i : Int) < (l.length : Int) := by omega
    have ct := cntL_take hx
    have cl := cntL_take_le l (i + 1)
    have hx' := mkL_get hx k
    have ec : Mrk.ecnt x = 1 := rfl
    generalize hK : k + (cntL (l.take i) : Nat) = K at *
    have kb : 0 ≤ K ∧ K + (Mrk.ecnt x : Nat) ≤ 1000000000000000 := by omega
    have hl1 := hl.mono E1
    obtain ⟨x3, x4⟩ := row_int hl1 hx'
    have x3 : getC h1 (rowB v) (rowO v + i) = some (.int .i64 K) := x3
    simp (disch := omega) only [WA, ↓reduceIte, jA, jB, jD, jE, jF, jG, jH, jI, jJ, e0, e1, ei, c1, ro.ix, x3, wrap_in]
    exact ⟨_, by omega, i + 1, by congr 1; omega, by simp, by omega, rfl, E1⟩
  · obtain rfl : i = l.length := by omega
    have c1 : ¬ (l.length : Int) < (l.length : Int) := by omega
    rw [List.take_length] at e1
    simp (disch := omega) only [WA, ↓reduceIte, jA, jB, jD, jE, jF, jG, jH, jI, jJ, e0, e1, ei, c1]
    exact hQ _ E1
instance : Mrk Tm := ⟨fun x k => ⟨x.c, x.x, x.y, x.z⟩, fun x => 0, fun x k => ⟨Mrk.emk x.c (k), Mrk.emk x.x (k + (Mrk.ecnt x.c : Nat)), Mrk.emk x.y (k + (Mrk.ecnt x.c : Nat) + (Mrk.ecnt x.x : Nat)), Mrk.emk x.z (k + (Mrk.ecnt x.c : Nat) + (Mrk.ecnt x.x : Nat) + (Mrk.ecnt x.y : Nat))⟩, fun x => Mrk.ecnt x.c + Mrk.ecnt x.x + Mrk.ecnt x.y + Mrk.ecnt x.z⟩
instance : CntB Tm := ⟨fun x => by
    have := CntB.c x.c
    have := CntB.c x.x
    have := CntB.c x.y
    have := CntB.c x.z
    show 0 ≤ 8 * (Siz.siz x.c + Siz.siz x.x + Siz.siz x.y + Siz.siz x.z)
    omega, fun x => by
    have := CntB.e x.c
    have := CntB.e x.x
    have := CntB.e x.y
    have := CntB.e x.z
    have he : Mrk.ecnt x = (1 + 1 + 1 + 1) := rfl
    have hz : Siz.siz x = Siz.siz x.c + Siz.siz x.x + Siz.siz x.y + Siz.siz x.z := rfl
    have : Siz.siz x.c = 0 := rfl
    have : Siz.siz x.x = 0 := rfl
    have : Siz.siz x.y = 0 := rfl
    have : Siz.siz x.z = 0 := rfl
    omega⟩
theorem markTermS_c {l : List Tm} {v : Value} {k : Int} {a h : Heap} {L : List Asr} {Q : Value → Heap → Prop} (s : Sep a h (repA l [v] :: L)) (k0 : 0 ≤ k) (hk : k + (cntL l : Nat) ≤ 1000000000000000)
    (hQ : ∀ h', Sep a h' (repA (mkL l k) [v] :: L) → Q (.int .i64 (k + (cntL l : Nat))) h') : CallsV Tryz.prog 52 [v, .int .i64 k] h Q := by
  refine CallsV.start Tryz.func52 rfl (by rw [Tryz.results52]) (by kernel_rfl) (by rw [Tryz.ntmps52]; simp) ?_
  have hle := s.rowR.le
  simp (disch := omega) only [WA, ↓reduceIte, jA, jB, jD, jE, jF, jG, jH, jI, jJ]
  refine loop_rule (fun n e h' => ∃ (i : Nat), e 0 = v ∧ e 1 = .int .i64 (k + (cntL (l.take i) : Nat)) ∧ e 5 = .int .i64 i ∧ i ≤ l.length ∧ n = l.length - i ∧ Sep a h' (repA (mkL (l.take i) k ++ l.drop i) [v] :: L)) ?_ l.length _ _ ⟨0, rfl, by simp [upd, cntL, startEnv], rfl, Nat.zero_le _, rfl, by simpa [mkL] using s⟩
  rintro n e h1 ⟨i, e0, e1, ei, hi, rfl, s⟩
  have hlen := mkP_length l k hi
  have ro := s.rowR.isRow
  rw [hlen] at ro
  simp (disch := omega) only [WA, ↓reduceIte, jA, jB, jD, jE, jF, jG, jH, jI, jJ, e0, ei, ro.len]
  by_cases hlt : i < l.length
  · obtain ⟨x, hx⟩ := get_some hlt
    have c1 : (i : Int) < (l.length : Int) := by omega
    have ct := cntL_take hx
    have cl := cntL_take_le l (i + 1)
    have hset := mkP_set hx k
    obtain ⟨cs, x3, s⟩ := s.focus (mkP_get hx k)
    have ec : Mrk.ecnt x = (1 + 1 + 1 + 1) := rfl
    generalize hK : k + (cntL (l.take i) : Nat) = K at *
    have kb : 0 ≤ K ∧ K + (Mrk.ecnt x : Nat) ≤ 1000000000000000 := by omega
    have hd : ∀ (hp : Heap) (M : List Asr), Sep a hp (repA (Mrk.emk x K) cs :: holeA (mkL (l.take i) k ++ l.drop i) v i cs :: M) → True := fun _ _ _ => trivial
    clear hd
    obtain ⟨ce2, de2, rfl, sq2⟩ := Sep.unpair (α := Int) (β := Int × Int × Int) (x := x.c) (y := (x.x, x.y, x.z)) s
    have s := sq2
    obtain ⟨rfl, fe3⟩ := here_int s.here
    have s := s.tail
    obtain ⟨ce4, de4, rfl, sq4⟩ := Sep.unpair (α := Int) (β := Int × Int) (x := x.x) (y := (x.y, x.z)) s
    have s := sq4
    obtain ⟨rfl, fe5⟩ := here_int s.here
    have s := s.tail
    obtain ⟨ce6, de6, rfl, sq6⟩ := Sep.unpair (α := Int) (β := Int) (x := x.y) (y := (x.z)) s
    have s := sq6
    obtain ⟨rfl, fe7⟩ := here_int s.here
    have s := s.tail
    obtain ⟨rfl, fe8⟩ := here_int s.here
    have s := s.tail
    simp (disch := omega) only [WA, ↓reduceIte, jA, jB, jD, jE, jF, jG, jH, jI, jJ, e0, e1, ei, c1, ro.ix]
    refine sep_hole (j := 0) s (by rfl) (by simp) fun h10 s => ?_
    have s := Sep.hcs (ds := [.int .i64 (K), .int .i64 x.x, .int .i64 x.y, .int .i64 x.z]) s rfl
    simp (disch := omega) only [WA, ↓reduceIte, jA, jB, jD, jE, jF, jG, jH, jI, jJ, e0, e1, ei, ro.ix, wrap_in]
    refine sep_hole (j := 1) s (by rfl) (by simp) fun h11 s => ?_
    have s := Sep.hcs (ds := [.int .i64 (K), .int .i64 (K + 1), .int .i64 x.y, .int .i64 x.z]) s rfl
    simp (disch := omega) only [WA, ↓reduceIte, jA, jB, jD, jE, jF, jG, jH, jI, jJ, e0, e1, ei, ro.ix, wrap_in]
    refine sep_hole (j := 2) s (by rfl) (by simp) fun h12 s => ?_
    have s := Sep.hcs (ds := [.int .i64 (K), .int .i64 (K + 1), .int .i64 (K + 1 + 1), .int .i64 x.z]) s rfl
    simp (disch := omega) only [WA, ↓reduceIte, jA, jB, jD, jE, jF, jG, jH, jI, jJ, e0, e1, ei, ro.ix, wrap_in]
    refine sep_hole (j := 3) s (by rfl) (by simp) fun h13 s => ?_
    have s := Sep.hcs (ds := [.int .i64 (K), .int .i64 (K + 1), .int .i64 (K + 1 + 1), .int .i64 (K + 1 + 1 + 1)]) s rfl
    simp (disch := omega) only [WA, ↓reduceIte, jA, jB, jD, jE, jF, jG, jH, jI, jJ, e0, e1, ei, ro.ix, wrap_in]
    have s := Sep.rep0 (x := K + 1 + 1 + 1) s (rep_int ⟨by omega, by omega⟩)
    have s := Sep.rep0 (x := K + 1 + 1) s (rep_int ⟨by omega, by omega⟩)
    have s := Sep.pair s
    have s := Sep.rep0 (x := K + 1) s (rep_int ⟨by omega, by omega⟩)
    have s := Sep.pair s
    have s := Sep.rep0 (x := K) s (rep_int ⟨by omega, by omega⟩)
    have s := Sep.pair s
    have s := Sep.close (y := Mrk.emk x K) (cs := [.int .i64 (K), .int .i64 (K + 1), .int .i64 (K + 1 + 1), .int .i64 (K + 1 + 1 + 1)]) s
    rw [hset] at s
    try simp (disch := omega) only [WA, ↓reduceIte, jA, jB, jD, jE, jF, jG, jH, jI, jJ, e0, e1, ei, wrap_in]
    exact ⟨_, by omega, i + 1, by congr 1; omega, by simp, by omega, rfl, s⟩
  · obtain rfl : i = l.length := by omega
    have c1 : ¬ (l.length : Int) < (l.length : Int) := by omega
    rw [List.take_length, List.drop_length, List.append_nil] at s
    rw [List.take_length] at e1
    simp (disch := omega) only [WA, ↓reduceIte, jA, jB, jD, jE, jF, jG, jH, jI, jJ, e0, e1, ei, c1]
    exact hQ _ s
theorem markTermSS_c {l : List (List Tm)} {v : Value} {k : Int} {a h : Heap} {L : List Asr} {Q : Value → Heap → Prop} (s : Sep a h (repA l [v] :: L)) (k0 : 0 ≤ k) (hk : k + (cntL l : Nat) ≤ 1000000000000000)
    (hQ : ∀ h', Sep a h' (repA (mkL l k) [v] :: L) → Q (.int .i64 (k + (cntL l : Nat))) h') : CallsV Tryz.prog 25 [v, .int .i64 k] h Q := by
  refine CallsV.start Tryz.func25 rfl (by rw [Tryz.results25]) (by kernel_rfl) (by rw [Tryz.ntmps25]; simp) ?_
  have hle := s.rowR.le
  simp (disch := omega) only [WA, ↓reduceIte, jA, jB, jD, jE, jF, jG, jH, jI, jJ]
  refine loop_rule (fun n e h' => ∃ (i : Nat), e 0 = v ∧ e 1 = .int .i64 (k + (cntL (l.take i) : Nat)) ∧ e 5 = .int .i64 i ∧ i ≤ l.length ∧ n = l.length - i ∧ Sep a h' (repA (mkL (l.take i) k ++ l.drop i) [v] :: L)) ?_ l.length _ _ ⟨0, rfl, by simp [upd, cntL, startEnv], rfl, Nat.zero_le _, rfl, by simpa [mkL] using s⟩
  rintro n e h1 ⟨i, e0, e1, ei, hi, rfl, s⟩
  have hlen := mkP_length l k hi
  have ro := s.rowR.isRow
  rw [hlen] at ro
  simp (disch := omega) only [WA, ↓reduceIte, jA, jB, jD, jE, jF, jG, jH, jI, jJ, e0, ei, ro.len]
  by_cases hlt : i < l.length
  · obtain ⟨x, hx⟩ := get_some hlt
    have c1 : (i : Int) < (l.length : Int) := by omega
    have ct := cntL_take hx
    have cl := cntL_take_le l (i + 1)
    have hset := mkP_set hx k
    obtain ⟨cs, x3, s⟩ := s.focus (mkP_get hx k)
    have ec : Mrk.ecnt x = cntL x := rfl
    generalize hK : k + (cntL (l.take i) : Nat) = K at *
    have kb : 0 ≤ K ∧ K + (Mrk.ecnt x : Nat) ≤ 1000000000000000 := by omega
    have hd : ∀ (hp : Heap) (M : List Asr), Sep a hp (repA (Mrk.emk x K) cs :: holeA (mkL (l.take i) k ++ l.drop i) v i cs :: M) → True := fun _ _ _ => trivial
    clear hd
    obtain ⟨we1, rfl, fe1⟩ := here_list s.here
    simp (disch := omega) only [WA, ↓reduceIte, jA, jB, jD, jE, jF, jG, jH, jI, jJ, e0, e1, ei, c1, ro.ix]
    have s := s.pull 1 rfl
    have g := s.hrd 0 (by simp) (o := rowO v + i) (by simp [show Rep.sz (List Tm) = 1 from rfl])
    simp (disch := omega) only [WA, ↓reduceIte, jA, jB, jD, jE, jF, jG, jH, jI, jJ, e0, e1, ei, ro.ix, g]
    have s := s.pull 1 rfl
    refine .inl ⟨by kernel_rfl, ?_⟩; refine markTermS_c s (by omega) (by omega) fun h10 s => ?_
    simp (disch := omega) only [WA, ↓reduceIte, jA, jB, jD, jE, jF, jG, jH, jI, jJ, e0, e1, ei, ro.ix, wrap_in]
    have s := Sep.close (y := Mrk.emk x K) (cs := [we1]) s
    rw [hset] at s
    try simp (disch := omega) only [WA, ↓reduceIte, jA, jB, jD, jE, jF, jG, jH, jI, jJ, e0, e1, ei, wrap_in]
    exact ⟨_, by omega, i + 1, by congr 1; omega, by simp, by omega, rfl, s⟩
  · obtain rfl : i = l.length := by omega
    have c1 : ¬ (l.length : Int) < (l.length : Int) := by omega
    rw [List.take_length, List.drop_length, List.append_nil] at s
    rw [List.take_length] at e1
    simp (disch := omega) only [WA, ↓reduceIte, jA, jB, jD, jE, jF, jG, jH, jI, jJ, e0, e1, ei, c1]
    exact hQ _ s
instance : Mrk Bx := ⟨fun x k => ⟨x.k, Mrk.bmk x.low (k), Mrk.bmk x.high (k + (Mrk.cnt x.low : Nat))⟩, fun x => Mrk.cnt x.low + Mrk.cnt x.high, fun x k => ⟨Mrk.emk x.k (k), Mrk.emk x.low (k + (Mrk.ecnt x.k : Nat)), Mrk.emk x.high (k + (Mrk.ecnt x.k : Nat) + (Mrk.ecnt x.low : Nat))⟩, fun x => Mrk.ecnt x.k + Mrk.ecnt x.low + Mrk.ecnt x.high⟩
instance : CntB Bx := ⟨fun x => by
    have := CntB.c x.k
    have := CntB.c x.low
    have := CntB.c x.high
    show Mrk.cnt x.low + Mrk.cnt x.high ≤ 8 * (Siz.siz x.k + Siz.siz x.low + Siz.siz x.high)
    omega, fun x => by
    have := CntB.e x.k
    have := CntB.c x.low
    have := CntB.c x.high
    have he : Mrk.ecnt x = (1 + cntL x.low + cntL x.high) := rfl
    have hz : Siz.siz x = Siz.siz x.k + Siz.siz x.low + Siz.siz x.high := rfl
    have := cntL_le x.low
    have := cntL_le x.high
    have : Siz.siz x.k = 0 := rfl
    omega⟩
theorem markBox_c {x : Bx} {cs : List Value} {k : Int} {a h : Heap} {L : List Asr} {Q : Value → Heap → Prop} (s : Sep a h (repA x cs :: L)) (k0 : 0 ≤ k) (hk : k + (Mrk.cnt x : Nat) ≤ 1000000000000000)
    (hQ : ∀ h', Sep a h' (repA (Mrk.bmk x k) cs :: L) → Q (.int .i64 (k + (Mrk.cnt x : Nat))) h') : CallsV Tryz.prog 26 [.agg cs.toArray, .int .i64 k] h Q := by
  have ec : Mrk.cnt x = Mrk.cnt x.low + Mrk.cnt x.high := rfl
  have hs : True := trivial
  obtain ⟨ce2, de2, rfl, sq2⟩ := Sep.unpair (α := Int) (β := (List Int) × (List Int)) (x := x.k) (y := (x.low, x.high)) s
  have s := sq2
  obtain ⟨rfl, fe3⟩ := here_int s.here
  have s := s.tail
  obtain ⟨ce4, de4, rfl, sq4⟩ := Sep.unpair (α := (List Int)) (β := (List Int)) (x := x.low) (y := (x.high)) s
  have s := sq4
  obtain ⟨we5, rfl, fe5⟩ := here_list s.here
  have s := s.pull 1 rfl
  obtain ⟨we6, rfl, fe6⟩ := here_list s.here
  have s := s.newBlk [.int .i64 x.k, we5, we6] 32 true
  refine CallsV.start Tryz.func26 rfl (by rw [Tryz.results26]) (by kernel_rfl) (by rw [Tryz.ntmps26]; simp) ?_
  simp (disch := omega) only [WA, ↓reduceIte, jA, jB, jD, jE, jF, jG, jH, jI, jJ]
  have s := s.pull 2 rfl
  refine .inl ⟨by kernel_rfl, ?_⟩; refine markIntS_c (l := x.low) (k := k) s (by omega) (by have : Mrk.cnt x.low = cntL x.low := rfl; omega) fun hlow s => ?_
  have efLow : Mrk.cnt x.low = cntL x.low := rfl
  have s := s.pull 1 rfl
  have g := s.rd
  have gA := s.rdA
  simp (disch := omega) only [WA, ↓reduceIte, jA, jB, jD, jE, jF, jG, jH, jI, jJ, g, gA]
  have s := s.pull 2 rfl
  refine .inl ⟨by kernel_rfl, ?_⟩; refine markIntS_c (l := x.high) (k := k + (cntL x.low : Nat)) s (by omega) (by have : Mrk.cnt x.high = cntL x.high := rfl; omega) fun hhigh s => ?_
  have efHigh : Mrk.cnt x.high = cntL x.high := rfl
  simp (disch := omega) only [WA, ↓reduceIte, jA, jB, jD, jE, jF, jG, jH, jI, jJ]
  have s := s.pull 1 rfl
  have s := s.tail
  have s := s.pull 1 rfl
  have s := Sep.pair s
  have s := Sep.rep0 (x := x.k) s (rep_int fe3)
  have s := Sep.pair s
  have e : k + (Mrk.cnt x : Nat) = k + (cntL x.low : Nat) + (cntL x.high : Nat) := by rw [ec]; omega
  rw [e] at hQ
  exact hQ _ s
end Go.Proofs
end
