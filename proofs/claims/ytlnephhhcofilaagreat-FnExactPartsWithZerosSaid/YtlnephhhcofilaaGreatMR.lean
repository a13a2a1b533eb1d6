/- The layer V and contracts of functions over it, or plain laws behind one statement (own work): MR=UL,UM. Conditions: those told in each theorem. -/
import Derived.Test.YtlnephhhcofilaaGreatMO
import Derived.Test.YtlnephhhcofilaaGreatZM
set_option linter.all false
section
set_option linter.unusedSimpArgs false
set_option linter.unusedVariables false
set_option maxRecDepth 4000
namespace Go.Proofs
open Go Go.V
open Nat renaming reduceEqDiff → jA, reduceAdd → jB, reduceMul → jD, reduceSub → jE, reduceLeDiff → jF
open Int renaming reduceLT → jG, reduceLE → jH, reduceNeg → jI, reduceEq → jJ
/- Parts of a box (the reference). -/
theorem raw_rep2 {h : Heap} (r : Raw3) : Rep.rep h r r.c [] := ⟨rfl, rfl⟩
theorem Raw3.lit2 (r : Raw3) : ∃ a b c, r.c = [a, b, c] := len3 r.hc
theorem InF.app {h : Heap} : ∀ {z w : List El} {fps gps : List (List Nat)}, InF h z fps → InF h w gps → InF h (z ++ w) (fps ++ gps)
  | [], _, fps, _, e, k => by rw [show fps = [] from e]; exact k
  | p :: z, _, _, _, ⟨f, fps', e, h1, h2⟩, k => by subst e; exact ⟨f, _, rfl, h1, h2.app k⟩
theorem Sep.inApp {a h : Heap} {L : List Asr} {z w : List El} (s : Sep a h (inA z :: inA w :: L)) : Sep a h (inA (z ++ w) :: L) := by
  refine s.both.to ?_
  rintro fp ⟨f, g, rfl, ⟨fps, h1, rfl⟩, gps, h2, rfl⟩ hd
  exact ⟨_, ⟨fps ++ gps, h1.app h2, rfl⟩, by rw [List.flatten_append]; exact hd, fun b hb => by rw [List.flatten_append] at hb; exact hb⟩
/-- A told row taken apart. -/
theorem Sep.partsR {a h : Heap} {L : List Asr} {l : List Bx} {v : Value} (s : Sep a h (repA l [v] :: L)) : ∃ z : List El, bxs z = l ∧ Row h (raws z) v ∧ Sep a h (inA z :: L) := by
  obtain ⟨e0, fp, ⟨f1, g1, rfl, ⟨v', ev, h1, h2, h3⟩, s⟩, hd, hn⟩ := s
  obtain rfl : v = v' := by simpa using ev
  rcases h3 with ⟨rfl, rfl⟩ | ⟨cs, fps, q1, q2, rfl, hc⟩
  · exact ⟨[], rfl, ⟨[], h1, h2, .inl ⟨rfl, rfl⟩⟩, e0, g1, ⟨[], g1, rfl, ⟨[], rfl, rfl⟩, s⟩, by simpa using hd, by simpa using hn⟩
  · obtain ⟨z, hz, hi, fq, hq, hq0⟩ := Cells.parts hc
    have hlen : (raws z).length = l.length := by rw [← hz]; simp
    refine ⟨z, hz, ⟨rowB v :: fq.flatten, by rw [hlen]; exact h1, by rw [hlen]; exact h2, .inr ⟨cs, fq, q1, by rw [hlen]; exact q2, rfl, hq⟩⟩, e0, fps.flatten ++ g1, ⟨fps.flatten, g1, rfl, ⟨fps, hi, rfl⟩, s⟩, ?_, fun b hb => hn b (by simp only [List.cons_append, List.mem_cons]; exact .inr hb)⟩
    exact (List.nodup_cons.1 (by simpa using hd)).2
theorem bxParts2_c {b : Bx} {cs : List Value} {h : Heap} {Q : Value → Heap → Prop} (hb : Here h b cs) (h3 : cs.length = 3) (hl : b.low.length = 2)
    (hQ : ∀ v h', Sep h h' [ownA 32 [(⟨cs, h3⟩ : Raw3)] v] → Q (.tuple #[v, .bool true]) h') : CallsV Tryz.prog 71 [.agg cs.toArray, .int .i64 (2 : Int)] h Q := by
  obtain ⟨v1, v2, rfl, f1, r1, r2⟩ := here_Bx hb
  refine CallsV.start Tryz.func71 rfl (by rw [Tryz.results71]) (by kernel_rfl) (by rw [Tryz.ntmps71]; simp) ?_
  have s := Sep.blk1 h [.int .i64 b.k, v1, v2] 32 true
  have g := s.rd
  have ga := s.rdAll (n := 3) rfl
  have c2 : (b.low.length : Int) = 2 := by omega
  simp (disch := omega) only [WA, ↓reduceIte, jA, jB, jD, jE, jF, jG, jH, jI, jJ, g, ga, r1.isRow.len, c2]
  have s : Sep h _ _ := Sep.blk2 h [.int .i64 b.k, v1, v2] [.int .i64 b.k, v1, v2] 32 32 true true
  exact hQ _ _ (Sep.blkOwn s (l := [(⟨[.int .i64 b.k, v1, v2], rfl⟩ : Raw3)]) ⟨_, Cells.one (raw_rep2 ⟨[.int .i64 b.k, v1, v2], rfl⟩), rfl⟩ rfl (by simp)).head
theorem two_bx {z : List El} {x y : Bx} (h : bxs z = [x, y]) : ∃ p q : Raw3, z = [(x, p), (y, q)] := by
  match z, h with
  | [(_, p), (_, q)], h => simp at h; obtain ⟨rfl, rfl⟩ := h; exact ⟨p, q, rfl⟩
theorem row_cells {h : Heap} {l : List Raw3} {v : Value} (r : Row h l v) {i : Nat} {p : Raw3} (hp : l[i]? = some p) : cellsAt h (rowB v) (rowO v + i * 3) 3 = some p.c := by
  obtain ⟨xs, x3, f, x4⟩ := r.at hp
  have x3 : cellsAt h (rowB v) (rowO v + i * 3) 3 = some xs := x3
  rw [x3, x4.1]
theorem bxParts1_c {b x y : Bx} {cs : List Value} {h : Heap} {Q : Value → Heap → Prop} (hb : Here h b cs) (gb : boxM b = true) (hl : b.low.length = 2) (hh : halvesM b 1 = some [x, y]) (hx : x.low.length = 2) (hy : y.low.length = 2)
    (hQ : ∀ v h' z, bxs z = [x, y] → St h h' z v [] → Q (.tuple #[v, .bool true]) h') : CallsV Tryz.prog 71 [.agg cs.toArray, .int .i64 (1 : Int)] h Q := by
  obtain ⟨v1, v2, rfl, f1, r1, r2⟩ := here_Bx hb
  refine CallsV.start Tryz.func71 rfl (by rw [Tryz.results71]) (by kernel_rfl) (by rw [Tryz.ntmps71]; simp) ?_
  have s := Sep.blk1 h [.int .i64 b.k, v1, v2] 32 true
  have g := s.rd
  have ga := s.rdAll (n := 3) rfl
  have hb1 := hb.mono s.ext
  have c2 : (b.low.length : Int) = 2 := by omega
  have c12 : ¬ (1 : Int) = 2 := by decide
  simp (disch := omega) only [WA, ↓reduceIte, jA, jB, jD, jE, jF, jG, jH, jI, jJ, g, r1.isRow.len, c2, c12, ga]
  refine .inl ⟨by kernel_rfl, ?_⟩; refine bxHalves_c (side := 1) hb1 gb (by omega) fun vh h1 t1 => ?_
  have s := s.add t1
  rw [hh] at s ⊢
  simp only [Option.getD_some, Option.isSome_some, List.cons_append, List.nil_append] at s ⊢
  obtain ⟨z, hz, rl, s⟩ := Sep.partsR s
  obtain ⟨p, q, rfl⟩ := two_bx hz
  have rl : Row h1 [p, q] vh := rl
  have X2 := Sep.inHere s (p := (x, p)) (by simp)
  have Y2 := Sep.inHere s (p := (y, q)) (by simp)
  have X1 := row_cells rl (i := 0) (p := p) rfl
  have Y1 := row_cells rl (i := 1) (p := q) rfl
  obtain ⟨x0, x1, x2, hp⟩ := p.lit2
  obtain ⟨y0, y1, y2, hq⟩ := q.lit2
  rw [hp, Nat.zero_mul, Nat.add_zero] at X1
  rw [hq] at Y1
  have Y1 : cellsAt h1 (rowB vh) (rowO vh + Int.toNat 1 * 3) 3 = some [y0, y1, y2] := Y1
  have z0 : (0 : Int) < (([p, q].length : Nat) : Int) := by simp
  have z1 : (1 : Int) < (([p, q].length : Nat) : Int) := by simp
  have X2 : Here h1 x p.c := X2
  have Y2 : Here h1 y q.c := Y2
  rw [hp] at X2
  rw [hq] at Y2
  simp (disch := omega) only [WA, ↓reduceIte, jA, jB, jD, jE, jF, jG, jH, jI, jJ, rl.isRow.ix, z0, X1, wrap_in]
  refine .inl ⟨by kernel_rfl, ?_⟩; refine bxParts2_c X2 rfl hx fun w1 h2 t2 => ?_
  have s := s.add t2
  have rl2 := rl.mono t2.ext
  have Y1 := t2.ext.keepA Y1
  simp (disch := omega) only [WA, ↓reduceIte, jA, jB, jD, jE, jF, jG, jH, jI, jJ, rl2.isRow.ix, z1, Y1, wrap_in]
  refine .inl ⟨by kernel_rfl, ?_⟩; refine bxParts2_c (Y2.mono t2.ext) rfl hy fun w2 h3 t3 => ?_
  have s := s.add t3
  simp (disch := omega) only [WA, ↓reduceIte, jA, jB, jD, jE, jF, jG, jH, jI, jJ]
  refine sep_appendRow (s.pull 1 rfl) (s.pull 0 rfl).row te40 tk32 rfl (by decide) (by simp) fun w3 h4 u => ?_
  have pl := u.row.isRow.plain
  simp (disch := omega) only [WA, ↓reduceIte, jA, jB, jD, jE, jF, jG, jH, jI, jJ, pl]
  have u : Sep h h4 [ownA (α := Raw3) 32 [⟨[x0, x1, x2], rfl⟩, ⟨[y0, y1, y2], rfl⟩] w3, inA [(x, p), (y, q)]] := by
    have := (u.pull 2 rfl).swap
    exact Sep.keep (L := [ownA (α := Raw3) 32 [⟨[x0, x1, x2], rfl⟩, ⟨[y0, y1, y2], rfl⟩] w3, inA [(x, p), (y, q)]]) this
  have e : ([⟨[x0, x1, x2], rfl⟩, ⟨[y0, y1, y2], rfl⟩] : List Raw3) = raws [(x, p), (y, q)] := by
    obtain ⟨pc, ph⟩ := p
    obtain ⟨qc, qh⟩ := q
    simp only at hp hq
    subst hp; subst hq; rfl
  rw [e] at u
  exact hQ _ _ _ hz u
theorem bxParts0_c {b x y x1 x2 y1 y2 : Bx} {cs : List Value} {h : Heap} {Q : Value → Heap → Prop} (hb : Here h b cs) (gb : boxM b = true) (hl : b.low.length = 2) (hh : halvesM b 0 = some [x, y]) (gx : boxM x = true) (gy : boxM y = true) (hx : x.low.length = 2) (hy : y.low.length = 2)
    (hhx : halvesM x 1 = some [x1, x2]) (hx1 : x1.low.length = 2) (hx2 : x2.low.length = 2) (hhy : halvesM y 1 = some [y1, y2]) (hy1 : y1.low.length = 2) (hy2 : y2.low.length = 2)
    (hQ : ∀ v h' z, bxs z = [x1, x2, y1, y2] → St h h' z v [] → Q (.tuple #[v, .bool true]) h') : CallsV Tryz.prog 71 [.agg cs.toArray, .int .i64 (0 : Int)] h Q := by
  obtain ⟨v1, v2, rfl, f1, r1, r2⟩ := here_Bx hb
  refine CallsV.start Tryz.func71 rfl (by rw [Tryz.results71]) (by kernel_rfl) (by rw [Tryz.ntmps71]; simp) ?_
  have s := Sep.blk1 h [.int .i64 b.k, v1, v2] 32 true
  have g := s.rd
  have ga := s.rdAll (n := 3) rfl
  have hb1 := hb.mono s.ext
  have c2 : (b.low.length : Int) = 2 := by omega
  have c12 : ¬ (0 : Int) = 2 := by decide
  simp (disch := omega) only [WA, ↓reduceIte, jA, jB, jD, jE, jF, jG, jH, jI, jJ, g, r1.isRow.len, c2, c12, ga]
  refine .inl ⟨by kernel_rfl, ?_⟩; refine bxHalves_c (side := 0) hb1 gb (by omega) fun vh h1 t1 => ?_
  have s := s.add t1
  rw [hh] at s ⊢
  simp only [Option.getD_some, Option.isSome_some, List.cons_append, List.nil_append] at s ⊢
  obtain ⟨z, hz, rl, s⟩ := Sep.partsR s
  obtain ⟨p, q, rfl⟩ := two_bx hz
  have rl : Row h1 [p, q] vh := rl
  have X2 := Sep.inHere s (p := (x, p)) (by simp)
  have Y2 := Sep.inHere s (p := (y, q)) (by simp)
  have X1 := row_cells rl (i := 0) (p := p) rfl
  have Y1 := row_cells rl (i := 1) (p := q) rfl
  obtain ⟨p0, p1, p2, hp⟩ := p.lit2
  obtain ⟨q0, q1, q2, hq⟩ := q.lit2
  rw [hp, Nat.zero_mul, Nat.add_zero] at X1
  rw [hq] at Y1
  have Y1 : cellsAt h1 (rowB vh) (rowO vh + Int.toNat 1 * 3) 3 = some [q0, q1, q2] := Y1
  have z0 : (0 : Int) < (([p, q].length : Nat) : Int) := by simp
  have z1 : (1 : Int) < (([p, q].length : Nat) : Int) := by simp
  have X2 : Here h1 x p.c := X2
  have Y2 : Here h1 y q.c := Y2
  rw [hp] at X2
  rw [hq] at Y2
  simp (disch := omega) only [WA, ↓reduceIte, jA, jB, jD, jE, jF, jG, jH, jI, jJ, rl.isRow.ix, z0, X1, wrap_in]
  refine .inl ⟨by kernel_rfl, ?_⟩; refine bxParts1_c X2 gx hx hhx hx1 hx2 fun w1 h2 za hza t2 => ?_
  have s := s.add t2
  have rl2 := rl.mono t2.ext
  have Y1 := t2.ext.keepA Y1
  simp (disch := omega) only [WA, ↓reduceIte, jA, jB, jD, jE, jF, jG, jH, jI, jJ, rl2.isRow.ix, z1, Y1, wrap_in]
  refine .inl ⟨by kernel_rfl, ?_⟩; refine bxParts1_c (Y2.mono t2.ext) gy hy hhy hy1 hy2 fun w2 h3 zb hzb t3 => ?_
  have s := s.add t3
  have la : za.length = 2 := by have := congrArg List.length hza; simpa using this
  have lb : zb.length = 2 := by have := congrArg List.length hzb; simpa using this
  simp (disch := omega) only [WA, ↓reduceIte, jA, jB, jD, jE, jF, jG, jH, jI, jJ]
  refine sep_appendRow (s.pull 2 rfl) (s.pull 0 rfl).row te40 tk32 rfl (by decide) (by simp [la, lb]) fun w3 h4 u => ?_
  have pl := u.row.isRow.plain
  simp (disch := omega) only [WA, ↓reduceIte, jA, jB, jD, jE, jF, jG, jH, jI, jJ, pl]
  have u := Sep.inApp ((u.pull 2 rfl).pull 3 rfl)
  have u : Sep h h4 (ownA (α := Raw3) 32 (raws za ++ raws zb) w3 :: inA (za ++ zb) :: _) := u.swap
  have u := Sep.keep (L := [ownA (α := Raw3) 32 (raws za ++ raws zb) w3, inA (za ++ zb)]) u
  rw [← List.map_append] at u
  exact hQ _ _ (za ++ zb) (by show (za ++ zb).map Prod.fst = _; rw [List.map_append, show za.map Prod.fst = _ from hza, show zb.map Prod.fst = _ from hzb]; rfl) u
theorem bxBefore_c {a b : Bx} {cs ds : List Value} {h : Heap} {Q : Value → Heap → Prop} (ha : Here h a cs) (hb : Here h b ds) (ga : boxM a = true) (gb : boxM b = true) (la : a.low.length = 2) (lb : b.low.length = 2)
    (hc : ∀ i, i < 2 → (∀ j, j < i → cmpM (numM (a.low.getD j 0) a.k.toNat) (numM (b.low.getD j 0) b.k.toNat) = 0) → 0 ≤ cmpM (numM (a.low.getD i 0) a.k.toNat) (numM (b.low.getD i 0) b.k.toNat))
    (hQ : ∀ h', Ext h h' → Q (.bool false) h') : CallsV Tryz.prog 72 [.agg cs.toArray, .agg ds.toArray] h Q := by
  obtain ⟨v1, v2, rfl, f1, r1, r2⟩ := here_Bx ha
  obtain ⟨w1, w2, rfl, e1, t1, t2⟩ := here_Bx hb
  obtain ⟨hk, _, _, _, hs1, _⟩ := box_k ga
  obtain ⟨hj, _, _, _, hs2, _⟩ := box_k gb
  refine CallsV.start Tryz.func72 rfl (by rw [Tryz.results72]) (by kernel_rfl) (by rw [Tryz.ntmps72]; simp) ?_
  have s : Sep h _ _ := Sep.blk2 h [.int .i64 a.k, v1, v2] [.int .i64 b.k, w1, w2] 32 32 true true
  have g1 := (s.pull 1 rfl).rd
  have g2 := (s.pull 0 rfl).rd
  simp (disch := omega) only [WA, ↓reduceIte, jA, jB, jD, jE, jF, jG, jH, jI, jJ, g1, g2, r1.isRow.len]
  generalize h ++ [some ⟨[.int .i64 a.k, v1, v2], 32, false, true⟩, some ⟨[.int .i64 b.k, w1, w2], 32, false, true⟩] = H0 at *
  obtain ⟨ka, hka⟩ := Int.eq_ofNat_of_zero_le hk.1
  obtain ⟨kb, hkb⟩ := Int.eq_ofNat_of_zero_le hj.1
  have tka : a.k.toNat = ka := by rw [hka]; rfl
  have tkb : b.k.toNat = kb := by rw [hkb]; rfl
  simp only [tka, tkb] at hc
  rw [hka, hkb] at s
  refine loop_rule (fun m e h' => ∃ (i : Nat), e 2 = .pointer (some ⟨h.length, 0, none⟩) ∧ e 3 = .pointer (some ⟨h.length + 1, 0, none⟩) ∧ e 9 = v1 ∧ e 10 = .int .i64 a.low.length ∧ e 11 = .int .i64 i ∧ i ≤ 2 ∧ m = 2 - i ∧ (∀ j, j < i → cmpM (numM (a.low.getD j 0) ka) (numM (b.low.getD j 0) kb) = 0) ∧
    Sep h h' [blkA (h.length + 1) [.int .i64 kb, w1, w2] 32, blkA h.length [.int .i64 ka, v1, v2] 32]) ?_ 2 _ _ ⟨0, rfl, rfl, rfl, rfl, rfl, by omega, by omega, by omega, s⟩
  clear s g1 g2
  rintro m e h1 ⟨i, e2, e3, e9, e10, e11, hi, rfl, hall, s⟩
  simp (disch := omega) only [WA, ↓reduceIte, jA, jB, jD, jE, jF, jG, jH, jI, jJ, e10, e11]
  by_cases ci : i < 2
  · have c1 : (i : Int) < (a.low.length : Int) := by omega
    have c2 : (i : Int) < (b.low.length : Int) := by omega
    obtain ⟨x, hx⟩ := get_some (show i < a.low.length by omega)
    obtain ⟨y, hy⟩ := get_some (show i < b.low.length by omega)
    have rr1 := r1.mono s.ext
    have rr2 := t1.mono s.ext
    have X1 := (row_int rr1 hx).1
    have hxb := hs1 x (List.mem_of_getElem? hx)
    have hyb := hs2 y (List.mem_of_getElem? hy)
    have g1 := (s.pull 1 rfl).rd
    have gx : a.low.getD i 0 = x := by rw [List.getD_eq_getElem?_getD, hx]; rfl
    have gy : b.low.getD i 0 = y := by rw [List.getD_eq_getElem?_getD, hy]; rfl
    have Y1 := (row_int rr2 hy).1
    have g2 := (s.pull 0 rfl).rd
    simp (disch := omega) only [WA, ↓reduceIte, jA, jB, jD, jE, jF, jG, jH, jI, jJ, c1, e9, e11, rr1.isRow.ix, X1]
    refine draw_ord [0, 1, 2, 4, 5, 6, 7, 8, 9, 10, 3, 11, 12, 13] (by kernel_rfl) (by simp only [WLF]; rfl) ?_
    simp (disch := omega) only [WA, ↓reduceIte, jA, jB, jD, jE, jF, jG, jH, jI, jJ, e2, e3, g1, g2, rr2.isRow.ix, c2, Y1]
    refine .inl ⟨by kernel_rfl, ?_⟩; refine bxNumber_c (n := x) (k := ka) ⟨by omega, by omega⟩ (by omega) fun h2 E2 => ?_
    have q1 := fun off => ((s.mono E2).pull 1 rfl).rd off
    have q2 := fun off => ((s.mono E2).pull 0 rfl).rd off
    have Y2 := E2.keepC Y1
    simp (disch := omega) only [WA, ↓reduceIte, jA, jB, jD, jE, jF, jG, jH, jI, jJ, q1, q2, Y2]
    refine .inl ⟨by kernel_rfl, ?_⟩; refine bxNumber_c (n := y) (k := kb) ⟨by omega, by omega⟩ (by omega) fun h3 E3 => ?_
    have q1 := fun off => (((s.mono E2).mono E3).pull 1 rfl).rd off
    have q2 := fun off => (((s.mono E2).mono E3).pull 0 rfl).rd off
    have Y2 := E3.keepC Y2
    simp (disch := omega) only [WA, ↓reduceIte, jA, jB, jD, jE, jF, jG, jH, jI, jJ, q1, q2, Y2]
    refine .inl ⟨by kernel_rfl, ?_⟩; refine dyCmp_c (numM_good x ka) (numM_good y kb) fun h4 E4 => ?_
    have s := s.mono ((E2.trans E3).trans E4)
    have q1 := fun off => (s.pull 1 rfl).rd off
    have q2 := fun off => (s.pull 0 rfl).rd off
    have Y2 := E4.keepC Y2
    have hci := hc i ci hall
    rw [gx, gy] at hci
    by_cases c0 : cmpM (numM x ka) (numM y kb) = 0
    · have w3 := wrap_in ((i : Int) + 1) (by omega)
      simp (disch := omega) only [WA, ↓reduceIte, jA, jB, jD, jE, jF, jG, jH, jI, jJ, q1, q2, Y2, c0, e11, w3]
      refine ⟨_, by omega, i + 1, e2, e3, e9, e10, by simp, by omega, rfl, fun j hj => ?_, s⟩
      rcases Nat.lt_or_ge j i with hji | hji
      · exact hall j hji
      · obtain rfl : j = i := by omega
        rw [gx, gy]; exact c0
    · have c9 : ¬ cmpM (numM x ka) (numM y kb) < 0 := by omega
      simp (disch := omega) only [WA, ↓reduceIte, jA, jB, jD, jE, jF, jG, jH, jI, jJ, q1, q2, Y2, c0, c9]
      exact hQ _ s.ext
  · obtain rfl : i = 2 := by omega
    have c1 : ¬ ((2 : Nat) : Int) < (a.low.length : Int) := by omega
    simp (disch := omega) only [WA, ↓reduceIte, jA, jB, jD, jE, jF, jG, jH, jI, jJ, c1]
    exact hQ _ s.ext
end Go.Proofs
end

section
set_option linter.unusedSimpArgs false
set_option linter.unusedVariables false
set_option maxRecDepth 4000
namespace Go.Proofs
open Go Go.V
open Nat renaming reduceEqDiff → jA, reduceAdd → jB, reduceMul → jD, reduceSub → jE, reduceLeDiff → jF
open Int renaming reduceLT → jG, reduceLE → jH, reduceNeg → jI, reduceEq → jJ
/- PartsOf (the reference). -/
theorem sgn_nn {n : Int} (h : 0 ≤ n) : 0 ≤ sgn n := by unfold sgn; split <;> (try split) <;> omega
theorem sgn_p {n : Int} (h : 0 < n) : sgn n = 1 := by unfold sgn; rw [if_pos h]
theorem nrm_cmp {K : Nat} {l h l' h' : List Int} (hl : h.length = l.length) (hl' : h'.length = l'.length) (hK : K ≤ 24) {i : Nat} (b1 : (l.getD i 0).natAbs ≤ 1099511627776) (b2 : (l'.getD i 0).natAbs ≤ 1099511627776) :
    cmpM (numM ((nrmB K l h).low.getD i 0) (nrmB K l h).k.toNat) (numM ((nrmB K l' h').low.getD i 0) (nrmB K l' h').k.toNat) = sgn (l.getD i 0 - l'.getD i 0) := by
  rw [nrm_num hl, nrm_num hl', cmp_num b1 b2 hK]
def NotB (a b : Bx) : Prop := ∀ i, i < 2 → (∀ j, j < i → cmpM (numM (a.low.getD j 0) a.k.toNat) (numM (b.low.getD j 0) b.k.toNat) = 0) → 0 ≤ cmpM (numM (a.low.getD i 0) a.k.toNat) (numM (b.low.getD i 0) b.k.toNat)
theorem notB_first {K : Nat} {l h l' h' : List Int} (hl : h.length = l.length) (hl' : h'.length = l'.length) (hK : K ≤ 24) (b1 : ∀ i, (l.getD i 0).natAbs ≤ 1099511627776) (b2 : ∀ i, (l'.getD i 0).natAbs ≤ 1099511627776) (c : l'.getD 0 0 < l.getD 0 0 ∨ (l'.getD 0 0 = l.getD 0 0 ∧ l'.getD 1 0 < l.getD 1 0)) :
    NotB (nrmB K l h) (nrmB K l' h') := by
  intro i hi hj
  rw [nrm_cmp hl hl' hK (b1 i) (b2 i)]
  have hi2 : i = 0 ∨ i = 1 := by omega
  rcases hi2 with rfl | rfl
  · exact sgn_nn (by omega)
  · rcases c with c | c
    · have := hj 0 (by omega)
      rw [nrm_cmp hl hl' hK (b1 0) (b2 0), sgn_p (by omega)] at this
      omega
    · exact sgn_nn (by omega)
theorem pair_small {a b : Int} (ha : -1000 ≤ a ∧ a ≤ 1000) (hb : -1000 ≤ b ∧ b ≤ 1000) (i : Nat) : (([a, b] : List Int).getD i 0).natAbs ≤ 1099511627776 := by
  match i with
  | 0 => show a.natAbs ≤ _; omega
  | 1 => show b.natAbs ≤ _; omega
  | i + 2 => simp
theorem quart_order {b : Bx} {k : Nat} {x y z w : Int} (g : PlG b k x y z w) {i : Nat} {X Y : Bx} (hX : (quarts k x y z w)[i + 1]? = some X) (hY : (quarts k x y z w)[i]? = some Y) : NotB X Y := by
  have h1 := g.xy
  have h2 := g.zw
  have h3 := g.x0
  have h4 := g.y0
  have h5 := g.z0
  have h6 := g.w0
  have hk := g.k3
  have hi : i = 0 ∨ i = 1 ∨ i = 2 := by
    have : i + 1 < 4 := by
      rcases Nat.lt_or_ge (i + 1) 4 with c | c
      · exact c
      · rw [List.getElem?_eq_none (by exact c)] at hX; cases hX
    omega
  rcases hi with rfl | rfl | rfl
  · obtain rfl : q01 k x y z w = X := by simpa [quarts] using hX
    obtain rfl : q00 k x y z w = Y := by simpa [quarts] using hY
    exact notB_first rfl rfl (by omega) (pair_small (by omega) (by omega)) (pair_small (by omega) (by omega)) (.inr ⟨rfl, by show 2 * z < z + w; omega⟩)
  · obtain rfl : q10 k x y z w = X := by simpa [quarts] using hX
    obtain rfl : q01 k x y z w = Y := by simpa [quarts] using hY
    exact notB_first rfl rfl (by omega) (pair_small (by omega) (by omega)) (pair_small (by omega) (by omega)) (.inl (by show 2 * x < x + y; omega))
  · obtain rfl : q11 k x y z w = X := by simpa [quarts] using hX
    obtain rfl : q10 k x y z w = Y := by simpa [quarts] using hY
    exact notB_first rfl rfl (by omega) (pair_small (by omega) (by omega)) (pair_small (by omega) (by omega)) (.inr ⟨rfl, by show 2 * z < z + w; omega⟩)
theorem len2 {K : Nat} {a b c d : Int} : (nrmB K [a, b] [c, d]).low.length = 2 := (nrm_len (l := [a, b]) (h := [c, d]) rfl).1
theorem quart_fit {b : Bx} {k : Nat} {x y z w : Int} (g : PlG b k x y z w) (gb : boxM b = true) : ∀ X ∈ quarts k x y z w, boxM X = true ∧ X.low.length = 2 := by
  obtain ⟨g1, g2, g3, g4⟩ := quart_good g gb
  intro X hX
  simp only [quarts, List.mem_cons, List.not_mem_nil, or_false] at hX
  rcases hX with rfl | rfl | rfl | rfl
  · exact ⟨g1, len2⟩
  · exact ⟨g2, len2⟩
  · exact ⟨g3, len2⟩
  · exact ⟨g4, len2⟩
theorem bxParts_c {b : Bx} {cs : List Value} {k : Nat} {x y z w : Int} {h : Heap} {Q : Value → Heap → Prop} (hb : Here h b cs) (g : PlG b k x y z w) (gb : boxM b = true)
    (hQ : ∀ v h' zl, bxs zl = quarts k x y z w → St h h' zl v [] → Q (.tuple #[v, .bool true]) h') : CallsV Tryz.prog 71 [.agg cs.toArray, .int .i64 (0 : Int)] h Q := by
  obtain ⟨a1, a2⟩ := half_good g gb
  exact bxParts0_c hb gb (by rw [g.low]; rfl) (halves_b g gb) a1 a2 len2 len2 (halves_0 g gb) len2 len2 (halves_1 g gb) len2 len2 hQ
theorem raws_get {zl : List El} {i : Nat} {p : El} (h : zl[i]? = some p) : (raws zl)[i]? = some p.2 := by simp [h]
theorem PartsOf_c {b : Bx} {cs : List Value} {k : Nat} {x y z w : Int} {h : Heap} {Q : Value → Heap → Prop} (hb : Here h b cs) (g : PlG b k x y z w) (gb : boxM b = true)
    (hQ : ∀ v h' zl, bxs zl = quarts k x y z w → St h h' zl v [] → Q (.tuple #[v, .bool true]) h') : CallsV Tryz.prog 50 [.agg cs.toArray, .int .i64 (1 : Int)] h Q := by
  obtain ⟨v1, v2, rfl, f1, r1, r2⟩ := here_Bx hb
  have hl2 : b.low.length = 2 := by rw [g.low]; rfl
  have hh2 : b.high.length = 2 := by rw [g.high]; rfl
  refine CallsV.start Tryz.func50 rfl (by rw [Tryz.results50]) (by kernel_rfl) (by rw [Tryz.ntmps50]; simp) ?_
  have s := Sep.blk1 h [.int .i64 b.k, v1, v2] 32 true
  have ga := s.rdAll (n := 3) rfl
  simp (disch := omega) only [WA, ↓reduceIte, jA, jB, jD, jE, jF, jG, jH, jI, jJ, ga]
  refine .inl ⟨by kernel_rfl, ?_⟩; refine bxGood_c (hb.mono s.ext) fun h1 E1 => ?_
  have s := s.mono E1
  have d : decide ((0 : Int) ≤ 1 ∧ (1 : Int) ≤ 2) = true := by decide
  simp (disch := omega) only [WA, ↓reduceIte, jA, jB, jD, jE, jF, jG, jH, jI, jJ, gb]
  refine .inl ⟨by kernel_rfl, ?_⟩; refine l1In_c ?_
  have gg := s.rd
  simp (disch := omega) only [WA, ↓reduceIte, jA, jB, jD, jE, jF, jG, jH, jI, jJ, d]
  refine draw_ord [0, 1, 2, 3, 5, 6, 4, 7, 8, 9, 10] (by kernel_rfl) (by simp only [WLF]; rfl) ?_
  simp (disch := omega) only [WA, ↓reduceIte, jA, jB, jD, jE, jF, jG, jH, jI, jJ, gg]
  refine .inl ⟨by kernel_rfl, ?_⟩; refine l1Own_c (r1.mono s.ext) (by omega) fun u1 h2 t1 => ?_
  have s := s.add t1
  have gg := (s.pull 1 rfl).rd
  simp (disch := omega) only [WA, ↓reduceIte, jA, jB, jD, jE, jF, jG, jH, jI, jJ, gg]
  refine .inl ⟨by kernel_rfl, ?_⟩; refine l1Own_c (r2.mono s.ext) (by omega) fun u2 h3 t2 => ?_
  have s := s.add t2
  have p1 := (s.pull 1 rfl).row.isRow.cells
  have p2 := (s.pull 0 rfl).row.isRow.cells
  have gg := (s.pull 2 rfl).rd
  simp (disch := omega) only [WA, ↓reduceIte, jA, jB, jD, jE, jF, jG, jH, jI, jJ, gg, p1, p2]
  have s := s.newBlk [.int .i64 b.k, u1, u2] 32 true
  have rb : Sep h _ (blkA h3.length [.int .i64 b.k, u1, u2] 32 :: _) := s
  have hE := rb.ext
  have c3 := rb.rdAll (n := 3) rfl
  have r1' := (rb.pull 2 rfl).row
  have r2' := (rb.pull 1 rfl).row
  have hbx := mk_Bx (x := b) f1 r1' r2'
  have rl : Row _ [(⟨[.int .i64 b.k, u1, u2], rfl⟩ : Raw3)] (.slice (some ⟨h3.length, 0, none⟩) 1 1) := (Sep.blkOwn rb (l := [(⟨[.int .i64 b.k, u1, u2], rfl⟩ : Raw3)]) ⟨_, Cells.one (raw_rep2 ⟨[.int .i64 b.k, u1, u2], rfl⟩), rfl⟩ rfl (by simp)).row
  have gg := (rb.pull 3 rfl).rd
  clear ga p1 p2
  generalize h3 ++ [some ⟨[.int .i64 b.k, u1, u2], 32, false, true⟩] = H3 at *
  simp (disch := omega) only [WA, ↓reduceIte, jA, jB, jD, jE, jF, jG, jH, jI, jJ, gg]
  clear gg
  refine loop_rule (fun n e h' => (n = 1 ∧ e 1 = .int .i64 1 ∧ e 6 = .slice (some ⟨h3.length, 0, none⟩) 1 1 ∧ h' = H3) ∨ (n = 0 ∧ e 1 = .int .i64 0 ∧ ∃ vo zl, bxs zl = quarts k x y z w ∧ e 6 = vo ∧ St h h' zl vo [])) ?_ 1 _ _
    (.inl ⟨rfl, rfl, rfl, rfl⟩)
  rintro n e h4 (⟨rfl, e1, e6, rfl⟩ | ⟨rfl, e1, vo, zl, hz, e6, st⟩)
  · simp (disch := omega) only [WA, ↓reduceIte, jA, jB, jD, jE, jF, jG, jH, jI, jJ, e1, e6, rl.isRow.len]
    refine loop_rule (fun n e h' => (n = 1 ∧ e 1 = .int .i64 1 ∧ e 7 = .slice none 0 0 ∧ e 38 = .slice (some ⟨h3.length, 0, none⟩) 1 1 ∧ e 39 = .int .i64 1 ∧ e 40 = .int .i64 0 ∧ h' = h4) ∨ (n = 0 ∧ e 1 = .int .i64 1 ∧ e 39 = .int .i64 1 ∧ e 40 = .int .i64 1 ∧ ∃ vo zl, bxs zl = quarts k x y z w ∧ e 7 = vo ∧ St h h' zl vo [])) ?_ 1 _ _
      (.inl ⟨rfl, e1, rfl, rfl, rfl, rfl, rfl⟩)
    clear e1 e6
    rintro n e h5 (⟨rfl, e1, e7, e38, e39, e40, rfl⟩ | ⟨rfl, e1, e39, e40, vo, zl, hz, e7, st⟩)
    · have rl1 : IsRow (.slice (some ⟨h3.length, 0, none⟩) 1 1) 1 := rl.isRow
      have z01 : (0 : Int) < ((1 : Nat) : Int) := by decide
      have s1 := (Sep.nil hE).newBlk [.int .i64 b.k, u1, u2] 32 true
      have g9 := s1.rdAll (n := 3) rfl
      simp (disch := omega) only [WA, ↓reduceIte, jA, jB, jD, jE, jF, jG, jH, jI, jJ, e38, e39, e40, rl1.ix, z01, rowB, rowO, c3, g9]
      refine .inl ⟨by kernel_rfl, ?_⟩; refine bxParts_c (hbx.mono (Ext.one h5 _)) g gb fun w1 h6 zl hz st => ?_
      have s2 := s1.add st
      have lz : zl.length = 4 := by have := congrArg List.length hz; simpa [quarts] using this
      simp (disch := omega) only [WA, ↓reduceIte, jA, jB, jD, jE, jF, jG, jH, jI, jJ, e7]
      refine sep_appendRow (s2.nilA (α := Raw3) 32) (s2.pull 0 rfl).row te40 tk32 rfl (by decide) (by simp [lz]) fun w3 h7 u => ?_
      simp (disch := omega) only [WA, ↓reduceIte, jA, jB, jD, jE, jF, jG, jH, jI, jJ, e1, e39, e40, wrap_in]
      have u : Sep h h7 [ownA (α := Raw3) 32 (raws zl) w3, inA zl] := Sep.keep (L := [ownA (α := Raw3) 32 (raws zl) w3, inA zl]) (u.pull 2 rfl).swap
      exact ⟨0, by omega, .inr ⟨rfl, rfl, w3, zl, hz, rfl, u⟩⟩
    · simp (disch := omega) only [WA, ↓reduceIte, jA, jB, jD, jE, jF, jG, jH, jI, jJ, e39, e40, e1, e7, wrap_in]
      exact ⟨0, by omega, .inr ⟨rfl, rfl, vo, zl, hz, rfl, st⟩⟩
  · have lz : zl.length = 4 := by have := congrArg List.length hz; simpa [quarts] using this
    have isr := (Sep.row st).isRow
    have lr : (raws zl).length = 4 := by simp [lz]
    rw [lr] at isr
    simp (disch := omega) only [WA, ↓reduceIte, jA, jB, jD, jE, jF, jG, jH, jI, jJ, e1, e6, isr.len]
    have u0 : Sep h h4 [ownA (α := Raw3) 32 (raws (zl.take 0)) (.slice none 0 0), ownA (α := Raw3) 32 (raws zl) vo, inA zl] := Sep.nilA st 32
    refine loop_rule (fun n e h' => ∃ (i : Nat) (vq : Value), e 12 = vq ∧ e 56 = vo ∧ e 57 = .int .i64 ((4 : Nat) : Int) ∧ e 58 = .int .i64 i ∧ i ≤ 4 ∧ n = 4 - i ∧ Sep h h' [ownA (α := Raw3) 32 (raws (zl.take i)) vq, ownA (α := Raw3) 32 (raws zl) vo, inA zl]) ?_ 4 _ _
      ⟨0, _, rfl, rfl, rfl, rfl, by omega, by omega, u0⟩
    clear e1 e6 u0 isr lr
    rintro n e h5 ⟨i, vq, e12, e56, e57, e58, hi, rfl, s5⟩
    simp (disch := omega) only [WA, ↓reduceIte, jA, jB, jD, jE, jF, jG, jH, jI, jJ, e57, e58]
    by_cases ci : i < 4
    · have c1 : (i : Int) < ((4 : Nat) : Int) := by omega
      obtain ⟨⟨X, rX⟩, hp⟩ := get_some (show i < zl.length by omega)
      obtain ⟨a0, a1, a2, hrX⟩ := rX.lit2
      have r2l := (s5.pull 1 rfl).row
      have isr2 := r2l.isRow
      have lr2 : (raws zl).length = 4 := by simp [lz]
      rw [lr2] at isr2
      have X1 := row_cells r2l (raws_get hp)
      rw [show ((X, rX) : El).2.c = [a0, a1, a2] from hrX] at X1
      have hX := Sep.inHere (s5.pull 2 rfl) (List.mem_of_getElem? hp)
      rw [show ((X, rX) : El).2.c = [a0, a1, a2] from hrX] at hX
      have s6 := s5.newBlk [a0, a1, a2] 32 true
      have gx := s6.rdAll (n := 3) rfl
      have lq : (raws (zl.take i)).length = i := by simp; omega
      have isq := (s5.pull 0 rfl).row.isRow
      rw [lq] at isq
      simp (disch := omega) only [WA, ↓reduceIte, jA, jB, jD, jE, jF, jG, jH, jI, jJ, c1, e12, e56, e58, isr2.ix, X1, isq.len]
      have hX := hX.mono (Ext.one h5 (some ⟨[a0, a1, a2], 32, false, true⟩))
      generalize h5 ++ [some ⟨[a0, a1, a2], 32, false, true⟩] = H6 at *
      refine loop_rule (fun n e h' => e 12 = vq ∧ e 14 = .pointer (some ⟨h5.length, 0, none⟩) ∧ e 15 = .int .i64 (i : Int) ∧ e 56 = vo ∧ e 57 = .int .i64 ((4 : Nat) : Int) ∧ e 58 = .int .i64 (i : Int) ∧ n = 0 ∧ Ext H6 h') ?_ 0 _ _
        ⟨e12, rfl, rfl, e56, e57, e58, rfl, .refl _⟩
      clear e12 e56 e57 e58
      rintro n e h7 ⟨e12, e14, e15, e56, e57, e58, rfl, E7⟩
      have s7 := s6.mono E7
      have gx := (s7.pull 0 rfl).rdAll (n := 3) rfl
      have hX7 := hX.mono E7
      -- BEGIN
      rcases Nat.eq_zero_or_pos i with hi0 | hi0
      · have c0 : ¬ (0 : Int) < (i : Int) := by omega
        simp (disch := omega) only [WA, ↓reduceIte, jA, jB, jD, jE, jF, jG, jH, jI, jJ, e15]
        refine draw_id (by kernel_rfl) ?_
        simp (disch := omega) only [WA, ↓reduceIte, jA, jB, jD, jE, jF, jG, jH, jI, jJ, e15, c0]
        have s8 := s7
        have m1 : (0 : Int) ≤ (i : Int) := by omega
        have isq8 := (s8.pull 1 rfl).row.isRow
        rw [lq] at isq8
        have cap := isq8.cap
        have m2 : (i : Int) ≤ (rowC vq : Int) := by omega
        have m3 : (i : Int).toNat = i := rfl
        have m4 : (i : Int) ≤ (i : Int) := by omega
        have m5 : i ≤ rowC vq := cap
        have m6 : i ≤ i := Nat.le_refl _
        have gx8 := (s8.pull 0 rfl).rdAll (n := 3) rfl
        refine draw_tail [1, 2, 3, 5, 8, 9, 10] [0, 4, 6, 7, 11, 12] (by kernel_rfl) (by simp only [WLF]; rfl) ?_
        simp (disch := omega) only [WA, ↓reduceIte, jA, jB, jD, jE, jF, jG, jH, jI, jJ, e12, e14, e15, isq8.sl, m1, m2, m3, m4, m5, m6, gx8]
        refine tail_step [(0, [], [4, 6, 7, 11, 12], false), (6, [], [0, 4, 7, 11, 12], false)] (by kernel_rfl) (by kernel_rfl) (a_cons (by simp only [WLF]; rfl) (by kernel_rfl) ?_ (a_cons (by simp only [WLF]; rfl) (by kernel_rfl) ?_ trivial))
        · have u1 := Sep.empty (α := Raw3) s8 32 true
          have g1 := (u1.pull 1 rfl).rdAll (n := 3) rfl
          simp (disch := omega) only [WA, ↓reduceIte, jA, jB, jD, jE, jF, jG, jH, jI, jJ, gx8, g1]
          have rc := (u1.pull 2 rfl).row.cut (lo := 0) (m := i) (Nat.zero_le _) (by rw [lq]; exact Nat.le_refl _)
          rw [List.drop_zero, List.take_of_length_le (by rw [lq]; exact Nat.le_refl _)] at rc
          have rc : Row _ (raws (zl.take i)) (cutV vq 3 0 i) := rc
          refine tail_step [(4, [], [6, 7, 11, 12], false), (6, [], [4, 7, 11, 12], false)] (by kernel_rfl) (by kernel_rfl) (a_cons (by simp only [WLF]; rfl) (by kernel_rfl) ?_ (a_cons (by simp only [WLF]; rfl) (by kernel_rfl) ?_ trivial))
          · simp (disch := omega) only [WA, ↓reduceIte, jA, jB, jD, jE, jF, jG, jH, jI, jJ, g1]
            refine sep_appendRow u1 rc te40 tk32 rfl (by decide) (by simp; omega) fun w1 h9 u2 => ?_
            have g2 := (u2.pull 1 rfl).rdAll (n := 3) rfl
            simp (disch := omega) only [WA, ↓reduceIte, jA, jB, jD, jE, jF, jG, jH, jI, jJ, g2]
            refine tail_step [(6, [], [7, 11, 12], false)] (by kernel_rfl) (by kernel_rfl) (a_cons (by simp only [WLF]; rfl) (by kernel_rfl) ?_ trivial)
            have u3 := u2.newBlk [a0, a1, a2] 32 true
            have u3 := Sep.blkOwn u3 (l := [(⟨[a0, a1, a2], rfl⟩ : Raw3)]) ⟨_, Cells.one (raw_rep2 ⟨[a0, a1, a2], rfl⟩), rfl⟩ rfl (by simp)
            have g3 := (u3.pull 2 rfl).rdAll (n := 3) rfl
            simp (disch := omega) only [WA, ↓reduceIte, jA, jB, jD, jE, jF, jG, jH, jI, jJ, g2, g3]
            refine tail_step [(7, [], [11, 12], false)] (by kernel_rfl) (by kernel_rfl) (a_cons (by simp only [WLF]; rfl) (by kernel_rfl) ?_ trivial)
            simp (disch := omega) only [WA, ↓reduceIte, jA, jB, jD, jE, jF, jG, jH, jI, jJ, g3]
            refine sep_appendRow (u3.pull 1 rfl) (u3.pull 0 rfl).row te40 tk32 rfl (by decide) (by simp; omega) fun w2 h10 u4 => ?_
            have g4 := (u4.pull 2 rfl).rdAll (n := 3) rfl
            have rd := (u4.pull 3 rfl).row.cut (lo := i) (m := i) (Nat.le_refl _) (by rw [lq]; exact Nat.le_refl _)
            rw [List.drop_eq_nil_of_le (by rw [List.length_take]; omega)] at rd
            have rd : Row _ ([] : List Raw3) (cutV vq 3 i i) := rd
            simp (disch := omega) only [WA, ↓reduceIte, jA, jB, jD, jE, jF, jG, jH, jI, jJ, g4]
            refine tail_step [(11, [12], [], true)] (by kernel_rfl) (by kernel_rfl) (a_cut (by simp only [WLF]; rfl) (by kernel_rfl) ?_ trivial)
            simp (disch := omega) only [WA, ↓reduceIte, jA, jB, jD, jE, jF, jG, jH, jI, jJ, g4]
            refine sep_appendRow u4 rd te40 tk32 rfl (by decide) (by simp; omega) fun w3 h11 u5 => ?_
            have pe : raws (zl.take (i + 1)) = [] ++ raws (zl.take i) ++ [⟨[a0, a1, a2], rfl⟩] ++ [] := by
              obtain ⟨rc, rh⟩ := rX
              simp only at hrX
              subst hrX
              rw [List.take_add_one, hp]; simp
            have w9 := wrap_in ((i : Int) + 1) (by omega)
            have gz := (u5.pull 2 rfl).rdAll (n := 3) rfl
            simp (disch := omega) only [WA, ↓reduceIte, jA, jB, jD, jE, jF, jG, jH, jI, jJ, gz, e56, e57, e58, w9]
            refine ⟨_, by omega, i + 1, w3, rfl, by simp, by omega, rfl, ?_⟩
            rw [pe]
            exact Sep.keep (L := [ownA (α := Raw3) 32 ([] ++ raws (zl.take i) ++ [⟨[a0, a1, a2], rfl⟩] ++ []) w3, ownA (α := Raw3) 32 (raws zl) vo, inA zl]) (((u5.pull 5 rfl).pull 5 rfl).pull 2 rfl)
          · have u3 := u1.newBlk [a0, a1, a2] 32 true
            have u3 := Sep.blkOwn u3 (l := [(⟨[a0, a1, a2], rfl⟩ : Raw3)]) ⟨_, Cells.one (raw_rep2 ⟨[a0, a1, a2], rfl⟩), rfl⟩ rfl (by simp)
            simp only [List.append_assoc, List.cons_append, List.nil_append, List.length_append, List.length_cons, List.length_nil, Nat.reduceAdd] at u3
            have g3 := (u3.pull 2 rfl).rdAll (n := 3) rfl
            have rc := (u3.pull 3 rfl).row.cut (lo := 0) (m := i) (Nat.zero_le _) (by rw [lq]; exact Nat.le_refl _)
            rw [List.drop_zero, List.take_of_length_le (by rw [lq]; exact Nat.le_refl _)] at rc
            have rc : Row _ (raws (zl.take i)) (cutV vq 3 0 i) := rc
            simp (disch := omega) only [WA, ↓reduceIte, jA, jB, jD, jE, jF, jG, jH, jI, jJ, g1, g3]
            refine tail_step [(4, [], [7, 11, 12], false)] (by kernel_rfl) (by kernel_rfl) (a_cons (by simp only [WLF]; rfl) (by kernel_rfl) ?_ trivial)
            simp (disch := omega) only [WA, ↓reduceIte, jA, jB, jD, jE, jF, jG, jH, jI, jJ, g3]
            refine sep_appendRow (u3.pull 1 rfl) rc te40 tk32 rfl (by decide) (by simp; omega) fun w1 h9 u2 => ?_
            have g2 := (u2.pull 2 rfl).rdAll (n := 3) rfl
            simp (disch := omega) only [WA, ↓reduceIte, jA, jB, jD, jE, jF, jG, jH, jI, jJ, g2]
            refine tail_step [(7, [], [11, 12], false)] (by kernel_rfl) (by kernel_rfl) (a_cons (by simp only [WLF]; rfl) (by kernel_rfl) ?_ trivial)
            simp (disch := omega) only [WA, ↓reduceIte, jA, jB, jD, jE, jF, jG, jH, jI, jJ, g2]
            refine sep_appendRow u2 (u2.pull 1 rfl).row te40 tk32 rfl (by decide) (by simp; omega) fun w2 h10 u4 => ?_
            have g4 := (u4.pull 2 rfl).rdAll (n := 3) rfl
            have rd := (u4.pull 3 rfl).row.cut (lo := i) (m := i) (Nat.le_refl _) (by rw [lq]; exact Nat.le_refl _)
            rw [List.drop_eq_nil_of_le (by rw [List.length_take]; omega)] at rd
            have rd : Row _ ([] : List Raw3) (cutV vq 3 i i) := rd
            simp (disch := omega) only [WA, ↓reduceIte, jA, jB, jD, jE, jF, jG, jH, jI, jJ, g4]
            refine tail_step [(11, [12], [], true)] (by kernel_rfl) (by kernel_rfl) (a_cut (by simp only [WLF]; rfl) (by kernel_rfl) ?_ trivial)
            simp (disch := omega) only [WA, ↓reduceIte, jA, jB, jD, jE, jF, jG, jH, jI, jJ, g4]
            refine sep_appendRow u4 rd te40 tk32 rfl (by decide) (by simp; omega) fun w3 h11 u5 => ?_
            have pe : raws (zl.take (i + 1)) = [] ++ raws (zl.take i) ++ [⟨[a0, a1, a2], rfl⟩] ++ [] := by
              obtain ⟨rc, rh⟩ := rX
              simp only at hrX
              subst hrX
              rw [List.take_add_one, hp]; simp
            have w9 := wrap_in ((i : Int) + 1) (by omega)
            have gz := (u5.pull 2 rfl).rdAll (n := 3) rfl
            simp (disch := omega) only [WA, ↓reduceIte, jA, jB, jD, jE, jF, jG, jH, jI, jJ, gz, e56, e57, e58, w9]
            refine ⟨_, by omega, i + 1, w3, rfl, by simp, by omega, rfl, ?_⟩
            rw [pe]
            exact Sep.keep (L := [ownA (α := Raw3) 32 ([] ++ raws (zl.take i) ++ [⟨[a0, a1, a2], rfl⟩] ++ []) w3, ownA (α := Raw3) 32 (raws zl) vo, inA zl]) (((u5.pull 5 rfl).pull 5 rfl).pull 2 rfl)
        · have u1 := s8.newBlk [a0, a1, a2] 32 true
          have u1 := Sep.blkOwn u1 (l := [(⟨[a0, a1, a2], rfl⟩ : Raw3)]) ⟨_, Cells.one (raw_rep2 ⟨[a0, a1, a2], rfl⟩), rfl⟩ rfl (by simp)
          have g1 := (u1.pull 1 rfl).rdAll (n := 3) rfl
          simp (disch := omega) only [WA, ↓reduceIte, jA, jB, jD, jE, jF, jG, jH, jI, jJ, gx8, g1]
          refine tail_step [(0, [], [4, 7, 11, 12], false)] (by kernel_rfl) (by kernel_rfl) (a_cons (by simp only [WLF]; rfl) (by kernel_rfl) ?_ trivial)
          have u3 := Sep.empty (α := Raw3) u1 32 true
          simp only [List.append_assoc, List.cons_append, List.nil_append, List.length_append, List.length_cons, List.length_nil, Nat.reduceAdd] at u3
          have g3 := (u3.pull 2 rfl).rdAll (n := 3) rfl
          have rc := (u3.pull 3 rfl).row.cut (lo := 0) (m := i) (Nat.zero_le _) (by rw [lq]; exact Nat.le_refl _)
          rw [List.drop_zero, List.take_of_length_le (by rw [lq]; exact Nat.le_refl _)] at rc
          have rc : Row _ (raws (zl.take i)) (cutV vq 3 0 i) := rc
          simp (disch := omega) only [WA, ↓reduceIte, jA, jB, jD, jE, jF, jG, jH, jI, jJ, g1, g3]
          refine tail_step [(4, [], [7, 11, 12], false)] (by kernel_rfl) (by kernel_rfl) (a_cons (by simp only [WLF]; rfl) (by kernel_rfl) ?_ trivial)
          simp (disch := omega) only [WA, ↓reduceIte, jA, jB, jD, jE, jF, jG, jH, jI, jJ, g3]
          refine sep_appendRow u3 rc te40 tk32 rfl (by decide) (by simp; omega) fun w1 h9 u2 => ?_
          have g2 := (u2.pull 2 rfl).rdAll (n := 3) rfl
          simp (disch := omega) only [WA, ↓reduceIte, jA, jB, jD, jE, jF, jG, jH, jI, jJ, g2]
          refine tail_step [(7, [], [11, 12], false)] (by kernel_rfl) (by kernel_rfl) (a_cons (by simp only [WLF]; rfl) (by kernel_rfl) ?_ trivial)
          simp (disch := omega) only [WA, ↓reduceIte, jA, jB, jD, jE, jF, jG, jH, jI, jJ, g2]
          refine sep_appendRow u2 (u2.pull 1 rfl).row te40 tk32 rfl (by decide) (by simp; omega) fun w2 h10 u4 => ?_
          have g4 := (u4.pull 2 rfl).rdAll (n := 3) rfl
          have rd := (u4.pull 3 rfl).row.cut (lo := i) (m := i) (Nat.le_refl _) (by rw [lq]; exact Nat.le_refl _)
          rw [List.drop_eq_nil_of_le (by rw [List.length_take]; omega)] at rd
          have rd : Row _ ([] : List Raw3) (cutV vq 3 i i) := rd
          simp (disch := omega) only [WA, ↓reduceIte, jA, jB, jD, jE, jF, jG, jH, jI, jJ, g4]
          refine tail_step [(11, [12], [], true)] (by kernel_rfl) (by kernel_rfl) (a_cut (by simp only [WLF]; rfl) (by kernel_rfl) ?_ trivial)
          simp (disch := omega) only [WA, ↓reduceIte, jA, jB, jD, jE, jF, jG, jH, jI, jJ, g4]
          refine sep_appendRow u4 rd te40 tk32 rfl (by decide) (by simp; omega) fun w3 h11 u5 => ?_
          have pe : raws (zl.take (i + 1)) = [] ++ raws (zl.take i) ++ [⟨[a0, a1, a2], rfl⟩] ++ [] := by
            obtain ⟨rc, rh⟩ := rX
            simp only at hrX
            subst hrX
            rw [List.take_add_one, hp]; simp
          have w9 := wrap_in ((i : Int) + 1) (by omega)
          have gz := (u5.pull 2 rfl).rdAll (n := 3) rfl
          simp (disch := omega) only [WA, ↓reduceIte, jA, jB, jD, jE, jF, jG, jH, jI, jJ, gz, e56, e57, e58, w9]
          refine ⟨_, by omega, i + 1, w3, rfl, by simp, by omega, rfl, ?_⟩
          rw [pe]
          exact Sep.keep (L := [ownA (α := Raw3) 32 ([] ++ raws (zl.take i) ++ [⟨[a0, a1, a2], rfl⟩] ++ []) w3, ownA (α := Raw3) 32 (raws zl) vo, inA zl]) (((u5.pull 5 rfl).pull 5 rfl).pull 2 rfl)
      · obtain ⟨j, hj⟩ : ∃ j, i = j + 1 := ⟨i - 1, by omega⟩
        obtain ⟨⟨Y, rY⟩, hy⟩ := get_some (show j < zl.length by omega)
        obtain ⟨b0, b1, b2, hrY⟩ := rY.lit2
        have hyt : (zl.take i)[j]? = some (Y, rY) := by rw [List.getElem?_take, if_pos (by omega)]; exact hy
        have rq := (s7.pull 1 rfl).row
        have isq7 := rq.isRow
        rw [lq] at isq7
        have Y1 := row_cells rq (raws_get hyt)
        rw [show ((Y, rY) : El).2.c = [b0, b1, b2] from hrY] at Y1
        have hY := Sep.inHere (s7.pull 3 rfl) (List.mem_of_getElem? hy)
        rw [show ((Y, rY) : El).2.c = [b0, b1, b2] from hrY] at hY
        have c0 : (0 : Int) < (i : Int) := by omega
        have k0 : IntKind.i64.wrap ((i : Int) - 1) = (j : Int) := by rw [wrap_in _ (by omega)]; omega
        have k1 : (j : Int) < (i : Int) := by omega
        have bX : (quarts k x y z w)[j + 1]? = some X := by rw [← hz, ← hj]; show (zl.map Prod.fst)[i]? = _; rw [List.getElem?_map, hp]; rfl
        have bY : (quarts k x y z w)[j]? = some Y := by rw [← hz]; show (zl.map Prod.fst)[j]? = _; rw [List.getElem?_map, hy]; rfl
        obtain ⟨fX1, fX2⟩ := quart_fit g gb X (List.mem_of_getElem? bX)
        obtain ⟨fY1, fY2⟩ := quart_fit g gb Y (List.mem_of_getElem? bY)
        simp (disch := omega) only [WA, ↓reduceIte, jA, jB, jD, jE, jF, jG, jH, jI, jJ, e15]
        refine draw_id (by kernel_rfl) ?_
        simp (disch := omega) only [WA, ↓reduceIte, jA, jB, jD, jE, jF, jG, jH, jI, jJ, e12, e14, e15, c0, gx, k0, k1, isq7.ix, Y1]
        refine .inl ⟨by kernel_rfl, ?_⟩; refine bxBefore_c hX7 hY fX1 fY1 fX2 fY2 (quart_order g bX bY) fun h8 E8 => ?_
        have s8 := s7.mono E8
        have gx := (s8.pull 0 rfl).rdAll (n := 3) rfl
        have Y1 := E8.keepA Y1
        simp (disch := omega) only [WA, ↓reduceIte, jA, jB, jD, jE, jF, jG, jH, jI, jJ, gx, Y1]
        have m1 : (0 : Int) ≤ (i : Int) := by omega
        have isq8 := (s8.pull 1 rfl).row.isRow
        rw [lq] at isq8
        have cap := isq8.cap
        have m2 : (i : Int) ≤ (rowC vq : Int) := by omega
        have m3 : (i : Int).toNat = i := rfl
        have m4 : (i : Int) ≤ (i : Int) := by omega
        have m5 : i ≤ rowC vq := cap
        have m6 : i ≤ i := Nat.le_refl _
        have gx8 := (s8.pull 0 rfl).rdAll (n := 3) rfl
        refine draw_tail [1, 2, 3, 5, 8, 9, 10] [0, 4, 6, 7, 11, 12] (by kernel_rfl) (by simp only [WLF]; rfl) ?_
        simp (disch := omega) only [WA, ↓reduceIte, jA, jB, jD, jE, jF, jG, jH, jI, jJ, e12, e14, e15, isq8.sl, m1, m2, m3, m4, m5, m6, gx8]
        refine tail_step [(0, [], [4, 6, 7, 11, 12], false), (6, [], [0, 4, 7, 11, 12], false)] (by kernel_rfl) (by kernel_rfl) (a_cons (by simp only [WLF]; rfl) (by kernel_rfl) ?_ (a_cons (by simp only [WLF]; rfl) (by kernel_rfl) ?_ trivial))
        · have u1 := Sep.empty (α := Raw3) s8 32 true
          have g1 := (u1.pull 1 rfl).rdAll (n := 3) rfl
          simp (disch := omega) only [WA, ↓reduceIte, jA, jB, jD, jE, jF, jG, jH, jI, jJ, gx8, g1]
          have rc := (u1.pull 2 rfl).row.cut (lo := 0) (m := i) (Nat.zero_le _) (by rw [lq]; exact Nat.le_refl _)
          rw [List.drop_zero, List.take_of_length_le (by rw [lq]; exact Nat.le_refl _)] at rc
          have rc : Row _ (raws (zl.take i)) (cutV vq 3 0 i) := rc
          refine tail_step [(4, [], [6, 7, 11, 12], false), (6, [], [4, 7, 11, 12], false)] (by kernel_rfl) (by kernel_rfl) (a_cons (by simp only [WLF]; rfl) (by kernel_rfl) ?_ (a_cons (by simp only [WLF]; rfl) (by kernel_rfl) ?_ trivial))
          · simp (disch := omega) only [WA, ↓reduceIte, jA, jB, jD, jE, jF, jG, jH, jI, jJ, g1]
            refine sep_appendRow u1 rc te40 tk32 rfl (by decide) (by simp; omega) fun w1 h9 u2 => ?_
            have g2 := (u2.pull 1 rfl).rdAll (n := 3) rfl
            simp (disch := omega) only [WA, ↓reduceIte, jA, jB, jD, jE, jF, jG, jH, jI, jJ, g2]
            refine tail_step [(6, [], [7, 11, 12], false)] (by kernel_rfl) (by kernel_rfl) (a_cons (by simp only [WLF]; rfl) (by kernel_rfl) ?_ trivial)
            have u3 := u2.newBlk [a0, a1, a2] 32 true
            have u3 := Sep.blkOwn u3 (l := [(⟨[a0, a1, a2], rfl⟩ : Raw3)]) ⟨_, Cells.one (raw_rep2 ⟨[a0, a1, a2], rfl⟩), rfl⟩ rfl (by simp)
            have g3 := (u3.pull 2 rfl).rdAll (n := 3) rfl
            simp (disch := omega) only [WA, ↓reduceIte, jA, jB, jD, jE, jF, jG, jH, jI, jJ, g2, g3]
            refine tail_step [(7, [], [11, 12], false)] (by kernel_rfl) (by kernel_rfl) (a_cons (by simp only [WLF]; rfl) (by kernel_rfl) ?_ trivial)
            simp (disch := omega) only [WA, ↓reduceIte, jA, jB, jD, jE, jF, jG, jH, jI, jJ, g3]
            refine sep_appendRow (u3.pull 1 rfl) (u3.pull 0 rfl).row te40 tk32 rfl (by decide) (by simp; omega) fun w2 h10 u4 => ?_
            have g4 := (u4.pull 2 rfl).rdAll (n := 3) rfl
            have rd := (u4.pull 3 rfl).row.cut (lo := i) (m := i) (Nat.le_refl _) (by rw [lq]; exact Nat.le_refl _)
            rw [List.drop_eq_nil_of_le (by rw [List.length_take]; omega)] at rd
            have rd : Row _ ([] : List Raw3) (cutV vq 3 i i) := rd
            simp (disch := omega) only [WA, ↓reduceIte, jA, jB, jD, jE, jF, jG, jH, jI, jJ, g4]
            refine tail_step [(11, [12], [], true)] (by kernel_rfl) (by kernel_rfl) (a_cut (by simp only [WLF]; rfl) (by kernel_rfl) ?_ trivial)
            simp (disch := omega) only [WA, ↓reduceIte, jA, jB, jD, jE, jF, jG, jH, jI, jJ, g4]
            refine sep_appendRow u4 rd te40 tk32 rfl (by decide) (by simp; omega) fun w3 h11 u5 => ?_
            have pe : raws (zl.take (i + 1)) = [] ++ raws (zl.take i) ++ [⟨[a0, a1, a2], rfl⟩] ++ [] := by
              obtain ⟨rc, rh⟩ := rX
              simp only at hrX
              subst hrX
              rw [List.take_add_one, hp]; simp
            have w9 := wrap_in ((i : Int) + 1) (by omega)
            have gz := (u5.pull 2 rfl).rdAll (n := 3) rfl
            simp (disch := omega) only [WA, ↓reduceIte, jA, jB, jD, jE, jF, jG, jH, jI, jJ, gz, e56, e57, e58, w9]
            refine ⟨_, by omega, i + 1, w3, rfl, by simp, by omega, rfl, ?_⟩
            rw [pe]
            exact Sep.keep (L := [ownA (α := Raw3) 32 ([] ++ raws (zl.take i) ++ [⟨[a0, a1, a2], rfl⟩] ++ []) w3, ownA (α := Raw3) 32 (raws zl) vo, inA zl]) (((u5.pull 5 rfl).pull 5 rfl).pull 2 rfl)
          · have u3 := u1.newBlk [a0, a1, a2] 32 true
            have u3 := Sep.blkOwn u3 (l := [(⟨[a0, a1, a2], rfl⟩ : Raw3)]) ⟨_, Cells.one (raw_rep2 ⟨[a0, a1, a2], rfl⟩), rfl⟩ rfl (by simp)
            simp only [List.append_assoc, List.cons_append, List.nil_append, List.length_append, List.length_cons, List.length_nil, Nat.reduceAdd] at u3
            have g3 := (u3.pull 2 rfl).rdAll (n := 3) rfl
            have rc := (u3.pull 3 rfl).row.cut (lo := 0) (m := i) (Nat.zero_le _) (by rw [lq]; exact Nat.le_refl _)
            rw [List.drop_zero, List.take_of_length_le (by rw [lq]; exact Nat.le_refl _)] at rc
            have rc : Row _ (raws (zl.take i)) (cutV vq 3 0 i) := rc
            simp (disch := omega) only [WA, ↓reduceIte, jA, jB, jD, jE, jF, jG, jH, jI, jJ, g1, g3]
            refine tail_step [(4, [], [7, 11, 12], false)] (by kernel_rfl) (by kernel_rfl) (a_cons (by simp only [WLF]; rfl) (by kernel_rfl) ?_ trivial)
            simp (disch := omega) only [WA, ↓reduceIte, jA, jB, jD, jE, jF, jG, jH, jI, jJ, g3]
            refine sep_appendRow (u3.pull 1 rfl) rc te40 tk32 rfl (by decide) (by simp; omega) fun w1 h9 u2 => ?_
            have g2 := (u2.pull 2 rfl).rdAll (n := 3) rfl
            simp (disch := omega) only [WA, ↓reduceIte, jA, jB, jD, jE, jF, jG, jH, jI, jJ, g2]
            refine tail_step [(7, [], [11, 12], false)] (by kernel_rfl) (by kernel_rfl) (a_cons (by simp only [WLF]; rfl) (by kernel_rfl) ?_ trivial)
            simp (disch := omega) only [WA, ↓reduceIte, jA, jB, jD, jE, jF, jG, jH, jI, jJ, g2]
            refine sep_appendRow u2 (u2.pull 1 rfl).row te40 tk32 rfl (by decide) (by simp; omega) fun w2 h10 u4 => ?_
            have g4 := (u4.pull 2 rfl).rdAll (n := 3) rfl
            have rd := (u4.pull 3 rfl).row.cut (lo := i) (m := i) (Nat.le_refl _) (by rw [lq]; exact Nat.le_refl _)
            rw [List.drop_eq_nil_of_le (by rw [List.length_take]; omega)] at rd
            have rd : Row _ ([] : List Raw3) (cutV vq 3 i i) := rd
            simp (disch := omega) only [WA, ↓reduceIte, jA, jB, jD, jE, jF, jG, jH, jI, jJ, g4]
            refine tail_step [(11, [12], [], true)] (by kernel_rfl) (by kernel_rfl) (a_cut (by simp only [WLF]; rfl) (by kernel_rfl) ?_ trivial)
            simp (disch := omega) only [WA, ↓reduceIte, jA, jB, jD, jE, jF, jG, jH, jI, jJ, g4]
            refine sep_appendRow u4 rd te40 tk32 rfl (by decide) (by simp; omega) fun w3 h11 u5 => ?_
            have pe : raws (zl.take (i + 1)) = [] ++ raws (zl.take i) ++ [⟨[a0, a1, a2], rfl⟩] ++ [] := by
              obtain ⟨rc, rh⟩ := rX
              simp only at hrX
              subst hrX
              rw [List.take_add_one, hp]; simp
            have w9 := wrap_in ((i : Int) + 1) (by omega)
            have gz := (u5.pull 2 rfl).rdAll (n := 3) rfl
            simp (disch := omega) only [WA, ↓reduceIte, jA, jB, jD, jE, jF, jG, jH, jI, jJ, gz, e56, e57, e58, w9]
            refine ⟨_, by omega, i + 1, w3, rfl, by simp, by omega, rfl, ?_⟩
            rw [pe]
            exact Sep.keep (L := [ownA (α := Raw3) 32 ([] ++ raws (zl.take i) ++ [⟨[a0, a1, a2], rfl⟩] ++ []) w3, ownA (α := Raw3) 32 (raws zl) vo, inA zl]) (((u5.pull 5 rfl).pull 5 rfl).pull 2 rfl)
        · have u1 := s8.newBlk [a0, a1, a2] 32 true
          have u1 := Sep.blkOwn u1 (l := [(⟨[a0, a1, a2], rfl⟩ : Raw3)]) ⟨_, Cells.one (raw_rep2 ⟨[a0, a1, a2], rfl⟩), rfl⟩ rfl (by simp)
          have g1 := (u1.pull 1 rfl).rdAll (n := 3) rfl
          simp (disch := omega) only [WA, ↓reduceIte, jA, jB, jD, jE, jF, jG, jH, jI, jJ, gx8, g1]
          refine tail_step [(0, [], [4, 7, 11, 12], false)] (by kernel_rfl) (by kernel_rfl) (a_cons (by simp only [WLF]; rfl) (by kernel_rfl) ?_ trivial)
          have u3 := Sep.empty (α := Raw3) u1 32 true
          simp only [List.append_assoc, List.cons_append, List.nil_append, List.length_append, List.length_cons, List.length_nil, Nat.reduceAdd] at u3
          have g3 := (u3.pull 2 rfl).rdAll (n := 3) rfl
          have rc := (u3.pull 3 rfl).row.cut (lo := 0) (m := i) (Nat.zero_le _) (by rw [lq]; exact Nat.le_refl _)
          rw [List.drop_zero, List.take_of_length_le (by rw [lq]; exact Nat.le_refl _)] at rc
          have rc : Row _ (raws (zl.take i)) (cutV vq 3 0 i) := rc
          simp (disch := omega) only [WA, ↓reduceIte, jA, jB, jD, jE, jF, jG, jH, jI, jJ, g1, g3]
          refine tail_step [(4, [], [7, 11, 12], false)] (by kernel_rfl) (by kernel_rfl) (a_cons (by simp only [WLF]; rfl) (by kernel_rfl) ?_ trivial)
          simp (disch := omega) only [WA, ↓reduceIte, jA, jB, jD, jE, jF, jG, jH, jI, jJ, g3]
          refine sep_appendRow u3 rc te40 tk32 rfl (by decide) (by simp; omega) fun w1 h9 u2 => ?_
          have g2 := (u2.pull 2 rfl).rdAll (n := 3) rfl
          simp (disch := omega) only [WA, ↓reduceIte, jA, jB, jD, jE, jF, jG, jH, jI, jJ, g2]
          refine tail_step [(7, [], [11, 12], false)] (by kernel_rfl) (by kernel_rfl) (a_cons (by simp only [WLF]; rfl) (by kernel_rfl) ?_ trivial)
          simp (disch := omega) only [WA, ↓reduceIte, jA, jB, jD, jE, jF, jG, jH, jI, jJ, g2]
          refine sep_appendRow u2 (u2.pull 1 rfl).row te40 tk32 rfl (by decide) (by simp; omega) fun w2 h10 u4 => ?_
          have g4 := (u4.pull 2 rfl).rdAll (n := 3) rfl
          have rd := (u4.pull 3 rfl).row.cut (lo := i) (m := i) (Nat.le_refl _) (by rw [lq]; exact Nat.le_refl _)
          rw [List.drop_eq_nil_of_le (by rw [List.length_take]; omega)] at rd
          have rd : Row _ ([] : List Raw3) (cutV vq 3 i i) := rd
          simp (disch := omega) only [WA, ↓reduceIte, jA, jB, jD, jE, jF, jG, jH, jI, jJ, g4]
          refine tail_step [(11, [12], [], true)] (by kernel_rfl) (by kernel_rfl) (a_cut (by simp only [WLF]; rfl) (by kernel_rfl) ?_ trivial)
          simp (disch := omega) only [WA, ↓reduceIte, jA, jB, jD, jE, jF, jG, jH, jI, jJ, g4]
          refine sep_appendRow u4 rd te40 tk32 rfl (by decide) (by simp; omega) fun w3 h11 u5 => ?_
          have pe : raws (zl.take (i + 1)) = [] ++ raws (zl.take i) ++ [⟨[a0, a1, a2], rfl⟩] ++ [] := by
            obtain ⟨rc, rh⟩ := rX
            simp only at hrX
            subst hrX
            rw [List.take_add_one, hp]; simp
          have w9 := wrap_in ((i : Int) + 1) (by omega)
          have gz := (u5.pull 2 rfl).rdAll (n := 3) rfl
          simp (disch := omega) only [WA, ↓reduceIte, jA, jB, jD, jE, jF, jG, jH, jI, jJ, gz, e56, e57, e58, w9]
          refine ⟨_, by omega, i + 1, w3, rfl, by simp, by omega, rfl, ?_⟩
          rw [pe]
          exact Sep.keep (L := [ownA (α := Raw3) 32 ([] ++ raws (zl.take i) ++ [⟨[a0, a1, a2], rfl⟩] ++ []) w3, ownA (α := Raw3) 32 (raws zl) vo, inA zl]) (((u5.pull 5 rfl).pull 5 rfl).pull 2 rfl)
    · obtain rfl : i = 4 := by omega
      have c1 : ¬ ((4 : Nat) : Int) < ((4 : Nat) : Int) := by omega
      rw [List.take_of_length_le (by omega)] at s5
      have pl := (s5.pull 0 rfl).row.isRow.plain
      simp (disch := omega) only [WA, ↓reduceIte, jA, jB, jD, jE, jF, jG, jH, jI, jJ, c1, e12, pl]
      exact hQ _ _ zl hz (Sep.keep (L := [ownA (α := Raw3) 32 (raws zl) vq, inA zl]) ((s5.pull 2 rfl).swap))
end Go.Proofs
end
