/- The layer V, part 17: the word for a walk. -/
import Derived.Test.YtheliocfcjkbhaaDoorV16
set_option linter.all false
namespace Go.V
open Go Go.RowKit

theorem nat_toNat (n : Nat) : ((n : Int)).toNat = n := rfl
theorem i_lit0 : (0 : Int).toNat = 0 := rfl
theorem dec_true (p : Prop) [Decidable p] (h : p) : decide p = true := decide_eq_true h
theorem kind_some (k : TK) : ((some k).map (·.kind)).getD 0 = k.kind := rfl
theorem wrap_nat (n : Nat) (h : n ≤ 9223372036854775807) : IntKind.wrap .i64 (n : Int) = n := wrap64_in (by omega) (by omega)
theorem wrap_in (x : Int) (h : -9223372036854775808 ≤ x ∧ x ≤ 9223372036854775807) : IntKind.wrap .i64 x = x := wrap64_in h.1 h.2
theorem decT : decide True = true := rfl
theorem decF : decide False = false := rfl
theorem notT : (!true) = false := rfl
theorem notF : (!false) = true := rfl
theorem tf : (true = false) = False := by simp
theorem ft : (false = true) = False := by simp

theorem st_0 (a0 : Value) (l : List Value) : startEnv (a0 :: l) 0 = a0 := rfl
theorem st_1 (a0 a1 : Value) (l : List Value) : startEnv (a0 :: a1 :: l) 1 = a1 := rfl
theorem st_2 (a0 a1 a2 : Value) (l : List Value) : startEnv (a0 :: a1 :: a2 :: l) 2 = a2 := rfl
theorem st_3 (a0 a1 a2 a3 : Value) (l : List Value) : startEnv (a0 :: a1 :: a2 :: a3 :: l) 3 = a3 := rfl
theorem st_4 (a0 a1 a2 a3 a4 : Value) (l : List Value) : startEnv (a0 :: a1 :: a2 :: a3 :: a4 :: l) 4 = a4 := rfl
theorem st_5 (a0 a1 a2 a3 a4 a5 : Value) (l : List Value) : startEnv (a0 :: a1 :: a2 :: a3 :: a4 :: a5 :: l) 5 = a5 := rfl
theorem st_6 (a0 a1 a2 a3 a4 a5 a6 : Value) (l : List Value) : startEnv (a0 :: a1 :: a2 :: a3 :: a4 :: a5 :: a6 :: l) 6 = a6 := rfl
theorem st_7 (a0 a1 a2 a3 a4 a5 a6 a7 : Value) (l : List Value) : startEnv (a0 :: a1 :: a2 :: a3 :: a4 :: a5 :: a6 :: a7 :: l) 7 = a7 := rfl

/-! ### regions that draw their order -/
def HK (P : Program) (op : Op) (held : Held) (K : Value → Heap → Held → Prop) : Value → Heap → Prop := fun v h' => if effectful P op then heldOk P held h' ∧ K v h' held else K v h' held
def loadD (o : Option Value) (t : TypeId) (a : Value) (h : Heap) (held : Held) (K : Value → Heap → Held → Prop) : Prop := match o with | some v => K v h ((t, a, v) :: held) | none => False
def opD (P : Program) [Laid P] (op : Op) (e : Env) (h : Heap) (held : Held) (K : Value → Heap → Held → Prop) : Prop :=
  match op with
  | .load t a => loadD (loadV P t (evO e a) h) t (evO e a) h held K
  | op => opV P op e h (HK P op held K)
def DK (P : Program) [Laid P] (all : Array Oper) (os : List Oper) (d : Option Tmp) (e : Env) (K : Env → Heap → Held → Prop) : Value → Heap → Held → Prop := fun v h held => opsE P all os (putV e d v) h held K
def guardD (P : Program) [Laid P] (all : Array Oper) (g : Value) (want : Bool) (op : Op) (d : Option Tmp) (os : List Oper) (e : Env) (h : Heap) (held : Held) (K : Env → Heap → Held → Prop) : Prop :=
  match g with
  | .bool b => if b = want then opD P op e h held (DK P all os d e K) else opsE P all os (putV e d SK) h held K
  | .float _ _ => opsE P all os (putV e d SK) h held K
  | _ => False
def drawK (P : Program) [Laid P] (l : List Oper) (e : Env) (h : Heap) (K : Env → Heap → Prop) : Prop := drawV P l.toArray e h K
section
variable (P : Program) [Laid P] (e : Env) (h : Heap)
theorem s_draw (Q : VX → Env → Heap → Prop) (id : Nat) (l : List Oper) : wpV P (.region id l.toArray true) e h Q = drawK P l e h (Q .norm) := rfl
theorem d_nil (all : Array Oper) (held : Held) (K : Env → Heap → Held → Prop) : opsE P all [] e h held K = K e h held := rfl
theorem d_on (all : Array Oper) (os : List Oper) (d : Option Tmp) (op : Op) (held : Held) (K : Env → Heap → Held → Prop) (o : Oper) (ho : o.op = op) (hd : o.dst = d) (hg : guardV all o e = some true) : opsE P all (o :: os) e h held K = opD P op e h held (DK P all os d e K) := by
  subst ho; subst hd
  conv => lhs; unfold opsE
  simp only [hg]
  unfold opD loadD
  cases o.op <;> rfl
theorem d_cons (all : Array Oper) (held : Held) (K : Env → Heap → Held → Prop) (d : Option Tmp) (op : Op) (t : TypeId) (pos : String) (after : Array Edge) (os : List Oper) :
    opsE P all (⟨d, op, t, pos, after, none⟩ :: os) e h held K = opD P op e h held (DK P all os d e K) := d_on P e h all os d op held K _ rfl rfl rfl
theorem d_guard (l : List Oper) (held : Held) (K : Env → Heap → Held → Prop) (d : Option Tmp) (op : Op) (t : TypeId) (pos : String) (after : Array Edge) (os : List Oper) (j : Nat) (want : Bool) :
    opsE P l.toArray (⟨d, op, t, pos, after, some (j, want)⟩ :: os) e h held K = match (l[j]?).bind (·.dst) with | some t => guardD P l.toArray (e t) want op d os e h held K | none => False := by
  have hgv : guardV l.toArray ⟨d, op, t, pos, after, some (j, want)⟩ e = match (l[j]?).bind (·.dst) with | some t => (match e t with | .bool b => some (b == want) | .float _ _ => some false | _ => none) | none => none := by
    simp only [guardV, List.getElem?_toArray]
    rfl
  cases hj : (l[j]?).bind (·.dst) with
  | none =>
    rw [hj] at hgv
    unfold opsE; simp only [hgv]
  | some s =>
    rw [hj] at hgv
    simp only [] at hgv ⊢
    unfold guardD
    cases hes : e s with
    | bool b =>
      rw [hes] at hgv
      by_cases hb : b = want
      · subst hb
        simp only [beq_self_eq_true, if_true] at hgv ⊢
        exact d_on P e h _ os d op held K _ rfl rfl hgv
      · simp only [if_neg hb]
        have : (b == want) = false := by simpa using hb
        simp only [this] at hgv
        exact propext (opsE_cons_off hgv)
    | float k n => rw [hes] at hgv; exact propext (opsE_cons_off hgv)
    | _ => rw [hes] at hgv; unfold opsE; simp only [hgv]
theorem d_guard_bool (all : Array Oper) (b want : Bool) (op : Op) (d : Option Tmp) (os : List Oper) (held : Held) (K : Env → Heap → Held → Prop) :
    guardD P all (.bool b) want op d os e h held K = if b = want then opD P op e h held (DK P all os d e K) else opsE P all os (putV e d SK) h held K := rfl
theorem d_guard_tt (all : Array Oper) (op : Op) (d : Option Tmp) (os : List Oper) (held : Held) (K : Env → Heap → Held → Prop) : guardD P all (.bool true) true op d os e h held K = opD P op e h held (DK P all os d e K) := rfl
theorem d_guard_ff (all : Array Oper) (op : Op) (d : Option Tmp) (os : List Oper) (held : Held) (K : Env → Heap → Held → Prop) : guardD P all (.bool false) false op d os e h held K = opD P op e h held (DK P all os d e K) := rfl
theorem d_guard_tf (all : Array Oper) (op : Op) (d : Option Tmp) (os : List Oper) (held : Held) (K : Env → Heap → Held → Prop) : guardD P all (.bool true) false op d os e h held K = opsE P all os (putV e d SK) h held K := rfl
theorem d_guard_ft (all : Array Oper) (op : Op) (d : Option Tmp) (os : List Oper) (held : Held) (K : Env → Heap → Held → Prop) : guardD P all (.bool false) true op d os e h held K = opsE P all os (putV e d SK) h held K := rfl
theorem d_guard_skip (all : Array Oper) (want : Bool) (op : Op) (d : Option Tmp) (os : List Oper) (held : Held) (K : Env → Heap → Held → Prop) :
    guardD P all SK want op d os e h held K = opsE P all os (putV e d SK) h held K := rfl
theorem d_K (all : Array Oper) (os : List Oper) (d : Option Tmp) (K : Env → Heap → Held → Prop) (v : Value) (held : Held) : DK P all os d e K v h held = opsE P all os (putV e d v) h held K := rfl
variable (held : Held) (K : Value → Heap → Held → Prop) (v : Value)
theorem d_loadK (t : TypeId) (a : Value) : loadD (some v) t a h held K = K v h ((t, a, v) :: held) := rfl
theorem d_load (t : TypeId) (a : Operand) : opD P (.load t a) e h held K = loadD (loadV P t (evO e a) h) t (evO e a) h held K := rfl
theorem d_move (x : Operand) : opD P (.move x) e h held K = K (evO e x) h held := rfl
theorem d_assign (x : Operand) : opD P (.assign x) e h held K = K (evO e x) h held := rfl
theorem d_pick (c a b : Operand) : opD P (.pick c a b) e h held K = opV P (.pick c a b) e h (HK P (.pick c a b) held K) := rfl
theorem d_bin (op : BinOp) (t t2 : TypeId) (x y : Operand) : opD P (.binOp op t x y t2) e h held K = opV P (.binOp op t x y t2) e h (HK P (.binOp op t x y t2) held K) := rfl
theorem d_un (op : UnOp) (t : TypeId) (x : Operand) : opD P (.unOp op t x) e h held K = opV P (.unOp op t x) e h (HK P (.unOp op t x) held K) := rfl
theorem d_field (t : TypeId) (x : Operand) (f : Nat) : opD P (.field t x f) e h held K = opV P (.field t x f) e h (HK P (.field t x f) held K) := rfl
theorem d_fieldAddr (t : TypeId) (x : Operand) (f : Nat) : opD P (.fieldAddr t x f) e h held K = opV P (.fieldAddr t x f) e h (HK P (.fieldAddr t x f) held K) := rfl
theorem d_index (t : TypeId) (x i : Operand) : opD P (.index t x i) e h held K = opV P (.index t x i) e h (HK P (.index t x i) held K) := rfl
theorem d_indexAddr (t : TypeId) (x i : Operand) : opD P (.indexAddr t x i) e h held K = opV P (.indexAddr t x i) e h (HK P (.indexAddr t x i) held K) := rfl
theorem d_extract (x : Operand) (i : Nat) : opD P (.extract x i) e h held K = opV P (.extract x i) e h (HK P (.extract x i) held K) := rfl
theorem d_slice (t : TypeId) (x : Operand) (lo hi mx : Option Operand) : opD P (.slice t x lo hi mx) e h held K = opV P (.slice t x lo hi mx) e h (HK P (.slice t x lo hi mx) held K) := rfl
theorem d_nilCheck (x : Operand) : opD P (.nilCheck x) e h held K = opV P (.nilCheck x) e h (HK P (.nilCheck x) held K) := rfl
theorem d_build (t : TypeId) (l : Array (Nat × Operand)) : opD P (.build t l) e h held K = opV P (.build t l) e h (HK P (.build t l) held K) := rfl
theorem d_convert (s t : TypeId) (x : Operand) : opD P (.convert s t x) e h held K = opV P (.convert s t x) e h (HK P (.convert s t x) held K) := rfl
theorem d_call (c : Call) : opD P (.call c) e h held K = opV P (.call c) e h (HK P (.call c) held K) := rfl
theorem d_alloc (t : TypeId) : opD P (.alloc t) e h held K = opV P (.alloc t) e h (HK P (.alloc t) held K) := rfl
theorem d_box (t : TypeId) (x : Operand) : opD P (.box t x) e h held K = opV P (.box t x) e h (HK P (.box t x) held K) := rfl
theorem d_store (t : TypeId) (a x : Operand) : opD P (.store t a x) e h held K = opV P (.store t a x) e h (HK P (.store t a x) held K) := rfl
theorem d_buildSlice (t n : TypeId) (l : Array (Nat × Operand)) : opD P (.buildSlice t n l) e h held K = opV P (.buildSlice t n l) e h (HK P (.buildSlice t n l) held K) := rfl
theorem d_makeSlice (t : TypeId) (l c : Operand) : opD P (.makeSlice t l c) e h held K = opV P (.makeSlice t l c) e h (HK P (.makeSlice t l c) held K) := rfl
theorem h_pick (c a b : Operand) : HK P (.pick c a b) held K v h = K v h held := rfl
theorem h_bin (op : BinOp) (t t2 : TypeId) (x y : Operand) : HK P (.binOp op t x y t2) held K v h = K v h held := rfl
theorem h_un (op : UnOp) (t : TypeId) (x : Operand) : HK P (.unOp op t x) held K v h = K v h held := rfl
theorem h_field (t : TypeId) (x : Operand) (f : Nat) : HK P (.field t x f) held K v h = K v h held := rfl
theorem h_fieldAddr (t : TypeId) (x : Operand) (f : Nat) : HK P (.fieldAddr t x f) held K v h = K v h held := rfl
theorem h_index (t : TypeId) (x i : Operand) : HK P (.index t x i) held K v h = K v h held := rfl
theorem h_indexAddr (t : TypeId) (x i : Operand) : HK P (.indexAddr t x i) held K v h = K v h held := rfl
theorem h_extract (x : Operand) (i : Nat) : HK P (.extract x i) held K v h = K v h held := rfl
theorem h_slice (t : TypeId) (x : Operand) (lo hi mx : Option Operand) : HK P (.slice t x lo hi mx) held K v h = K v h held := rfl
theorem h_nilCheck (x : Operand) : HK P (.nilCheck x) held K v h = K v h held := rfl
theorem h_build (t : TypeId) (l : Array (Nat × Operand)) : HK P (.build t l) held K v h = K v h held := rfl
theorem h_len (l : Array Operand) (ts : Array TypeId) : HK P (.call ⟨.builtin .len, l, ts⟩) held K v h = K v h held := rfl
theorem h_max (l : Array Operand) (ts : Array TypeId) : HK P (.call ⟨.builtin .max, l, ts⟩) held K v h = K v h held := rfl
theorem h_min (l : Array Operand) (ts : Array TypeId) : HK P (.call ⟨.builtin .min, l, ts⟩) held K v h = K v h held := rfl
theorem h_call (f : Operand) (l : Array Operand) (ts : Array TypeId) : HK P (.call ⟨.value f, l, ts⟩) held K v h = (heldOk P held h ∧ K v h held) := rfl
theorem h_append (l : Array Operand) (ts : Array TypeId) : HK P (.call ⟨.builtin .append, l, ts⟩) held K v h = (heldOk P held h ∧ K v h held) := rfl
theorem h_alloc (t : TypeId) : HK P (.alloc t) held K v h = (heldOk P held h ∧ K v h held) := rfl
theorem h_box (t : TypeId) (x : Operand) : HK P (.box t x) held K v h = (heldOk P held h ∧ K v h held) := rfl
theorem h_store (t : TypeId) (a x : Operand) : HK P (.store t a x) held K v h = (heldOk P held h ∧ K v h held) := rfl
theorem h_buildSlice (t n : TypeId) (l : Array (Nat × Operand)) : HK P (.buildSlice t n l) held K v h = (heldOk P held h ∧ K v h held) := rfl
theorem h_makeSlice (t : TypeId) (l c : Operand) : HK P (.makeSlice t l c) held K v h = (heldOk P held h ∧ K v h held) := rfl
theorem h_convert (s t : TypeId) (x : Operand) : HK P (.convert s t x) held K v h = if (tInt P t).isNone = true then heldOk P held h ∧ K v h held else K v h held := rfl
end
theorem held_nil (P : Program) (h : Heap) : heldOk P [] h = True := by simp [heldOk]
theorem held_cons (P : Program) (h : Heap) (t : TypeId) (a v : Value) (l : Held) : heldOk P ((t, a, v) :: l) h = (loadV P t a h = some v ∧ heldOk P l h) := by simp [heldOk]
/-- As the list has it. -/
theorem draw_id {P : Program} [Laid P] {l : List Oper} {e : Env} {h : Heap} {K : Env → Heap → Prop} (hok : drawOk P l.toArray (List.range l.length) = true) (hd : opsD P l.toArray l e h [] K) : drawK P l e h K := by
  refine .inl ⟨_, hok, ?_⟩
  have : (List.range l.length).filterMap (l.toArray[·]?) = l := by
    have h2 : ∀ (m : List Oper) (k : Nat), k + m.length = l.length → l.drop k = m → (List.range' k m.length).filterMap (l.toArray[·]?) = m := by
      intro m
      induction m with
      | nil => intros; rfl
      | cons x m ih =>
        intro k hk hd
        rw [List.length_cons, List.range'_succ, List.filterMap_cons]
        have hx : l[k]? = some x := by rw [← List.head?_drop, hd]; rfl
        rw [List.getElem?_toArray, hx]
        simp only []
        rw [ih (k + 1) (by simp at hk; omega) (by rw [← List.drop_drop, hd]; rfl)]
    have := h2 l 0 (by simp) (by simp)
    rwa [← List.range_eq_range'] at this
  rw [this]; exact hd

/-- Steps in a region that draws. -/
def VD := And.intro @s_draw (And.intro @d_nil (And.intro @d_cons (And.intro @d_guard (And.intro @d_guard_tt (And.intro @d_guard_ff (And.intro @d_guard_tf (And.intro @d_guard_ft (And.intro @d_guard_skip (And.intro @d_K (And.intro @d_loadK (And.intro @d_load (And.intro @d_move (And.intro @d_assign (And.intro @d_pick (And.intro @d_bin (And.intro @d_un (And.intro @d_field (And.intro @d_fieldAddr (And.intro @d_index (And.intro @d_indexAddr (And.intro @d_extract (And.intro @d_slice (And.intro @d_nilCheck (And.intro @d_build (And.intro @d_convert (And.intro @d_call (And.intro @d_alloc (And.intro @d_box (And.intro @d_store (And.intro @d_buildSlice (And.intro @d_makeSlice (And.intro @h_pick (And.intro @h_bin (And.intro @h_un (And.intro @h_field (And.intro @h_fieldAddr (And.intro @h_index (And.intro @h_indexAddr (And.intro @h_extract (And.intro @h_slice (And.intro @h_nilCheck (And.intro @h_build (And.intro @h_len (And.intro @h_max (And.intro @h_min (And.intro @h_call (And.intro @h_append (And.intro @h_alloc (And.intro @h_box (And.intro @h_store (And.intro @h_buildSlice (And.intro @h_makeSlice (And.intro @h_convert (And.intro @held_nil (@held_cons)))))))))))))))))))))))))))))))))))))))))))))))))))))))

/-- All steps. -/
def VW := And.intro VS (And.intro VD (And.intro @l_load (And.intro @l_fieldAddr (And.intro @nat_toNat (And.intro @i_lit0 (And.intro @decT (And.intro @decF (And.intro @notT (And.intro @notF (And.intro @tf (And.intro @ft (And.intro @Nat.add_zero (And.intro @Nat.zero_add (And.intro @Nat.mul_one (And.intro @true_and (And.intro @and_true (And.intro @Bool.not_not (And.intro @Bool.true_and (And.intro @Bool.and_true (And.intro @st_0 (And.intro @st_1 (And.intro @st_2 (And.intro @st_3 (And.intro @st_4 (And.intro @st_5 (And.intro @st_6 (@st_7)))))))))))))))))))))))))))

end Go.V
