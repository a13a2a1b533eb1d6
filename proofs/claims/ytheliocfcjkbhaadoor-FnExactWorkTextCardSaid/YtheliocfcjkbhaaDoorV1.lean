/- The layer V, part 1: an abstract heap, how its values stand to the machine's, and what each operation does on it (definitions only). -/
import Derived.Calls
import Derived.Orders
import Derived.Tactics
import Derived.Below
set_option linter.all false
namespace Go.V
open Go Go.RowKit

/-- A block of the abstract heap: its cells, its element type, may it not be written (what came in), is its room known exactly. -/
structure Blk where
  cells : List Value
  ty : TypeId
  ro : Bool
  ex : Bool

/-- 'none': a block that an append has left behind. -/
abbrev Heap := List (Option Blk)

/-- Where an abstract block lies: the machine's block, the first cell, how many elements of room lie behind what is told. -/
structure Place where
  blk : Nat
  base : Nat
  slack : Nat

/-- What is not known at all. -/
abbrev UN : Value := .tuple #[]
/-- An operation that was passed over. -/
abbrev SK : Value := .float .f32 0

/-- Two lists, place by place. -/
inductive L2 {α β : Type} (R : α → β → Prop) : List α → List β → Prop
  | nil : L2 R [] []
  | cons {a b l m} : R a b → L2 R l m → L2 R (a :: l) (b :: m)

/-- One cell's value. -/
inductive BR (ι : List Place) : Value → Value → Prop
  | int (k n) : BR ι (.int k n) (.int k n)
  | bool (b) : BR ι (.bool b) (.bool b)
  | string (s) : BR ι (.string s) (.string s)
  | nilp : BR ι (.pointer none) (.pointer none)
  | ptr {b off p} : ι[b]? = some p → BR ι (.pointer (some ⟨b, off, none⟩)) (.pointer (some ⟨p.blk, p.base + off, none⟩))
  | nils : BR ι (.slice none 0 0) (.slice none 0 0)
  | slice {b off len cap p} : ι[b]? = some p → 0 < cap → BR ι (.slice (some ⟨b, off, none⟩) len cap) (.slice (some ⟨p.blk, p.base + off, none⟩) len (cap + p.slack))
  | slice0 {b off a c p} : ι[b]? = some p → (c = 0 ∨ (a = ⟨p.blk, p.base + off, none⟩ ∧ c = p.slack)) → BR ι (.slice (some ⟨b, off, none⟩) 0 0) (.slice (some a) 0 c)
  | nilI : BR ι .nilIface .nilIface
  | nilF : BR ι .nilFunc .nilFunc
  | tok (t v) : BR ι (.iface 0 (.tuple #[])) (.iface t v)

inductive FR (ι : List Place) : Value → Value → Prop
  | base {v u} : BR ι v u → FR ι v u
  | func (fn) {a b c d : List Value} : L2 (BR ι) a b → L2 (BR ι) c d → FR ι (.func fn a.toArray c.toArray) (.func fn b.toArray d.toArray)

/-- A slot's value that is no tuple. -/
inductive AR (ι : List Place) : Value → Value → Prop
  | junk (u) : AR ι UN u
  | skip : AR ι SK undef
  | flat {v u} : FR ι v u → AR ι v u
  | agg {a b : List Value} : L2 (FR ι) a b → AR ι (.agg a.toArray) (.agg b.toArray)

inductive VR (ι : List Place) : Value → Value → Prop
  | one {v u} : AR ι v u → VR ι v u
  | tup {a b : List Value} : L2 (AR ι) a b → VR ι (.tuple a.toArray) (.tuple b.toArray)

/-! ### types -/
structure TK where
  size : Nat
  bytes : Nat
  zero : List Value
  agg : Bool
  /-- 1 bool, 2 int, 3 string, 4 pointer, 5 slice, 6 struct, 7 interface, 8 func, 9 array, 0 another -/
  kind : Nat
  /-- a struct: are its fields' types known? -/
  fok : Bool

def closed1 : Value → Bool
  | .int _ _ | .bool _ | .string _ | .pointer none | .nilIface | .nilFunc => true
  | .slice none l c => l == 0 && c == 0
  | _ => false

def kindOf : TypeDesc → Nat
  | .bool => 1 | .int _ => 2 | .string => 3 | .pointer _ => 4 | .slice _ => 5 | .struct _ => 6 | .interface _ => 7 | .func _ _ _ => 8 | .array _ _ => 9 | _ => 0

def tk (P : Program) (t : TypeId) : Option TK :=
  match P.info? t, P.underlying t with
  | some i, some d =>
    match i.zero with
    | some z =>
      if z.cells.toList.all closed1 && z.cells.size == i.size && (0 < i.size) && (0 < i.bytes) then
        some ⟨i.size, i.bytes, z.cells.toList, (kindOf d == 6 || kindOf d == 9), kindOf d, match d with | .struct fs => fs.toList.all (fun f => (P.info? f.type).isSome) | _ => false⟩
      else none
    | none => none
  | _, _ => none

/-- A slice type's element type. -/
def tElem (P : Program) (t : TypeId) : Option TypeId :=
  match P.underlying t with
  | some (.slice e) => some e
  | _ => none
/-- An array type's length and element type. -/
def tArr (P : Program) (t : TypeId) : Option (Nat × TypeId) :=
  match P.underlying t with
  | some (.array n e) => some (n, e)
  | _ => none
/-- A struct's field: the first cell, the type. -/
def tField (P : Program) (t : TypeId) (f : Nat) : Option (Nat × TypeId) :=
  match P.underlying t with
  | some (.struct fs) => (fs[f]?).map fun f => (f.offset, f.type)
  | _ => none
/-- A whole number's kind. -/
def tInt (P : Program) (t : TypeId) : Option IntKind :=
  match P.underlying t with
  | some (.int k) => some k
  | _ => none

/-! ### slots -/
abbrev Env := Nat → Value
def upd (e : Env) (t : Nat) (v : Value) : Env := fun s => if s = t then v else e s
def putV (e : Env) (d : Option Tmp) (v : Value) : Env := match d with | some t => upd e t v | none => e

def closeV (v : Value) : Value :=
  if closed1 v then v else match v with
    | .agg cs => if cs.toList.all closed1 then v else UN
    | _ => UN

def evO (e : Env) : Operand → Value
  | .tmp t => e t
  | .const v => closeV v
  | .global _ => UN
  | .func f => .func (.func f) #[] #[]

/-- A value's cells. -/
def cellsV : Value → Option (List Value)
  | .agg cs => some cs.toList
  | .tuple _ | .float _ _ => none
  | v => some [v]

/-! ### the heap -/
def getB (h : Heap) (b : Nat) : Option Blk := (h[b]?).join

def cellsAt (h : Heap) (b off n : Nat) : Option (List Value) :=
  match getB h b with
  | some k => if off + n ≤ k.cells.length then some ((k.cells.drop off).take n) else none
  | none => none

def loadV (P : Program) (t : TypeId) (a : Value) (h : Heap) : Option Value :=
  match a, tk P t with
  | .pointer (some ⟨b, off, none⟩), some k =>
    if k.agg then (cellsAt h b off k.size).map fun cs => .agg cs.toArray
    else (getB h b).bind fun blk => blk.cells[off]?
  | _, _ => none

def putCells (l : List Value) (off : Nat) (cs : List Value) : List Value := l.take off ++ cs ++ l.drop (off + cs.length)

def writeB (h : Heap) (b off : Nat) (cs : List Value) : Option Heap :=
  match getB h b with
  | some k => if !k.ro && decide (off + cs.length ≤ k.cells.length) then some (h.set b (some { k with cells := putCells k.cells off cs })) else none
  | none => none

def storeV (P : Program) (t : TypeId) (a x : Value) (h : Heap) : Option Heap :=
  match a, tk P t, cellsV x with
  | .pointer (some ⟨b, off, none⟩), some k, some cs => if cs.length = k.size then writeB h b off cs else none
  | _, _, _ => none

/-! ### operations on numbers, strings, bools -/
def bitsV (op : BinOp) (k : IntKind) (x y : Int) : Option Value :=
  let a := BitVec.ofInt k.bits x
  let b := BitVec.ofInt k.bits y
  match op with
  | .and => some (.int k (k.wrap (a &&& b).toNat))
  | .or => some (.int k (k.wrap (a ||| b).toNat))
  | .xor => some (.int k (k.wrap (a ^^^ b).toNat))
  | .andNot => some (.int k (k.wrap (a &&& ~~~b).toNat))
  | _ => none

def intV (op : BinOp) (k : IntKind) (a b : Int) : Option Value :=
  match op with
  | .add => some (.int k (k.wrap (a + b)))
  | .sub => some (.int k (k.wrap (a - b)))
  | .mul => some (.int k (k.wrap (a * b)))
  | .quo => if b = 0 then none else some (.int k (k.wrap (a.tdiv b)))
  | .rem => if b = 0 then none else some (.int k (a.tmod b))
  | .eql => some (.bool (decide (a = b)))
  | .neq => some (.bool (!decide (a = b)))
  | .lss => some (.bool (decide (a < b)))
  | .leq => some (.bool (decide (a ≤ b)))
  | .gtr => some (.bool (decide (b < a)))
  | .geq => some (.bool (decide (b ≤ a)))
  | .shl | .shr => none
  | .and | .or | .xor | .andNot => bitsV op k a b

def shiftV (op : BinOp) (k : IntKind) (a b : Int) : Option Value :=
  if b < 0 then none else
  match op with
  | .shl => some (.int k (k.wrap (a * 2 ^ min b.toNat k.bits)))
  | .shr => some (.int k (a.fdiv (2 ^ min b.toNat k.bits)))
  | _ => none

def strV (op : BinOp) (x y : ByteArray) : Option Value :=
  match op with
  | .add => if ((x.size + y.size : Nat) : Int) > IntKind.i64.max then none else some (.string (x ++ y))
  | .eql => some (.bool (x.toList == y.toList))
  | .neq => some (.bool (!(x.toList == y.toList)))
  | .lss => some (.bool (Op.bytesLess x.toList y.toList))
  | .leq => some (.bool (Op.bytesLess x.toList y.toList || x.toList == y.toList))
  | .gtr => some (.bool (!(Op.bytesLess x.toList y.toList || x.toList == y.toList)))
  | .geq => some (.bool (!Op.bytesLess x.toList y.toList))
  | _ => none

/-- '==' where the type's kind decides: bools, a pointer, a slice, an interface, a function against nil. -/
def eqV (kind : Nat) (x y : Value) : Option Bool :=
  match kind, x, y with
  | 1, .bool a, .bool b => some (a == b)
  | 4, .pointer none, .pointer b => some b.isNone
  | 4, .pointer (some _), .pointer none => some false
  | 5, .slice none _ _, .slice b _ _ => some b.isNone
  | 5, .slice (some _) _ _, .slice none _ _ => some false
  | 7, .nilIface, .iface _ _ => some false
  | 7, .iface _ _, .nilIface => some false
  | 8, .nilFunc, .nilFunc => some true
  | 8, .nilFunc, .func _ _ _ => some false
  | 8, .func _ _ _, .nilFunc => some false
  | _, _, _ => none

def binV (op : BinOp) (kind : Nat) (x y : Value) : Option Value :=
  match x, y with
  | .int k a, .int k' b =>
    match op with
    | .shl | .shr => shiftV op k a b
    | _ => if k = k' then intV op k a b else none
  | .string a, .string b => strV op a b
  | x, y =>
    match op with
    | .eql => (eqV kind x y).map .bool
    | .neq => (eqV kind x y).map fun b => .bool !b
    | _ => none

def unV : UnOp → Value → Option Value
  | .neg, .int k n => some (.int k (k.wrap (0 - n)))
  | .not, .bool b => some (.bool !b)
  | .xor, .int k n => bitsV .xor k (if k.signed then -1 else k.max) n
  | _, _ => none

def closedA : Value → Bool
  | .agg cs => cs.toList.all closed1
  | v => closed1 v

/-- An operator that the tables above don't have, on values without addresses: as the model has it. -/
def BinC (P : Program) (op : BinOp) (t : TypeId) (xo yo : Operand) (x y : Value) (K : Value → Prop) : Prop :=
  closedA x = true ∧ closedA y = true ∧ ∃ v, closedA v = true ∧ (∀ w, (do eqGuard op t xo yo x y; binOp op t x y : Sem Value).run P w = .ok v w) ∧ K v

def isConst : Operand → Bool | .const _ => true | _ => false

/-! ### slices -/
def boundV (x : Value) (hi : Nat) : Option Nat :=
  match x with
  | .int _ i => if 0 ≤ i ∧ i ≤ hi then some i.toNat else none
  | _ => none
def loV (e : Env) (lo : Option Operand) (hi : Nat) : Option Nat :=
  match lo with
  | some x => boundV (evO e x) hi
  | none => some 0
def hiV (e : Env) (hi : Option Operand) (cap dflt : Nat) : Option Nat :=
  match hi with
  | some x => boundV (evO e x) cap
  | none => some dflt

def sliceV (P : Program) (t : TypeId) (e : Env) (x : Value) (lo hi : Option Operand) : Option Value :=
  match x with
  | .string s =>
    if (tk P t).map (·.kind) = some 3 then
      (hiV e hi s.size s.size).bind fun m => (loV e lo m).map fun l => .string (s.extract l m)
    else none
  | .slice A len cap =>
    (tElem P t).bind fun el => (tk P el).bind fun k => (hiV e hi cap len).bind fun m => (loV e lo m).bind fun l =>
      if m ≤ cap then some (.slice (A.map fun a => ⟨a.block, a.off + l * k.size, none⟩) (m - l) (cap - l)) else none
  | _ => none

def indexAddrV (P : Program) (t : TypeId) (x i : Value) : Option Value :=
  match x, i with
  | .slice (some ⟨b, off, none⟩) len _, .int _ i =>
    (tElem P t).bind fun el => (tk P el).bind fun k =>
      if 0 ≤ i ∧ i < len then some (.pointer (some ⟨b, off + i.toNat * k.size, none⟩)) else none
  | .pointer (some ⟨b, off, none⟩), .int _ i =>
    (tArr P t).bind fun (n, el) => (tk P el).bind fun k =>
      if 0 ≤ i ∧ i < n then some (.pointer (some ⟨b, off + i.toNat * k.size, none⟩)) else none
  | _, _ => none

def partV (P : Program) (t : TypeId) (cs : List Value) (off : Nat) : Option Value :=
  (tk P t).bind fun k => if k.agg then some (.agg ((cs.drop off).take k.size).toArray) else cs[off]?

def indexV (P : Program) (t : TypeId) (x i : Value) : Option Value :=
  match x, i with
  | .string s, .int _ i => if (tk P t).map (·.kind) = some 3 then (if 0 ≤ i then s[i.toNat]? else none).map fun b => .int .u8 b.toNat else none
  | .agg cs, .int _ i => (tArr P t).bind fun (n, el) => (tk P el).bind fun k => if 0 ≤ i ∧ i < n then partV P el cs.toList (i.toNat * k.size) else none
  | _, _ => none

def fieldV (P : Program) (t : TypeId) (x : Value) (f : Nat) : Option Value :=
  match x with
  | .agg cs => (tField P t f).bind fun (off, ft) => partV P ft cs.toList off
  | _ => none

def fieldAddrV (P : Program) (t : TypeId) (x : Value) (f : Nat) : Option Value :=
  match x with
  | .pointer (some ⟨b, off, none⟩) => (tField P t f).bind fun (o, ft) => (tk P ft).map fun _ => .pointer (some ⟨b, off + o, none⟩)
  | _ => none

def extractV (x : Value) (i : Nat) : Option Value :=
  match x with
  | .tuple vs => vs.toList[i]?
  | _ => none

/-- Parts laid over cells: (first cell, cells). -/
def fillV (place : Nat → Option (Nat × Nat)) : List Value → List (Nat × Value) → Option (List Value)
  | cells, [] => some cells
  | cells, (i, v) :: rest =>
    match place i, cellsV v with
    | some (off, size), some cs => if cs.length = size ∧ off + size ≤ cells.length then fillV place (putCells cells off cs) rest else none
    | _, _ => none

def fieldPl (P : Program) (t : TypeId) (i : Nat) : Option (Nat × Nat) := (tField P t i).bind fun (o, ft) => (tk P ft).map fun k => (o, k.size)

def rep {α : Type} : Nat → List α → List α
  | 0, _ => []
  | n + 1, l => l ++ rep n l

def buildV (P : Program) (t : TypeId) (parts : List (Nat × Value)) : Option Value :=
  (tk P t).bind fun k =>
    if k.kind = 6 then if !k.fok then none else (fillV (fieldPl P t) k.zero parts).map fun cs => .agg cs.toArray
    else (tArr P t).bind fun (_, el) => (tk P el).bind fun ke => (fillV (fun i => some (i * ke.size, ke.size)) k.zero parts).map fun cs => .agg cs.toArray

/-- The cells of a slice's elements. -/
def rowV (h : Heap) (size n : Nat) : Value → Option (List Value)
  | .slice (some ⟨b, off, none⟩) _ _ => if n = 0 then some [] else cellsAt h b off (n * size)
  | .slice none _ _ => some []
  | .string s => if size = 1 then some ((s.extract 0 n).data.toList.map fun b => .int .u8 b.toNat) else none
  | _ => none

def lenV : Value → Option Nat
  | .slice _ n _ => some n
  | .string s => some s.size
  | _ => none

def killB (h : Heap) (b : Nat) : Heap :=
  match getB h b with
  | some k => if !k.ex then h.set b none else h
  | none => h

/-- append: what it does to the heap, and the slice. -/
def appendV (P : Program) (t : TypeId) (s x : Value) (h : Heap) : Option (Value × Heap) :=
  (tElem P t).bind fun el => (tk P el).bind fun k =>
    match s with
    | .slice A len cap =>
      (lenV x).bind fun n => (rowV h k.size n x).bind fun new =>
        if len + n ≤ cap then
          match A with
          | some ⟨b, off, none⟩ => if n = 0 then some (s, h) else (writeB h b (off + len * k.size) new).map fun h' => (.slice A (len + n) cap, h')
          | some _ => none
          | none => if n = 0 then some (s, h) else none
        else if (len + n) * k.bytes ≤ 140737488355328 then
          match A with
          | some ⟨b, off, none⟩ =>
            (getB h b).bind fun blk =>
              if !blk.ro && decide (off + cap * k.size = blk.cells.length) && decide (len ≤ cap) && decide (blk.ty = el) then
                (rowV h k.size len s).map fun old =>
                  (.slice (some ⟨h.length, 0, none⟩) (len + n) (len + n), killB h b ++ [some ⟨old ++ new, el, false, false⟩])
              else none
          | some _ => none
          | none => if len = 0 then some (.slice (some ⟨h.length, 0, none⟩) n n, h ++ [some ⟨new, el, false, false⟩]) else none
        else none
    | _ => none

def copyV (P : Program) (t : TypeId) (d s : Value) (h : Heap) : Option (Value × Heap) :=
  (tElem P t).bind fun el => (tk P el).bind fun k =>
    match d with
    | .slice A len _ => (lenV s).bind fun n => (rowV h k.size (min n len) s).bind fun new =>
        match A with
        | some ⟨b, off, none⟩ => if min n len = 0 then some (.int .i64 0, h) else (writeB h b off new).map fun h' => (.int .i64 (min n len : Nat), h')
        | some _ => none
        | none => if min n len = 0 then some (.int .i64 0, h) else none
    | _ => none

def makeSliceV (P : Program) (t : TypeId) (l c : Value) (h : Heap) : Option (Value × Heap) :=
  match l, c with
  | .int _ l, .int _ c =>
    (tElem P t).bind fun el => (tk P el).bind fun k =>
      if 0 ≤ l ∧ l ≤ c ∧ c * k.bytes ≤ 140737488355328 then
        some (.slice (some ⟨h.length, 0, none⟩) l.toNat c.toNat, h ++ [some ⟨rep c.toNat k.zero, el, false, true⟩])
      else none
  | _, _ => none

def buildSliceV (P : Program) (t : TypeId) (n : Nat) (parts : List (Nat × Value)) (h : Heap) : Option (Value × Heap) :=
  (tElem P t).bind fun el => (tk P el).bind fun k =>
    if n * k.size ≤ 2 ^ 24 then
      (fillV (fun i => some (i * k.size, k.size)) (rep n k.zero) parts).map fun cs =>
        (.slice (some ⟨h.length, 0, none⟩) n n, h ++ [some ⟨cs, el, false, true⟩])
    else none

def max2V : Value → Value → Option Value
  | .int k x, .int _ y => some (.int k (if y > x then y else x))
  | _, _ => none
def min2V : Value → Value → Option Value
  | .int k x, .int _ y => some (.int k (if y < x then y else x))
  | _, _ => none
def foldV (f : Value → Value → Option Value) : Value → List Value → Option Value
  | x, [] => some x
  | x, y :: l => (f x y).bind fun z => foldV f z l
def maxV : List Value → Option Value
  | .int k x :: rest => foldV max2V (.int k x) rest
  | _ => none
def minV : List Value → Option Value
  | .int k x :: rest => foldV min2V (.int k x) rest
  | _ => none

def nilCheckV : Value → Option Value
  | .pointer (some a) => some (.pointer (some a))
  | .func (.func f) a b => some (.func (.func f) a b)
  | _ => none

def bytesV : List Value → Option (List UInt8)
  | [] => some []
  | .int .u8 n :: l => (bytesV l).map (UInt8.ofNat n.toNat :: ·)
  | _ => none

def convV (P : Program) (s t : TypeId) (x : Value) (h : Heap) : Option (Value × Heap) :=
  match x with
  | .int _ n => (tk P s).bind fun _ => (tInt P t).map fun k => (.int k (k.wrap n), h)
  | .string b =>
    if (tk P s).map (·.kind) = some 3 ∧ (tk P t).map (·.kind) = some 3 then some (.string b, h)
    else (tElem P t).bind fun el =>
      if (tk P s).map (·.kind) = some 3 ∧ tInt P el = some .u8 ∧ (tk P el).map (·.size) = some 1 then
        some (.slice (some ⟨h.length, 0, none⟩) b.size b.size, h ++ [some ⟨b.data.toList.map fun c => Value.int .u8 c.toNat, el, false, false⟩])
      else none
  | .slice A len _ =>
    (tElem P s).bind fun el =>
      if tInt P el = some .u8 ∧ (tk P el).map (·.size) = some 1 ∧ (tk P t).map (·.kind) = some 3 then
        (rowV h 1 len (.slice A len len)).bind fun cs =>
          (bytesV cs).map fun bs => (.string ⟨bs.toArray⟩, h)
      else none
  | _ => none

/-! ### calls -/
/-- What the package-level variables hold while the calls run. -/
class Laid (P : Program) where
  G : World → Prop

/-- What the machine owes: the heap as told, in blocks from B0 on (or, where nothing is written, below). -/
structure Rel (P : Program) [Laid P] (B0 : Nat) (ι : List Place) (h : Heap) (w : World) : Prop where
  len : ι.length = h.length
  base : B0 ≤ w.heap.size
  glob : ∀ w', Below B0 w w' → Laid.G P w'
  blk : ∀ b k p, getB h b = some k → ι[b]? = some p → ∃ (arr : Array Value) (fz : Nat × Nat), w.heap[p.blk]? = some (.cells arr k.ty fz) ∧
    (∀ i v, k.cells[i]? = some v → ∃ u, arr[p.base + i]? = some u ∧ FR ι v u) ∧
    (k.ro = true → p.blk < B0) ∧
    (k.ro = false → B0 ≤ p.blk ∧ (∀ i, i < arr.size → ¬ (fz.1 ≤ i ∧ i < fz.2)) ∧ (∃ tk', tk P k.ty = some tk' ∧ arr.size = p.base + k.cells.length + p.slack * tk'.size) ∧ (k.ex = true → p.slack = 0))
  inj : ∀ b b' k k' p p', getB h b = some k → getB h b' = some k' → ι[b]? = some p → ι[b']? = some p' → k.ro = false → k'.ro = false → p.blk = p'.blk → b = b'

def CallsV (P : Program) [Laid P] (f : FuncId) (args : List Value) (h : Heap) (Q : Value → Heap → Prop) : Prop :=
  ∀ (B0 : Nat) (ι : List Place) (w : World) (us : List Value), Rel P B0 ι h w → L2 (VR ι) args us →
    Calls P f us.toArray w fun e w' => ∃ v u h' ι', e = .returned u ∧ Q v h' ∧ VR ι' v u ∧ Rel P B0 ι' h' w' ∧ ι <+: ι' ∧ Below B0 w w'

/-- A function without a body, on plain values. -/
def PureCall (P : Program) (f : FuncId) (args : List Value) (v : Value) : Prop :=
  args.all closed1 = true ∧ (match v with | .tuple vs => vs.toList.all closed1 | v => closed1 v) = true ∧ ∀ w, (callFunc f args.toArray).run P w = .ok (.value v) w

def hasBody (P : Program) (f : FuncId) : Bool := match P.funcs[f]? with | some fn => fn.body.isSome && fn.name != "runtime.NumGoroutine" | none => false

def CallV (P : Program) [Laid P] (f : FuncId) (args : List Value) (h : Heap) (K : Value → Heap → Prop) : Prop :=
  (hasBody P f = true ∧ CallsV P f args h K) ∨ ∃ v, PureCall P f args v ∧ K v h

def callDyn (P : Program) [Laid P] (g : Value) (args : List Value) (h : Heap) (K : Value → Heap → Prop) : Prop :=
  match g with
  | .func (.func f) first captured => CallV P f (first.toList ++ args ++ captured.toList) h K
  | _ => False

def builtinV (P : Program) (b : Builtin) (ts : Array TypeId) (args : List Value) (h : Heap) (K : Value → Heap → Prop) : Prop :=
  match b, ts.toList, args with
  | .len, [t], [.slice _ n _] => (tElem P t).isSome = true ∧ K (.int .i64 n) h
  | .len, [t], [.string s] => (tk P t).map (·.kind) = some 3 ∧ K (.int .i64 s.size) h
  | .append, [t, t2], [s, x] => ((tk P t2).map (·.kind) = some 5 ∨ (tk P t2).map (·.kind) = some 3) ∧ match appendV P t s x h with | some (v, h') => K v h' | none => False
  | .copy, [t, _], [d, s] => match copyV P t d s h with | some (v, h') => K v h' | none => False
  | .max, _, l => match maxV l with | some v => K v h | none => False
  | .min, _, l => match minV l with | some v => K v h | none => False
  | _, _, _ => False

/-- May a function value hold it? -/
def capOk : Value → Bool
  | .agg _ | .tuple _ | .float _ _ | .func _ _ _ => false
  | _ => true

def optK (o : Option Value) (h : Heap) (K : Value → Heap → Prop) : Prop := match o with | some v => K v h | none => False
def optH (o : Option (Value × Heap)) (K : Value → Heap → Prop) : Prop := match o with | some (v, h) => K v h | none => False

def opV (P : Program) [Laid P] (op : Op) (e : Env) (h : Heap) (K : Value → Heap → Prop) : Prop :=
  match op with
  | .move x | .assign x => K (evO e x) h
  | .pick c a b => match evO e c with | .bool true => K (evO e a) h | .bool false => K (evO e b) h | _ => False
  | .alloc t => match tk P t with | some k => K (.pointer (some ⟨h.length, 0, none⟩)) (h ++ [some ⟨k.zero, t, false, true⟩]) | none => False
  | .box t x => match tk P t, cellsV (evO e x) with | some k, some cs => cs.length = k.size ∧ K (.pointer (some ⟨h.length, 0, none⟩)) (h ++ [some ⟨cs, t, false, true⟩]) | _, _ => False
  | .build t ps => optK (buildV P t (ps.toList.map fun (i, x) => (i, evO e x))) h K
  | .buildSlice t n ps => optH (buildSliceV P t n (ps.toList.map fun (i, x) => (i, evO e x)) h) K
  | .load t a => optK (loadV P t (evO e a) h) h K
  | .store t a x => match storeV P t (evO e a) (evO e x) h with | some h' => K UN h' | none => False
  | .nilCheck x => optK (nilCheckV (evO e x)) h K
  | .binOp op t x y _ => match binV op (((tk P t).map (·.kind)).getD 0) (evO e x) (evO e y) with
    | some v => K v h
    | none => BinC P op t x y (evO e x) (evO e y) fun v => K v h
  | .unOp op _ x => optK (unV op (evO e x)) h K
  | .convert s t x => optH (convV P s t (evO e x) h) K
  | .makeFunc fn first captured => (first.toList.all (fun x => capOk (evO e x)) && captured.toList.all fun x => capOk (evO e x)) = true ∧ K (.func fn (first.toList.map (evO e)).toArray (captured.toList.map (evO e)).toArray) h
  | .makeSlice t l c => optH (makeSliceV P t (evO e l) (evO e c) h) K
  | .slice t x lo hi mx => match mx with | none => optK (sliceV P t e (evO e x) lo hi) h K | some _ => False
  | .fieldAddr t x f => optK (fieldAddrV P t (evO e x) f) h K
  | .field t x f => optK (fieldV P t (evO e x) f) h K
  | .indexAddr t x i => optK (indexAddrV P t (evO e x) (evO e i)) h K
  | .index t x i => optK (indexV P t (evO e x) (evO e i)) h K
  | .extract t i => optK (extractV (evO e t) i) h K
  | .call c => match c.callee with
    | .builtin b => builtinV P b c.argTypes (c.args.toList.map (evO e)) h K
    | .value f => callDyn P (evO e f) (c.args.toList.map (evO e)) h K
    | .invoke _ _ => False
  | _ => False

/-! ### code -/
inductive VX where
  | norm
  | exit (id : Nat)
  | ret

/-- Is an operation carried out? -/
def guardV (all : Array Oper) (o : Oper) (e : Env) : Option Bool :=
  match o.guard with
  | none => some true
  | some (j, want) =>
    match (all[j]?).bind (·.dst) with
    | some t => match e t with
      | .bool b => some (b == want)
      | .float _ _ => some false
      | _ => none
    | none => none

def opsV (P : Program) [Laid P] (all : Array Oper) : List Oper → Env → Heap → (Env → Heap → Prop) → Prop
  | [], e, h, K => K e h
  | o :: os, e, h, K =>
    match guardV all o e with
    | some true => opV P o.op e h fun v h' => opsV P all os (putV e o.dst v) h' K
    | some false => opsV P all os (putV e o.dst SK) h K
    | none => False

/-- Does it make, write or call? (a conversion to what is no whole number counts) -/
def effectful (P : Program) : Op → Bool
  | .alloc _ | .box _ _ | .buildSlice _ _ _ | .store _ _ _ | .makeSlice _ _ _ => true
  | .convert _ t _ => (tInt P t).isNone
  | .call c => match c.callee with | .builtin b => b == .append || b == .copy | _ => true
  | _ => false

/-- A load's value, held: the type, the address, the value. -/
abbrev Held := List (TypeId × Value × Value)

def heldOk (P : Program) (hs : Held) (h : Heap) : Prop := ∀ x ∈ hs, loadV P x.1 x.2.1 h = some x.2.2

/-- The operations of a region that draws, in one order that stands for all: what was loaded stays as it is. -/
def opsE (P : Program) [Laid P] (all : Array Oper) : List Oper → Env → Heap → Held → (Env → Heap → Held → Prop) → Prop
  | [], e, h, held, K => K e h held
  | o :: os, e, h, held, K =>
    match guardV all o e with
    | some true =>
      match o.op with
      | .load t a => match loadV P t (evO e a) h with
        | some v => opsE P all os (putV e o.dst v) h ((t, evO e a, v) :: held) K
        | none => False
      | op => opV P op e h fun v h' =>
          if effectful P op then heldOk P held h' ∧ opsE P all os (putV e o.dst v) h' held K
          else opsE P all os (putV e o.dst v) h' held K
    | some false => opsE P all os (putV e o.dst SK) h held K
    | none => False
@[reducible] def opsD (P : Program) [Laid P] (all : Array Oper) (os : List Oper) (e : Env) (h : Heap) (held : Held) (K : Env → Heap → Prop) : Prop := opsE P all os e h held fun e h _ => K e h

/-- All orders of the last operations. -/
def tailK (P : Program) [Laid P] (all : Array Oper) (ms : List Nat) (K : Env → Heap → Prop) : Nat → List Nat → Env → Heap → Held → Prop
  | 0, _, e, h, _ => K e h
  | n + 1, rem, e, h, held => ∀ i ∈ rem, (rem.all fun y => !(ms.getD i 0).testBit y) = true → ∃ o, all[i]? = some o ∧ opsE P all [o] e h held fun e h held => tailK P all ms K n (rem.filter (· != i)) e h held

/-- The edges that bind in every mode. -/
def bnd (o : Oper) : List Go.Edge := o.after.toList.filter (Region.binds .any)

/-- Which operations come before each, told in bits. -/
def masks : List Nat → List Oper → List Nat
  | acc, [] => acc
  | acc, o :: os => masks (acc ++ [(bnd o).foldl (fun s x => s ||| 2 ^ x.on ||| acc.getD x.on 0) 0]) os

def slotOf : Operand → List Nat | .tmp t => [t] | _ => []
/-- The slots that an operation looks at, its guard's among them. -/
def looks (ops : Array Oper) (o : Oper) : List Nat :=
  o.op.operands.toList.flatMap slotOf ++ (match o.guard with | some (j, _) => ((ops[j]?).bind (·.dst)).toList | none => [])

/-- The slots of two operations are apart. -/
def apartO (ops : Array Oper) (x y : Oper) : Bool :=
  (match x.dst with | some d => !(looks ops y).contains d && y.dst != some d | none => true) &&
  (match y.dst with | some d => !(looks ops x).contains d | none => true)

/-- x stands before y in the order: x must come before y, or x only reckons or reads, and the two may change places. -/
def pairOk (P : Program) (ops : Array Oper) (ms : List Nat) (x y : Nat) : Bool :=
  !(ms.getD x 0).testBit y && ((ms.getD y 0).testBit x ||
    match ops[x]?, ops[y]? with
    | some ox, some oy => !effectful P ox.op && apartO ops ox oy
    | _, _ => false)

def pairsOk (P : Program) (ops : Array Oper) (ms : List Nat) : List Nat → Bool
  | [] => true
  | x :: l => l.all (pairOk P ops ms x) && pairsOk P ops ms l

def nodupB : List Nat → Bool
  | [] => true
  | x :: l => !l.contains x && nodupB l

/-- May this order stand for all? -/
def drawOk (P : Program) (ops : Array Oper) (order : List Nat) : Bool :=
  P.follows .mixedOrders && decide (order.length = ops.size) &&
  (ops.toList.zipIdx.all fun (o, j) => (bnd o).all fun x => decide (x.on < j)) &&
  (List.range ops.size).all (fun i => order.contains i) && order.all (fun i => decide (i < ops.size)) && nodupB order &&
  pairsOk P ops (masks [] ops.toList) order

/-- May these stand ahead, and the others behind in any order? -/
def drawOk2 (P : Program) (ops : Array Oper) (pre tail : List Nat) : Bool :=
  P.follows .mixedOrders && decide ((pre ++ tail).length = ops.size) &&
  (ops.toList.zipIdx.all fun (o, j) => (bnd o).all fun x => decide (x.on < j)) &&
  (List.range ops.size).all (fun i => (pre ++ tail).contains i) && (pre ++ tail).all (fun i => decide (i < ops.size)) && nodupB (pre ++ tail) &&
  pairsOk P ops (masks [] ops.toList) pre && pre.all (fun x => tail.all fun y => pairOk P ops (masks [] ops.toList) x y)
def drawV (P : Program) [Laid P] (ops : Array Oper) (e : Env) (h : Heap) (K : Env → Heap → Prop) : Prop :=
  (∃ order : List Nat, drawOk P ops order = true ∧ opsD P ops (order.filterMap (ops[·]?)) e h [] K) ∨
  ∃ pre tail : List Nat, drawOk2 P ops pre tail = true ∧ opsE P ops (pre.filterMap (ops[·]?)) e h [] fun e h held => tailK P ops (masks [] ops.toList) K tail.length tail e h held

def exitV (Q : VX → Env → Heap → Prop) (id : Nat) : VX → Env → Heap → Prop
  | .exit i, e, h => if i = id then Q .norm e h else Q (.exit i) e h
  | x, e, h => Q x e h

def seqV (next : Env → Heap → Prop) (Q : VX → Env → Heap → Prop) : VX → Env → Heap → Prop
  | .norm, e, h => next e h
  | x, e, h => Q x e h

/-- n rounds at most. -/
def iterV (body : Env → Heap → (VX → Env → Heap → Prop) → Prop) (Q : VX → Env → Heap → Prop) : Nat → Env → Heap → Prop
  | 0, _, _ => False
  | n + 1, e, h => body e h (seqV (iterV body Q n) Q)

def wpV (P : Program) [Laid P] : Code → Env → Heap → (VX → Env → Heap → Prop) → Prop
  | .skip, e, h, Q => Q .norm e h
  | .region _ ops false, e, h, Q => opsV P ops ops.toList e h (Q .norm)
  | .region _ ops true, e, h, Q => drawV P ops e h (Q .norm)
  | .seq a b, e, h, Q => wpV P a e h (seqV (fun e h => wpV P b e h Q) Q)
  | .cond c a b, e, h, Q => match evO e c with | .bool true => wpV P a e h Q | .bool false => wpV P b e h Q | _ => False
  | .block id b, e, h, Q => wpV P b e h (exitV Q id)
  | .loop b, e, h, Q => ∃ n, iterV (wpV P b) Q n e h
  | .exit id, e, h, Q => Q (.exit id) e h
  | .ret, e, h, Q => Q .ret e h
  | _, _, _, _ => False

/-! ### a function -/
def resultV (P : Program) (e : Env) (h : Heap) : ResultVar → Option Value
  | .tmp t => some (e t)
  | .cell a t => loadV P t (e a) h

def resultsV (P : Program) (fn : Func) (e : Env) (h : Heap) : Option Value :=
  (fn.results.toList.mapM (resultV P e h)).bind fun vs => match vs with
    | [v] => some v
    | vs => if vs.all (fun v => match v with | .tuple vs => vs.size == 0 | _ => true) then some (.tuple vs.toArray) else none

def startEnv (args : List Value) : Env := fun t => args.getD t UN

def opOk (n : Nat) (o : Oper) : Bool :=
  (match o.dst with | some d => decide (d < n) | none => true) && (o.op.operands.toList.all fun x => match x with | .tmp t => decide (t < n) | _ => true) &&
  (match o.guard with | some _ => true | none => true)

def codeOk (n : Nat) : Code → Bool
  | .region _ ops _ => ops.toList.all (opOk n)
  | .seq a b => codeOk n a && codeOk n b
  | .cond c a b => (match c with | .tmp t => decide (t < n) | _ => true) && codeOk n a && codeOk n b
  | .block _ b | .loop b => codeOk n b
  | _ => true

def retV (P : Program) (fn : Func) (Q : Value → Heap → Prop) : VX → Env → Heap → Prop
  | .norm, e, h | .ret, e, h => match resultsV P fn e h with | some v => Q v h | none => False
  | _, _, _ => False

end Go.V
