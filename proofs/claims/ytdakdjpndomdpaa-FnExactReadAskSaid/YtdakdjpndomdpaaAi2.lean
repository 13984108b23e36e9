/- The abstract machine, part 2: what one operation that is no call does to an abstract state. Nothing about the program stands here. -/
import Derived.Test.YtdakdjpndomdpaaAi1
import Derived.Laws.Entries
import Derived.Laws.IdiomCopy
import Derived.Laws.AppendOwn
import Derived.Laws.MakeOwn
import Derived.Laws.BytesString
import Derived.Laws.Shifts
set_option linter.unusedVariables false
namespace Go.Ai

/-! ### What is asked of types -/
def sz? (P : Program) (t : TypeId) : Option Nat := (P.info? t).map (·.size)
/-- The cells of a type's zero value, where none holds an address. -/
def zr? (P : Program) (t : TypeId) : Option (List Value) := match (P.info? t).bind (·.zero) with | some z => if z.cells.toList.all plainS then some z.cells.toList else none | none => none
def agg? (P : Program) (t : TypeId) : Option Bool := match P.underlying t with | some (.struct _) | some (.array _ _) => some true | some _ => some false | none => none
/-- Of a struct's field: where it begins, how many cells it has, is it a struct. -/
def fld? (P : Program) (s f : Nat) : Option (Nat × Nat × Bool) :=
  match P.underlying s with
  | some (.struct fs) => match fs[f]? with
    | some f => match sz? P f.type, agg? P f.type with
      | some n, some b => some (f.offset, n, b)
      | _, _ => none
    | none => none
  | _ => none
/-- Of a slice type: its element's type, cells and bytes. -/
def elt? (P : Program) (t : TypeId) : Option (TypeId × Nat × Nat) :=
  match P.underlying t with
  | some (.slice e) => match P.info? e with
    | some i => some (e, i.size, i.bytes)
    | none => none
  | _ => none
/-- Are all fields of a struct type told? -/
def bldOk (P : Program) (t : TypeId) : Bool :=
  match P.underlying t with
  | some (.struct fs) => fs.toList.all fun f => (P.info? f.type).isSome && (agg? P f.type).isSome
  | _ => false
inductive Cls where
  | bool | int (k : IntKind) | str | sl | ptr | fn
def cls? (P : Program) (t : TypeId) : Option Cls :=
  match P.underlying t with
  | some .bool => some .bool
  | some (.int k) => some (.int k)
  | some .string => some .str
  | some (.slice _) => some .sl
  | some (.pointer _) => some .ptr
  | some (.func ..) => some .fn
  | _ => none

/-! ### Rows -/
def rd (cs : List Value) (off n : Nat) : Option (List Value) := if off + n ≤ cs.length then some ((cs.drop off).take n) else none
def wrt (cs : List Value) (off : Nat) (vs : List Value) : Option (List Value) :=
  if off + vs.length ≤ cs.length then some (cs.take off ++ vs ++ cs.drop (off + vs.length)) else none
def cellsL : Value → Option (List Value)
  | .agg cs => some cs.toList
  | .tuple _ => none
  | .chan _ => none
  | v => some [v]

/-- Not a cell of which nothing is known. -/
def okCell : Value → Bool
  | .chan _ => false
  | _ => true

/-! ### Operations on values alone -/
def binI (op : BinOp) (k : IntKind) (x y : Int) : Option Value :=
  match op with
  | .add => some (.int k (k.wrap (x + y)))
  | .sub => some (.int k (k.wrap (x - y)))
  | .mul => some (.int k (k.wrap (x * y)))
  | .quo => if y = 0 then none else some (.int k (k.wrap (x.tdiv y)))
  | .rem => if y = 0 then none else some (.int k (x.tmod y))
  | .and | .or | .xor | .andNot => some (.int k (Go.bits op k x y))
  | .eql => some (.bool (x == y))
  | .neq => some (.bool (x != y))
  | .lss => some (.bool (decide (x < y)))
  | .leq => some (.bool (decide (x ≤ y)))
  | .gtr => some (.bool (decide (x > y)))
  | .geq => some (.bool (decide (x ≥ y)))
  | _ => none
def binS (op : BinOp) (x y : ByteArray) : Option Value :=
  match op with
  | .add => if ((x.size + y.size : Nat) : Int) > 9223372036854775807 then none else some (.string (x ++ y))
  | .eql => some (.bool (x.toList == y.toList))
  | .neq => some (.bool !(x.toList == y.toList))
  | _ => none
def shiftI (op : BinOp) (k : IntKind) (x y : Int) : Option Value :=
  if y < 0 then none else
  match op with
  | .shl => some (.int k (k.wrap (x * 2 ^ (min y.toNat k.bits))))
  | .shr => some (.int k (x.fdiv (2 ^ (min y.toNat k.bits))))
  | _ => none
def eqV (P : Program) (t : TypeId) (x y : Value) : Option Bool :=
  match cls? P t, x, y with
  | some .bool, .bool a, .bool b => some (a == b)
  | some .sl, .slice none _ _, .slice b _ _ => some b.isNone
  | some .sl, .slice _ _ _, .slice none _ _ => some false
  | some .ptr, .pointer none, .pointer b => some b.isNone
  | some .ptr, .pointer _, .pointer none => some false
  | _, _, _ => none
def binV (P : Program) (op : BinOp) (t : TypeId) (x y : Value) : Option Value :=
  match x, y with
  | .int k a, .int k' b =>
    match op with
    | .shl | .shr => shiftI op k a b
    | _ => if k = k' then binI op k a b else none
  | .string a, .string b => binS op a b
  | x, y => match op with
    | .eql => (eqV P t x y).map .bool
    | .neq => (eqV P t x y).map fun b => .bool !b
    | _ => none
def unV (op : UnOp) (x : Value) : Option Value :=
  match op, x with
  | .neg, .int k n => some (.int k (k.wrap (0 - n)))
  | .not, .bool b => some (.bool !b)
  | _, _ => none


/-! ### Operations on rows -/
def newV (h : Heap) (sz : Nat) (cs : List Value) : Value × Heap := (.pointer (some ⟨h.n, 0, none⟩), h.push ⟨true, sz, cs⟩)
def loadV (P : Program) (h : Heap) (t : TypeId) : Value → Option Value
  | .pointer (some a) =>
    match h.get a.block with
    | some k => match agg? P t with
      | some true => (match sz? P t with | some n => (rd k.cs a.off n).map fun l => .agg l.toArray | none => none)
      | some false => k.cs[a.off]?
      | none => none
    | none => none
  | _ => none
def storeV (P : Program) (h : Heap) (t : TypeId) (x y : Value) : Option Heap :=
  match x, cellsL y, sz? P t with
  | .pointer (some a), some vs, some n =>
    match h.get a.block with
    | some k => if k.w = true ∧ vs.length = n ∧ vs.all okCell = true then (wrt k.cs a.off vs).map fun cs => h.set a.block ⟨true, k.sz, cs⟩ else none
    | none => none
  | _, _, _ => none
def fieldAddrV (P : Program) (s : TypeId) (x : Value) (f : Nat) : Option Value :=
  match x, fld? P s f with
  | .pointer (some a), some (off, n + 1, _) => some (.pointer (some ⟨a.block, a.off + off, none⟩))
  | _, _ => none
def partV (cs : List Value) : Nat × Nat × Bool → Option Value
  | (off, n, true) => (rd cs off n).map fun l => .agg l.toArray
  | (off, _, false) => cs[off]?
def fieldV (P : Program) (s : TypeId) (x : Value) (f : Nat) : Option Value :=
  match x, fld? P s f with
  | .agg cs, some p => partV cs.toList p
  | _, _ => none
def indexAddrV (P : Program) (t : TypeId) (x ix : Value) : Option Value :=
  match x, ix, elt? P t with
  | .slice (some a) len _, .int _ i, some (_, sz, _) => if 0 ≤ i ∧ i < len then some (.pointer (some ⟨a.block, a.off + i.toNat * sz, none⟩)) else none
  | _, _, _ => none
def indexV (P : Program) (t : TypeId) (x ix : Value) : Option Value :=
  match x, ix, cls? P t with
  | .string s, .int _ i, some .str => if 0 ≤ i then (match s[i.toNat]? with | some b => some (.int .u8 b.toNat) | none => none) else none
  | _, _, _ => none
def extractV (x : Value) (i : Nat) : Option Value :=
  match x with
  | .tuple vs => vs[i]?
  | _ => none
/-- The cells of parts, one behind the other, each as large as it must be. -/
def fillL (place : Nat → Option (Nat × Nat)) (e : Env) : List (Nat × Operand) → List Value → Option (List Value)
  | [], cs => some cs
  | (i, x) :: r, cs =>
    match place i, cellsL (e.op x) with
    | some (off, n), some vs => if vs.length = n then (match wrt cs off vs with | some cs' => fillL place e r cs' | none => none) else none
    | _, _ => none
def repL (n : Nat) (z : List Value) : List Value := (List.replicate n z).flatten
def bound? (len : Nat) : Option Value → Nat → Option Nat
  | none, d => some d
  | some (.int _ i), _ => if 0 ≤ i ∧ i ≤ len then some i.toNat else none
  | _, _ => none
def sliceV (P : Program) (h : Heap) (t : TypeId) (x : Value) (lo hi mx : Option Value) : Option Value :=
  match x, elt? P t with
  | .slice a len _, some (_, sz, _) =>
    if mx.isSome = true ∧ hi.isNone = true then none else
    match bound? len mx len with
    | some m => match bound? m hi len with
      | some hh => match bound? hh lo 0 with
        | some l => match a with
          | none => some (.slice none 0 0)
          | some a => match h.get a.block with
            | some k => if k.w = false ∨ k.sz = sz then some (.slice (some ⟨a.block, a.off + l * sz, none⟩) (hh - l) (hh - l)) else none
            | none => none
        | none => none
      | none => none
    | none => none
  | .string s, none => match cls? P t, mx with
    | some .str, none => match bound? s.size hi s.size with
      | some hh => match bound? hh lo 0 with
        | some l => some (.string (s.extract l hh))
        | none => none
      | none => none
    | _, _ => none
  | _, _ => none
def byteV : Value → Option UInt8
  | .int .u8 n => some (UInt8.ofNat n.toNat)
  | _ => none
def bytesL : List Value → Option (List UInt8)
  | [] => some []
  | v :: l => match byteV v, bytesL l with
    | some b, some r => some (b :: r)
    | _, _ => none
def srcV (h : Heap) (sz : Nat) : Value → Option (Nat × List Value)
  | .slice none _ _ => some (0, [])
  | .slice (some a) n _ => match h.get a.block with
    | some k => (rd k.cs a.off (n * sz)).map fun l => (n, l)
    | none => if n = 0 then some (0, []) else none
  | _ => none
def convV (P : Program) (h : Heap) (s d : TypeId) (x : Value) : Option (Value × Heap) :=
  match cls? P s, cls? P d, x with
  | some (.int _), some (.int k), .int _ n => some (.int k (k.wrap n), h)
  | some .str, some .str, .string b => some (.string b, h)
  | some .sl, some .str, v => match elt? P s, srcV h 1 v with
    | some (e, 1, _), some (_, l) => match cls? P e, bytesL l with
      | some (.int .u8), some bs => some (.string ⟨bs.toArray⟩, h)
      | _, _ => none
    | _, _ => none
  | some .str, some .sl, .string b => match elt? P d with
    | some (e, 1, 1) => match cls? P e with
      | some (.int .u8) => if b.size ≤ 1048576 then some (.slice (some ⟨h.n, 0, none⟩) b.size b.size, h.push ⟨true, 1, b.data.toList.map fun x => .int .u8 x.toNat⟩) else none
      | _ => none
    | _ => none
  | _, _, _ => none
def most : Nat := 1099511627776
def appendV (P : Program) (h : Heap) (t : TypeId) (x y : Value) : Option (Value × Heap) :=
  match x, elt? P t with
  | .slice a n _, some (e, sz + 1, by_) =>
    match srcV h (sz + 1) y, zr? P e with
    | some (m, news), some z =>
      if z.length = sz + 1 ∧ (n + m) * (by_ + 1) ≤ most ∧ news.all okCell = true then
        if m = 0 then some (.slice a n n, h) else
        match a with
        | none => some (.slice (some ⟨h.n, 0, none⟩) m m, h.push ⟨true, sz + 1, news⟩)
        | some a => match h.get a.block with
          | some k => if k.w = true ∧ k.sz = sz + 1 ∧ a.off = 0 then (rd k.cs 0 (n * (sz + 1))).map fun olds => (.slice (some ⟨h.n, 0, none⟩) (n + m) (n + m), (h.kill a.block).push ⟨true, sz + 1, olds ++ news⟩) else none
          | none => none
      else none
    | _, _ => none
  | _, _ => none
def minmaxV (f : Int → Int → Int) : List Value → Option Value
  | [.int k x, .int k' y] => if k = k' then some (.int k (f x y)) else none
  | [.int k x, .int k' y, .int k'' z] => if k = k' ∧ k = k'' then some (.int k (f (f x y) z)) else none
  | _ => none
def mxI (a b : Int) : Int := if b > a then b else a
def mnI (a b : Int) : Int := if b < a then b else a
def builtinV (P : Program) (h : Heap) (b : Builtin) (ts : List TypeId) (xs : List Value) : Option (Value × Heap) :=
  match b, ts, xs with
  | .len, [t], [.string s] => match cls? P t with | some .str => some (.int .i64 s.size, h) | _ => none
  | .len, [t], [.slice _ n _] => match cls? P t with | some .sl => some (.int .i64 n, h) | _ => none
  | .cap, [t], [.slice none _ _] => match cls? P t with | some .sl => some (.int .i64 0, h) | _ => none
  | .append, [t, u], [x, y] => if (match cls? P u with | some .sl => true | _ => false) then appendV P h t x y else none
  | .max, _, xs => (minmaxV mxI xs).map (·, h)
  | .min, _, xs => (minmaxV mnI xs).map (·, h)
  | _, _, _ => none
def makeSliceV (P : Program) (h : Heap) (t : TypeId) (l c : Value) : Option (Value × Heap) :=
  match l, c, elt? P t with
  | .int .i64 l, .int .i64 c, some (e, sz, by_) => match zr? P e with
    | some z => if z.length = sz ∧ 0 < sz ∧ l = c ∧ 0 ≤ l ∧ l.toNat * (by_ + 1) ≤ most then some (.slice (some ⟨h.n, 0, none⟩) l.toNat l.toNat, h.push ⟨true, sz, repL l.toNat z⟩) else none
    | none => none
  | _, _, _ => none
def ptrV : Value → Bool
  | .pointer (some _) => true
  | _ => false

/-- One operation that calls no Go function: its value, and the heap behind it. -/
def opv (P : Program) (e : Env) (h : Heap) : Op → Option (Value × Heap)
  | .move x => some (e.op x, h)
  | .assign x => some (e.op x, h)
  | .pick c a b => match e.op c with
    | .bool true => some (e.op a, h)
    | .bool false => some (e.op b, h)
    | _ => none
  | .alloc t => match zr? P t, sz? P t with
    | some z, some n => some (newV h n z)
    | _, _ => none
  | .box t x => match cellsL (e.op x), sz? P t with
    | some cs, some n => some (newV h n cs)
    | _, _ => none
  | .build t parts => match zr? P t with
    | some z => if bldOk P t = true then (fillL (fun i => (fld? P t i).map fun p => (p.1, p.2.1)) e parts.toList z).map fun l => (.agg l.toArray, h) else none
    | none => none
  | .buildSlice t n parts => match elt? P t with
    | some (u, sz, by_) => match zr? P u with
      | some z => if n ≤ 64 ∧ z.length = sz ∧ sz ≤ 64 then (fillL (fun i => some (i * sz, sz)) e parts.toList (repL n z)).map fun l => (.slice (some ⟨h.n, 0, none⟩) n n, h.push ⟨true, sz, l⟩) else none
      | none => none
    | none => none
  | .load t x => (loadV P h t (e.op x)).map (·, h)
  | .store t x y => (storeV P h t (e.op x) (e.op y)).map (undef, ·)
  | .nilCheck x => if ptrV (e.op x) then some (e.op x, h) else none
  | .binOp op t x y _ => (binV P op t (e.op x) (e.op y)).map (·, h)
  | .unOp op _ x => (unV op (e.op x)).map (·, h)
  | .convert s d x => convV P h s d (e.op x)
  | .makeFunc (.func f) first caps => if first.size = 0 ∧ (caps.toList.all fun x => ptrV (e.op x)) = true then some (.func (.func f) #[] (caps.map e.op), h) else none
  | .makeSlice t l c => makeSliceV P h t (e.op l) (e.op c)
  | .slice t x lo hi mx => (sliceV P h t (e.op x) (lo.map e.op) (hi.map e.op) (mx.map e.op)).map (·, h)
  | .fieldAddr s x f => (fieldAddrV P s (e.op x) f).map (·, h)
  | .field s x f => (fieldV P s (e.op x) f).map (·, h)
  | .indexAddr t x ix => (indexAddrV P t (e.op x) (e.op ix)).map (·, h)
  | .index t x ix => (indexV P t (e.op x) (e.op ix)).map (·, h)
  | .extract x i => (extractV (e.op x) i).map (·, h)
  | .call { callee := .builtin b, args := xs, argTypes := ts } => builtinV P h b ts.toList (xs.toList.map e.op)
  | _ => none

end Go.Ai
