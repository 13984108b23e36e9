/- Deep values, part 1: what a slot may hold besides a plain value: rows that are only read, told by all that they hold; and what one operation does to such slots. Nothing about the program stands here. -/
import Derived.Test.YtdakdjpndomdpaaAi18
set_option linter.unusedVariables false
namespace Go.Bi
open Go.Ai

/-- What a cell holds: a plain value, or a row of elements of z cells each. -/
inductive T where
  | v (x : Value)
  | l (z : Nat) (es : List (List T))
/-- Where the rows below stand. -/
abbrev Adr := List Nat → Value
inductive X where
  | raw (x : Value)
  | sl (f : Adr) (z : Nat) (es : List (List T))
  | pr (a : Value) (f : Adr) (cs : List T)
  | st (xs : List X)
  | tp (xs : List X)
mutual
def er : X → Value
  | .raw x => x
  | .sl f _ _ => f []
  | .pr a _ _ => a
  | .st xs => .agg (ers xs).toArray
  | .tp xs => .tuple (ers xs).toArray
def ers : List X → List Value
  | [] => []
  | x :: xs => er x :: ers xs
end
theorem ers_eq : ∀ xs, ers xs = xs.map er
  | [] => rfl
  | x :: xs => by simp [ers, ers_eq xs]

/-- A row of one's own. -/
structure OB where
  z : Nat
  cs : List X
structure H2 where
  n : Nat
  get : Nat → Option OB
def H2.push (h : H2) (k : OB) : H2 := ⟨h.n + 1, fun b => if b = h.n then some k else h.get b⟩
def H2.set (h : H2) (b : Nat) (k : OB) : H2 := ⟨h.n, fun b' => if b' = b then some k else h.get b'⟩
def H2.kill (h : H2) (b : Nat) : H2 := ⟨h.n, fun b' => if b' = b then none else h.get b'⟩
/-- Rows were made of which nothing is told. -/
def H2.up (h : H2) (n : Nat) : H2 := ⟨n, h.get⟩

def below (f : Adr) (i j : Nat) : Adr := fun p => f (i :: j :: p)
def under (f : Adr) (j : Nat) : Adr := fun p => f (j :: p)

inductive Rep (h : Heap) (g : H2) : Adr → T → Prop
  | v {f : Adr} {x : Value} : f [] = x → Rep h g f (.v x)
  | l {f : Adr} {z : Nat} {es : List (List T)} (a : Option Addr) (c : Nat) : f [] = .slice a es.length c → (∀ e ∈ es, e.length = z) →
      ((a = none ∧ es = []) ∨ ∃ b off w k cs, a = some ⟨b, off, none⟩ ∧ b < h.n ∧ g.get b = none ∧ h.get b = some ⟨w, k, cs⟩ ∧ (w = true → k = z) ∧ off ≤ cs.length ∧ ∀ i j, i < es.length → j < z → cs[off + i * z + j]? = some (f [i, j])) →
      (∀ i j t, ((es[i]?).bind (·[j]?)) = some t → Rep h g (below f i j) t) → Rep h g f (.l z es)
inductive Ok (h : Heap) (g : H2) : X → Prop
  | raw {x : Value} : Ok h g (.raw x)
  | sl {f : Adr} {z : Nat} {es : List (List T)} : Rep h g f (.l z es) → Ok h g (.sl f z es)
  | pr {b off : Nat} {f : Adr} {ts : List T} {w : Bool} {k : Nat} {cs : List Value} : b < h.n → g.get b = none → h.get b = some ⟨w, k, cs⟩ → off ≤ cs.length → (∀ j t, ts[j]? = some t → cs[off + j]? = some (f [j])) →
      (∀ j t, ts[j]? = some t → Rep h g (under f j) t) → Ok h g (.pr (.pointer (some ⟨b, off, none⟩)) f ts)
  | st {xs : List X} : (∀ x ∈ xs, Ok h g x) → Ok h g (.st xs)
  | tp {xs : List X} : (∀ x ∈ xs, Ok h g x) → Ok h g (.tp xs)
structure S (g : H2) (h : Heap) : Prop where
  n : g.n = h.n
  row : ∀ b k, g.get b = some k → b < h.n ∧ h.get b = some ⟨true, k.z, k.cs.map er⟩ ∧ ∀ x ∈ k.cs, Ok h g x

/-- From one state to a later one: what was not one's own is as it was, and is not one's own. -/
structure Ext (g : H2) (h : Heap) (g' : H2) (h' : Heap) : Prop where
  n : h.n ≤ h'.n
  keep : ∀ b, b < h.n → g.get b = none → h'.get b = h.get b
  non : ∀ b, b < h.n → g.get b = none → g'.get b = none
theorem Ext.refl {g : H2} {h : Heap} : Ext g h g h := ⟨Nat.le_refl _, fun _ _ _ => rfl, fun _ _ h => h⟩
theorem Ext.trans {g g' g'' : H2} {h h' h'' : Heap} (a : Ext g h g' h') (b : Ext g' h' g'' h'') : Ext g h g'' h'' :=
  ⟨Nat.le_trans a.n b.n, fun x hx hg => (b.keep x (Nat.lt_of_lt_of_le hx a.n) (a.non x hx hg)).trans (a.keep x hx hg), fun x hx hg => b.non x (Nat.lt_of_lt_of_le hx a.n) (a.non x hx hg)⟩
theorem Rep.mono {g g' : H2} {h h' : Heap} (x : Ext g h g' h') {f : Adr} {t : T} (r : Rep h g f t) : Rep h' g' f t := by
  induction r with
  | v h1 => exact .v h1
  | l a c h1 h2 h3 h4 ih =>
    refine .l a c h1 h2 (h3.imp_right ?_) ih
    rintro ⟨b, off, w, k, cs, e1, e2, e3, e4, e5, e6⟩
    exact ⟨b, off, w, k, cs, e1, Nat.lt_of_lt_of_le e2 x.n, x.non b e2 e3, by rw [x.keep b e2 e3]; exact e4, e5, e6⟩
theorem Ok.mono {g g' : H2} {h h' : Heap} (x : Ext g h g' h') {y : X} (r : Ok h g y) : Ok h' g' y := by
  induction r with
  | raw => exact .raw
  | sl h1 => exact .sl (h1.mono x)
  | pr h1 h2 h3 h0 h4 h5 => exact .pr (Nat.lt_of_lt_of_le h1 x.n) (x.non _ h1 h2) (by rw [x.keep _ h1 h2]; exact h3) h0 h4 fun j t ht => (h5 j t ht).mono x
  | st _ ih => exact .st ih
  | tp _ ih => exact .tp ih

/-! ### Slots -/
abbrev E2 := Nat → X
def E2.put (e : E2) (d : Nat) (v : X) : E2 := fun t => if t = d then v else e t
def E2.putO (e : E2) : Option Nat → X → E2
  | some d, v => e.put d v
  | none, _ => e
def ofG : Value → X
  | .agg cs => .st (cs.toList.map .raw)
  | v => .raw v
def ofV : Value → X
  | .agg cs => .st (cs.toList.map .raw)
  | .tuple vs => .tp (vs.toList.map ofG)
  | v => .raw v
def E2.op (e : E2) : Operand → X
  | .tmp t => e t
  | .const v => ofV v
  | .global g => .raw (.pointer (some ⟨g, 0, none⟩))
  | .func f => .raw (.func (.func f) #[] #[])
theorem map_er_raw : ∀ l : List Value, (l.map X.raw).map er = l
  | [] => rfl
  | x :: l => by simp only [List.map_cons, er, map_er_raw l]
theorem er_ofG (v : Value) : er (ofG v) = v := by
  cases v <;> try rfl
  simp only [ofG, er, ers_eq, map_er_raw]
theorem map_er_ofG : ∀ l : List Value, (l.map ofG).map er = l
  | [] => rfl
  | x :: l => by simp only [List.map_cons, er_ofG, map_er_ofG l]
theorem er_ofV (v : Value) : er (ofV v) = v := by
  cases v <;> try rfl
  · simp only [ofV, er, ers_eq, map_er_raw]
  · simp only [ofV, er, ers_eq, map_er_ofG]
theorem ok_raws {h : Heap} {g : H2} : ∀ {l : List Value}, ∀ x ∈ l.map X.raw, Ok h g x := by
  intro l x hx
  obtain ⟨v, _, rfl⟩ := List.mem_map.1 hx
  exact .raw
theorem ok_ofG {h : Heap} {g : H2} (v : Value) : Ok h g (ofG v) := by
  cases v <;> try exact .raw
  exact .st ok_raws
theorem ok_ofV {h : Heap} {g : H2} (v : Value) : Ok h g (ofV v) := by
  cases v <;> try exact .raw
  · exact .st ok_raws
  · refine .tp fun x hx => ?_
    obtain ⟨v, _, rfl⟩ := List.mem_map.1 hx
    exact ok_ofG v
def E2.er (e : E2) : Env := fun t => Bi.er (e t)
theorem er_op (e : E2) (x : Operand) : Bi.er (e.op x) = (e.er).op x := by
  cases x <;> try rfl
  exact er_ofV _
theorem er_put (e : E2) (d : Option Nat) (v : X) : (e.putO d v).er = e.er.putO d (Bi.er v) := by
  cases d with
  | none => rfl
  | some d => funext t; simp only [E2.er, E2.putO, E2.put, Env.putO, Env.put]; split <;> rfl

/-! ### Operations -/
def rdL {α : Type} (cs : List α) (off n : Nat) : Option (List α) := if off + n ≤ cs.length then some ((cs.drop off).take n) else none
def wrtL {α : Type} (cs : List α) (off : Nat) (vs : List α) : Option (List α) :=
  if off + vs.length ≤ cs.length then some (cs.take off ++ vs ++ cs.drop (off + vs.length)) else none
def mkC (f : Adr) (j : Nat) : T → X
  | .v x => .raw x
  | .l z es => .sl (under f j) z es
def mkL (f : Adr) : Nat → List T → List X
  | _, [] => []
  | j, t :: r => mkC f j t :: mkL f (j + 1) r
def rawO (o : Option Value) : Option X := o.map .raw
def nilS : Value → Bool
  | .slice none _ _ => true
  | _ => false
def cellsX : X → Option (List X)
  | .st xs => some xs
  | .tp _ => none
  | .raw (.agg _) => none
  | .raw (.tuple _) => none
  | .raw (.chan _) => none
  | x => some [x]
def okX : X → Bool
  | .raw (.chan _) => false
  | .raw _ => true
  | .sl _ _ _ => true
  | .pr _ _ _ => true
  | _ => false
def binX (P : Program) (op : BinOp) (t : TypeId) : X → X → Option X
  | .raw a, .raw b => rawO (binV P op t a b)
  | .sl f _ _, .raw (.slice none _ _) => match op, cls? P t with
    | .eql, some .sl => some (.raw (.bool (nilS (f []))))
    | .neq, some .sl => some (.raw (.bool !(nilS (f []))))
    | _, _ => none
  | .pr _ _ _, .raw (.pointer none) => match op, cls? P t with
    | .eql, some .ptr => some (.raw (.bool false))
    | .neq, some .ptr => some (.raw (.bool true))
    | _, _ => none
  | _, _ => none
def unX (op : UnOp) : X → Option X
  | .raw a => rawO (unV op a)
  | _ => none
def loadX (P : Program) (g : H2) (t : TypeId) : X → Option X
  | .raw (.pointer (some a)) => match g.get a.block with
    | some k => match agg? P t with
      | some true => (match sz? P t with | some n => (rdL k.cs a.off n).map .st | none => none)
      | some false => k.cs[a.off]?
      | none => none
    | none => none
  | .pr _ f ts => match agg? P t with
    | some true => (match sz? P t with | some n => if n ≤ ts.length then some (.st (mkL f 0 (ts.take n))) else none | none => none)
    | some false => (match ts with | t :: _ => some (mkC f 0 t) | [] => none)
    | none => none
  | _ => none
def storeX (P : Program) (g : H2) (t : TypeId) (x y : X) : Option H2 :=
  match x, cellsX y, sz? P t with
  | .raw (.pointer (some a)), some vs, some n => match g.get a.block with
    | some k => if vs.length = n ∧ vs.all okX = true then (wrtL k.cs a.off vs).map fun cs => g.set a.block ⟨k.z, cs⟩ else none
    | none => none
  | _, _, _ => none
def offV (off : Nat) : Value → Value
  | .pointer (some a) => .pointer (some ⟨a.block, a.off + off, none⟩)
  | v => v
def shA (f : Adr) (off : Nat) : Adr
  | [] => f []
  | j :: p => f ((j + off) :: p)
def fieldAddrX (P : Program) (s : TypeId) (x : X) (f : Nat) : Option X :=
  match x with
  | .raw v => rawO (fieldAddrV P s v f)
  | .pr a g ts => match fld? P s f with
    | some (off, _ + 1, _) => if off ≤ ts.length then some (.pr (offV off a) (shA g off) (ts.drop off)) else none
    | _ => none
  | _ => none
def partX (cs : List X) : Nat × Nat × Bool → Option X
  | (off, n, true) => (rdL cs off n).map .st
  | (off, _, false) => cs[off]?
def fieldX (P : Program) (s : TypeId) (x : X) (f : Nat) : Option X :=
  match x, fld? P s f with
  | .st cs, some p => partX cs p
  | _, _ => none
def idxV (i z : Nat) : Value → Value
  | .slice (some a) _ _ => .pointer (some ⟨a.block, a.off + i * z, none⟩)
  | _ => undef
def indexAddrX (P : Program) (t : TypeId) (x ix : X) : Option X :=
  match x, ix with
  | .raw v, .raw i => rawO (indexAddrV P t v i)
  | .sl f z es, .raw (.int _ i) => match elt? P t with
    | some (_, sz, _) => if sz = z ∧ 0 ≤ i ∧ i.toNat < es.length then some (.pr (idxV i.toNat z (f [])) (under f i.toNat) (es.getD i.toNat [])) else none
    | none => none
  | _, _ => none
def indexX (P : Program) (t : TypeId) : X → X → Option X
  | .raw v, .raw i => rawO (indexV P t v i)
  | _, _ => none
def extractX (x : X) (i : Nat) : Option X :=
  match x with
  | .tp vs => vs[i]?
  | _ => none
def fillX (place : Nat → Option (Nat × Nat)) (e : E2) : List (Nat × Operand) → List X → Option (List X)
  | [], cs => some cs
  | (i, x) :: r, cs =>
    match place i, cellsX (e.op x) with
    | some (off, n), some vs => if vs.length = n then (match wrtL cs off vs with | some cs' => fillX place e r cs' | none => none) else none
    | _, _ => none
def rawV : X → Option Value
  | .raw v => some v
  | _ => none
def boundX (len : Nat) : Option X → Nat → Option Nat
  | none, d => some d
  | some (.raw (.int _ i)), _ => if 0 ≤ i ∧ i ≤ len then some i.toNat else none
  | _, _ => none
def subV (l n z : Nat) : Value → Value
  | .slice (some a) _ _ => .slice (some ⟨a.block, a.off + l * z, none⟩) n n
  | _ => .slice none 0 0
def subA (f : Adr) (l n z : Nat) : Adr
  | [] => subV l n z (f [])
  | i :: p => f ((i + l) :: p)
def sliceX (P : Program) (g : H2) (t : TypeId) (x : X) (lo hi mx : Option X) : Option X :=
  if mx.isSome = true then none else
  match x with
  | .raw (.slice none len _) => match elt? P t with
    | some _ => (match boundX len hi len with
      | some hh => match boundX hh lo 0 with
        | some _ => some (.raw (.slice none 0 0))
        | none => none
      | none => none)
    | none => none
  | .raw (.slice (some a) len _) => match elt? P t, g.get a.block with
    | some (_, sz, _), some k => if k.z = sz then (match boundX len hi len with
      | some hh => match boundX hh lo 0 with
        | some l => some (.raw (.slice (some ⟨a.block, a.off + l * sz, none⟩) (hh - l) (hh - l)))
        | none => none
      | none => none) else none
    | _, _ => none
  | .raw (.string s) => (match cls? P t with
    | some .str => match boundX s.size hi s.size with
      | some hh => match boundX hh lo 0 with
        | some l => some (.raw (.string (s.extract l hh)))
        | none => none
      | none => none
    | _ => none)
  | .sl f z es => match elt? P t with
    | some (_, sz, _) => if sz = z then (match boundX es.length hi es.length with
      | some hh => match boundX hh lo 0 with
        | some l => some (.sl (subA f l (hh - l) z) z ((es.drop l).take (hh - l)))
        | none => none
      | none => none) else none
    | none => none
  | _ => none
def flatX (f : Adr) : Nat → List (List T) → List X
  | _, [] => []
  | i, e :: r => mkL (under f i) 0 e ++ flatX f (i + 1) r
def srcX (g : H2) (sz : Nat) : X → Option (Nat × List X)
  | .raw (.slice none _ _) => some (0, [])
  | .raw (.slice (some a) n _) => match g.get a.block with
    | some k => (rdL k.cs a.off (n * sz)).map fun l => (n, l)
    | none => none
  | .sl f z es => if z = sz then some (es.length, flatX f 0 es) else none
  | _ => none
def bytesX : List X → Option (List UInt8)
  | [] => some []
  | .raw v :: l => match byteV v, bytesX l with
    | some b, some r => some (b :: r)
    | _, _ => none
  | _ :: _ => none
def convX (P : Program) (g : H2) (s d : TypeId) (x : X) : Option (X × H2) :=
  match cls? P s, cls? P d, x with
  | some (.int _), some (.int k), .raw (.int _ n) => some (.raw (.int k (k.wrap n)), g)
  | some .str, some .str, .raw (.string b) => some (.raw (.string b), g)
  | some .sl, some .str, v => match elt? P s, srcX g 1 v with
    | some (e, 1, _), some (_, l) => match cls? P e, bytesX l with
      | some (.int .u8), some bs => some (.raw (.string ⟨bs.toArray⟩), g)
      | _, _ => none
    | _, _ => none
  | some .str, some .sl, .raw (.string b) => match elt? P d with
    | some (e, 1, 1) => match cls? P e with
      | some (.int .u8) => if b.size ≤ 1048576 then some (.raw (.slice (some ⟨g.n, 0, none⟩) b.size b.size), g.push ⟨1, b.data.toList.map fun x => .raw (.int .u8 x.toNat)⟩) else none
      | _ => none
    | _ => none
  | _, _, _ => none
def appendX (P : Program) (g : H2) (t : TypeId) (x y : X) : Option (X × H2) :=
  match x, elt? P t with
  | .raw (.slice a n c), some (e, sz + 1, by_) =>
    match srcX g (sz + 1) y, zr? P e with
    | some (m, news), some z =>
      if z.length = sz + 1 ∧ (n + m) * (by_ + 1) ≤ Ai.most ∧ news.all okX = true then
        if m = 0 then some (.raw (.slice a n n), g) else
        match a with
        | none => some (.raw (.slice (some ⟨g.n, 0, none⟩) m m), g.push ⟨sz + 1, news⟩)
        | some a => match g.get a.block with
          | some k => if k.z = sz + 1 ∧ a.off = 0 then (rdL k.cs 0 (n * (sz + 1))).map fun olds => (.raw (.slice (some ⟨g.n, 0, none⟩) (n + m) (n + m)), (g.kill a.block).push ⟨sz + 1, olds ++ news⟩) else none
          | none => none
      else none
    | _, _ => none
  | _, _ => none
def rawL : List X → Option (List Value)
  | [] => some []
  | .raw v :: l => (rawL l).map (v :: ·)
  | _ :: _ => none
def builtinX (P : Program) (g : H2) (b : Builtin) (ts : List TypeId) (xs : List X) : Option (X × H2) :=
  match b, ts, xs with
  | .len, [t], [.raw (.string s)] => match cls? P t with | some .str => some (.raw (.int .i64 s.size), g) | _ => none
  | .len, [t], [.raw (.slice _ n _)] => match cls? P t with | some .sl => some (.raw (.int .i64 n), g) | _ => none
  | .len, [t], [.sl _ _ es] => match cls? P t with | some .sl => some (.raw (.int .i64 es.length), g) | _ => none
  | .append, [t, u], [x, y] => match cls? P u with | some .sl => appendX P g t x y | _ => none
  | .max, _, xs => match rawL xs with | some l => (minmaxV mxI l).map (.raw ·, g) | none => none
  | .min, _, xs => match rawL xs with | some l => (minmaxV mnI l).map (.raw ·, g) | none => none
  | _, _, _ => none
def makeSliceX (P : Program) (g : H2) (t : TypeId) (l c : X) : Option (X × H2) :=
  match l, c, elt? P t with
  | .raw (.int .i64 l), .raw (.int .i64 c), some (e, sz, by_) => match zr? P e with
    | some z => if z.length = sz ∧ 0 < sz ∧ l = c ∧ 0 ≤ l ∧ l.toNat * (by_ + 1) ≤ Ai.most then some (.raw (.slice (some ⟨g.n, 0, none⟩) l.toNat l.toNat), g.push ⟨sz, (repL l.toNat z).map .raw⟩) else none
    | none => none
  | _, _, _ => none
/-- A row of which nothing is written any more: as one that is told by what it holds. -/
def toT : X → Option T
  | .raw v => if plainS v = true then some (.v v) else none
  | .sl _ z es => some (.l z es)
  | _ => none
def toTs : List X → Option (List T)
  | [] => some []
  | x :: l => match toT x, toTs l with
    | some t, some r => some (t :: r)
    | _, _ => none
def chunk (z : Nat) : Nat → List T → List (List T)
  | 0, _ => []
  | n + 1, l => l.take z :: chunk z n (l.drop z)
def pathX (p : List Nat) : X → Value
  | .raw v => v
  | .sl f _ _ => f p
  | x => er x
def litA (b n z : Nat) (cs : List X) : Adr
  | i :: j :: p => pathX p (cs.getD (i * z + j) (.raw undef))
  | _ => .slice (some ⟨b, 0, none⟩) n n
def litX (g : H2) (n z : Nat) (cs : List X) : X × H2 :=
  match n, toTs cs with
  | m + 1, some ts => (.sl (litA g.n (m + 1) z cs) z (chunk z (m + 1) ts), g.up (g.n + 1))
  | n, _ => (.raw (.slice (some ⟨g.n, 0, none⟩) n n), g.push ⟨z, cs⟩)
def ptrX : X → Bool
  | .raw (.pointer (some _)) => true
  | .pr _ _ _ => true
  | _ => false
def newX (g : H2) (z : Nat) (cs : List X) : X × H2 := (.raw (.pointer (some ⟨g.n, 0, none⟩)), g.push ⟨z, cs⟩)

def opx (P : Program) (e : E2) (g : H2) : Op → Option (X × H2)
  | .move x => some (e.op x, g)
  | .assign x => some (e.op x, g)
  | .pick c a b => match e.op c with
    | .raw (.bool true) => some (e.op a, g)
    | .raw (.bool false) => some (e.op b, g)
    | _ => none
  | .alloc t => match zr? P t, sz? P t with
    | some z, some n => some (newX g n (z.map .raw))
    | _, _ => none
  | .box t x => match cellsX (e.op x), sz? P t with
    | some cs, some n => some (newX g n cs)
    | _, _ => none
  | .build t parts => match zr? P t with
    | some z => if bldOk P t = true then (fillX (fun i => (fld? P t i).map fun p => (p.1, p.2.1)) e parts.toList (z.map .raw)).map fun l => (.st l, g) else none
    | none => none
  | .buildSlice t n parts => match elt? P t with
    | some (u, sz, by_) => match zr? P u with
      | some z => if n ≤ 64 ∧ z.length = sz ∧ sz ≤ 64 then (fillX (fun i => some (i * sz, sz)) e parts.toList ((repL n z).map .raw)).map fun l => litX g n sz l else none
      | none => none
    | none => none
  | .load t x => (loadX P g t (e.op x)).map (·, g)
  | .store t x y => (storeX P g t (e.op x) (e.op y)).map (.raw undef, ·)
  | .nilCheck x => if ptrX (e.op x) then some (e.op x, g) else none
  | .binOp op t x y _ => (binX P op t (e.op x) (e.op y)).map (·, g)
  | .unOp op _ x => (unX op (e.op x)).map (·, g)
  | .convert s d x => convX P g s d (e.op x)
  | .makeFunc (.func f) first caps => match rawL (caps.toList.map e.op) with
    | some l => if first.size = 0 ∧ l.all ptrV = true then some (.raw (.func (.func f) #[] l.toArray), g) else none
    | none => none
  | .makeSlice t l c => makeSliceX P g t (e.op l) (e.op c)
  | .slice t x lo hi mx => (sliceX P g t (e.op x) (lo.map e.op) (hi.map e.op) (mx.map e.op)).map (·, g)
  | .fieldAddr s x f => (fieldAddrX P s (e.op x) f).map (·, g)
  | .field s x f => (fieldX P s (e.op x) f).map (·, g)
  | .indexAddr t x ix => (indexAddrX P t (e.op x) (e.op ix)).map (·, g)
  | .index t x ix => (indexX P t (e.op x) (e.op ix)).map (·, g)
  | .extract x i => (extractX (e.op x) i).map (·, g)
  | .call { callee := .builtin b, args := xs, argTypes := ts } => builtinX P g b ts.toList (xs.toList.map e.op)
  | _ => none

end Go.Bi
