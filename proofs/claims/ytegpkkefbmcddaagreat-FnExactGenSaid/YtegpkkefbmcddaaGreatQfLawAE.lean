/- Own lemmas that the theorem of this claim needs: the abstract machine and walks of functions. -/
import Derived.Test.YtegpkkefbmcddaaGreatQfLawAD
set_option linter.unusedSimpArgs false
set_option linter.unusedVariables false
section
namespace Go.Bi
open Go.Ai
inductive T where
 | v (x : Value)
 | l (z : Nat) (es : List (List T))
abbrev AQ := List Nat → Value
inductive X where
 | raw (x : Value)
 | sl (f : AQ) (z : Nat) (es : List (List T))
 | pr (a : Value) (f : AQ) (cs : List T)
 | st (xs : List X)
 | tp (xs : List X)
mutual
def er : X → Value
 | .raw x => x
 | .sl f _ _ => f []
 | .pr a _ _ => a
 | .st xs => .agg (fG xs).toArray
 | .tp xs => .tuple (fG xs).toArray
def fG : List X → List Value
 | [] => []
 | x :: xs => er x :: fG xs
end
theorem Cy : ∀ xs, fG xs = xs.map er
 | [] => rfl
 | x :: xs => by simp [fG, Cy xs]
structure OB where
 z : Nat
 cs : List X
structure H2 where
 n : Nat
 get : Nat → Option OB
def H2.push (h : H2) (k : OB) : H2 := ⟨h.n + 1, fun b => if b = h.n then some k else h.get b⟩
def H2.set (h : H2) (b : Nat) (k : OB) : H2 := ⟨h.n, fun b' => if b' = b then some k else h.get b'⟩
def H2.kill (h : H2) (b : Nat) : H2 := ⟨h.n, fun b' => if b' = b then none else h.get b'⟩
def H2.up (h : H2) (n : Nat) : H2 := ⟨n, h.get⟩
def below (f : AQ) (i j : Nat) : AQ := fun p => f (i :: j :: p)
def under (f : AQ) (j : Nat) : AQ := fun p => f (j :: p)
inductive JY (h : Heap) (g : H2) : AQ → T → Prop
  | v {f : AQ} {x : Value} : f [] = x → JY h g f (.v x)
  | l {f : AQ} {z : Nat} {es : List (List T)} (a : Option Addr) (c : Nat) : f [] = .slice a es.length c → (∀ e ∈ es, e.length = z) →
      ((a = none ∧ es = []) ∨ ∃ b off w k cs, a = some ⟨b, off, none⟩ ∧ b < h.n ∧ g.get b = none ∧ h.get b = some ⟨w, k, cs⟩ ∧ (w = true → k = z) ∧ off ≤ cs.length ∧ ∀ i j, i < es.length → j < z → cs[off + i * z + j]? = some (f [i, j])) →
      (∀ i j t, ((es[i]?).bind (·[j]?)) = some t → JY h g (below f i j) t) → JY h g f (.l z es)
  | o {f : AQ} {z : Nat} : f [] = .map none → JY h g f (.l z [])
inductive Ok (h : Heap) (g : H2) : X → Prop
  | raw {x : Value} : Ok h g (.raw x)
  | sl {f : AQ} {z : Nat} {es : List (List T)} : JY h g f (.l z es) → Ok h g (.sl f z es)
  | pr {b off : Nat} {f : AQ} {ts : List T} {w : Bool} {k : Nat} {cs : List Value} : b < h.n → g.get b = none → h.get b = some ⟨w, k, cs⟩ → off ≤ cs.length → (∀ j t, ts[j]? = some t → cs[off + j]? = some (f [j])) →
      (∀ j t, ts[j]? = some t → JY h g (under f j) t) → Ok h g (.pr (.pointer (some ⟨b, off, none⟩)) f ts)
  | st {xs : List X} : (∀ x ∈ xs, Ok h g x) → Ok h g (.st xs)
  | tp {xs : List X} : (∀ x ∈ xs, Ok h g x) → Ok h g (.tp xs)
structure S (g : H2) (h : Heap) : Prop where
 n : g.n = h.n
 row : ∀ b k, g.get b = some k → b < h.n ∧ h.get b = some ⟨true, k.z, k.cs.map er⟩ ∧ ∀ x ∈ k.cs, Ok h g x
structure Ext (g : H2) (h : Heap) (g' : H2) (h' : Heap) : Prop where
 n : h.n ≤ h'.n
 keep : ∀ b, b < h.n → g.get b = none → h'.get b = h.get b
 non : ∀ b, b < h.n → g.get b = none → g'.get b = none
theorem Ext.refl {g : H2} {h : Heap} : Ext g h g h := ⟨Nat.le_refl _, fun _ _ _ => rfl, fun _ _ h => h⟩
theorem Ext.trans {g g' g'' : H2} {h h' h'' : Heap} (a : Ext g h g' h') (b : Ext g' h' g'' h'') : Ext g h g'' h'' :=
 ⟨Nat.le_trans a.n b.n, fun x hx hg => (b.keep x (Nat.lt_of_lt_of_le hx a.n) (a.non x hx hg)).trans (a.keep x hx hg), fun x hx hg => b.non x (Nat.lt_of_lt_of_le hx a.n) (a.non x hx hg)⟩
theorem JY.mono {g g' : H2} {h h' : Heap} (x : Ext g h g' h') {f : AQ} {t : T} (r : JY h g f t) : JY h' g' f t := by
 induction r with
 | v h1 => exact .v h1
 | o h1 => exact .o h1
 | l a c h1 h2 h3 h4 ih =>
  refine .l a c h1 h2 (h3.imp_right ?_) ih
  rintro ⟨b, off, w, k, cs, e1, e2, e3, e4, e5, e6⟩
  exact ⟨b, off, w, k, cs, e1, Nat.lt_of_lt_of_le e2 x.n, x.non b e2 e3, by rw [x.keep b e2 e3]; exact e4, e5, e6⟩
theorem Ok.mono {g g' : H2} {h h' : Heap} (x : Ext g h g' h') {y : X} (r : Ok h g y) : Ok h' g' y := by
 induction r with
 | raw => exact .raw
 | sl h1 => exact .sl (h1.mono x)
 | pr h1 h2 h3 h0 h4 h5 => exact .pr (Nat.lt_of_lt_of_le h1 x.n) (x.non _ h1 h2) (by rw [x.keep _ h1 h2]; exact h3) h0 h4 fun j t ht => (h5 j t ht).mono x
 | st _ ih => exact .st ih
 | tp _ ih => exact .tp ih
abbrev E2 := Nat → X
def E2.put (e : E2) (d : Nat) (v : X) : E2 := fun t => if t = d then v else e t
def E2.putO (e : E2) : Option Nat → X → E2
 | some d, v => e.put d v
 | none, _ => e
def fF : Value → X
 | .agg cs => .st (cs.toList.map .raw)
 | v => .raw v
def XM : Value → X
 | .agg cs => .st (cs.toList.map .raw)
 | .tuple vs => .tp (vs.toList.map fF)
 | v => .raw v
def E2.op (e : E2) : Operand → X
 | .tmp t => e t
 | .const v => XM v
 | .global g => .raw (.pointer (some ⟨g, 0, none⟩))
 | .func f => .raw (.func (.func f) #[] #[])
theorem DF : ∀ l : List Value, (l.map X.raw).map er = l
 | [] => rfl
 | x :: l => by simp only [List.map_cons, er, DF l]
theorem dV (v : Value) : er (fF v) = v := by
 cases v <;> try rfl
 simp only [fF, er, Cy, DF]
theorem LO : ∀ l : List Value, (l.map fF).map er = l
 | [] => rfl
 | x :: l => by simp only [List.map_cons, dV, LO l]
theorem dW (v : Value) : er (XM v) = v := by
 cases v <;> try rfl
 ·simp only [XM, er, Cy, DF]
 ·simp only [XM, er, Cy, LO]
theorem Ga {h : Heap} {g : H2} : ∀ {l : List Value}, ∀ x ∈ l.map X.raw, Ok h g x := by
 intro l x hx
 obtain ⟨v, _, rfl⟩ := List.mem_map.1 hx
 exact .raw
theorem dS {h : Heap} {g : H2} (v : Value) : Ok h g (fF v) := by
 cases v <;> try exact .raw
 exact .st Ga
theorem YV {h : Heap} {g : H2} (v : Value) : Ok h g (XM v) := by
 cases v <;> try exact .raw
 ·exact .st Ga
 ·refine .tp fun x hx => ?_
  obtain ⟨v, _, rfl⟩ := List.mem_map.1 hx
  exact dS v
def E2.er (e : E2) : Env := fun t => Bi.er (e t)
theorem CO (e : E2) (x : Operand) : Bi.er (e.op x) = (e.er).op x := by
 cases x <;> try rfl
 exact dW _
theorem dN (e : E2) (d : Option Nat) (v : X) : (e.putO d v).er = e.er.putO d (Bi.er v) := by
 cases d with
 | none => rfl
 | some d => funext t; simp only [E2.er, E2.putO, E2.put, Env.putO, Env.put]; split <;> rfl
def JZ {α : Type} (cs : List α) (off n : Nat) : Option (List α) := if off + n ≤ cs.length then some ((cs.drop off).take n) else none
def Ct {α : Type} (cs : List α) (off : Nat) (vs : List α) : Option (List α) :=
 if off + vs.length ≤ cs.length then some (cs.take off ++ vs ++ cs.drop (off + vs.length)) else none
def Qx (f : AQ) (j : Nat) : T → X
 | .v x => .raw x
 | .l z es => .sl (under f j) z es
def Gm (f : AQ) : Nat → List T → List X
 | _, [] => []
 | j, t :: r => Qx f j t :: Gm f (j + 1) r
def IA (o : Option Value) : Option X := o.map .raw
def P5 : Value → Bool
 | .slice none _ _ => true
 | _ => false
def A3 : X → Option (List X)
 | .st xs => some xs
 | .tp _ => none
 | .raw (.agg _) => none
 | .raw (.tuple _) => none
 | .raw (.chan _) => none
 | x => some [x]
def E8 : X → Bool
 | .raw (.chan _) => false
 | .raw _ => true
 | .sl _ _ _ => true
 | .pr _ _ _ => true
 | _ => false
def Gw : List X → Option (List Value)
 | [] => some []
 | .raw v :: l => (Gw l).map (v :: ·)
 | _ :: _ => none
def LB (P : Program) (op : BinOp) (t : TypeId) : X → X → Option X
 | .raw a, .raw b => IA (binV P op t a b)
 | .sl f _ _, .raw (.slice none _ _) => match op, cls? P t with
  | .eql, some .sl => some (.raw (.bool (P5 (f []))))
  | .neq, some .sl => some (.raw (.bool !(P5 (f []))))
  | _, _ => none
 | .pr _ _ _, .raw (.pointer none) => match op, cls? P t with
  | .eql, some .ptr => some (.raw (.bool false))
  | .neq, some .ptr => some (.raw (.bool true))
  | _, _ => none
 | .st a, .st b => match Gw a, Gw b with
  | some u, some v => IA (binV P op t (.agg u.toArray) (.agg v.toArray))
  | _, _ => none
 | _, _ => none
def fT (op : UnOp) : X → Option X
 | .raw a => IA (unV op a)
 | _ => none
def HE (P : Program) (g : H2) (t : TypeId) : X → Option X
 | .raw (.pointer (some a)) => match g.get a.block with
  | some k => match agg? P t with
   | some true => (match sz? P t with | some n => (JZ k.cs a.off n).map .st | none => none)
   | some false => k.cs[a.off]?
   | none => none
  | none => none
 | .pr _ f ts => match agg? P t with
  | some true => (match sz? P t with | some n => if n ≤ ts.length then some (.st (Gm f 0 (ts.take n))) else none | none => none)
  | some false => (match ts with | t :: _ => some (Qx f 0 t) | [] => none)
  | none => none
 | _ => none
def IM (P : Program) (g : H2) (t : TypeId) (x y : X) : Option H2 :=
 match x, A3 y, sz? P t with
 | .raw (.pointer (some a)), some vs, some n => match g.get a.block with
  | some k => if vs.length = n ∧ vs.all E8 = true then (Ct k.cs a.off vs).map fun cs => g.set a.block ⟨k.z, cs⟩ else none
  | none => none
 | _, _, _ => none
def eV (off : Nat) : Value → Value
 | .pointer (some a) => .pointer (some ⟨a.block, a.off + off, none⟩)
 | v => v
def fq (f : AQ) (off : Nat) : AQ
 | [] => f []
 | j :: p => f ((j + off) :: p)
def B7 (P : Program) (s : TypeId) (x : X) (f : Nat) : Option X :=
 match x with
 | .raw v => IA (fieldAddrV P s v f)
 | .pr a g ts => match fld? P s f with
  | some (off, _ + 1, _) => if off ≤ ts.length then some (.pr (eV off a) (fq g off) (ts.drop off)) else none
  | _ => none
 | _ => none
def XP (cs : List X) : Nat × Nat × Bool → Option X
 | (off, n, true) => (JZ cs off n).map .st
 | (off, _, false) => cs[off]?
def Wy (P : Program) (s : TypeId) (x : X) (f : Nat) : Option X :=
 match x, fld? P s f with
 | .st cs, some p => XP cs p
 | _, _ => none
def ca (i z : Nat) : Value → Value
 | .slice (some a) _ _ => .pointer (some ⟨a.block, a.off + i * z, none⟩)
 | _ => undef
def Cg (P : Program) (t : TypeId) (x ix : X) : Option X :=
 match x, ix with
 | .raw v, .raw i => IA (indexAddrV P t v i)
 | .sl f z es, .raw (.int _ i) => match elt? P t with
  | some (_, sz, _) => if sz = z ∧ 0 ≤ i ∧ i.toNat < es.length then some (.pr (ca i.toNat z (f [])) (under f i.toNat) (es.getD i.toNat [])) else none
  | none => none
 | _, _ => none
def Wx (P : Program) (t : TypeId) : X → X → Option X
 | .raw v, .raw i => IA (MV P t v i)
 | _, _ => none
def EG (x : X) (i : Nat) : Option X :=
 match x with
 | .tp vs => vs[i]?
 | _ => none
def Es (place : Nat → Option (Nat × Nat)) (e : E2) : List (Nat × Operand) → List X → Option (List X)
 | [], cs => some cs
 | (i, x) :: r, cs =>
  match place i, A3 (e.op x) with
  | some (off, n), some vs => if vs.length = n then (match Ct cs off vs with | some cs' => Es place e r cs' | none => none) else none
  | _, _ => none
def Bc (len : Nat) : Option X → Nat → Option Nat
 | none, d => some d
 | some (.raw (.int _ i)), _ => if 0 ≤ i ∧ i ≤ len then some i.toNat else none
 | _, _ => none
def Rp (l n z : Nat) : Value → Value
 | .slice (some a) _ _ => .slice (some ⟨a.block, a.off + l * z, none⟩) n n
 | .map none => .map none
 | _ => .slice none 0 0
def PL (f : AQ) (l n z : Nat) : AQ
 | [] => Rp l n z (f [])
 | i :: p => f ((i + l) :: p)
def Ig (P : Program) (g : H2) (t : TypeId) (x : X) (lo hi mx : Option X) : Option X :=
 if mx.isSome = true then none else
 match x with
 | .raw (.slice none len _) => match elt? P t with
  | some _ => (match Bc len hi len with
   | some hh => match Bc hh lo 0 with
    | some _ => some (.raw (.slice none 0 0))
    | none => none
   | none => none)
  | none => none
 | .raw (.slice (some a) len _) => match elt? P t, g.get a.block with
  | some (_, sz, _), some k => if k.z = sz then (match Bc len hi len with
   | some hh => match Bc hh lo 0 with
    | some l => some (.raw (.slice (some ⟨a.block, a.off + l * sz, none⟩) (hh - l) (hh - l)))
    | none => none
   | none => none) else none
  | _, _ => none
 | .raw (.string s) => (match cls? P t with
  | some .str => match Bc s.size hi s.size with
   | some hh => match Bc hh lo 0 with
    | some l => some (.raw (.string (s.extract l hh)))
    | none => none
   | none => none
  | _ => none)
 | .sl f z es => match elt? P t with
  | some (_, sz, _) => if sz = z then (match Bc es.length hi es.length with
   | some hh => match Bc hh lo 0 with
    | some l => some (.sl (PL f l (hh - l) z) z ((es.drop l).take (hh - l)))
    | none => none
   | none => none) else none
  | none => none
 | _ => none
def CF (f : AQ) : Nat → List (List T) → List X
 | _, [] => []
 | i, e :: r => Gm (under f i) 0 e ++ CF f (i + 1) r
def Ei (g : H2) (sz : Nat) : X → Option (Nat × List X)
 | .raw (.slice none _ _) => some (0, [])
 | .raw (.slice (some a) n _) => match g.get a.block with
  | some k => (JZ k.cs a.off (n * sz)).map fun l => (n, l)
  | none => none
 | .sl f z es => if z = sz then some (es.length, CF f 0 es) else none
 | _ => none
def Dm : List X → Option (List UInt8)
 | [] => some []
 | .raw v :: l => match byteV v, Dm l with
  | some b, some r => some (b :: r)
  | _, _ => none
 | _ :: _ => none
def NR (P : Program) (g : H2) (s d : TypeId) (x : X) : Option (X × H2) :=
 match cls? P s, cls? P d, x with
 | some (.int _), some (.int k), .raw (.int _ n) => some (.raw (.int k (k.wrap n)), g)
 | some .str, some .str, .raw (.string b) => some (.raw (.string b), g)
 | some .sl, some .str, v => match elt? P s, Ei g 1 v with
  | some (e, 1, _), some (_, l) => match cls? P e, Dm l with
   | some (.int .u8), some bs => some (.raw (.string ⟨bs.toArray⟩), g)
   | _, _ => none
  | _, _ => none
 | some .str, some .sl, .raw (.string b) => match elt? P d with
  | some (e, 1, 1) => match cls? P e with
   | some (.int .u8) => if b.size ≤ 1048576 then some (.raw (.slice (some ⟨g.n, 0, none⟩) b.size b.size), g.push ⟨1, b.data.toList.map fun x => .raw (.int .u8 x.toNat)⟩) else none
   | _ => none
  | _ => none
 | _, _, _ => none
def Gi (P : Program) (g : H2) (t : TypeId) (x y : X) : Option (X × H2) :=
 match x, elt? P t with
 | .raw (.slice a n c), some (e, sz + 1, by_) =>
  match Ei g (sz + 1) y, zr? P e with
  | some (m, news), some z =>
   if z.length = sz + 1 ∧ (n + m) * (by_ + 1) ≤ Ai.most ∧ news.all E8 = true then
    if m = 0 then some (.raw (.slice a n n), g) else
    match a with
    | none => some (.raw (.slice (some ⟨g.n, 0, none⟩) m m), g.push ⟨sz + 1, news⟩)
    | some a => match g.get a.block with
     | some k => if k.z = sz + 1 ∧ a.off = 0 then (JZ k.cs 0 (n * (sz + 1))).map fun olds => (.raw (.slice (some ⟨g.n, 0, none⟩) (n + m) (n + m)), (g.kill a.block).push ⟨sz + 1, olds ++ news⟩) else none
     | none => none
   else none
  | _, _ => none
 | _, _ => none
def B3 (P : Program) (g : H2) (b : Builtin) (ts : List TypeId) (xs : List X) : Option (X × H2) :=
 match b, ts, xs with
 | .len, [t], [.raw (.string s)] => match cls? P t with | some .str => some (.raw (.int .i64 s.size), g) | _ => none
 | .len, [t], [.raw (.slice _ n _)] => match cls? P t with | some .sl => some (.raw (.int .i64 n), g) | _ => none
 | .len, [t], [.sl _ _ es] => match cls? P t with | some .sl => some (.raw (.int .i64 es.length), g) | _ => none
 | .append, [t, u], [x, y] => match cls? P u with | some .sl => Gi P g t x y | _ => none
 | .max, _, xs => match Gw xs with | some l => (Br mxI l).map (.raw ·, g) | none => none
 | .min, _, xs => match Gw xs with | some l => (Br mnI l).map (.raw ·, g) | none => none
 | _, _, _ => none
def Et (P : Program) (g : H2) (t : TypeId) (l c : X) : Option (X × H2) :=
 match l, c, elt? P t with
 | .raw (.int .i64 l), .raw (.int .i64 c), some (e, sz, by_) => match zr? P e with
  | some z => if z.length = sz ∧ 0 < sz ∧ l = c ∧ 0 ≤ l ∧ l.toNat * (by_ + 1) ≤ Ai.most then some (.raw (.slice (some ⟨g.n, 0, none⟩) l.toNat l.toNat), g.push ⟨sz, (repL l.toNat z).map .raw⟩) else none
  | none => none
 | _, _, _ => none
def J2 : X → Option T
 | .raw v => if Bx v = true then some (.v v) else none
 | .sl _ z es => some (.l z es)
 | _ => none
def CR : List X → Option (List T)
 | [] => some []
 | x :: l => match J2 x, CR l with
  | some t, some r => some (t :: r)
  | _, _ => none
def chunk (z : Nat) : Nat → List T → List (List T)
 | 0, _ => []
 | n + 1, l => l.take z :: chunk z n (l.drop z)
def Qd (p : List Nat) : X → Value
 | .raw v => v
 | .sl f _ _ => f p
 | x => er x
def FU (b n z : Nat) (cs : List X) : AQ
 | i :: j :: p => Qd p (cs.getD (i * z + j) (.raw undef))
 | _ => .slice (some ⟨b, 0, none⟩) n n
def U3 (g : H2) (n z : Nat) (cs : List X) : X × H2 :=
 match n, CR cs with
 | m + 1, some ts => (.sl (FU g.n (m + 1) z cs) z (chunk z (m + 1) ts), g.up (g.n + 1))
 | n, _ => (.raw (.slice (some ⟨g.n, 0, none⟩) n n), g.push ⟨z, cs⟩)
def ZS : X → Bool
 | .raw (.pointer (some _)) => true
 | .pr _ _ _ => true
 | _ => false
def Zq (g : H2) (z : Nat) (cs : List X) : X × H2 := (.raw (.pointer (some ⟨g.n, 0, none⟩)), g.push ⟨z, cs⟩)
def Ke (P : Program) (e : E2) (g : H2) : Op → Option (X × H2)
 | .move x => some (e.op x, g)
 | .assign x => some (e.op x, g)
 | .pick c a b => match e.op c with
  | .raw (.bool true) => some (e.op a, g)
  | .raw (.bool false) => some (e.op b, g)
  | _ => none
 | .alloc t => match zr? P t, sz? P t with
  | some z, some n => some (Zq g n (z.map .raw))
  | _, _ => none
 | .box t x => match A3 (e.op x), sz? P t with
  | some cs, some n => some (Zq g n cs)
  | _, _ => none
 | .build t parts => match zr? P t with
  | some z => if bldOk P t = true then (Es (fun i => (fld? P t i).map fun p => (p.1, p.2.1)) e parts.toList (z.map .raw)).map fun l => (.st l, g) else none
  | none => none
 | .buildSlice t n parts => match elt? P t with
  | some (u, sz, by_) => match zr? P u with
   | some z => if n ≤ 64 ∧ z.length = sz ∧ sz ≤ 64 then (Es (fun i => some (i * sz, sz)) e parts.toList ((repL n z).map .raw)).map fun l => U3 g n sz l else none
   | none => none
  | none => none
 | .load t x => (HE P g t (e.op x)).map (·, g)
 | .store t x y => (IM P g t (e.op x) (e.op y)).map (.raw undef, ·)
 | .nilCheck x => if ZS (e.op x) then some (e.op x, g) else none
 | .binOp op t x y _ => (LB P op t (e.op x) (e.op y)).map (·, g)
 | .unOp op _ x => (fT op (e.op x)).map (·, g)
 | .convert s d x => NR P g s d (e.op x)
 | .makeFunc (.func f) first caps => match Gw (caps.toList.map e.op) with
  | some l => if first.size = 0 ∧ l.all ptrV = true then some (.raw (.func (.func f) #[] l.toArray), g) else none
  | none => none
 | .makeSlice t l c => Et P g t (e.op l) (e.op c)
 | .slice t x lo hi mx => (Ig P g t (e.op x) (lo.map e.op) (hi.map e.op) (mx.map e.op)).map (·, g)
 | .fieldAddr s x f => (B7 P s (e.op x) f).map (·, g)
 | .field s x f => (Wy P s (e.op x) f).map (·, g)
 | .indexAddr t x ix => (Cg P t (e.op x) (e.op ix)).map (·, g)
 | .index t x ix => (Wx P t (e.op x) (e.op ix)).map (·, g)
 | .extract x i => (EG (e.op x) i).map (·, g)
 | .call { callee := .builtin b, args := xs, argTypes := ts } => B3 P g b ts.toList (xs.toList.map e.op)
 | _ => none
end Go.Bi
namespace Go.Bi
open Go.Ai
variable {P : Program} {g : H2} {h : Heap}
theorem JJ {cs l : List X} {off n : Nat} (hr : JZ cs off n = some l) : rd (cs.map er) off n = some (l.map er) ∧ ∀ x ∈ l, x ∈ cs := by
 unfold JZ at hr
 split at hr
 ·cases hr
  refine ⟨?_, fun x hx => List.mem_of_mem_drop (List.mem_of_mem_take hx)⟩
  unfold rd; rw [if_pos (by simpa using ‹off + n ≤ cs.length›)]
  simp [List.map_take, List.map_drop]
 ·cases hr
theorem Nb {cs vs l : List X} {off : Nat} (hr : Ct cs off vs = some l) : Qw (cs.map er) off (vs.map er) = some (l.map er) ∧ ∀ x ∈ l, x ∈ cs ∨ x ∈ vs := by
 unfold Ct at hr
 split at hr
 ·cases hr
  refine ⟨?_, fun x hx => ?_⟩
  ·unfold Qw; rw [if_pos (by simpa using ‹off + vs.length ≤ cs.length›)]
   simp [List.map_take, List.map_drop]
  ·simp only [List.mem_append] at hx
   rcases hx with (hx | hx) | hx
   ·exact .inl (List.mem_of_mem_take hx)
   ·exact .inr hx
   ·exact .inl (List.mem_of_mem_drop hx)
 ·cases hr
theorem Ok.slV {f : AQ} {z : Nat} {es : List (List T)} (o : Ok h g (.sl f z es)) : (∃ a c, f [] = .slice a es.length c) ∨ (f [] = .map none ∧ es = []) := by
 cases o with | sl r => cases r with | l a c h1 => exact .inl ⟨a, c, h1⟩ | o h1 => exact .inr ⟨h1, rfl⟩
theorem HZ {y : X} {vs : List X} (o : Ok h g y) (hc : A3 y = some vs) : Dr (er y) = some (vs.map er) ∧ ∀ x ∈ vs, Ok h g x := by
 cases o with
 | raw =>
  rename_i v
  cases v <;> simp only [A3] at hc <;> first
   | cases hc; done
   | (cases hc; refine ⟨rfl, fun x hx => ?_⟩; simp at hx; subst hx; exact .raw)
 | sl r =>
  simp only [A3] at hc; cases hc
  refine ⟨?_, fun x hx => ?_⟩
  ·rcases (Ok.sl r).slV with ⟨a, c, e⟩ | ⟨e, _⟩ <;> (simp only [er, e, List.map_cons, List.map_nil]; rfl)
  ·simp at hx; subst hx; exact .sl r
 | pr h1 h2 h3 h0 h4 h5 =>
  simp only [A3] at hc; cases hc
  refine ⟨rfl, fun x hx => ?_⟩
  simp at hx; subst hx; exact .pr h1 h2 h3 h0 h4 h5
 | st hx => simp only [A3] at hc; cases hc; exact ⟨by simp [er, Cy, Dr], hx⟩
 | tp => simp only [A3] at hc; cases hc
theorem ZI {x : X} (o : Ok h g x) (hx : E8 x = true) : FR (er x) = true := by
 cases o with
 | raw => rename_i v; cases v <;> first | rfl | (simp [E8] at hx)
 | sl r => rcases (Ok.sl r).slV with ⟨a, c, e⟩ | ⟨e, _⟩ <;> (simp only [er, e]; rfl)
 | pr => rfl
 | st => simp [E8] at hx
 | tp => simp [E8] at hx
theorem Qo {vs : List X} (o : ∀ x ∈ vs, Ok h g x) (hx : vs.all E8 = true) : (vs.map er).all FR = true := by
 rw [List.all_eq_true] at hx ⊢
 intro v hv
 obtain ⟨x, hx2, rfl⟩ := List.mem_map.1 hv
 exact ZI (o x hx2) (hx x hx2)
theorem S.fresh (s : S g h) : g.get h.n = none := by
 cases hk : g.get h.n with
 | none => rfl
 | some k => have := (s.row _ _ hk).1; omega
theorem S.set (s : S g h) {b : Nat} {k : OB} (hb : g.get b = some k) {z : Nat} {cs : List X} (hz : k.z = z) (ok : ∀ x ∈ cs, Ok h g x) :
  S (g.set b ⟨z, cs⟩) (h.set b ⟨true, z, cs.map er⟩) ∧ Ext g h (g.set b ⟨z, cs⟩) (h.set b ⟨true, z, cs.map er⟩) := by
 have x : Ext g h (g.set b ⟨z, cs⟩) (h.set b ⟨true, z, cs.map er⟩) := by
  refine ⟨Nat.le_refl _, fun c _ hc => ?_, fun c _ hc => ?_⟩
  ·have : ¬ c = b := fun e => by rw [e, hb] at hc; cases hc
   simp [Heap.set, this]
  ·have : ¬ c = b := fun e => by rw [e, hb] at hc; cases hc
   simp [H2.set, this, hc]
 refine ⟨⟨s.n, fun c k' hc => ?_⟩, x⟩
 simp only [H2.set] at hc
 by_cases hcb : c = b
 ·subst hcb
  rw [if_pos rfl] at hc; cases hc
  exact ⟨(s.row _ _ hb).1, by simp [Heap.set], fun y hy => (ok y hy).mono x⟩
 ·rw [if_neg hcb] at hc
  obtain ⟨h1, h2, h3⟩ := s.row _ _ hc
  exact ⟨h1, by simp [Heap.set, hcb, h2], fun y hy => (h3 y hy).mono x⟩
theorem Ext.push {g : H2} {h : Heap} {k : OB} {k' : Kc} (hn : g.n = h.n) : Ext g h (g.push k) (h.push k') := by
 refine ⟨by simp [Heap.push], fun c hc _ => ?_, fun c hc hg => ?_⟩
 ·have : ¬ c = h.n := by omega
  simp [Heap.push, this]
 ·have : ¬ c = g.n := by omega
  simp [H2.push, this, hg]
theorem S.push (s : S g h) {z : Nat} {cs : List X} (ok : ∀ x ∈ cs, Ok h g x) :
  S (g.push ⟨z, cs⟩) (h.push ⟨true, z, cs.map er⟩) ∧ Ext g h (g.push ⟨z, cs⟩) (h.push ⟨true, z, cs.map er⟩) := by
 have x : Ext g h (g.push ⟨z, cs⟩) (h.push ⟨true, z, cs.map er⟩) := Ext.push s.n
 refine ⟨⟨by simp [H2.push, Heap.push, s.n], fun c k' hc => ?_⟩, x⟩
 simp only [H2.push] at hc
 by_cases hcb : c = g.n
 ·subst hcb
  rw [if_pos rfl] at hc; cases hc
  exact ⟨by simp [Heap.push, s.n], by simp [Heap.push, s.n], fun y hy => (ok y hy).mono x⟩
 ·rw [if_neg hcb] at hc
  obtain ⟨h1, h2, h3⟩ := s.row _ _ hc
  have : ¬ c = h.n := by omega
  exact ⟨by simp [Heap.push]; omega, by simp [Heap.push, this, h2], fun y hy => (h3 y hy).mono x⟩
theorem S.up (s : S g h) {k' : Kc} : S (g.up (g.n + 1)) (h.push k') ∧ Ext g h (g.up (g.n + 1)) (h.push k') := by
 have x : Ext g h (g.up (g.n + 1)) (h.push k') := by
  refine ⟨by simp [Heap.push], fun c hc _ => ?_, fun c hc hg => hg⟩
  have : ¬ c = h.n := by omega
  simp [Heap.push, this]
 refine ⟨⟨by simp [H2.up, Heap.push, s.n], fun c k hc => ?_⟩, x⟩
 obtain ⟨h1, h2, h3⟩ := s.row _ _ hc
 have : ¬ c = h.n := by omega
 exact ⟨by simp [Heap.push]; omega, by simp [Heap.push, this, h2], fun y hy => (h3 y hy).mono x⟩
theorem S.kill (s : S g h) {b : Nat} {k : OB} (hb : g.get b = some k) : S (g.kill b) (h.kill b) ∧ Ext g h (g.kill b) (h.kill b) := by
 have x : Ext g h (g.kill b) (h.kill b) := by
  refine ⟨Nat.le_refl _, fun c _ hc => ?_, fun c _ hc => ?_⟩
  ·have : ¬ c = b := fun e => by rw [e, hb] at hc; cases hc
   simp [Heap.kill, this]
  ·simp only [H2.kill]; split <;> simp_all
 refine ⟨⟨s.n, fun c k' hc => ?_⟩, x⟩
 simp only [H2.kill] at hc
 by_cases hcb : c = b
 ·rw [if_pos hcb] at hc; cases hc
 ·rw [if_neg hcb] at hc
  obtain ⟨h1, h2, h3⟩ := s.row _ _ hc
  exact ⟨h1, by simp [Heap.kill, hcb, h2], fun y hy => (h3 y hy).mono x⟩
theorem X1 {f : AQ} {j : Nat} {t : T} (r : JY h g (under f j) t) : er (Qx f j t) = f [j] := by
 cases r with
 | v h1 => simp only [Qx, er]; exact h1.symm
 | o => rfl
 | l => rfl
theorem YX {f : AQ} {j : Nat} {t : T} (r : JY h g (under f j) t) : Ok h g (Qx f j t) := by
 cases t with
 | v x => exact .raw
 | l z es => exact .sl r
theorem OP {f : AQ} : ∀ {ts : List T} {k i : Nat}, (Gm f k ts)[i]? = (ts[i]?).map (Qx f (k + i))
 | [], k, i => by simp [Gm]
 | t :: ts, k, 0 => by simp [Gm]
 | t :: ts, k, i + 1 => by simp only [Gm, List.getElem?_cons_succ, OP]; congr 2; omega
theorem TU {f : AQ} : ∀ {ts : List T} {k : Nat}, (Gm f k ts).length = ts.length
 | [], k => rfl
 | t :: ts, k => by simp [Gm, TU]
theorem gF {cs l : List Value} {off : Nat} (h0 : off + l.length ≤ cs.length) (hl : ∀ i, i < l.length → cs[off + i]? = l[i]?) : rd cs off l.length = some l := by
 unfold rd; rw [if_pos h0]
 congr 1
 apply List.ext_getElem?
 intro i
 rw [List.getElem?_take]
 split
 ·rename_i hi; rw [List.getElem?_drop]; exact hl i hi
 ·rename_i hi; rw [List.getElem?_eq_none (by omega)]
theorem XE {cs : List Value} {off : Nat} {f : AQ} {ts : List T} {k : Nat} (h0 : off ≤ cs.length) (h1 : ∀ j t, ts[j]? = some t → cs[off + j]? = some (f [k + j])) (h2 : ∀ j t, ts[j]? = some t → JY h g (under f (k + j)) t) :
  rd cs off ts.length = some ((Gm f k ts).map er) := by
 have hlen : ((Gm f k ts).map er).length = ts.length := by simp [TU]
 rw [← hlen]
 refine gF ?_ fun i hi => ?_
 ·rw [hlen]
  rcases Nat.eq_zero_or_pos ts.length with h3 | h3
  ·omega
  ·have h4 : ts[ts.length - 1]? = some ts[ts.length - 1] := List.getElem?_eq_getElem (by omega)
   have := h1 _ _ h4
   obtain ⟨hh, _⟩ := List.getElem?_eq_some_iff.1 this
   omega
 ·rw [hlen] at hi
  have h4 : ts[i]? = some ts[i] := List.getElem?_eq_getElem hi
  rw [h1 _ _ h4, List.getElem?_map, OP, h4]
  simp [X1 (h2 _ _ h4)]
theorem YK {f : AQ} {ts : List T} {k : Nat} (h2 : ∀ j t, ts[j]? = some t → JY h g (under f (k + j)) t) : ∀ x ∈ Gm f k ts, Ok h g x := by
 intro x hx
 obtain ⟨i, hi⟩ := List.mem_iff_getElem?.1 hx
 rw [OP] at hi
 cases ht : ts[i]? with
 | none => rw [ht] at hi; cases hi
 | some t => rw [ht] at hi; cases hi; exact YX (h2 i t ht)
theorem UT {cs x y : List Value} {o n m : Nat} (h1 : rd cs o n = some x) (h2 : rd cs (o + n) m = some y) : rd cs o (n + m) = some (x ++ y) := by
 unfold rd at h1 h2 ⊢
 split at h1
 ·split at h2
  ·cases h1; cases h2
   rw [if_pos (by omega)]
   congr 1
   rw [List.take_add, List.drop_drop]
  ·cases h2
 ·cases h1
theorem KP (s : S g h) {t : TypeId} {x y : X} (o : Ok h g x) (hx : HE P g t x = some y) : Gs P h t (er x) = some (er y) ∧ Ok h g y := by
 cases o with
 | raw =>
  rename_i v
  unfold HE at hx
  split at hx
  ·rename_i a heq
   cases heq
   split at hx
   ·rename_i k hk
    obtain ⟨h1, h2, h3⟩ := s.row _ _ hk
    simp only [er, Gs, h2]
    split at hx
    ·rename_i hag
     split at hx
     ·rename_i n hn
      simp only [hag, hn]
      cases hr : JZ k.cs a.off n with
      | none => rw [hr] at hx; cases hx
      | some l =>
       rw [hr] at hx; cases hx
       obtain ⟨e1, e2⟩ := JJ hr
       exact ⟨by rw [e1]; simp [er, Cy], .st fun z hz => h3 z (e2 z hz)⟩
     ·cases hx
    ·rename_i hag
     simp only [hag, List.getElem?_map]
     exact ⟨by rw [hx]; rfl, h3 y (List.mem_of_getElem? hx)⟩
    ·cases hx
   ·cases hx
  ·rename_i heq; cases heq
  ·cases hx
 | pr h1 h2 h3 h0 h4 h5 =>
  rename_i b off f ts w k cs
  simp only [HE] at hx
  simp only [er, Gs, h3]
  split at hx
  ·rename_i hag
   split at hx
   ·rename_i n hn
    split at hx
    ·rename_i hle
     cases hx
     simp only [hag, hn]
     have hts : ∀ (j : Nat) (t : T), (ts.take n)[j]? = some t → ts[j]? = some t := by
      intro j t ht; rw [List.getElem?_take] at ht; split at ht
      ·exact ht
      ·cases ht
     have hl : (ts.take n).length = n := by simp; omega
     have := XE (h := h) (g := g) (k := 0) (f := f) h0 (fun j t ht => by rw [Nat.zero_add]; exact h4 j t (hts j t ht)) (fun j t ht => by rw [Nat.zero_add]; exact h5 j t (hts j t ht))
     rw [hl] at this
     rw [this]
     exact ⟨by simp [er, Cy], .st (YK (k := 0) fun j t ht => by rw [Nat.zero_add]; exact h5 j t (hts j t ht))⟩
    ·cases hx
   ·cases hx
  ·rename_i hag
   split at hx
   ·rename_i t r
    cases hx
    simp only [hag]
    exact ⟨by rw [X1 (h5 0 t rfl)]; have := h4 0 t rfl; simpa using this, YX (h5 0 t rfl)⟩
   ·cases hx
  ·cases hx
 | _ => simp [HE] at hx
theorem OW (s : S g h) {t : TypeId} {x y : X} {g' : H2} (oy : Ok h g y) (hx : IM P g t x y = some g') : ∃ h', KG P h t (er x) (er y) = some h' ∧ S g' h' ∧ Ext g h g' h' := by
 unfold IM at hx
 split at hx
 ·rename_i a vs n hvs hsz
  obtain ⟨c1, c2⟩ := HZ oy hvs
  split at hx
  ·rename_i k hk
   obtain ⟨h1, h2, h3⟩ := s.row _ _ hk
   split at hx
   ·rename_i hcond
    cases hw : Ct k.cs a.off vs with
    | none => rw [hw] at hx; cases hx
    | some cs =>
     rw [hw] at hx; cases hx
     obtain ⟨w1, w2⟩ := Nb hw
     obtain ⟨q1, q2⟩ := s.set (b := a.block) hk (cs := cs) rfl fun z hz => (w2 z hz).elim (h3 z) (c2 z)
     refine ⟨_, ?_, q1, q2⟩
     simp only [er, KG, c1, hsz, h2]
     rw [if_pos ⟨trivial, by simpa using hcond.1, Qo c2 hcond.2⟩, w1]; rfl
   ·cases hx
  ·cases hx
 ·cases hx
theorem J0 {t : TypeId} {x y : X} {f : Nat} (o : Ok h g x) (hx : B7 P t x f = some y) : fieldAddrV P t (er x) f = some (er y) ∧ Ok h g y := by
 cases o with
 | raw =>
  rename_i v
  simp only [B7, IA] at hx
  cases hv : fieldAddrV P t v f with
  | none => rw [hv] at hx; cases hx
  | some u => rw [hv] at hx; cases hx; exact ⟨hv, .raw⟩
 | pr h1 h2 h3 h0 h4 h5 =>
  rename_i b off f' ts w k cs
  simp only [B7] at hx
  split at hx
  ·rename_i o n q hf
   split at hx
   ·rename_i hle
    cases hx
    refine ⟨by simp only [er, fieldAddrV, hf, eV], ?_⟩
    refine .pr h1 h2 h3 ?_ (fun j t ht => ?_) (fun j t ht => ?_)
    ·show off + o ≤ cs.length
     rcases Nat.eq_zero_or_pos o with h6 | h6
     ·omega
     ·have h7 : ts[o - 1]? = some ts[o - 1] := List.getElem?_eq_getElem (by omega)
      obtain ⟨hh, _⟩ := List.getElem?_eq_some_iff.1 (h4 _ _ h7)
      omega
    ·rw [List.getElem?_drop] at ht
     rw [Nat.add_assoc, h4 _ _ ht]; simp [fq, Nat.add_comm]
    ·rw [List.getElem?_drop] at ht
     have := h5 _ _ ht
     have e : under (fq f' o) j = under f' (o + j) := by funext p; simp [under, fq, Nat.add_comm]
     rw [e]; exact this
   ·cases hx
  ·cases hx
 | _ => simp [B7] at hx
end Go.Bi
namespace Go.Bi
open Go.Ai
variable {P : Program} {g : H2} {h : Heap}
theorem Fw {o : Option Value} {y : X} (hx : IA o = some y) : ∃ v, o = some v ∧ y = .raw v := by
 cases o with
 | none => cases hx
 | some v => cases hx; exact ⟨v, rfl, rfl⟩
theorem KC {t : TypeId} {x i y : X} (o : Ok h g x) (hx : Cg P t x i = some y) : indexAddrV P t (er x) (er i) = some (er y) ∧ Ok h g y := by
  unfold Cg at hx
  split at hx
  · obtain ⟨v, h1, rfl⟩ := Fw hx; exact ⟨h1, .raw⟩
  · rename_i f z es kd ii
    split at hx
    · rename_i u sz b he
      split at hx
      · rename_i hc
        obtain ⟨rfl, hi0, hi⟩ := hc
        cases hx
        cases o with
        | sl r =>
          cases r with
          | o h1 => simp at hi
          | l a c h1 h2 h3 h4 =>
            rcases h3 with ⟨_, rfl⟩ | ⟨b, off, w, k, cs, rfl, e2, e3, e4, e5, e7, e6⟩
            · simp at hi
            · have hmem : es.getD ii.toNat [] ∈ es := by
                rw [List.getD_eq_getElem?_getD, List.getElem?_eq_getElem hi]; exact List.getElem_mem hi
              have hlen := h2 _ hmem
              have hget : es[ii.toNat]? = some (es.getD ii.toNat []) := by
                rw [List.getD_eq_getElem?_getD, List.getElem?_eq_getElem hi]; rfl
              have hcell : ∀ (j : Nat) (t : T), (es.getD ii.toNat [])[j]? = some t → cs[off + ii.toNat * sz + j]? = some (f [ii.toNat, j]) := by
                intro j t ht
                obtain ⟨hj, _⟩ := List.getElem?_eq_some_iff.1 ht
                exact e6 _ _ hi (by omega)
              refine ⟨?_, ?_⟩
              · simp only [er, h1, indexAddrV, he, ca]
                rw [if_pos ⟨hi0, by omega⟩]
              · rw [h1]
                refine .pr e2 e3 e4 ?_ hcell fun j t ht => h4 ii.toNat j t (by rw [hget]; exact ht)
                rcases Nat.eq_zero_or_pos sz with hz | hz
                · rw [hz]; simpa using e7
                · obtain ⟨hh, _⟩ := List.getElem?_eq_some_iff.1 (e6 ii.toNat 0 hi hz)
                  show off + ii.toNat * sz ≤ cs.length
                  omega
      · cases hx
    · cases hx
  · cases hx
theorem OZ {n d : Nat} : EN n none d = some d := rfl
theorem As {len : Nat} {o : Option X} {d r : Nat} (hb : Bc len o d = some r) : EN len (o.map er) d = some r ∧ (o = none → r = d) ∧ (o ≠ none → r ≤ len) := by
 unfold Bc at hb
 split at hb
 ·cases hb; exact ⟨rfl, fun _ => rfl, fun hh => absurd rfl hh⟩
 ·split at hb
  ·rename_i hc; cases hb
   exact ⟨by simp [er, EN, hc], fun hh => (by cases hh), fun _ => by omega⟩
  ·cases hb
 ·cases hb
theorem QY {len : Nat} {o : Option X} {d r : Nat} (hb : Bc len o d = some r) (hd : d ≤ len) : r ≤ len := by
 obtain ⟨_, h2, h3⟩ := As hb
 cases o with
 | none => rw [h2 rfl]; exact hd
 | some x => exact h3 (by simp)
theorem ak {t : TypeId} (hc : cls? P t = some .str) : elt? P t = none := by
 unfold cls? at hc; unfold elt?
 cases hu : P.underlying t with
 | none => rfl
 | some d => rw [hu] at hc; cases d <;> first | rfl | (simp at hc)
theorem OV (s : S g h) {t : TypeId} {x y : X} {lo hi mx : Option X} (o : Ok h g x) (hx : Ig P g t x lo hi mx = some y) : E3 P h t (er x) (lo.map er) (hi.map er) (mx.map er) = some (er y) ∧ Ok h g y := by
 unfold Ig at hx
 split at hx
 ·cases hx
 ·rename_i hmx
  have hmx' : mx = none := by cases mx <;> simp_all
  subst hmx'
  split at hx
  ·rename_i len c
   split at hx
   ·rename_i q he
    obtain ⟨u, z, b⟩ := q
    split at hx
    ·rename_i hh hb1
     split at hx
     ·rename_i l hb2
      cases hx
      refine ⟨?_, .raw⟩
      simp only [er, E3, he, Option.map_none, OZ, (As hb1).1, (As hb2).1]
      rfl
     ·cases hx
    ·cases hx
   ·cases hx
  ·rename_i a len c
   split at hx
   ·rename_i u sz b k he hk
    split at hx
    ·rename_i hz
     split at hx
     ·rename_i hh hb1
      split at hx
      ·rename_i l hb2
       cases hx
       refine ⟨?_, .raw⟩
       obtain ⟨h1, h2, h3⟩ := s.row _ _ hk
       simp only [er, E3, he, Option.map_none, OZ, (As hb1).1, (As hb2).1, h2]
       rw [if_neg (by simp), if_pos (.inr hz)]
      ·cases hx
     ·cases hx
    ·cases hx
   ·cases hx
  ·rename_i st
   split at hx
   ·rename_i hc
    split at hx
    ·rename_i hh hb1
     split at hx
     ·rename_i l hb2
      cases hx
      exact ⟨by simp only [er, E3, hc, ak hc, Option.map_none, (As hb1).1, (As hb2).1], .raw⟩
     ·cases hx
    ·cases hx
   ·cases hx
  ·rename_i f z es
   split at hx
   ·rename_i u sz b he
    split at hx
    ·rename_i hz
     subst hz
     split at hx
     ·rename_i hh hb1
      split at hx
      ·rename_i l hb2
       cases hx
       have hhle : hh ≤ es.length := QY hb1 (Nat.le_refl _)
       have hlle : l ≤ hh := QY hb2 (Nat.zero_le _)
       have hlen : ((es.drop l).take (hh - l)).length = hh - l := by simp; omega
       have hgets : ∀ i : Nat, i < hh - l → ((es.drop l).take (hh - l))[i]? = es[i + l]? := by
        intro i hi; rw [List.getElem?_take, if_pos hi, List.getElem?_drop, Nat.add_comm]
       cases o with
       | sl r =>
        cases r with
        | o h1 =>
         have hh0 : hh = 0 := by simpa using hhle
         subst hh0
         have hl0 : l = 0 := by omega
         subst hl0
         refine ⟨?_, ?_⟩
         ·have b1 := (As hb1).1
          have b2 := (As hb2).1
          simp only [List.length_nil] at b1
          simp only [er, h1, E3, he, Option.map_none, b1, b2]
          simp [PL, h1, Rp]
         ·simp only [List.drop_nil, List.take_nil]
          exact .sl (.o (by simp [PL, h1, Rp]))
        | l a c h1 h2 h3 h4 =>
         rcases h3 with ⟨rfl, rfl⟩ | ⟨b, off, w, k, cs, rfl, e2, e3, e4, e5, e7, e6⟩
         ·have hh0 : hh = 0 := by simpa using hhle
          subst hh0
          have hl0 : l = 0 := by omega
          subst hl0
          refine ⟨?_, ?_⟩
          ·simp only [er, h1, E3, he, Option.map_none, OZ, (As hb1).1, (As hb2).1]
           simp [PL, h1, Rp]
          ·refine .sl (.l none 0 (by simp [PL, h1, Rp]) (by simp) (.inl ⟨rfl, by simp⟩) (by simp))
         ·refine ⟨?_, ?_⟩
          ·simp only [er, h1, E3, he, Option.map_none, OZ, (As hb1).1, (As hb2).1, e4]
           rw [if_neg (by simp), if_pos (by cases w with | false => exact .inl rfl | true => exact .inr (e5 rfl))]
           simp [PL, h1, Rp]
          ·refine .sl (.l (some ⟨b, off + l * sz, none⟩) (hh - l) (by simp only [PL, h1, Rp, hlen]) (fun e he => h2 e (List.mem_of_mem_drop (List.mem_of_mem_take he))) (.inr ⟨b, off + l * sz, w, k, cs, rfl, e2, e3, e4, e5, ?_, fun i j hi hj => ?_⟩) fun i j t ht => ?_)
           ·rcases Nat.eq_zero_or_pos l with hl0 | hl0
            ·subst hl0; simpa using e7
            ·rcases Nat.eq_zero_or_pos sz with hz0 | hz0
             ·subst hz0; simpa using e7
             ·obtain ⟨hh2, _⟩ := List.getElem?_eq_some_iff.1 (e6 (l - 1) (sz - 1) (by omega) (by omega))
              have : l * sz = (l - 1) * sz + sz := by
               rw [← Nat.succ_mul]; congr 1; omega
              omega
           ·rw [hlen] at hi
            have := e6 (i + l) j (by omega) hj
            have e : off + l * sz + i * sz + j = off + (i + l) * sz + j := by rw [Nat.add_mul]; omega
            rw [e, this]; rfl
           ·by_cases hi : i < hh - l
            ·rw [hgets i hi] at ht
             exact h4 (i + l) j t ht
            ·rw [List.getElem?_eq_none (by omega)] at ht; cases ht
      ·cases hx
     ·cases hx
    ·cases hx
   ·cases hx
  ·cases hx
theorem TS {cs : List Value} {f : AQ} {z : Nat} : ∀ {es : List (List T)} {o k : Nat}, o ≤ cs.length → (∀ e ∈ es, e.length = z) → (∀ i j, i < es.length → j < z → cs[o + i * z + j]? = some (f [k + i, j])) →
  (∀ i j t, ((es[i]?).bind (·[j]?)) = some t → JY h g (below f (k + i) j) t) → rd cs o (es.length * z) = some ((CF f k es).map er) ∧ ∀ x ∈ CF f k es, Ok h g x
 | [], o, k, h0, _, _, _ => by simp [rd, CF, h0]
 | e :: r, o, k, h0, h1, h2, h3 => by
  have hz : e.length = z := h1 e (by simp)
  have r1 : rd cs o z = some ((Gm (under f k) 0 e).map er) := by
   rw [← hz]
   refine XE h0 (fun j t ht => ?_) (fun j t ht => ?_) (h := h) (g := g)
   ·obtain ⟨hj, _⟩ := List.getElem?_eq_some_iff.1 ht
    have := h2 0 j (by simp) (by omega)
    rw [Nat.zero_add]; simpa [under] using this
   ·have := h3 0 j t (by simpa using ht)
    rw [Nat.zero_add]; exact this
  have hoz : o + z ≤ cs.length := by
   unfold rd at r1; split at r1
   ·assumption
   ·cases r1
  obtain ⟨r2, r3⟩ := TS (cs := cs) (f := f) (z := z) (es := r) (o := o + z) (k := k + 1) hoz (fun e he => h1 e (by simp [he])) (fun i j hi hj => by
   have := h2 (i + 1) j (by simpa using hi) hj
   rw [show o + z + i * z + j = o + (i + 1) * z + j by rw [Nat.add_mul]; omega, this, show k + (i + 1) = k + 1 + i by omega]) (fun i j t ht => by
   have := h3 (i + 1) j t (by simpa using ht)
   rw [show k + (i + 1) = k + 1 + i by omega] at this; exact this)
  refine ⟨?_, ?_⟩
  ·rw [List.length_cons, show (r.length + 1) * z = z + r.length * z by rw [Nat.add_mul]; omega, UT r1 r2]
   simp [CF]
  ·intro x hx
   simp only [CF, List.mem_append] at hx
   rcases hx with hx | hx
   ·refine YK (k := 0) (fun j t ht => ?_) x hx
    have := h3 0 j t (by simpa using ht)
    rw [Nat.zero_add]; exact this
   ·exact r3 x hx
theorem MJ (s : S g h) {z m : Nat} {y : X} {l : List X} (o : Ok h g y) (hx : Ei g z y = some (m, l)) : PG h z (er y) = some (m, l.map er) ∧ ∀ x ∈ l, Ok h g x := by
 unfold Ei at hx
 split at hx
 ·cases hx; exact ⟨rfl, by simp⟩
 ·rename_i a n c
  split at hx
  ·rename_i k hk
   obtain ⟨h1, h2, h3⟩ := s.row _ _ hk
   cases hr : JZ k.cs a.off (n * z) with
   | none => rw [hr] at hx; cases hx
   | some l' =>
    rw [hr] at hx; cases hx
    obtain ⟨e1, e2⟩ := JJ hr
    exact ⟨by simp only [er, PG, h2, e1]; rfl, fun x hx => h3 x (e2 x hx)⟩
  ·cases hx
 ·rename_i f z' es
  split at hx
  ·rename_i hz
   subst hz
   cases hx
   cases o with
   | sl r =>
    cases r with
    | o h1 => exact ⟨by simp only [er, h1]; rfl, by simp [CF]⟩
    | l a c h1 h2 h3 h4 =>
     rcases h3 with ⟨rfl, rfl⟩ | ⟨b, off, w, k, cs, rfl, e2, e3, e4, e5, e7, e6⟩
     ·exact ⟨by simp only [er, h1]; rfl, by simp [CF]⟩
     ·obtain ⟨r1, r2⟩ := TS (h := h) (g := g) (k := 0) (f := f) e7 h2 (fun i j hi hj => by rw [Nat.zero_add]; exact e6 i j hi hj) (fun i j t ht => by rw [Nat.zero_add]; exact h4 i j t ht)
      exact ⟨by simp only [er, h1, PG, e4, r1]; rfl, r2⟩
  ·cases hx
 ·cases hx
theorem KN : ∀ {l : List X} {bs : List UInt8}, Dm l = some bs → G9 (l.map er) = some bs
 | [], bs, hb => by simpa [Dm, G9] using hb
 | x :: l, bs, hb => by
  cases x with
  | raw v =>
   simp only [Dm] at hb
   split at hb
   ·rename_i b r h1 h2
    cases hb
    simp only [List.map_cons, er, G9, h1, KN h2]
   ·cases hb
  | _ => cases hb
theorem Pu (s : S g h) {a d : TypeId} {x y : X} {g' : H2} (o : Ok h g x) (hx : NR P g a d x = some (y, g')) : ∃ h', HP P h a d (er x) = some (er y, h') ∧ S g' h' ∧ Ext g h g' h' ∧ Ok h' g' y := by
 unfold NR at hx
 split at hx
 ·rename_i h1 h2; cases hx; exact ⟨h, by simp only [er, HP, h1, h2], s, Ext.refl, .raw⟩
 ·rename_i h1 h2; cases hx; exact ⟨h, by simp only [er, HP, h1, h2], s, Ext.refl, .raw⟩
 ·rename_i h1 h2
  split at hx
  ·rename_i e b n l he hs
   split at hx
   ·rename_i bs hc hb
    cases hx
    obtain ⟨e1, e2⟩ := MJ s o hs
    refine ⟨h, ?_, s, Ext.refl, .raw⟩
    simp only [HP, h1, h2, he, e1, hc, KN hb, er]
   ·cases hx
  ·cases hx
 ·rename_i b h1 h2
  split at hx
  ·rename_i e he
   split at hx
   ·rename_i hc
    split at hx
    ·rename_i hb
     cases hx
     obtain ⟨q1, q2⟩ := s.push (z := 1) (cs := b.data.toList.map fun x => X.raw (.int .u8 x.toNat)) (fun x hx => by
      obtain ⟨v, _, rfl⟩ := List.mem_map.1 hx; exact .raw)
     refine ⟨_, ?_, q1, q2, .raw⟩
     simp only [er, HP, h1, h2, he, hc, if_pos hb, s.n]
     congr 3
     simp [List.map_map, Function.comp_def, er]
    ·cases hx
   ·cases hx
  ·cases hx
 ·cases hx
theorem M8 (s : S g h) {t : TypeId} {x y r : X} {g' : H2} (ox : Ok h g x) (oy : Ok h g y) (hx : Gi P g t x y = some (r, g')) : ∃ h', EX P h t (er x) (er y) = some (er r, h') ∧ S g' h' ∧ Ext g h g' h' ∧ Ok h' g' r := by
 unfold Gi at hx
 split at hx
 ·rename_i a n c e sz by_ he
  split at hx
  ·rename_i m news z hs hz
   obtain ⟨s1, s2⟩ := MJ s oy hs
   split at hx
   ·rename_i hc
    have hok := Qo s2 hc.2.2
    split at hx
    ·rename_i hm
     cases hx
     refine ⟨h, ?_, s, Ext.refl, .raw⟩
     simp only [er, EX, he, s1, hz]
     rw [if_pos ⟨hc.1, hc.2.1, hok⟩, if_pos hm]
    ·rename_i hm
     split at hx
     ·cases hx
      obtain ⟨q1, q2⟩ := s.push (z := sz + 1) s2
      refine ⟨_, ?_, q1, q2, .raw⟩
      simp only [er, EX, he, s1, hz, s.n]
      rw [if_pos ⟨hc.1, hc.2.1, hok⟩, if_neg hm]
     ·rename_i a
      split at hx
      ·rename_i k hk
       obtain ⟨k1, k2, k3⟩ := s.row _ _ hk
       split at hx
       ·rename_i hk4
        cases hr : JZ k.cs 0 (n * (sz + 1)) with
        | none => rw [hr] at hx; cases hx
        | some olds =>
         rw [hr] at hx; cases hx
         obtain ⟨e1, e2⟩ := JJ hr
         obtain ⟨q1, q2⟩ := s.kill hk
         obtain ⟨p1, p2⟩ := q1.push (z := sz + 1) (cs := olds ++ news) (fun x hx => by
          rcases List.mem_append.1 hx with hx | hx
          ·exact (k3 x (e2 x hx)).mono q2
          ·exact (s2 x hx).mono q2)
         refine ⟨_, ?_, p1, q2.trans p2, .raw⟩
         simp only [er, EX, he, s1, hz, k2]
         rw [if_pos ⟨hc.1, hc.2.1, hok⟩, if_neg hm, if_pos ⟨trivial, hk4.1, hk4.2⟩, e1]
         simp [s.n, Heap.kill]
       ·cases hx
      ·cases hx
   ·cases hx
  ·cases hx
 ·cases hx
theorem Dn : ∀ {xs : List X} {l : List Value}, Gw xs = some l → xs.map er = l
 | [], l, hl => by simp [Gw] at hl; simp [hl]
 | x :: xs, l, hl => by
  cases x with
  | raw v =>
   simp only [Gw] at hl
   cases hr : Gw xs with
   | none => rw [hr] at hl; cases hl
   | some r => rw [hr] at hl; cases hl; simp [er, Dn hr]
  | _ => cases hl
theorem ME (s : S g h) {b : Builtin} {ts : List TypeId} {xs : List X} {y : X} {g' : H2} (o : ∀ x ∈ xs, Ok h g x) (hx : B3 P g b ts xs = some (y, g')) :
  ∃ h', BY P h b ts (xs.map er) = some (er y, h') ∧ S g' h' ∧ Ext g h g' h' ∧ Ok h' g' y := by
 unfold B3 at hx
 split at hx
 ·split at hx
  ·rename_i hc; cases hx; exact ⟨h, by simp only [List.map_cons, List.map_nil, er, BY, hc], s, Ext.refl, .raw⟩
  ·cases hx
 ·split at hx
  ·rename_i hc; cases hx; exact ⟨h, by simp only [List.map_cons, List.map_nil, er, BY, hc], s, Ext.refl, .raw⟩
  ·cases hx
 ·split at hx
  ·rename_i hc; cases hx
   refine ⟨h, ?_, s, Ext.refl, .raw⟩
   rcases (o _ List.mem_cons_self).slV with ⟨a, c, e⟩ | ⟨e, rfl⟩ <;> simp only [List.map_cons, List.map_nil, er, e, BY, hc, List.length_nil, Int.natCast_zero]
  ·cases hx
 ·split at hx
  ·rename_i hc
   obtain ⟨h', h1, h2⟩ := M8 s (o _ (by simp)) (o _ (by simp)) hx
   exact ⟨h', by simp only [List.map_cons, List.map_nil, BY, hc, if_true, h1], h2⟩
  ·cases hx
 ·split at hx
  ·rename_i l hl
   cases hm : Br mxI l with
   | none => rw [hm] at hx; cases hx
   | some v => rw [hm] at hx; cases hx; exact ⟨h, by simp only [Dn hl, BY, hm]; rfl, s, Ext.refl, .raw⟩
  ·cases hx
 ·split at hx
  ·rename_i l hl
   cases hm : Br mnI l with
   | none => rw [hm] at hx; cases hx
   | some v => rw [hm] at hx; cases hx; exact ⟨h, by simp only [Dn hl, BY, hm]; rfl, s, Ext.refl, .raw⟩
  ·cases hx
 ·cases hx
theorem Pt (s : S g h) {t : TypeId} {l c y : X} {g' : H2} (hx : Et P g t l c = some (y, g')) : ∃ h', E0 P h t (er l) (er c) = some (er y, h') ∧ S g' h' ∧ Ext g h g' h' ∧ Ok h' g' y := by
 unfold Et at hx
 split at hx
 ·rename_i l c e sz by_ he
  split at hx
  ·rename_i z hz
   split at hx
   ·rename_i hc
    cases hx
    obtain ⟨q1, q2⟩ := s.push (z := sz) (cs := (repL l.toNat z).map .raw) Ga
    refine ⟨_, ?_, q1, q2, .raw⟩
    simp only [er, E0, he, hz]
    rw [if_pos hc, DF, s.n]
   ·cases hx
  ·cases hx
 ·cases hx
end Go.Bi
namespace Go.Bi
open Go.Ai
variable {P : Program} {g : H2} {h : Heap}
theorem HF {place : Nat → Option (Nat × Nat)} {e : E2} (o : ∀ t, Ok h g (e t)) : ∀ {ps : List (Nat × Operand)} {cs l : List X}, (∀ x ∈ cs, Ok h g x) → Es place e ps cs = some l →
  Aw place e.er ps (cs.map er) = some (l.map er) ∧ ∀ x ∈ l, Ok h g x
 | [], cs, l, h0, hf => by simp only [Es] at hf; cases hf; exact ⟨rfl, h0⟩
 | (i, x) :: r, cs, l, h0, hf => by
  simp only [Es] at hf
  have oo : Ok h g (e.op x) := by
   cases x with
   | tmp t => exact o t
   | const v => exact YV v
   | global _ => exact .raw
   | func _ => exact .raw
  split at hf
  ·rename_i off n vs hp hc
   obtain ⟨c1, c2⟩ := HZ oo hc
   split at hf
   ·rename_i hv
    split at hf
    ·rename_i cs' hw
     obtain ⟨w1, w2⟩ := Nb hw
     obtain ⟨f1, f2⟩ := HF o (fun x hx => (w2 x hx).elim (h0 x) (c2 x)) hf
     refine ⟨?_, f2⟩
     simp only [Aw, hp, ← CO, c1]
     rw [if_pos (by simpa using hv), w1]; exact f1
    ·cases hf
   ·cases hf
  ·cases hf
theorem NJ {x : X} {t : T} (o : Ok h g x) (ht : J2 x = some t) {f : AQ} (hf : ∀ p, f p = Qd p x) : JY h g f t := by
 cases o with
 | raw =>
  simp only [J2] at ht
  split at ht
  ·cases ht; exact .v (hf [])
  ·cases ht
 | sl r =>
  simp only [J2] at ht; cases ht
  have : f = _ := funext hf
  rw [this]; exact r
 | _ => simp [J2] at ht
theorem F9 : ∀ {cs : List X} {ts : List T}, CR cs = some ts → ts.length = cs.length ∧ ∀ (i : Nat) (t : T), ts[i]? = some t → ∃ x, cs[i]? = some x ∧ J2 x = some t
 | [], ts, ht => by simp [CR] at ht; subst ht; simp
 | x :: cs, ts, ht => by
  simp only [CR] at ht
  split at ht
  ·rename_i t r h1 h2
   cases ht
   obtain ⟨e1, e2⟩ := F9 h2
   refine ⟨by simp [e1], fun i t hi => ?_⟩
   cases i with
   | zero => simp at hi; subst hi; exact ⟨x, rfl, h1⟩
   | succ i => simp at hi; simpa using e2 i t hi
  ·cases ht
theorem Ft {z : Nat} : ∀ {n : Nat} {l : List T}, (chunk z n l).length = n
 | 0, l => rfl
 | n + 1, l => by simp [chunk, Ft]
theorem Jh {z : Nat} : ∀ {n : Nat} {l : List T}, l.length = n * z → ∀ e ∈ chunk z n l, e.length = z
 | 0, l, _, e, he => by simp [chunk] at he
 | n + 1, l, hl, e, he => by
  rw [Nat.add_mul] at hl
  simp only [chunk, List.mem_cons] at he
  rcases he with rfl | he
  ·simp; omega
  ·exact Jh (by simp; omega) e he
theorem Hn {z : Nat} : ∀ {n : Nat} {l : List T} {i j : Nat} {t : T}, ((chunk z n l)[i]?).bind (·[j]?) = some t → j < z ∧ l[i * z + j]? = some t
 | 0, l, i, j, t, ht => by simp [chunk] at ht
 | n + 1, l, 0, j, t, ht => by
  simp only [chunk, List.getElem?_cons_zero, Option.bind_some, List.getElem?_take] at ht
  split at ht
  ·rename_i hj; exact ⟨hj, by simpa using ht⟩
  ·cases ht
 | n + 1, l, i + 1, j, t, ht => by
  simp only [chunk, List.getElem?_cons_succ] at ht
  obtain ⟨h1, h2⟩ := Hn ht
  refine ⟨h1, ?_⟩
  rw [List.getElem?_drop] at h2
  rw [← h2]; congr 1; rw [Nat.add_mul]; omega
theorem WE (s : S g h) {n z : Nat} {cs : List X} (hl : cs.length = n * z) (o : ∀ x ∈ cs, Ok h g x) {y : X} {g' : H2} (hx : U3 g n z cs = (y, g')) :
  er y = .slice (some ⟨h.n, 0, none⟩) n n ∧ S g' (h.push ⟨true, z, cs.map er⟩) ∧ Ext g h g' (h.push ⟨true, z, cs.map er⟩) ∧ Ok (h.push ⟨true, z, cs.map er⟩) g' y := by
 unfold U3 at hx
 split at hx
 ·rename_i m ts hts
  cases hx
  obtain ⟨q1, q2⟩ := s.up (k' := ⟨true, z, cs.map er⟩)
  obtain ⟨t1, t2⟩ := F9 hts
  refine ⟨by simp only [er, FU, s.n], q1, q2, .sl (.l (some ⟨g.n, 0, none⟩) (m + 1) (by simp only [FU, Ft]) (Jh (by rw [t1, hl])) (.inr ⟨g.n, 0, true, z, cs.map er, rfl, ?_, ?_, ?_, fun _ => rfl, Nat.zero_le _, fun i j hi hj => ?_⟩) fun i j t ht => ?_)⟩
  ·simp [Heap.push, s.n]
  ·simp only [H2.up]; rw [s.n]; exact s.fresh
  ·simp [Heap.push, s.n]
  ·rw [Ft] at hi
   have hlt : i * z + j < cs.length := by
    have : i * z + z ≤ (m + 1) * z := by rw [← Nat.succ_mul]; exact Nat.mul_le_mul_right z hi
    have h9 : cs.length = (m + 1) * z := hl
    omega
   rw [Nat.zero_add, List.getElem?_map, List.getElem?_eq_getElem hlt]
   simp only [Option.map_some, FU, List.getD_eq_getElem?_getD, List.getElem?_eq_getElem hlt, Option.getD_some]
   cases cs[i * z + j] <;> rfl
  ·obtain ⟨c1, c2⟩ := Hn ht
   obtain ⟨x, x1, x2⟩ := t2 _ _ c2
   refine NJ ((o x (List.mem_of_getElem? x1)).mono q2) x2 fun p => ?_
   simp only [below, FU, List.getD_eq_getElem?_getD, x1, Option.getD_some]
 ·cases hx
  obtain ⟨q1, q2⟩ := s.push (z := z) o
  exact ⟨by simp only [er, s.n], q1, q2, .raw⟩
theorem De {e : E2} (o : ∀ t, Ok h g (e t)) (x : Operand) : Ok h g (e.op x) := by
 cases x with
 | tmp t => exact o t
 | const v => exact YV v
 | global _ => exact .raw
 | func _ => exact .raw
theorem Ra {op : BinOp} {t : TypeId} {x y r : X} (ox : Ok h g x) (oy : Ok h g y) (hx : LB P op t x y = some r) : binV P op t (er x) (er y) = some (er r) ∧ Ok h g r := by
 unfold LB at hx
 split at hx
 ·obtain ⟨v, h1, rfl⟩ := Fw hx; exact ⟨h1, .raw⟩
 ·split at hx
  ·rename_i hc; cases hx
   refine ⟨?_, .raw⟩
   rcases ox.slV with ⟨a, c, e⟩ | ⟨e, _⟩
   ·simp only [er, e, binV, eqV, hc, P5]
    cases a <;> simp
   ·simp only [er, e, binV, eqV, hc, P5]; rfl
  ·rename_i hc; cases hx
   refine ⟨?_, .raw⟩
   rcases ox.slV with ⟨a, c, e⟩ | ⟨e, _⟩
   ·simp only [er, e, binV, eqV, hc, P5]
    cases a <;> simp
   ·simp only [er, e, binV, eqV, hc, P5]; rfl
  ·cases hx
 ·cases ox with
  | pr h1 h2 h3 h0 h4 h5 =>
   split at hx
   ·rename_i hc; cases hx
    exact ⟨by simp only [er, binV, eqV, hc]; rfl, .raw⟩
   ·rename_i hc; cases hx
    exact ⟨by simp only [er, binV, eqV, hc]; rfl, .raw⟩
   ·cases hx
 ·split at hx
  ·rename_i u v hu hv
   obtain ⟨w, h1, rfl⟩ := Fw hx
   refine ⟨?_, .raw⟩
   simp only [er, Cy, Dn hu, Dn hv]
   exact h1
  ·cases hx
 ·cases hx
theorem Kz {n : Nat} {z : List Value} : (repL n z).length = n * z.length := by
 induction n with
 | zero => simp [repL]
 | succ n ih => rw [Yd, List.length_append, ih, Nat.add_mul]; omega
theorem Xw {cs vs l : List X} {off : Nat} (hw : Ct cs off vs = some l) : l.length = cs.length := by
 unfold Ct at hw; split at hw
 ·cases hw; simp; omega
 ·cases hw
theorem NY {place : Nat → Option (Nat × Nat)} {e : E2} : ∀ {ps : List (Nat × Operand)} {cs l : List X}, Es place e ps cs = some l → l.length = cs.length
 | [], cs, l, hf => by simp only [Es] at hf; cases hf; rfl
 | (i, x) :: r, cs, l, hf => by
  simp only [Es] at hf
  split at hf
  ·split at hf
   ·split at hf
    ·rename_i hw; rw [NY hf, Xw hw]
    ·cases hf
   ·cases hf
  ·cases hf
theorem VE {x : X} (o : Ok h g x) (hp : ZS x = true) : ptrV (er x) = true := by
  cases o with
  | raw => rename_i v; cases v <;> try (cases hp; done)
           rename_i a; cases a <;> first | rfl | cases hp
  | pr => rfl
  | _ => cases hp
theorem Nr {e : E2} (s : S g h) (o : ∀ t, Ok h g (e t)) {op : Op} {y : X} {g' : H2} (hx : Ke P e g op = some (y, g')) :
  ∃ h', C3 P e.er h op = some (er y, h') ∧ S g' h' ∧ Ext g h g' h' ∧ Ok h' g' y := by
 have stay : ∀ {r : Option X} {v : Option Value}, (∀ z, r = some z → v = some (er z) ∧ Ok h g z) → r.map (·, g) = some (y, g') → ∃ h', v.map (·, h) = some (er y, h') ∧ S g' h' ∧ Ext g h g' h' ∧ Ok h' g' y := by
  intro r v hrv hm
  cases r with
  | none => cases hm
  | some z => simp only [Option.map_some, Option.some.injEq, Prod.mk.injEq] at hm; obtain ⟨rfl, rfl⟩ := hm; obtain ⟨h1, h2⟩ := hrv _ rfl; exact ⟨h, by rw [h1]; rfl, s, Ext.refl, h2⟩
 unfold Ke at hx
 split at hx
 ·cases hx; exact ⟨h, by simp only [C3, ← CO], s, Ext.refl, De o _⟩
 ·cases hx; exact ⟨h, by simp only [C3, ← CO], s, Ext.refl, De o _⟩
 ·split at hx
  ·rename_i hc; cases hx; exact ⟨h, by simp only [C3, ← CO, hc, er], s, Ext.refl, De o _⟩
  ·rename_i hc; cases hx; exact ⟨h, by simp only [C3, ← CO, hc, er], s, Ext.refl, De o _⟩
  ·cases hx
 ·split at hx
  ·rename_i z n hz hn
   cases hx
   obtain ⟨q1, q2⟩ := s.push (z := n) (cs := z.map .raw) Ga
   refine ⟨_, ?_, q1, q2, .raw⟩
   simp only [C3, hz, hn, Sw, er, DF, s.n]
  ·cases hx
 ·split at hx
  ·rename_i cs n hc hn
   cases hx
   obtain ⟨c1, c2⟩ := HZ (De o _) hc
   obtain ⟨q1, q2⟩ := s.push (z := n) c2
   refine ⟨_, ?_, q1, q2, .raw⟩
   simp only [C3, ← CO, c1, hn, Sw, er, s.n]
  ·cases hx
 ·split at hx
  ·rename_i z hz
   split at hx
   ·rename_i hb
    generalize hf : Es _ _ _ _ = r at hx
    cases r with
    | none => cases hx
    | some l =>
     cases hx
     obtain ⟨f1, f2⟩ := HF o Ga hf
     rw [DF] at f1
     refine ⟨h, ?_, s, Ext.refl, .st f2⟩
     simp only [C3, hz, if_pos hb, f1, er, Cy]; rfl
   ·cases hx
  ·cases hx
 ·split at hx
  ·rename_i u sz by_ he
   split at hx
   ·rename_i z hz
    split at hx
    ·rename_i hc
     generalize hf : Es _ _ _ _ = r at hx
     cases r with
     | none => cases hx
     | some l =>
      have hx := Option.some.inj hx
      have hlen := NY hf
      obtain ⟨f1, f2⟩ := HF o Ga hf
      rw [DF] at f1
      obtain ⟨l1, l2, l3, l4⟩ := WE s (n := _) (z := sz) (cs := l) (by rw [hlen, List.length_map, Kz, hc.2.1]) f2 hx
      refine ⟨_, ?_, l2, l3, l4⟩
      simp only [C3, he, hz, if_pos hc, f1, l1]; rfl
    ·cases hx
   ·cases hx
  ·cases hx
 ·simp only [C3, ← CO]
  exact stay (fun z hz => KP s (De o _) hz) hx
 ·generalize hf : IM _ _ _ _ _ = r at hx
  cases r with
  | none => cases hx
  | some g2 =>
   cases hx
   obtain ⟨h', s1, s2, s3⟩ := OW s (De o _) hf
   exact ⟨h', by simp only [C3, ← CO, s1]; rfl, s2, s3, .raw⟩
 ·split at hx
  ·rename_i hp
   cases hx
   refine ⟨h, ?_, s, Ext.refl, De o _⟩
   simp only [C3, ← CO]; rw [if_pos (VE (De o _) hp)]
  ·cases hx
 ·simp only [C3, ← CO]
  exact stay (fun z hz => Ra (De o _) (De o _) hz) hx
 ·simp only [C3, ← CO]
  refine stay (fun z hz => ?_) hx
  unfold fT at hz
  split at hz
  ·rename_i heq
   obtain ⟨v, h1, rfl⟩ := Fw hz
   rw [heq]
   exact ⟨h1, .raw⟩
  ·cases hz
 ·simp only [C3, ← CO]
  exact Pu s (De o _) hx
 ·split at hx
  ·rename_i l hl
   split at hx
   ·rename_i hc
    cases hx
    refine ⟨h, ?_, s, Ext.refl, .raw⟩
    have hr := Dn hl
    rw [List.map_map, show (Bi.er ∘ e.op) = e.er.op from funext fun x => CO e x] at hr
    simp only [C3]
    rw [if_pos ⟨hc.1, by have := hc.2; rw [← hr] at this; simpa using this⟩, ← hr]
    simp only [er]
    congr 3
    apply Array.ext'; simp
   ·cases hx
  ·cases hx
 ·simp only [C3, ← CO]
  exact Pt s hx
 ·simp only [C3]
  refine stay (fun z hz => ?_) hx
  have := OV s (De o _) hz
  simp only [Option.map_map, show (Bi.er ∘ e.op) = e.er.op from funext fun x => CO e x, CO] at this
  exact this
 ·simp only [C3, ← CO]
  exact stay (fun z hz => J0 (De o _) hz) hx
 ·simp only [C3, ← CO]
  refine stay (fun z hz => ?_) hx
  have oo := De o (x := ‹Operand›)
  unfold Wy at hz
  split at hz
  ·rename_i cs p heq hf
   rw [heq] at oo ⊢
   cases oo with
   | st hcs =>
    simp only [er, Cy, MP, hf]
    obtain ⟨off, n, b⟩ := p
    cases b with
    | true =>
     simp only [XP] at hz
     cases hr : JZ cs off n with
     | none => rw [hr] at hz; cases hz
     | some l =>
      rw [hr] at hz; cases hz
      obtain ⟨e1, e2⟩ := JJ hr
      exact ⟨by simp only [Nm, e1]; simp [er, Cy], .st fun x hx => hcs x (e2 x hx)⟩
    | false =>
     simp only [XP] at hz
     exact ⟨by simp only [Nm, List.getElem?_map, hz]; rfl, hcs _ (List.mem_of_getElem? hz)⟩
  ·cases hz
 ·simp only [C3, ← CO]
  exact stay (fun z hz => KC (De o _) hz) hx
 ·simp only [C3, ← CO]
  refine stay (fun z hz => ?_) hx
  unfold Wx at hz
  split at hz
  ·rename_i h1 h2
   obtain ⟨v, h3, rfl⟩ := Fw hz
   rw [h1, h2]
   exact ⟨h3, .raw⟩
  ·cases hz
 ·simp only [C3, ← CO]
  refine stay (fun z hz => ?_) hx
  have oo := De o (x := ‹Operand›)
  unfold EG at hz
  split at hz
  ·rename_i vs heq
   rw [heq] at oo ⊢
   cases oo with
   | tp hcs => exact ⟨by simp [er, Cy, HX, hz], hcs _ (List.mem_of_getElem? hz)⟩
  ·cases hz
 ·obtain ⟨h', b1, b2⟩ := ME s (xs := List.map e.op _) (fun x hx => by obtain ⟨q, _, rfl⟩ := List.mem_map.1 hx; exact De o q) hx
  rw [List.map_map, show (Bi.er ∘ e.op) = e.er.op from funext fun x => CO e x] at b1
  exact ⟨h', by simp only [C3]; exact b1, b2⟩
 ·cases hx
end Go.Bi
namespace Go.Bi
open Go.Ai
variable {P : Program} {W0 : World}
def A7 (P : Program) (W0 : World) (f : FuncId) (xs : List X) (g : H2) (K : X → H2 → Prop) : Prop :=
 ∀ h, S g h → (∀ x ∈ xs, Ok h g x) → WC P W0 f (xs.map er) h fun v h' => ∃ x g', v = er x ∧ S g' h' ∧ Ext g h g' h' ∧ Ok h' g' x ∧ K x g'
theorem A7.mono {f : FuncId} {xs : List X} {g : H2} {K K' : X → H2 → Prop} (c : A7 P W0 f xs g K) (hk : ∀ x g', K x g' → K' x g') : A7 P W0 f xs g K' :=
 fun h s o => (c h s o).mono fun v h' ⟨x, g', h1, h2, h3, h4, h5⟩ => ⟨x, g', h1, h2, h3, h4, hk _ _ h5⟩
abbrev Q2 := Ex → E2 → H2 → Prop
def Cw (e : E2) : Op → Option (FuncId × List X)
 | .call { callee := .value f, args := xs, argTypes := _ } =>
  match e.op f with
  | .raw (.func (.func g) first caps) => if first.size = 0 then some (g, xs.toList.map e.op ++ caps.toList.map .raw) else none
  | _ => none
 | _ => none
def Vk (want : Bool) : X → Option Bool
 | .raw (.bool b) => some (b == want)
 | .raw (.tuple _) => some false
 | _ => none
def Dp (ops : List Oper) (e : E2) : Option (Nat × Bool) → Option Bool
 | none => some true
 | some (j, want) => match Ba ops j with
  | none => some false
  | some t => Vk want (e t)
def Ff (r : Option (X × H2)) (K : X → H2 → Prop) : Prop := match r with | some (v, g) => K v g | none => False
def DJ (P : Program) (W0 : World) (e : E2) (g : H2) (o : Op) (K : X → H2 → Prop) : Prop :=
 match Cw e o with
 | some (f, args) => A7 P W0 f args g K
 | none => Ff (Ke P e g o) K
def M4 (P : Program) (W0 : World) (ops : List Oper) : List Oper → E2 → H2 → Q2 → Prop
 | [], e, g, Q => Q .normal e g
 | o :: r, e, g, Q => guarded (Dp ops e o.guard) (DJ P W0 e g o.op fun v g' => M4 P W0 ops r (e.putO o.dst v) g' Q) (M4 P W0 ops r (e.putO o.dst (.raw undef)) g Q)
def Mp (P : Program) (l : List Oper) (q : Nat) (e : E2) (g : H2) : Prop := match l[q]? with
 | none => True
 | some o => match Dp l e o.guard with
  | some true => (match o.dst with | some d => CI P o.op = true ∧ Ke P e g o.op = some (e d, g) | none => False)
  | some false => True
  | none => False
def Iy (P : Program) (W0 : World) (l : List Oper) : PT → E2 → H2 → Q2 → Prop
 | .nil, e, g, Q => Q .normal e g
 | .alt a b, e, g, Q => Iy P W0 l a e g Q ∧ Iy P W0 l b e g Q
 | .op i pd r, e, g, Q => match l[i]? with
  | none => False
  | some o => guarded (Dp l e o.guard) (DJ P W0 e g o.op fun v g' => (∀ q ∈ pd, Mp P l q (e.putO o.dst v) g') ∧ Iy P W0 l r (e.putO o.dst v) g' Q) (Iy P W0 l r (e.putO o.dst (.raw undef)) g Q)
def bg (K : E2 → H2 → Prop) (Q : Q2) : Q2
 | .normal, e, g => K e g
 | .ret, e, g => Q .ret e g
 | .exit j, e, g => Q (.exit j) e g
def FH (id : Nat) (Q : Q2) : Q2
 | .normal, e, g => Q .normal e g
 | .ret, e, g => Q .ret e g
 | .exit j, e, g => if j = id then Q .normal e g else Q (.exit j) e g
def Ic (I : Nat → E2 → H2 → Prop) (n : Nat) (Q : Q2) : Q2
 | .normal, e, g => ∃ m, m < n ∧ I m e g
 | .ret, e, g => Q .ret e g
 | .exit j, e, g => Q (.exit j) e g
def TQ (v : X) (A B : Prop) : Prop := match v with | .raw (.bool b) => gate b A B | _ => False
def UB : Option (List Nat) → E2 → E2
 | none, e => e
 | some ks, e => fun t => if ks.contains t then e t else .raw hole
def FC (P : Program) (W0 : World) (cp : Nat → Option (List Nat)) : Code → E2 → H2 → Q2 → Prop
 | .skip, e, g, Q => Q .normal e g
 | .region id ops false, e, g, Q => M4 P W0 ops.toList ops.toList (UB (cp id) e) g Q
 | .region id ops true, e, g, Q => ∃ p, G7 P ops.toList p = true ∧ Iy P W0 ops.toList p (UB (cp id) e) g Q
 | .seq a b, e, g, Q => FC P W0 cp a e g (bg (fun e g => FC P W0 cp b e g Q) Q)
 | .cond c t f, e, g, Q => TQ (e.op c) (FC P W0 cp t e g Q) (FC P W0 cp f e g Q)
 | .block id b, e, g, Q => FC P W0 cp b e g (FH id Q)
 | .loop b, e, g, Q => ∃ (I : Nat → E2 → H2 → Prop) (n : Nat), I n e g ∧ ∀ n e g, I n e g → FC P W0 cp b e g (Ic I n Q)
 | .exit id, e, g, Q => Q (.exit id) e g
 | .ret, e, g, Q => Q .ret e g
 | _, _, _, _ => False
def Kd (P : Program) (g : H2) (e : E2) : List ResultVar → Option (List X)
 | [] => some []
 | .tmp t :: r => match Kd P g e r with
  | some l => some (e t :: l)
  | none => none
 | .cell a t :: r => match HE P g t (e a), Kd P g e r with
  | some v, some l => some (v :: l)
  | _, _ => none
def Bm : X → Bool
 | .tp _ => true
 | .raw (.tuple _) => true
 | _ => false
def Vt (l : List X) : Option X := match l with
 | [v] => some v
 | l => if l.all (fun v => !isTpX v) = true then some (.tp l) else none
def HD (xs : List X) : E2 := fun t => xs.getD t (.raw undef)
def QI (r : Option (List X)) (g : H2) (K : X → H2 → Prop) : Prop := match r with
 | some l => match Vt l with
  | some v => K v g
  | none => False
 | none => False
def Ql (P : Program) (rs : List ResultVar) (K : X → H2 → Prop) : Q2
 | .exit _, _, _ => False
 | .normal, e, g => QI (Kd P g e rs) g K
 | .ret, e, g => QI (Kd P g e rs) g K
structure Re (g0 : H2) (h0 : Heap) (e : E2) (g : H2) (e' : Env) (h : Heap) : Prop where
 env : e' = e.er
 s : S g h
 x : Ext g0 h0 g h
 ok : ∀ t, Ok h g (e t)
theorem Re.put {g0 g g' : H2} {h0 h h' : Heap} {e : E2} {e' : Env} (r : Re g0 h0 e g e' h) (s : S g' h') (x : Ext g h g' h') {d : Option Nat} {v : X} (ov : Ok h' g' v) : Re g0 h0 (e.putO d v) g' (e'.putO d (er v)) h' := by
 refine ⟨by rw [r.env, dN], s, r.x.trans x, fun t => ?_⟩
 cases d with
 | none => exact (r.ok t).mono x
 | some d =>
  simp only [E2.putO, E2.put]
  split
  ·exact ov
  ·exact (r.ok t).mono x
theorem EV {ops : List Oper} {e : E2} {g : Option (Nat × Bool)} {b : Bool} (hg : Dp ops e g = some b) : guardOf ops e.er g = some b := by
 unfold Dp at hg; unfold guardOf
 split at hg
 ·exact hg
 ·split at hg
  ·rename_i h1; simp only [h1]; exact hg
  ·rename_i t h1
   simp only [h1, E2.er]
   unfold Vk at hg
   split at hg
   ·rename_i h2; rw [h2]; exact hg
   ·rename_i h2; rw [h2]; exact hg
   ·cases hg
theorem P6 {e : E2} {o : Op} {f : FuncId} {args : List X} (hc : Cw e o = some (f, args)) : B6 e.er o = some (f, args.map er) := by
 unfold Cw at hc
 split at hc
 ·rename_i fo xs ts
  split at hc
  ·rename_i fn first caps hfo
   split at hc
   ·rename_i h0
    cases hc
    have : e.er.op fo = .func (.func f) first caps := by rw [← CO, hfo]; rfl
    simp only [B6, this, if_pos h0, List.map_append, List.map_map, show (er ∘ e.op) = e.er.op from funext fun x => CO e x]
    congr 2
    simp [Function.comp_def, er]
   ·cases hc
  ·cases hc
 ·cases hc
theorem S8 {e : E2} {g : H2} {o : Op} {r : X × H2} (hx : Ke P e g o = some r) (e' : Env) : B6 e' o = none := by
 unfold Ke at hx
 split at hx <;> first | rfl | cases hx
theorem K9 {g0 g : H2} {h0 h : Heap} {e : E2} {e' : Env} {o : Op} {K : X → H2 → Prop} {K' : Value → Heap → Prop} (r : Re g0 h0 e g e' h) (hv : DJ P W0 e g o K)
  (hk : ∀ x g' h', S g' h' → Ext g h g' h' → Ok h' g' x → K x g' → K' (er x) h') : H9 P W0 e' h o K' := by
 unfold DJ at hv
 obtain rfl := r.env
 split at hv
 ·rename_i f args hc
  unfold H9
  rw [P6 hc]
  refine (hv h r.s fun x hx => ?_).mono fun v h' ⟨x, g', h1, h2, h3, h4, h5⟩ => by rw [h1]; exact hk x g' h' h2 h3 h4 h5
  unfold Cw at hc
  split at hc
  ·split at hc
   ·split at hc
    ·cases hc
     rcases List.mem_append.1 hx with hx | hx
     ·obtain ⟨q, _, rfl⟩ := List.mem_map.1 hx; exact De r.ok q
     ·exact Ga x hx
    ·cases hc
   ·cases hc
  ·cases hc
 ·unfold Ff at hv
  split at hv
  ·rename_i v g' hx
   obtain ⟨h', h1, h2, h3, h4⟩ := Nr r.s r.ok hx
   unfold H9
   rw [S8 hx]
   simp only [h1, andThen]
   exact hk v g' h' h2 h3 h4 hv
  ·cases hv
abbrev To (g0 : H2) (h0 : Heap) (Q : Q2) (Q' : QT) : Prop := ∀ x e g e' h, Re g0 h0 e g e' h → Q x e g → Q' x e' h
theorem Ie {g0 : H2} {h0 : Heap} {ops : List Oper} {Q : Q2} {Q' : QT} (hQ : To g0 h0 Q Q') : ∀ (l : List Oper) (e : E2) (g : H2) (e' : Env) (h : Heap), Re g0 h0 e g e' h → M4 P W0 ops l e g Q → W4 P W0 ops l e' h Q'
 | [], e, g, e', h, r, hv => hQ _ _ _ _ _ r hv
 | o :: l, e, g, e', h, r, hv => by
  simp only [M4, guarded] at hv
  simp only [W4, guarded]
  split at hv
  ·rename_i b hb
   have := EV hb
   rw [← r.env] at this
   rw [this]
   refine ⟨fun hbt => ?_, fun hbf => ?_⟩
   ·exact K9 r (hv.1 hbt) fun x g' h' s1 s2 s3 s4 => Ie hQ l _ _ _ _ (r.put s1 s2 s3) s4
   ·exact Ie hQ l _ _ _ _ (r.put r.s Ext.refl .raw) (hv.2 hbf)
  ·cases hv
theorem PA {g0 g : H2} {h0 h : Heap} {e : E2} {e' : Env} (r : Re g0 h0 e g e' h) {l : List Oper} {q : Nat} (hs : Mp P l q e g) : stays P l q e' h := by
 unfold Mp at hs; unfold stays
 obtain rfl := r.env
 split at hs
 ·rename_i h1; simp only [h1]
 ·rename_i o h1
  simp only [h1]
  split at hs
  ·rename_i hg
   rw [EV hg]
   simp only
   split at hs
   ·rename_i d hd
    obtain ⟨h', o1, _, _, _⟩ := Nr r.s r.ok hs.2
    have := (Ey hs.1 o1).1
    simp only [hd]; rw [o1, this]; rfl
   ·cases hs
  ·rename_i hg; rw [EV hg]; trivial
  ·cases hs
theorem Eo {g0 : H2} {h0 : Heap} {l : List Oper} {Q : Q2} {Q' : QT} (hQ : To g0 h0 Q Q') : ∀ (p : PT) (e : E2) (g : H2) (e' : Env) (h : Heap), Re g0 h0 e g e' h → Iy P W0 l p e g Q → ER P W0 l p e' h Q'
 | .nil, e, g, e', h, r, hv => hQ _ _ _ _ _ r hv
 | .alt a b, e, g, e', h, r, hv => ⟨Eo hQ a _ _ _ _ r hv.1, Eo hQ b _ _ _ _ r hv.2⟩
 | .op i pd p, e, g, e', h, r, hv => by
  simp only [Iy] at hv
  simp only [ER]
  split at hv
  ·cases hv
  ·rename_i o ho
   unfold guarded at hv ⊢
   split at hv
   ·rename_i b hb
    have := EV hb
    rw [← r.env] at this
    simp only [ho, this]
    refine ⟨fun hbt => ?_, fun hbf => ?_⟩
    ·refine K9 r (hv.1 hbt) fun x g' h' s1 s2 s3 s4 => ?_
     have r' := r.put s1 s2 (d := o.dst) s3
     exact ⟨fun q hq => PA r' (s4.1 q hq), Eo hQ p _ _ _ _ r' s4.2⟩
    ·exact Eo hQ p _ _ _ _ (r.put r.s Ext.refl .raw) (hv.2 hbf)
   ·cases hv
theorem Re.cut {g0 g : H2} {h0 h : Heap} {e : E2} {e' : Env} (r : Re g0 h0 e g e' h) (o : Option (List Nat)) : Re g0 h0 (UB o e) g (Rh o e') h := by
 obtain rfl := r.env
 cases o with
 | none => exact r
 | some ks =>
  refine ⟨?_, r.s, r.x, fun t => ?_⟩
  ·funext t; simp only [Rh, eQ, UB, E2.er]; split <;> rfl
  ·simp only [UB]; split
   ·exact r.ok t
   ·exact .raw
theorem DP {g0 : H2} {h0 : Heap} {cp : Nat → Option (List Nat)} : ∀ (c : Code) (Q : Q2) (Q' : QT), To g0 h0 Q Q' → ∀ (e : E2) (g : H2) (e' : Env) (h : Heap), Re g0 h0 e g e' h → FC P W0 cp c e g Q → Qv P W0 ⟨gw P W0, cp⟩ c e' h Q'
 | .skip, Q, Q', hQ, e, g, e', h, r, hv => hQ _ _ _ _ _ r hv
 | .region id ops false, Q, Q', hQ, e, g, e', h, r, hv => Ie hQ _ _ _ _ _ (r.cut _) hv
 | .region id ops true, Q, Q', hQ, e, g, e', h, r, hv => by
  obtain ⟨p, h1, h2⟩ := hv
  exact ⟨p, h1, Eo hQ _ _ _ _ _ (r.cut _) h2⟩
 | .seq a b, Q, Q', hQ, e, g, e', h, r, hv => by
  refine DP a _ _ ?_ e g e' h r hv
  intro x e g e' h r hq
  cases x with
  | normal => exact DP b Q Q' hQ e g e' h r hq
  | ret => exact hQ _ _ _ _ _ r hq
  | exit j => exact hQ _ _ _ _ _ r hq
 | .cond c t f, Q, Q', hQ, e, g, e', h, r, hv => by
  simp only [FC, TQ] at hv
  simp only [Qv, Ti]
  split at hv
  ·rename_i b hb
   have : e'.op c = .bool b := by rw [r.env, ← CO, hb]; rfl
   rw [this]
   exact ⟨fun hb => DP t Q Q' hQ e g e' h r (hv.1 hb), fun hb => DP f Q Q' hQ e g e' h r (hv.2 hb)⟩
  ·cases hv
 | .block id b, Q, Q', hQ, e, g, e', h, r, hv => by
  refine DP b _ _ ?_ e g e' h r hv
  intro x e g e' h r hq
  cases x with
  | normal => exact hQ _ _ _ _ _ r hq
  | ret => exact hQ _ _ _ _ _ r hq
  | exit j =>
   simp only [FH] at hq
   simp only [Io]
   split at hq
   ·rename_i hj; rw [if_pos hj]; exact hQ _ _ _ _ _ r hq
   ·rename_i hj; rw [if_neg hj]; exact hQ _ _ _ _ _ r hq
 | .loop b, Q, Q', hQ, e, g, e', h, r, hv => by
  obtain ⟨I, n, h1, h2⟩ := hv
  refine ⟨fun n e' h => ∃ e g, Re g0 h0 e g e' h ∧ I n e g, n, ⟨e, g, r, h1⟩, ?_⟩
  rintro n e' h ⟨e, g, r, hI⟩
  refine DP b _ _ ?_ e g e' h r (h2 n e g hI)
  intro x e g e' h r hq
  cases x with
  | normal => obtain ⟨m, hm, hq⟩ := hq; exact ⟨m, hm, e, g, r, hq⟩
  | ret => exact hQ _ _ _ _ _ r hq
  | exit j => exact hQ _ _ _ _ _ r hq
 | .exit id, Q, Q', hQ, e, g, e', h, r, hv => hQ _ _ _ _ _ r hv
 | .ret, Q, Q', hQ, e, g, e', h, r, hv => hQ _ _ _ _ _ r hv
 | .rangeFunc .., _, _, _, _, _, _, _, _, hv => by simp [FC] at hv
 | .scope .., _, _, _, _, _, _, _, _, hv => by simp [FC] at hv
 | .label .., _, _, _, _, _, _, _, _, hv => by simp [FC] at hv
 | .goto .., _, _, _, _, _, _, _, _, hv => by simp [FC] at hv
 | .refuse .., _, _, _, _, _, _, _, _, hv => by simp [FC] at hv
theorem IN {g0 g : H2} {h0 h : Heap} {e : E2} {e' : Env} (r : Re g0 h0 e g e' h) : ∀ {rs : List ResultVar} {l : List X}, Kd P g e rs = some l → H7 P h e' rs = some (l.map er) ∧ ∀ x ∈ l, Ok h g x
 | [], l, hl => by simp only [Kd] at hl; cases hl; exact ⟨rfl, by simp⟩
 | .tmp t :: rs, l, hl => by
  simp only [Kd] at hl
  split at hl
  ·rename_i l0 h0
   cases hl
   obtain ⟨h1, h2⟩ := IN r h0
   simp only [H7, h1]
   exact ⟨by rw [r.env]; rfl, fun x hx => by
    rcases List.mem_cons.1 hx with rfl | hx
    ·exact r.ok t
    ·exact h2 x hx⟩
  ·cases hl
 | .cell a t :: rs, l, hl => by
  simp only [Kd] at hl
  split at hl
  ·rename_i v l0 hv h0
   cases hl
   obtain ⟨h1, h2⟩ := IN r h0
   obtain ⟨v1, v2⟩ := KP r.s (r.ok a) hv
   have : e' a = er (e a) := by rw [r.env]; rfl
   simp only [H7, h1, this, v1]
   exact ⟨rfl, fun x hx => by
    rcases List.mem_cons.1 hx with rfl | hx
    ·exact v2
    ·exact h2 x hx⟩
  ·cases hl
theorem Um {g : H2} {h : Heap} {x : X} (o : Ok h g x) (hx : Bm x = false) : Ww (er x) = false := by
 cases o with
 | raw => rename_i v; cases v <;> first | rfl | (simp [Bm] at hx)
 | sl r => rcases (Ok.sl r).slV with ⟨a, c, e⟩ | ⟨e, _⟩ <;> (simp only [er, e]; rfl)
 | pr => rfl
 | st => rfl
 | tp => simp [Bm] at hx
theorem RB {g : H2} {h : Heap} {l : List X} (o : ∀ x ∈ l, Ok h g x) {x : X} (hx : Vt l = some x) : ZB (l.map er) = some (er x) ∧ Ok h g x := by
 unfold Vt at hx
 split at hx
 ·cases hx; exact ⟨rfl, o _ (by simp)⟩
 ·rename_i hne
  split at hx
  ·rename_i ht
   cases hx
   refine ⟨?_, .tp o⟩
   unfold ZB
   split
   ·rename_i v hv
    exfalso
    match l, hv with
    | [y], _ => exact hne y rfl
   ·rw [if_pos, er, Cy]
    rw [List.all_eq_true] at ht ⊢
    intro v hv
    obtain ⟨y, hy, rfl⟩ := List.mem_map.1 hv
    have := ht y hy
    rw [Um (o y hy) (by simpa using this)]; rfl
  ·cases hx
theorem Z4 (xs : List X) : (HD xs).er = DD (xs.map er) := by
 funext t
 simp only [E2.er, HD, DD, List.getD_eq_getElem?_getD, List.getElem?_map]
 cases xs[t]? <;> rfl
theorem Qa {cp : Nat → Option (List Nat)} (hm : P.follows .mixedOrders = true) {f : FuncId} {fn : Func} {c : Code} (hf : P.funcs[f]? = some fn) (hb : fn.body = some c)
  (hn : (fn.name != "runtime.NumGoroutine") = true) (hok : Bd fn.ntmps (fun _ => true) c = true) {xs : List X} {g : H2} (hlen : xs.length ≤ fn.ntmps) {K : X → H2 → Prop}
  (hv : (∀ b, g.n ≤ b → g.get b = none) → FC P W0 cp c (HD xs) g (Ql P fn.results.toList K)) : A7 P W0 f xs g K := by
 intro h s o
 have hwf : ∀ b, g.n ≤ b → g.get b = none := fun b hb => by
  cases hk : g.get b with
  | none => rfl
  | some k => have := (s.row _ _ hk).1; rw [s.n] at hb; omega
 refine LX (D := ⟨gw P W0, cp⟩) (T9 hm) hf hb hn hok (by simpa using hlen) ?_
 refine DP (g0 := g) (h0 := h) c _ _ ?_ (HD xs) g _ h ⟨(Z4 xs).symm, s, Ext.refl, fun t => ?_⟩ (hv hwf)
 ·intro x e g' e' h' r hq
  have fin : QI (Kd P g' e fn.results.toList) g' K → RJ (H7 P h' e' fn.results.toList) h' fun v h' => ∃ x g', v = er x ∧ S g' h' ∧ Ext g h g' h' ∧ Ok h' g' x ∧ K x g' := by
   intro hq
   unfold QI at hq
   split at hq
   ·rename_i l hl
    obtain ⟨r1, r2⟩ := IN r hl
    split at hq
    ·rename_i y hy
     obtain ⟨o1, o2⟩ := RB r2 hy
     simp only [RJ, r1, o1]
     exact ⟨y, g', rfl, r.s, r.x, o2, hq⟩
    ·cases hq
   ·cases hq
  cases x with
  | normal => exact fin hq
  | ret => exact fin hq
  | exit j => exact hq
 ·simp only [HD, List.getD_eq_getElem?_getD]
  cases hx : xs[t]? with
  | none => exact .raw
  | some x => exact o x (List.mem_of_getElem? hx)
end Go.Bi
end
